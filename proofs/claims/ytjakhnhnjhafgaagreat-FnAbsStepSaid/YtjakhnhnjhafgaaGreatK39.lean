/- A part of the proof. -/
import Derived.Test.YtjakhnhnjhafgaaGreatK19
import Derived.Test.YtjakhnhnjhafgaaGreatK20
set_option linter.unusedVariables false
set_option linter.unusedSimpArgs false
namespace Go.Proofs.YtjakhnhnjhafgaaGreat.Wk
open Go Go.RowKit Go.Deep Ow
abbrev kR : Ki:=.cons (.sl kU8) (.cons (.int .i64) .nil)
abbrev rdX(l:Nat)(b p:X):XB:=⟨l,kR,.cons (.cons b (.cons p .nil)) .nil⟩
abbrev rdH(b:List UInt8)(p:Int):Hp:=[(0,.c 2 [[.d (.sl 1 (b.map dU8)),CI p]])]
attribute [go_sem] V.Ex XB.den
set_option maxRecDepth 100000
theorem xor_nn{a b:Int}(h0:0≤a)(h1:a<4611686018427387904)(h2:0≤b)(h3:b<4611686018427387904):0≤arI .xor .i64 a b:=by
 show 0≤IntKind.i64.wrap ((BitVec.ofInt 64 a ^^^ BitVec.ofInt 64 b).toNat:Int)
 obtain ⟨m,rfl⟩:=Int.eq_ofNat_of_zero_le h0
 obtain ⟨n,rfl⟩:=Int.eq_ofNat_of_zero_le h2
 have hm:m<2 ^ 62:=by have:(m:Int)<4611686018427387904:=h1;omega
 have hn:n<2 ^ 62:=by have:(n:Int)<4611686018427387904:=h3;omega
 have:(BitVec.ofInt 64 (m:Int) ^^^ BitVec.ofInt 64 (n:Int)).toNat=m ^^^ n:=by
  simp only [BitVec.toNat_xor,BitVec.ofInt_natCast,BitVec.toNat_ofNat]
  rw [Nat.mod_eq_of_lt (by omega),Nat.mod_eq_of_lt (by omega)]
 rw [this]
 have hx:=Nat.xor_lt_two_pow hm hn
 rw [wrapI (by omega) (by omega)]
 omega
theorem mix_nn{x y p q:Int}(x0:0≤x)(x1:x<256)(y0:0≤y)(y1:y<256)(p0:0≤p)(p1:p+1≤1000000000)(q0:0≤q)(q1:q≤p):
 0 ≤ arI .xor .i64 (IntKind.i64.wrap (IntKind.i64.wrap (IntKind.i64.wrap (IntKind.i64.wrap (x*131)+IntKind.i64.wrap (y*1117))+IntKind.i64.wrap (p*29))+IntKind.i64.wrap (IntKind.i64.wrap q*53)))
  (IntKind.i64.wrap ((IntKind.i64.wrap (IntKind.i64.wrap (IntKind.i64.wrap (IntKind.i64.wrap (x*131)+IntKind.i64.wrap (y*1117))+IntKind.i64.wrap (p*29))+IntKind.i64.wrap (IntKind.i64.wrap q*53))).tdiv 64)):=by
 have e:IntKind.i64.wrap (IntKind.i64.wrap (IntKind.i64.wrap (IntKind.i64.wrap (x*131)+IntKind.i64.wrap (y*1117))+IntKind.i64.wrap (p*29))+IntKind.i64.wrap (IntKind.i64.wrap q*53))=x*131+y*1117+p*29+q*53:=by
  rw [wrapI (n:=x*131) (by omega) (by omega),wrapI (n:=y*1117) (by omega) (by omega),wrapI (n:=p*29) (by omega) (by omega),wrapI (n:=q) (by omega) (by omega),wrapI (n:=q*53) (by omega) (by omega),
   wrapI (n:=x*131+y*1117) (by omega) (by omega),wrapI (n:=x*131+y*1117+p*29) (by omega) (by omega),wrapI (by omega) (by omega)]
 rw [e]
 generalize hg:x*131+y*1117+p*29+q*53=z
 have z0:0≤z:=by omega
 have z1:z<1000000000000:=by omega
 have hq:IntKind.i64.wrap (z.tdiv 64)=z / 64:=by
  have:=Int.tdiv_eq_ediv_of_nonneg (b:=64) z0
  rw [this,wrapI]<;>omega
 rw [hq]
 exact xor_nn z0 (by omega) (by omega) (by omega)
theorem pick_ok{x n:Int}(h0:0≤x)(hn:¬n<1):0≤x.tmod n∧(1≤n→x.tmod n<n):=⟨Int.tmod_nonneg _ h0,fun h=>Int.tmod_lt_of_pos _ (by omega)⟩
set_option maxHeartbeats 1000000 in
theorem pick_x(b:List UInt8)(p n:Int)(h0:0≤p)(h1:p+1≤1000000000):∃a,(0≤a∧(1≤n→a<n))∧EC Tryz.prog 49 1 [.ptr 0 2 0 0,CI n] (rdH b p) (CI a) (rdH b (p+1)) 1:=by
 have key:=(seat [] []).PE (mkM true []) (f:=49) (fn:=Tryz.f49) (args:=[.ptr 0 2 0 0,CI n]) (h:=rdH b p) ⟨by kernel_rfl,by kernel_rfl,rfl⟩ (Nat.le_refl 1) (mkEs [eLU8 1 b,eI 2 p,eI 10 n])
  [.ptr 0 2 (.int .i64 0) 0,xi 10] [rdX 0 (xLU8 1) (xi 2)] rfl (by simp only [go_sem,Nat.reduceEqDiff]) (xi 900) [rdX 0 (xLU8 951) (xi 952)] (fun a:Int=>0≤a∧(1≤n→a<n)) (fun a=>mkEs [eI 900 a,eLU8 951 b,eI 952 (p+1)]) ⟨0,by omega⟩ ?_
 · simp only [go_sem,Nat.reduceEqDiff,Int.reduceToNat] at key;exact key
 conv=>arg 3;cbv
 have e1:IntKind.i64.wrap (p+1)=p+1:=wrapI (by omega) (by omega)
 have e2:IntKind.i64.wrap (p+1-1)=p:=by rw [wrapI]<;>omega
 simp only [go_sem,Nat.reduceEqDiff,Nat.reduceBEq,e1,e2]
 have hbr:∀i,0≤((b.getD i 0).toNat:Int)∧((b.getD i 0).toNat:Int)<256:=fun i=>by have:=(b.getD i 0).toNat_lt;omega
 have hb:∀i,IntKind.i64.wrap ((b.getD i 0).toNat:Int)=((b.getD i 0).toNat:Int):=fun i=>wrapI (by have:=hbr i;omega) (by have:=hbr i;omega)
 have m7:IntKind.i64.wrap (IntKind.i64.wrap (p*7)+3)=p*7+3:=by
  rw [wrapI (n:=p*7) (by omega) (by omega),wrapI]<;>omega
 simp only [hb,m7]
 have hl0:(0:Int)≤(b.length:Int):=Int.natCast_nonneg _
 have rem:∀x:Int,0≤x→¬(b.length:Int)=0→0≤x.tmod b.length∧x.tmod b.length<b.length:=fun x hx hl=>⟨Int.tmod_nonneg _ hx,Int.tmod_lt_of_pos _ (by omega)⟩
 have quo:¬(b.length:Int)=0→0≤p.tdiv b.length∧p.tdiv b.length≤p:=fun hl=>⟨Int.tdiv_nonneg h0 (by omega),Int.tdiv_le_self _ h0⟩
 refine ⟨fun _=>⟨Int.le_refl _,fun h=>by omega⟩,fun hc=>?_⟩
 have hl:¬(b.length:Int)=0:=fun h=>hc (.inr h)
 have hn:¬n<1:=fun h=>hc (.inl h)
 have hnz:n≠0:=fun h=>hn (by rw [h];decide)
 exact ⟨fun hp=>⟨⟨⟨h0,hp⟩,fun _=>hnz⟩,pick_ok (hbr _).1 hn⟩,fun hp=>⟨⟨hl,fun _=>⟨rem p h0 hl,fun _=>⟨hl,fun _=>⟨rem _ (by omega) hl,fun _=>hl⟩⟩⟩⟩,hnz,pick_ok (mix_nn (hbr _).1 (hbr _).2 (hbr _).1 (hbr _).2 h0 h1 (quo hl).1 (quo hl).2) hn⟩⟩
open Classical in
noncomputable def pickV(b:List UInt8)(p n:Int):Int:=if h:0≤p∧p+1≤1000000000 then (pick_x b p n h.1 h.2).choose else 0
abbrev pickP(b:List UInt8)(p n:Int):Int:=p+1
attribute [go_sem] pickP
theorem pick_e{b:List UInt8}{p n:Int}(h0:0≤p)(h1:p+1≤1000000000):EC Tryz.prog 49 1 [.ptr 0 2 0 0,CI n] (rdH b p) (CI (pickV b p n)) (rdH b (pickP b p n)) 1:=by
 have:=(pick_x b p n h0 h1).choose_spec.2
 unfold pickV;rw [dif_pos ⟨h0,h1⟩];exact this
theorem pick_i{b:List UInt8}{p n:Int}:0≤pickV b p n∧(1≤n→pickV b p n<n):=by
 unfold pickV;split
 · rename_i h;exact (pick_x b p n h.1 h.2).choose_spec.1
 · exact ⟨Int.le_refl 0,fun h=>by omega⟩
@[grind =] theorem pick_k{b:List UInt8}{p n:Int}:pickV b p n=max 0 (if 1≤n then min (pickV b p n) (n-1) else pickV b p n):=by
 have:=pick_i (b:=b) (p:=p) (n:=n)
 split<;>omega
end Go.Proofs.YtjakhnhnjhafgaaGreat.Wk
namespace Go.Proofs.YtjakhnhnjhafgaaGreat.Wk
open Go Go.RowKit Go.Deep Ow
set_option maxRecDepth 100000
set_option maxHeartbeats 2000000 in
theorem odd_x(b:List UInt8)(p:Int)(n:Int)(h0:0≤p)(h1:p+1≤1000000000):∃a:Bool×Int,(p≤a.2∧a.2≤p+1∧(9000≤n→a.1=false))∧EC Tryz.prog 50 1 [.ptr 0 2 0 0,CI n] (rdH b p) (CB a.1) (rdH b a.2) 1:=by
 have key:=(seat [] []).PX (mkM true []) (f:=50) (fn:=Tryz.f50) (args:=[.ptr 0 2 0 0,CI n]) (h:=rdH b p) ⟨by kernel_rfl,by kernel_rfl,rfl⟩ (Nat.le_refl 1) (fun (t:Int×Int)=>match t with|⟨t0,t1⟩=>mkEs [eLU8 1 b,eI 2 p,eInt 10 n,eInt 115000 (pickV b t0 t1),eI 115201 (pickP b t0 t1)]) [.ptr 0 2 (.int .i64 0) 0,xInt 10] [rdX 0 (xLU8 1) (xi 2)] (fun ⟨t0,t1⟩=>by simp (maxSteps:=1000000) only [go_sem,Nat.reduceEqDiff,Nat.reduceAdd,Nat.reduceBEq,Int.reduceToNat]) (fun ⟨t0,t1⟩=>by simp (maxSteps:=1000000) only [go_sem,Nat.reduceEqDiff,Nat.reduceAdd,Nat.reduceBEq,Int.reduceToNat]) (xBool 900) [rdX 0 (xLU8 951) (xi 952)] (fun a:Bool×Int=>p≤a.2∧a.2≤p+1∧(9000≤n→a.1=false)) (fun a=>mkEs [eBool 900 a.1,eLU8 951 b,eI 952 a.2]) ⟨(false,p),by simp<;>omega⟩ ?_
 · obtain ⟨a,h2,h3⟩:=key
   simp only [go_sem,Nat.reduceEqDiff,Nat.reduceAdd,Nat.reduceBEq,Int.reduceToNat] at h3
   exact ⟨a,h2,h3⟩
 conv=>arg 1;ext t;arg 3;cbv
 simp (maxSteps:=4000000) only [V.Ex,go_sem,Nat.reduceEqDiff,Nat.reduceAdd,Nat.reduceBEq,Int.reduceToNat]
 iterate 2 apply Exists.intro
 try dsimp +instances only
 repeat' (first|with_reducible apply And.intro|intro _)
 all_goals first|exact pick_e (b:=b) (by grind) (by grind)|grind [wrapI]|grind (splits:=24) [wrapI]|exact sel_lo (by decide)|exact sel_hi (by decide)|(simp only [List.length_map,List.length_cons,List.length_nil];omega)|((repeat' split)<;>grind [wrapI])|exact (0:Int)
open Classical in
noncomputable def oddF(b:List UInt8)(p:Int)(n:Int):Bool×Int:=if h:0≤p∧p+1≤1000000000 then (odd_x b p n h.1 h.2).choose else (false,p)
noncomputable def oddV(b:List UInt8)(p:Int)(n:Int):Bool:=(oddF b p n).1
noncomputable def oddP(b:List UInt8)(p:Int)(n:Int):Int:=(oddF b p n).2
theorem odd_e{b:List UInt8}{p:Int}{n:Int}(h0:0≤p)(h1:p+1≤1000000000):EC Tryz.prog 50 1 [.ptr 0 2 0 0,CI n] (rdH b p) (CB (oddV b p n)) (rdH b (oddP b p n)) 1:=by
 have:=(odd_x b p n h0 h1).choose_spec.2
 simp only [oddV,oddP,oddF,dif_pos (show 0≤p∧p+1≤1000000000 from ⟨h0,h1⟩)];exact this
@[grind =] theorem odd_i{b:List UInt8}{p:Int}{n:Int}:oddP b p n=max p (min (oddP b p n) (p+1)):=by
 simp only [oddP,oddF]
 split
 · rename_i h;have:=(odd_x b p n h.1 h.2).choose_spec.1;omega
 · omega
theorem odd_j{b:List UInt8}{p:Int}{n:Int}:(9000≤n→(oddV b p n)=false):=by
 simp only [oddV,oddF]
 split
 · rename_i h;exact (odd_x b p n h.1 h.2).choose_spec.1.2.2
 · simp<;>omega
@[grind =] theorem odd_9{b:List UInt8}{p n:Int}(h:9000≤n):oddV b p n=false:=odd_j (b:=b) (p:=p) (n:=n) h
set_option maxHeartbeats 2000000 in
theorem num_x(b:List UInt8)(p:Int)(h0:0≤p)(h1:p+3≤1000000000):∃a:Int×Int,(p≤a.2∧a.2≤p+3∧-32768≤a.1∧a.1≤32767)∧EC Tryz.prog 69 1 [.ptr 0 2 0 0] (rdH b p) (CI a.1) (rdH b a.2) 1:=by
 have key:=(seat [] []).PX (mkM true []) (f:=69) (fn:=Tryz.f69) (args:=[.ptr 0 2 0 0]) (h:=rdH b p) ⟨by kernel_rfl,by kernel_rfl,rfl⟩ (Nat.le_refl 1) (fun (t:Int×Int×Int×Int×Int×Int×Int×Int×Int×Int×Int×Int)=>match t with|⟨t0,t1,t2,t3,t4,t5,t6,t7,t8,t9,t10,t11⟩=>mkEs [eLU8 1 b,eI 2 p,eInt 111000 (pickV b t0 t1),eI 111201 (pickP b t0 t1),eInt 312000 (pickV b t2 t3),eI 312201 (pickP b t2 t3),eInt 511000 (pickV b t4 t5),eI 511201 (pickP b t4 t5),eInt 712000 (pickV b t6 t7),eI 712201 (pickP b t6 t7),eInt 811000 (pickV b t8 t9),eI 811201 (pickP b t8 t9),eInt 814000 (pickV b t10 t11),eI 814201 (pickP b t10 t11)]) [.ptr 0 2 (.int .i64 0) 0] [rdX 0 (xLU8 1) (xi 2)] (fun ⟨t0,t1,t2,t3,t4,t5,t6,t7,t8,t9,t10,t11⟩=>by simp (maxSteps:=1000000) only [go_sem,Nat.reduceEqDiff,Nat.reduceAdd,Nat.reduceBEq,Int.reduceToNat]) (fun ⟨t0,t1,t2,t3,t4,t5,t6,t7,t8,t9,t10,t11⟩=>by simp (maxSteps:=1000000) only [go_sem,Nat.reduceEqDiff,Nat.reduceAdd,Nat.reduceBEq,Int.reduceToNat]) (xInt 900) [rdX 0 (xLU8 951) (xi 952)] (fun a:Int×Int=>p≤a.2∧a.2≤p+3∧-32768≤a.1∧a.1≤32767) (fun a=>mkEs [eInt 900 a.1,eLU8 951 b,eI 952 a.2]) ⟨(0,p),by simp<;>omega⟩ ?_
 · obtain ⟨a,h2,h3⟩:=key
   simp only [go_sem,Nat.reduceEqDiff,Nat.reduceAdd,Nat.reduceBEq,Int.reduceToNat] at h3
   exact ⟨a,h2,h3⟩
 conv=>arg 1;ext t;arg 3;cbv
 simp (maxSteps:=4000000) only [V.Ex,go_sem,Nat.reduceEqDiff,Nat.reduceAdd,Nat.reduceBEq,Int.reduceToNat]
 iterate 12 apply Exists.intro
 try dsimp +instances only
 repeat' (first|with_reducible apply And.intro|intro _)
 all_goals first|exact pick_e (b:=b) (by grind) (by grind)|grind [wrapI]|grind (splits:=24) [wrapI]|exact sel_lo (by decide)|exact sel_hi (by decide)|(simp only [List.length_map,List.length_cons,List.length_nil];omega)|((repeat' split)<;>grind [wrapI])|exact (0:Int)
open Classical in
noncomputable def numF(b:List UInt8)(p:Int):Int×Int:=if h:0≤p∧p+3≤1000000000 then (num_x b p h.1 h.2).choose else (0,p)
noncomputable def numV(b:List UInt8)(p:Int):Int:=(numF b p).1
noncomputable def numP(b:List UInt8)(p:Int):Int:=(numF b p).2
theorem num_e{b:List UInt8}{p:Int}(h0:0≤p)(h1:p+3≤1000000000):EC Tryz.prog 69 1 [.ptr 0 2 0 0] (rdH b p) (CI (numV b p)) (rdH b (numP b p)) 1:=by
 have:=(num_x b p h0 h1).choose_spec.2
 simp only [numV,numP,numF,dif_pos (show 0≤p∧p+3≤1000000000 from ⟨h0,h1⟩)];exact this
@[grind =] theorem num_i{b:List UInt8}{p:Int}:numP b p=max p (min (numP b p) (p+3)):=by
 simp only [numP,numF]
 split
 · rename_i h;have:=(num_x b p h.1 h.2).choose_spec.1;omega
 · omega
theorem num_j{b:List UInt8}{p:Int}:-32768≤(numV b p)∧(numV b p)≤32767:=by
 simp only [numV,numF]
 split
 · rename_i h;exact (num_x b p h.1 h.2).choose_spec.1.2.2
 · simp<;>omega
@[grind =] theorem num_k{b:List UInt8}{p:Int}:(numV b p)=max (-32768) (min (numV b p) 32767):=by have:=num_j (b:=b) (p:=p);omega
set_option maxHeartbeats 2000000 in
theorem raw_x(b:List UInt8)(p:Int)(h0:0≤p)(h1:p+5≤1000000000):∃a:Int×Int,(p≤a.2∧a.2≤p+5∧True)∧EC Tryz.prog 167 1 [.ptr 0 2 0 0] (rdH b p) (CI a.1) (rdH b a.2) 1:=by
 have key:=(seat [] []).PX (mkM true []) (f:=167) (fn:=Tryz.f167) (args:=[.ptr 0 2 0 0]) (h:=rdH b p) ⟨by kernel_rfl,by kernel_rfl,rfl⟩ (Nat.le_refl 1) (fun (t:Int×Int×Int×Int×Int×Int×Int×Int)=>match t with|⟨t0,t1,t2,t3,t4,t5,t6,t7⟩=>mkEs [eLU8 1 b,eI 2 p,eInt 111000 (pickV b t0 t1),eI 111201 (pickP b t0 t1),eInt 312000 (pickV b t2 t3),eI 312201 (pickP b t2 t3),eInt 511000 (numV b t4),eI 511201 (numP b t4),eInt 514000 (pickV b t5 t6),eI 514201 (pickP b t5 t6),eInt 611000 (numV b t7),eI 611201 (numP b t7)]) [.ptr 0 2 (.int .i64 0) 0] [rdX 0 (xLU8 1) (xi 2)] (fun ⟨t0,t1,t2,t3,t4,t5,t6,t7⟩=>by simp (maxSteps:=1000000) only [go_sem,Nat.reduceEqDiff,Nat.reduceAdd,Nat.reduceBEq,Int.reduceToNat]) (fun ⟨t0,t1,t2,t3,t4,t5,t6,t7⟩=>by simp (maxSteps:=1000000) only [go_sem,Nat.reduceEqDiff,Nat.reduceAdd,Nat.reduceBEq,Int.reduceToNat]) (xInt 900) [rdX 0 (xLU8 951) (xi 952)] (fun a:Int×Int=>p≤a.2∧a.2≤p+5∧True) (fun a=>mkEs [eInt 900 a.1,eLU8 951 b,eI 952 a.2]) ⟨(0,p),by simp<;>omega⟩ ?_
 · obtain ⟨a,h2,h3⟩:=key
   simp only [go_sem,Nat.reduceEqDiff,Nat.reduceAdd,Nat.reduceBEq,Int.reduceToNat] at h3
   exact ⟨a,h2,h3⟩
 conv=>arg 1;ext t;arg 3;cbv
 simp (maxSteps:=4000000) only [V.Ex,go_sem,Nat.reduceEqDiff,Nat.reduceAdd,Nat.reduceBEq,Int.reduceToNat]
 iterate 8 apply Exists.intro
 try dsimp +instances only
 repeat' (first|with_reducible apply And.intro|intro _)
 all_goals first|exact pick_e (b:=b) (by grind) (by grind)|exact num_e (b:=b) (by grind) (by grind)|grind [wrapI]|grind (splits:=24) [wrapI]|exact sel_lo (by decide)|exact sel_hi (by decide)|(simp only [List.length_map,List.length_cons,List.length_nil];omega)|((repeat' split)<;>grind [wrapI])|exact (0:Int)
open Classical in
noncomputable def rawF(b:List UInt8)(p:Int):Int×Int:=if h:0≤p∧p+5≤1000000000 then (raw_x b p h.1 h.2).choose else (0,p)
noncomputable def rawV(b:List UInt8)(p:Int):Int:=(rawF b p).1
noncomputable def rawP(b:List UInt8)(p:Int):Int:=(rawF b p).2
theorem raw_e{b:List UInt8}{p:Int}(h0:0≤p)(h1:p+5≤1000000000):EC Tryz.prog 167 1 [.ptr 0 2 0 0] (rdH b p) (CI (rawV b p)) (rdH b (rawP b p)) 1:=by
 have:=(raw_x b p h0 h1).choose_spec.2
 simp only [rawV,rawP,rawF,dif_pos (show 0≤p∧p+5≤1000000000 from ⟨h0,h1⟩)];exact this
@[grind =] theorem raw_i{b:List UInt8}{p:Int}:rawP b p=max p (min (rawP b p) (p+5)):=by
 simp only [rawP,rawF]
 split
 · rename_i h;have:=(raw_x b p h.1 h.2).choose_spec.1;omega
 · omega
end Go.Proofs.YtjakhnhnjhafgaaGreat.Wk
namespace Go.Proofs.YtjakhnhnjhafgaaGreat.Wk
open Go Go.RowKit Go.Deep Ow
set_option maxRecDepth 100000
set_option maxHeartbeats 2000000 in
theorem itv_x(b:List UInt8)(p:Int)(n:Int)(h0:0≤p)(h1:p+20≤1000000000):∃a:ItvItv×Int,(p≤a.2∧a.2≤p+20∧(9000≤n→a.1.Lo≤a.1.Hi))∧EC Tryz.prog 112 1 [.ptr 0 2 0 0,CI n] (rdH b p) (.agg [CI a.1.Lo,CI a.1.Hi]) (rdH b a.2) 1:=by
 have key:=(seat [] []).PX (mkM true [2,2,4,5,1,34,1,16]) (f:=112) (fn:=Tryz.f112) (args:=[.ptr 0 2 0 0,CI n]) (h:=rdH b p) ⟨by kernel_rfl,by kernel_rfl,rfl⟩ (Nat.le_refl 1) (fun (t:Int×Int×Int×Int×Int×Int×Int×Int×Int×Int×Int×Int×Int×Int×Int×Int)=>match t with|⟨t0,t1,t2,t3,t4,t5,t6,t7,t8,t9,t10,t11,t12,t13,t14,t15⟩=>mkEs [eLU8 1 b,eI 2 p,eInt 10 n,eInt 111000 (numV b t0),eI 111201 (numP b t0),eInt 211000 (numV b t1),eI 211201 (numP b t1),eInt 311000 (pickV b t2 t3),eI 311201 (pickP b t2 t3),eInt 712000 (pickV b t4 t5),eI 712201 (pickP b t4 t5),eInt 912000 (pickV b t6 t7),eI 912201 (pickP b t6 t7),eInt 917000 (pickV b t8 t9),eI 917201 (pickP b t8 t9),eBool 1112000 (oddV b t10 t11),eI 1112201 (oddP b t10 t11),eInt 1211000 (pickV b t12 t13),eI 1211201 (pickP b t12 t13),eInt 1711000 (rawV b t14),eI 1711201 (rawP b t14),eInt 1311000 (rawV b t15),eI 1311201 (rawP b t15)]) [.ptr 0 2 (.int .i64 0) 0,xInt 10] [rdX 0 (xLU8 1) (xi 2)] (fun ⟨t0,t1,t2,t3,t4,t5,t6,t7,t8,t9,t10,t11,t12,t13,t14,t15⟩=>by simp (maxSteps:=1000000) only [go_sem,Nat.reduceEqDiff,Nat.reduceAdd,Nat.reduceBEq,Int.reduceToNat]) (fun ⟨t0,t1,t2,t3,t4,t5,t6,t7,t8,t9,t10,t11,t12,t13,t14,t15⟩=>by simp (maxSteps:=1000000) only [go_sem,Nat.reduceEqDiff,Nat.reduceAdd,Nat.reduceBEq,Int.reduceToNat]) (xItvItv 900) [rdX 0 (xLU8 951) (xi 952)] (fun a:ItvItv×Int=>p≤a.2∧a.2≤p+20∧(9000≤n→a.1.Lo≤a.1.Hi)) (fun a=>mkEs [eItvItv 900 a.1,eLU8 951 b,eI 952 a.2]) ⟨(zItvItv,p),by simp [zItvItv]<;>omega⟩ ?_
 · obtain ⟨a,h2,h3⟩:=key
   simp only [go_sem,Nat.reduceEqDiff,Nat.reduceAdd,Nat.reduceBEq,Int.reduceToNat] at h3
   exact ⟨a,h2,h3⟩
 conv=>arg 1;ext t;arg 3;cbv
 simp (maxSteps:=4000000) only [V.Ex,go_sem,Nat.reduceEqDiff,Nat.reduceAdd,Nat.reduceBEq,Int.reduceToNat]
 iterate 16 apply Exists.intro
 try dsimp +instances only
 repeat' (first|with_reducible apply And.intro|intro _)
 all_goals first|exact num_e (b:=b) (by grind) (by grind)|exact pick_e (b:=b) (by grind) (by grind)|exact odd_e (b:=b) (by grind) (by grind)|exact raw_e (b:=b) (by grind) (by grind)|(refine ⟨_,_,_,?_,rfl,rfl,rfl⟩;(repeat' (first|with_reducible apply And.intro|intro _));all_goals first|grind [wrapI]|grind (splits:=24) [wrapI]|exact sel_lo (by decide)|exact sel_hi (by decide)|(simp only [List.length_map,List.length_cons,List.length_nil];omega)|((repeat' split)<;>grind [wrapI]))|grind [wrapI]|grind (splits:=24) [wrapI]|exact sel_lo (by decide)|exact sel_hi (by decide)|(simp only [List.length_map,List.length_cons,List.length_nil];omega)|((repeat' split)<;>grind [wrapI])|exact (0:Int)
open Classical in
noncomputable def itvF(b:List UInt8)(p:Int)(n:Int):ItvItv×Int:=if h:0≤p∧p+20≤1000000000 then (itv_x b p n h.1 h.2).choose else (zItvItv,p)
noncomputable def itvV(b:List UInt8)(p:Int)(n:Int):ItvItv:=(itvF b p n).1
noncomputable def itvP(b:List UInt8)(p:Int)(n:Int):Int:=(itvF b p n).2
theorem itv_e{b:List UInt8}{p:Int}{n:Int}(h0:0≤p)(h1:p+20≤1000000000):EC Tryz.prog 112 1 [.ptr 0 2 0 0,CI n] (rdH b p) (.agg [CI (itvV b p n).Lo,CI (itvV b p n).Hi]) (rdH b (itvP b p n)) 1:=by
 have:=(itv_x b p n h0 h1).choose_spec.2
 simp only [itvV,itvP,itvF,dif_pos (show 0≤p∧p+20≤1000000000 from ⟨h0,h1⟩)];exact this
@[grind =] theorem itv_i{b:List UInt8}{p:Int}{n:Int}:itvP b p n=max p (min (itvP b p n) (p+20)):=by
 simp only [itvP,itvF]
 split
 · rename_i h;have:=(itv_x b p n h.1 h.2).choose_spec.1;omega
 · omega
end Go.Proofs.YtjakhnhnjhafgaaGreat.Wk
