/- A part of the proof. -/
import Derived.Deep.RegionHeld3
import Derived.Test.YtjakhnhnjhafgaaGreatK02
import Derived.Test.YtjakhnhnjhafgaaGreatK01
import Derived.Deep.RegionLaw
import Derived.Lib.Hide
set_option linter.unusedVariables false
set_option linter.unusedSimpArgs false
namespace Go.Proofs.YtjakhnhnjhafgaaGreat.Wk
open Go Go.RowKit Go.Deep Ow
open Rp (R sz)
set_option maxRecDepth 100000 in
set_option maxHeartbeats 1000000 in
theorem top_c(X b off m cap:Nat)(w:World)(hX:w.cell? ⟨X,2,none⟩=some (.slice (some ⟨b,off,none⟩) (m+1) cap))(hm:(m:Int)+1≤9223372036854775807):
 Calls Tryz.prog 174 #[.pointer (some ⟨X,0,none⟩)] w fun e w'=>e=.returned (.pointer (some ⟨b,off+m*4,none⟩))∧Chg [] w w':=by
 have hsub:((m:Int)+1-1)=m:=by omega
 go_enter Tryz.func174,Tryz.ntmps174
 go_wp2_with fail
 go_quiet (fail)
 go_wp2
 go_ret
 exact ⟨rfl,Chg.c⟩
end Go.Proofs.YtjakhnhnjhafgaaGreat.Wk
namespace Go.Proofs.YtjakhnhnjhafgaaGreat.Wk
open Go Go.RowKit Go.Deep Ow
open Rp (R sz)
theorem failNo_c(X:Nat)(w:World):Calls Tryz.prog 176 #[.pointer (some ⟨X,0,none⟩),.bool false] w fun e w'=>e=.returned (.tuple #[])∧Chg [] w w':=by
 go_enter Tryz.func176,Tryz.ntmps176
 go_wp2
 go_end0
 exact ⟨rfl,Chg.c⟩
set_option maxRecDepth 100000 in
set_option maxHeartbeats 1000000 in
theorem failYes_c(X b off m cap:Nat)(f:RunFrame)(w:World)(hX:w.cell? ⟨X,2,none⟩=some (.slice (some ⟨b,off,none⟩) (m+1) cap))(hm:(m:Int)+1≤9223372036854775807)
 (c0:w.cell? ⟨b,off+m*4,none⟩=some (.int .i64 f.Proc)) (c1:w.cell? ⟨b,off+m*4+1,none⟩=some (.int .i64 f.Pc)) :
 Calls Tryz.prog 176 #[.pointer (some ⟨X,0,none⟩),.bool true] w fun e w'=>e=.panicked [{ v:=.iface 182 (runV (runFail f) (.slice none 0 0)),recovered:=false }]∧Chg [] w w':=by
 have htop:=fun (wx:World) (hx:Chg [] w wx)=>top_c X b off m cap wx (hx.cell0 hX) hm
 clear hX hm
 go_enter Tryz.func176,Tryz.ntmps176
 go_wp2_with fail
 refine wp_region_any (by kernel_rfl) ?_
 change wpAny _ _ _ _ _ _ _ (World.drew _)
 refine wpAny_take (i:=0) (v:=?_) rfl (by kernel_rfl) (by kernel_rfl) (by kernel_rfl) (fun _ _ _ h=>h) (Or.inl ⟨by rfl,?_⟩) ?_
 rotate_left
 focus (intro w;go_simp<;>with_reducible rfl)
 rotate_right
 refine wpAny_take (i:=5) (v:=?_) rfl (by kernel_rfl) (by kernel_rfl) (by kernel_rfl) (fun _ _ _ h=>h) (Or.inl ⟨by rfl,?_⟩) ?_
 rotate_left
 focus (intro w;go_simp<;>with_reducible rfl)
 rotate_right
 refine wpAny_ready (rs:=[1]) (by kernel_rfl) (by simp) ?_
 refine AllReady.cons rfl (fun K hK=>?_) ?_
 focus
  go_simp
  go_wp2_with (go_at_call 174;refine (htop _ (Chg.k)).mono ?_;rintro e w5 ⟨rfl,hc5⟩;have hK5:Chg [] w w5:=Chg.trans0 (show Chg [] w _ from Chg.k) hc5;have k0:=hK5.cell0 c0;have k1:=hK5.cell0 c1)
  refine wpAny_take (i:=2) (v:=?_) rfl (by kernel_rfl) (by kernel_rfl) (by kernel_rfl) (fun _ _ _ h=>h) (Or.inl ⟨by rfl,?_⟩) ?_
  rotate_left
  focus (intro w;go_simp<;>with_reducible rfl)
  rotate_right
  refine wpAny_take (i:=3) (v:=?_) rfl (by kernel_rfl) (by kernel_rfl) (by kernel_rfl) (fun _ _ _ h=>h) (Or.inl ⟨by rfl,?_⟩) ?_
  rotate_left
  focus (intro w;go_simp<;>with_reducible rfl)
  rotate_right
  refine wpAny_ready (rs:=[4,6]) (by kernel_rfl) (by simp) ?_
  refine AllReady.cons rfl (fun K hK=>?_) ?_
  focus
   go_simp
   refine hK _ _ ?_
   clear hK K
   refine wpAny_ready (rs:=[6]) (by kernel_rfl) (by simp) ?_
   refine AllReady.cons rfl (fun K hK=>?_) ?_
   focus
    go_simp
    go_wp2_with (go_at_call 174;refine (htop _ (Chg.k)).mono ?_;rintro e w5 ⟨rfl,hc5⟩;have hK5:Chg [] w w5:=Chg.trans0 (show Chg [] w _ from Chg.k) hc5;have k0:=hK5.cell0 c0;have k1:=hK5.cell0 c1)
    refine wpAny_take (i:=7) (v:=?_) rfl (by kernel_rfl) (by kernel_rfl) (by kernel_rfl) (fun _ _ _ h=>h) (Or.inl ⟨by rfl,?_⟩) ?_
    rotate_left
    focus (intro w;go_simp<;>with_reducible rfl)
    rotate_right
    refine wpAny_take (i:=8) (v:=?_) rfl (by kernel_rfl) (by kernel_rfl) (by kernel_rfl) (fun _ _ _ h=>h) (Or.inl ⟨by rfl,?_⟩) ?_
    rotate_left
    focus (intro w;go_simp<;>with_reducible rfl)
    rotate_right
    refine wpAny_ready (rs:=[9]) (by kernel_rfl) (by simp) ?_
    refine AllReady.cons rfl (fun K hK=>?_) ?_
    focus
     go_simp
     refine hK _ _ ?_
     clear hK K
     refine wpAny_take (i:=10) (v:=?_) rfl (by kernel_rfl) (by kernel_rfl) (by kernel_rfl) (fun _ _ _ h=>h) (Or.inl ⟨by rfl,?_⟩) ?_
     rotate_left
     focus (intro w;go_simp<;>with_reducible rfl)
     rotate_right
     refine wpAny_take (i:=11) (v:=?_) rfl (by kernel_rfl) (by kernel_rfl) (by kernel_rfl) (fun _ _ _ h=>h) (Or.inl ⟨by rfl,?_⟩) ?_
     rotate_left
     focus (intro w;go_simp<;>with_reducible rfl)
     rotate_right
     refine wpAny_take (i:=12) (v:=?_) rfl (by kernel_rfl) (by kernel_rfl) (by kernel_rfl) (fun _ _ _ h=>h) (Or.inl ⟨by rfl,?_⟩) ?_
     rotate_left
     focus (intro w;go_simp<;>with_reducible rfl)
     rotate_right
     refine wpAny_ready (rs:=[13]) (by kernel_rfl) (by simp) ?_
     refine AllReady.cons rfl (fun K hK=>?_) ?_
     focus
      go_simp
      exact ⟨rfl,rfl,Chg.k⟩
     exact AllReady.nil
    exact AllReady.nil
   exact AllReady.nil
  refine AllReady.cons rfl (fun K hK=>?_) ?_
  focus
   go_simp
   go_wp2_with (go_at_call 174;refine (htop _ (Chg.k)).mono ?_;rintro e w5 ⟨rfl,hc5⟩;have hK5:Chg [] w w5:=Chg.trans0 (show Chg [] w _ from Chg.k) hc5;have k0:=hK5.cell0 c0;have k1:=hK5.cell0 c1)
   refine wpAny_take (i:=7) (v:=?_) rfl (by kernel_rfl) (by kernel_rfl) (by kernel_rfl) (fun _ _ _ h=>h) (Or.inl ⟨by rfl,?_⟩) ?_
   rotate_left
   focus (intro w;go_simp<;>with_reducible rfl)
   rotate_right
   refine wpAny_take (i:=8) (v:=?_) rfl (by kernel_rfl) (by kernel_rfl) (by kernel_rfl) (fun _ _ _ h=>h) (Or.inl ⟨by rfl,?_⟩) ?_
   rotate_left
   focus (intro w;go_simp<;>with_reducible rfl)
   rotate_right
   refine wpAny_ready (rs:=[4,9]) (by kernel_rfl) (by simp) ?_
   refine AllReady.cons rfl (fun K hK=>?_) ?_
   focus
    go_simp
    refine hK _ _ ?_
    clear hK K
    refine wpAny_ready (rs:=[9]) (by kernel_rfl) (by simp) ?_
    refine AllReady.cons rfl (fun K hK=>?_) ?_
    focus
     go_simp
     refine hK _ _ ?_
     clear hK K
     refine wpAny_take (i:=10) (v:=?_) rfl (by kernel_rfl) (by kernel_rfl) (by kernel_rfl) (fun _ _ _ h=>h) (Or.inl ⟨by rfl,?_⟩) ?_
     rotate_left
     focus (intro w;go_simp<;>with_reducible rfl)
     rotate_right
     refine wpAny_take (i:=11) (v:=?_) rfl (by kernel_rfl) (by kernel_rfl) (by kernel_rfl) (fun _ _ _ h=>h) (Or.inl ⟨by rfl,?_⟩) ?_
     rotate_left
     focus (intro w;go_simp<;>with_reducible rfl)
     rotate_right
     refine wpAny_take (i:=12) (v:=?_) rfl (by kernel_rfl) (by kernel_rfl) (by kernel_rfl) (fun _ _ _ h=>h) (Or.inl ⟨by rfl,?_⟩) ?_
     rotate_left
     focus (intro w;go_simp<;>with_reducible rfl)
     rotate_right
     refine wpAny_ready (rs:=[13]) (by kernel_rfl) (by simp) ?_
     refine AllReady.cons rfl (fun K hK=>?_) ?_
     focus
      go_simp
      exact ⟨rfl,rfl,Chg.k⟩
     exact AllReady.nil
    exact AllReady.nil
   refine AllReady.cons rfl (fun K hK=>?_) ?_
   focus
    go_simp
    refine hK _ _ ?_
    clear hK K
    refine wpAny_ready (rs:=[4]) (by kernel_rfl) (by simp) ?_
    refine AllReady.cons rfl (fun K hK=>?_) ?_
    focus
     go_simp
     refine hK _ _ ?_
     clear hK K
     refine wpAny_take (i:=10) (v:=?_) rfl (by kernel_rfl) (by kernel_rfl) (by kernel_rfl) (fun _ _ _ h=>h) (Or.inl ⟨by rfl,?_⟩) ?_
     rotate_left
     focus (intro w;go_simp<;>with_reducible rfl)
     rotate_right
     refine wpAny_take (i:=11) (v:=?_) rfl (by kernel_rfl) (by kernel_rfl) (by kernel_rfl) (fun _ _ _ h=>h) (Or.inl ⟨by rfl,?_⟩) ?_
     rotate_left
     focus (intro w;go_simp<;>with_reducible rfl)
     rotate_right
     refine wpAny_take (i:=12) (v:=?_) rfl (by kernel_rfl) (by kernel_rfl) (by kernel_rfl) (fun _ _ _ h=>h) (Or.inl ⟨by rfl,?_⟩) ?_
     rotate_left
     focus (intro w;go_simp<;>with_reducible rfl)
     rotate_right
     refine wpAny_ready (rs:=[13]) (by kernel_rfl) (by simp) ?_
     refine AllReady.cons rfl (fun K hK=>?_) ?_
     focus
      go_simp
      exact ⟨rfl,rfl,Chg.k⟩
     exact AllReady.nil
    exact AllReady.nil
   exact AllReady.nil
  exact AllReady.nil
 exact AllReady.nil
end Go.Proofs.YtjakhnhnjhafgaaGreat.Wk
namespace Go.Proofs.YtjakhnhnjhafgaaGreat.Wk
open Go Go.RowKit Go.Deep Ow
open Rp (R sz)
theorem cellOk_c(X b off m cap a bX oX nX kX:Nat)(w:World)(hX:w.cell? ⟨X,2,none⟩=some (.slice (some ⟨b,off,none⟩) (m+1) cap))(hm:(m:Int)+1≤9223372036854775807)
 (c3:w.cell? ⟨b,off+m*4+3,none⟩=some (.slice (some ⟨bX,oX,none⟩) nX kX)) (ha4:a<4) (han:a<nX) :
 Calls Tryz.prog 177 #[.pointer (some ⟨X,0,none⟩),.int .i64 a] w fun e w'=>e=.returned (.pointer (some ⟨bX,oX+a,none⟩))∧Chg [] w w':=by
 have htop:=fun (wx:World) (hx:Chg [] w wx)=>top_c X b off m cap wx (hx.cell0 hX) hm
 have hbl:=Lib.hid (below_nat ha4)
 have haI:(a:Int)<nX:=by omega
 clear hX hm ha4
 go_enter Tryz.func177,Tryz.ntmps177
 go_wp2_with (first
  | (go_at_call 98;refine (implBelow_c _ _ _).mono ?_;rintro e w7 ⟨rfl,rfl⟩;rw [hbl.out])
  | (go_at_call 176;refine (failNo_c X _).mono ?_;rintro e w4 ⟨rfl,hc4⟩;have hK4:Chg [] w w4:=Chg.trans0 (show Chg [] w _ from Chg.c) hc4)
  | (go_at_call 174;refine (htop _ (Chg.k)).mono ?_;rintro e w5 ⟨rfl,hc5⟩;have hK5:Chg [] w w5:=Chg.trans0 (show Chg [] w _ from Chg.k) hc5;have k3:=hK5.cell0 c3))
 go_ret
 exact ⟨rfl,Chg.k⟩
theorem cellBad_c(X b off m cap:Nat)(n:Int)(f:RunFrame)(w:World)(hX:w.cell? ⟨X,2,none⟩=some (.slice (some ⟨b,off,none⟩) (m+1) cap))(hm:(m:Int)+1≤9223372036854775807)
 (c0:w.cell? ⟨b,off+m*4,none⟩=some (.int .i64 f.Proc)) (c1:w.cell? ⟨b,off+m*4+1,none⟩=some (.int .i64 f.Pc)) (hbad:below n 4=false) :
 Calls Tryz.prog 177 #[.pointer (some ⟨X,0,none⟩),.int .i64 n] w fun e w'=>e=.panicked [{ v:=.iface 182 (runV (runFail f) (.slice none 0 0)),recovered:=false }]∧Chg [] w w':=by
 have hfl:=fun (wx:World) (hx:Chg [] w wx)=>failYes_c X b off m cap f wx (hx.cell0 hX) hm (hx.cell0 c0) (hx.cell0 c1)
 have hbl:=Lib.hid hbad
 clear hX hm hbad c0 c1
 go_enter Tryz.func177,Tryz.ntmps177
 go_wp2_with (first
  | (go_at_call 98;refine (implBelow_c _ _ _).mono ?_;rintro e w7 ⟨rfl,rfl⟩;rw [hbl.out])
  | (go_at_call 176;refine (hfl _ (Chg.c)).mono ?_;rintro e w4 ⟨rfl,hc4⟩;have hK4:Chg [] w w4:=Chg.trans0 (show Chg [] w _ from Chg.c) hc4))
 exact ⟨rfl,rfl,Chg.k⟩
end Go.Proofs.YtjakhnhnjhafgaaGreat.Wk
namespace Go.Proofs.YtjakhnhnjhafgaaGreat.Wk
open Go Go.RowKit Go.Deep Ow
open Rp (R sz)
def Idx(b:Bool)(e:Ending):Prop:=∃r:Int,e=.returned (.int .i64 r)∧-1≤r∧r≤9223372036854775807∧decide (0≤r)=b
set_option maxRecDepth 100000 in
set_option maxHeartbeats 2000000 in
theorem indexNum_c(q:Int→Bool)(xs:List Int)(v:Value)(F:List Nat)(w:World)(h:RL w xs v F)
 (hq:∀(x:Int) (wx:World),Chg [] w wx→Calls Tryz.prog 204 #[.int .i64 x] wx fun e w'=>e=.returned (.bool (q x))∧Chg [] wx w') :
 Calls Tryz.prog 165 #[v,.func (.func 204) #[] #[]] w fun e w'=>Idx (xs.any q) e∧Chg [] w w':=by
 obtain ⟨A,ca,rfl,hl,hm⟩:=h.form
 have hn:xs.length≤maxLen:=by omega
 unfold maxLen at hn
 go_enter Tryz.func165,Tryz.ntmps165
 go_wp2
 go_loopw [8] (fun i wr=>∃k:Nat,k≤xs.length∧i=.int .i64 k∧Chg [] w wr∧(xs.take k).any q=false) (fun i _=>xs.length-(intOf i).toNat)
 case atStart=>exact ⟨0,Nat.zero_le _,rfl,Chg.refl _ _,by simp⟩
 case round=>
  obtain ⟨k,hk,rfl,hc,hall⟩:=hrel
  by_cases hlt:k<xs.length
  · obtain ⟨b1,o1,p1,c1,f1,e1,r1,m1,-⟩:=(h.chg0 hc).elem hlt
    obtain ⟨rfl,rfl,-⟩:=R_int.1 r1
    injection e1 with e1 _ e1c
    subst e1 e1c
    have ya0:=m1 0 (by decide)
    simp only [sz_int,Nat.mul_one,Nat.add_zero,List.getElem?_cons_zero,List.getElem?_cons_succ] at ya0
    have hall':=Lib.hid hall
    clear hall m1 r1 h
    have hq':=hq xs[k]
    clear hq
    by_cases hi:q xs[k]=true
    · rw [hi] at hq'
      go_wp2_with (go_at_call 204;refine (hq' _ hc).mono ?_;rintro e w1 ⟨rfl,hc1⟩)
      go_ret
      exact ⟨⟨_,rfl,by omega,by omega,by
       rw [decide_eq_true (by omega)]
       exact (List.any_eq_true.2 ⟨xs[k],List.getElem_mem hlt,hi⟩).symm⟩,hc.trans0 hc1⟩
    · rw [Bool.not_eq_true] at hi
      rw [hi] at hq'
      go_wp2_with (go_at_call 204;refine (hq' _ hc).mono ?_;rintro e w1 ⟨rfl,hc1⟩)
      go_roundw
      case rel=>exact ⟨k+1,by omega,by go_num,hc.trans0 hc1,by rw [List.take_succ_eq_append_getElem hlt,List.any_append,hall'.out];simp [hi]⟩
      case measure=>simp [intOf];omega
  · obtain rfl:k=xs.length:=by omega
    rw [List.take_length] at hall
    have hall':=Lib.hid hall
    clear h hq hall
    go_wp2
    go_ret
    exact ⟨⟨-1,rfl,by omega,by omega,by rw [hall'.out];rfl⟩,hc⟩
theorem containsNum_c(q:Int→Bool)(xs:List Int)(v:Value)(F:List Nat)(w:World)(h:RL w xs v F)
 (hq:∀(x:Int) (wx:World),Chg [] w wx→Calls Tryz.prog 204 #[.int .i64 x] wx fun e w'=>e=.returned (.bool (q x))∧Chg [] wx w') :
 Calls Tryz.prog 109 #[v,.func (.func 204) #[] #[]] w fun e w'=>e=.returned (.bool (xs.any q))∧Chg [] w w':=by
 obtain ⟨A,ca,rfl,hl,hm⟩:=h.form
 go_enter Tryz.func109,Tryz.ntmps109
 go_wp2_with fail
 refine (indexNum_c q xs _ F w h hq).mono ?_
 rintro e w1 ⟨⟨r,rfl,hr1,hr2,hr⟩,hc1⟩
 have hr':=Lib.hid hr
 clear hr h hq
 by_cases h0:0≤r
 all_goals
  go_wp2
  go_ret
  exact ⟨by rw [←hr'.out];simp [h0],hc1⟩
theorem num1_c(n:Int)(w:World):Calls Tryz.prog 204 #[.int .i64 n] w fun e w'=>e=.returned (.bool (!numOk n))∧Chg [] w w':=by
 go_enter Tryz.func204,Tryz.ntmps204
 go_wp2_with (go_at_call 63;refine (implNumOk_c _ _).mono ?_;rintro e w3 ⟨rfl,rfl⟩)
 go_ret
 exact ⟨rfl,Chg.refl _ _⟩
set_option maxHeartbeats 1000000 in
theorem implNums_c(l:List Int)(v:Value)(F:List Nat)(w:World)(h:RL w l v F):Calls Tryz.prog 173 #[v,.int .i64 4] w fun e w'=>e=.returned (.bool (numsOk l 4))∧Chg [] w w':=by
 obtain ⟨A,ca,rfl,hl,hm⟩:=h.form
 have hn:l.length≤maxLen:=by omega
 unfold maxLen at hn
 by_cases h4:((l.length:Int)==4)=true
 case neg=>
  have h6:l.length≠4:=by intro e;apply h4;rw [e];rfl
  rw [Bool.not_eq_true] at h4
  clear h
  go_enter Tryz.func173,Tryz.ntmps173
  go_wp2
  go_ret
  exact ⟨by simp [numsOk,h6],Chg.c⟩
 have h6:l.length=4:=by simp at h4;omega
 have hpo:numsOk l 4=!(l.any fun n=>!numOk n):=by
  have:l.all numOk=!(l.any fun n=>!numOk n):=by rw [List.not_any_eq_all_not];simp
  simp [numsOk,h6,this]
 rw [hpo]
 clear hpo h6
 have hcon:=containsNum_c (fun n=>!numOk n) l _ F w h (fun x wx _=>num1_c x wx)
 generalize (l.any fun n=>!numOk n)=b at hcon ⊢
 clear h
 go_enter Tryz.func173,Tryz.ntmps173
 go_wp2_with (go_at_call 109;refine hcon.mono ?_;rintro e w3 ⟨rfl,hc3⟩)
 go_ret
 exact ⟨by cases b<;>rfl,hc3⟩
end Go.Proofs.YtjakhnhnjhafgaaGreat.Wk
namespace Go.Proofs.YtjakhnhnjhafgaaGreat.Wk
open Go Go.RowKit Go.Deep Ow
open Rp (R sz)
def RetCopy(x:RunRun)(w:World)(e:Ending)(w':World):Prop:=∃v base,e=.returned (runV x v)∧Chg [] w w'∧Grow base w' 58 x.Frames v∧w.heap.size≤base
theorem frame_alloc(w:World)(f:RunFrame)(AV:Option Addr)(cV:Nat)(AC:Option Addr)(cC:Nat)(t:TypeId):∀j u,(frameCells f AV cV AC cC)[j]? = some u→(w.alloc (.cells #[.int .i64 f.Proc,.int .i64 f.Pc,.slice AV 4 cV,.slice AC 4 cC] t)).cell? ⟨w.heap.size,j,none⟩=some u:=by
 intro j u hj
 rw [World.cell?_alloc_new]
 simpa using hj
end Go.Proofs.YtjakhnhnjhafgaaGreat.Wk
namespace Go.Proofs.YtjakhnhnjhafgaaGreat.Wk
open Go Go.RowKit Go.Deep Ow
open Rp (R sz)
abbrev atV(x:Option InsIns):Value:=.tuple #[insV (x.getD insZero),.bool x.isSome]
end Go.Proofs.YtjakhnhnjhafgaaGreat.Wk
namespace Go.Proofs.YtjakhnhnjhafgaaGreat.Wk
open Go Go.RowKit Go.Deep Ow
open Rp (R sz)
theorem procNo_c(n:Nat)(A:Option Addr)(ca:Nat)(k:Int)(w:World)(hn:n≤9223372036854775807)(hbel:below k n=false):Calls Tryz.prog 134 #[.agg #[.slice A n ca],.int .i64 k] w fun e w'=>e=.returned (.tuple #[.agg #[.int .i64 0,.int .i64 0,.slice none 0 0],.bool false])∧Chg [] w w':=by
 go_enter Tryz.func134,Tryz.ntmps134
 go_wp2_with (go_at_call 98;refine (implBelow_c _ _ _).mono ?_;rintro e w5 ⟨rfl,rfl⟩;rw [hbel])
 exact bodyPost_ret (v:=.tuple #[.agg #[.int .i64 0,.int .i64 0,.slice none 0 0],.bool false]) (by simp [results,Tryz.results134,go_sem,insZero]) rfl ⟨by rfl,Chg.c⟩
def ProcAt(w:World)(c:PrcProc)(e:Ending):Prop:=∃v F,e=.returned (.tuple #[.agg #[.int .i64 c.Lo,.int .i64 c.Hi,v],.bool true])∧RL w c.Code v F
set_option maxHeartbeats 1000000 in
theorem procYes_c(p:PrgProg)(k:Nat)(v:Value)(F:List Nat)(w:World)(h:RL w p.Procs v F)(hlt:k<p.Procs.length):
 Calls Tryz.prog 134 #[.agg #[v],.int .i64 k] w fun e w'=>ProcAt w p.Procs[k] e∧Chg [] w w':=by
 obtain ⟨b1,o1,p1,c1,f1,rfl,r1,m1,-⟩:=h.elem hlt
 obtain ⟨vC,FC,rfl,rfl,-,-,g1⟩:=R_PrcProc.1 r1
 have ya0:=m1 0 (by decide)
 have ya1:=m1 1 (by decide)
 have ya2:=m1 2 (by decide)
 simp only [sz_PrcProc,Nat.add_zero,List.getElem?_cons_zero,List.getElem?_cons_succ] at ya0 ya1 ya2
 obtain ⟨A,cap,e0,hl,hm⟩:=h.form
 have hn:p.Procs.length≤maxLen:=by omega
 unfold maxLen at hn
 have hbel:below k p.Procs.length=true:=by simp [below];omega
 have hb1:b1<w.heap.size:=World.block_lt_of_cell? _ _ ya0
 clear m1 r1 h e0 hl hm
 obtain ⟨B,cb,rfl,-,-⟩:=g1.form
 have hg:=Lib.hid g1
 clear g1
 go_enter Tryz.func134,Tryz.ntmps134
 go_wp2_with (go_at_call 98;refine (implBelow_c _ _ _).mono ?_;rintro e w5 ⟨rfl,rfl⟩;rw [hbel])
 exact bodyPost_ret (v:=.tuple #[.agg #[.int .i64 p.Procs[k].Lo,.int .i64 p.Procs[k].Hi,.slice B p.Procs[k].Code.length cb],.bool true]) (by simp [results,Tryz.results134,go_sem]) rfl ⟨⟨_,_,rfl,hg.out⟩,Chg.c⟩
set_option maxRecDepth 100000 in
set_option maxHeartbeats 2000000 in
theorem implPrgAt_c(p:PrgProg)(proc pc:Int)(v:Value)(F:List Nat)(w:World)(h:RL w p.Procs v F):Calls Tryz.prog 75 #[.agg #[v],.int .i64 proc,.int .i64 pc] w fun e w'=>e=.returned (atV (prgAt p proc pc))∧Chg [] w w':=by
 obtain ⟨A,ca,rfl,hl,hm⟩:=h.form
 have hn:p.Procs.length≤maxLen:=by omega
 unfold maxLen at hn
 by_cases hbel:below proc p.Procs.length=true
 case neg=>
  rw [Bool.not_eq_true] at hbel
  have hz:=Lib.hid (show prgAt p proc pc=none by
   unfold prgAt
   split
   · rfl
   · have:p.Procs[proc.toNat]? = none:=by
      rw [List.getElem?_eq_none]
      simp [below] at hbel
      omega
     rw [this];rfl)
  clear h
  go_enter Tryz.func75,Tryz.ntmps75
  go_wp2_with fail
  refine (procNo_c p.Procs.length A ca proc _ (by omega) hbel).mono ?_
  rintro e w1 ⟨rfl,hc1⟩
  have hz1:=hc1.size
  rw [World.size_alloc,World.size_alloc] at hz1
  have hza:w.heap.size+1<w1.heap.size:=by omega
  have hcl0:=hc1.cells;have m0:w1.cell? ⟨w.heap.size+1,0,none⟩=some (.int .i64 0):=hc1.cell0 (by simp);have m1:w1.cell? ⟨w.heap.size+1,1,none⟩=some (.int .i64 0):=hc1.cell0 (by simp);have m2:w1.cell? ⟨w.heap.size+1,2,none⟩=some (.int .i64 0):=hc1.cell0 (by simp);have m3:w1.cell? ⟨w.heap.size+1,3,none⟩=some (.int .i64 0):=hc1.cell0 (by simp);have m4:w1.cell? ⟨w.heap.size+1,4,none⟩=some (.int .i64 0):=hc1.cell0 (by simp);have m5:w1.cell? ⟨w.heap.size+1,5,none⟩=some (.int .i64 0):=hc1.cell0 (by simp);have m6:w1.cell? ⟨w.heap.size+1,6,none⟩=some (.int .i64 0):=hc1.cell0 (by simp);have m7:w1.cell? ⟨w.heap.size+1,7,none⟩=some (.int .i64 0):=hc1.cell0 (by simp);have fz0:w1.frozen? ⟨w.heap.size+1,0,none⟩=false:=(hcl0.2 _ _ (by simp)).trans (by simp);have fz1:w1.frozen? ⟨w.heap.size+1,1,none⟩=false:=(hcl0.2 _ _ (by simp)).trans (by simp);have fz2:w1.frozen? ⟨w.heap.size+1,2,none⟩=false:=(hcl0.2 _ _ (by simp)).trans (by simp);have fz3:w1.frozen? ⟨w.heap.size+1,3,none⟩=false:=(hcl0.2 _ _ (by simp)).trans (by simp);have fz4:w1.frozen? ⟨w.heap.size+1,4,none⟩=false:=(hcl0.2 _ _ (by simp)).trans (by simp);have fz5:w1.frozen? ⟨w.heap.size+1,5,none⟩=false:=(hcl0.2 _ _ (by simp)).trans (by simp);have fz6:w1.frozen? ⟨w.heap.size+1,6,none⟩=false:=(hcl0.2 _ _ (by simp)).trans (by simp);have fz7:w1.frozen? ⟨w.heap.size+1,7,none⟩=false:=(hcl0.2 _ _ (by simp)).trans (by simp);clear hcl0
  have hX:=Lib.hid (show Chg [] w w1 from Chg.k)
  clear hc1
  simp only []
  go_simp
  iterate 90 (first|go_values|go_skip|go_guarded|go_step|go_upon|skip)
  refine bodyPost_ret (v:=.tuple #[insV insZero,.bool false]) ?_ rfl ?_
  · simp [results,Tryz.results75,go_sem,insZero,m0,m1,m2,m3,m4,m5,m6,m7,hza]
  refine ⟨?_,?_⟩
  · rw [hz.out];rfl
  · have hX1:=hX.out
    repeat (with_reducible first|refine Chg.r ?_ _|refine Chg.alloc ?_ _|refine Chg.drewN ?_ _|refine Chg.drew ?_|exact Chg.refl _ _|assumption)
 obtain ⟨hb1,hb2⟩:0≤proc∧proc<p.Procs.length:=by simpa [below] using hbel
 obtain ⟨k,rfl⟩:=Int.eq_ofNat_of_zero_le hb1
 have hlt:k<p.Procs.length:=by omega
 by_cases hbel2:below pc p.Procs[k].Code.length=true
 case neg=>
  rw [Bool.not_eq_true] at hbel2
  have hz:=Lib.hid (show prgAt p k pc=none by
   unfold prgAt
   split
   · rfl
   · rw [show ((k:Int).toNat)=k by omega,List.getElem?_eq_getElem hlt]
     show p.Procs[k].Code[pc.toNat]? = none
     rw [List.getElem?_eq_none]
     simp [below] at hbel2
     omega)
  have hpr:=fun (wx:World) (hx:Chg [] w wx)=>procYes_c p k _ F wx (h.chg0 hx) hlt
  clear h
  go_enter Tryz.func75,Tryz.ntmps75
  go_wp2_with fail
  refine (hpr _ (Chg.c)).mono ?_
  rintro e w1 ⟨⟨vC,FC,rfl,hC⟩,hc1⟩
  obtain ⟨B,cb,rfl,hlb,hmb⟩:=hC.form
  have hnb:p.Procs[k].Code.length≤maxLen:=by omega
  unfold maxLen at hnb
  have hz1:=hc1.size
  rw [World.size_alloc,World.size_alloc] at hz1
  have hza:w.heap.size+1<w1.heap.size:=by omega
  have hX:=Lib.hid (show Chg [] w w1 from Chg.k)
  clear hC hpr
  have hcl0:=hc1.cells;have m0:w1.cell? ⟨w.heap.size+1,0,none⟩=some (.int .i64 0):=hc1.cell0 (by simp);have m1:w1.cell? ⟨w.heap.size+1,1,none⟩=some (.int .i64 0):=hc1.cell0 (by simp);have m2:w1.cell? ⟨w.heap.size+1,2,none⟩=some (.int .i64 0):=hc1.cell0 (by simp);have m3:w1.cell? ⟨w.heap.size+1,3,none⟩=some (.int .i64 0):=hc1.cell0 (by simp);have m4:w1.cell? ⟨w.heap.size+1,4,none⟩=some (.int .i64 0):=hc1.cell0 (by simp);have m5:w1.cell? ⟨w.heap.size+1,5,none⟩=some (.int .i64 0):=hc1.cell0 (by simp);have m6:w1.cell? ⟨w.heap.size+1,6,none⟩=some (.int .i64 0):=hc1.cell0 (by simp);have m7:w1.cell? ⟨w.heap.size+1,7,none⟩=some (.int .i64 0):=hc1.cell0 (by simp);have fz0:w1.frozen? ⟨w.heap.size+1,0,none⟩=false:=(hcl0.2 _ _ (by simp)).trans (by simp);have fz1:w1.frozen? ⟨w.heap.size+1,1,none⟩=false:=(hcl0.2 _ _ (by simp)).trans (by simp);have fz2:w1.frozen? ⟨w.heap.size+1,2,none⟩=false:=(hcl0.2 _ _ (by simp)).trans (by simp);have fz3:w1.frozen? ⟨w.heap.size+1,3,none⟩=false:=(hcl0.2 _ _ (by simp)).trans (by simp);have fz4:w1.frozen? ⟨w.heap.size+1,4,none⟩=false:=(hcl0.2 _ _ (by simp)).trans (by simp);have fz5:w1.frozen? ⟨w.heap.size+1,5,none⟩=false:=(hcl0.2 _ _ (by simp)).trans (by simp);have fz6:w1.frozen? ⟨w.heap.size+1,6,none⟩=false:=(hcl0.2 _ _ (by simp)).trans (by simp);have fz7:w1.frozen? ⟨w.heap.size+1,7,none⟩=false:=(hcl0.2 _ _ (by simp)).trans (by simp);clear hcl0
  clear hc1
  simp only []
  go_simp
  iterate 90 (first|(go_at_call 98;refine (implBelow_c _ _ _).mono ?_;rintro e w5 ⟨rfl,rfl⟩;rw [hbel2];simp only [];go_simp)|go_values|go_skip|go_guarded|go_step|go_upon|skip)
  refine bodyPost_ret (v:=.tuple #[insV insZero,.bool false]) ?_ rfl ?_
  · simp [results,Tryz.results75,go_sem,insZero,m0,m1,m2,m3,m4,m5,m6,m7,hza]
  refine ⟨?_,?_⟩
  · rw [hz.out];rfl
  · have hX1:=hX.out
    repeat (with_reducible first|refine Chg.r ?_ _|refine Chg.alloc ?_ _|refine Chg.drewN ?_ _|refine Chg.drew ?_|exact Chg.refl _ _|assumption)
 obtain ⟨hb3,hb4⟩:0≤pc∧pc<p.Procs[k].Code.length:=by simpa [below] using hbel2
 obtain ⟨j,rfl⟩:=Int.eq_ofNat_of_zero_le hb3
 have hlt2:j<p.Procs[k].Code.length:=by omega
 have hz:=Lib.hid (show prgAt p k j=some p.Procs[k].Code[j] by
  unfold prgAt
  rw [if_neg (by omega),show ((k:Int).toNat)=k by omega,List.getElem?_eq_getElem hlt]
  show p.Procs[k].Code[((j:Int)).toNat]? = _
  rw [show ((j:Int).toNat)=j by omega,List.getElem?_eq_getElem hlt2])
 have hpr:=fun (wx:World) (hx:Chg [] w wx)=>procYes_c p k _ F wx (h.chg0 hx) hlt
 clear h
 go_enter Tryz.func75,Tryz.ntmps75
 go_wp2_with fail
 refine (hpr _ (Chg.c)).mono ?_
 rintro e w1 ⟨⟨vC,FC,rfl,hC0⟩,hc1⟩
 have hC:=hC0.chg0 hc1
 clear hC0
 obtain ⟨B,cb,rfl,hlb,hmb⟩:=hC.form
 have hnb:p.Procs[k].Code.length≤maxLen:=by omega
 unfold maxLen at hnb
 obtain ⟨b2,o2,p2,c2,f2,e2,r2,m2,-⟩:=hC.elem hlt2
 obtain ⟨rfl,rfl,-⟩:=R_InsIns.1 r2
 injection e2 with e2 _ e2c
 subst e2 e2c
 have za0:=m2 0 (by decide)
 have za1:=m2 1 (by decide)
 have za2:=m2 2 (by decide)
 have za3:=m2 3 (by decide)
 have za4:=m2 4 (by decide)
 have za5:=m2 5 (by decide)
 have za6:=m2 6 (by decide)
 have za7:=m2 7 (by decide)
 simp only [sz_InsIns,Nat.add_zero,List.getElem?_cons_zero,List.getElem?_cons_succ] at za0 za1 za2 za3 za4 za5 za6 za7
 have hz1:=hc1.size
 rw [World.size_alloc,World.size_alloc] at hz1
 have hza:w.heap.size+1<w1.heap.size:=by omega
 have hX:=Lib.hid (show Chg [] w w1 from Chg.k)
 have hb2:b2<w1.heap.size:=World.block_lt_of_cell? _ _ za0
 clear hC hpr m2 r2
 have hcl0:=hc1.cells;have m0:w1.cell? ⟨w.heap.size+1,0,none⟩=some (.int .i64 0):=hc1.cell0 (by simp);have m1:w1.cell? ⟨w.heap.size+1,1,none⟩=some (.int .i64 0):=hc1.cell0 (by simp);have m2:w1.cell? ⟨w.heap.size+1,2,none⟩=some (.int .i64 0):=hc1.cell0 (by simp);have m3:w1.cell? ⟨w.heap.size+1,3,none⟩=some (.int .i64 0):=hc1.cell0 (by simp);have m4:w1.cell? ⟨w.heap.size+1,4,none⟩=some (.int .i64 0):=hc1.cell0 (by simp);have m5:w1.cell? ⟨w.heap.size+1,5,none⟩=some (.int .i64 0):=hc1.cell0 (by simp);have m6:w1.cell? ⟨w.heap.size+1,6,none⟩=some (.int .i64 0):=hc1.cell0 (by simp);have m7:w1.cell? ⟨w.heap.size+1,7,none⟩=some (.int .i64 0):=hc1.cell0 (by simp);have fz0:w1.frozen? ⟨w.heap.size+1,0,none⟩=false:=(hcl0.2 _ _ (by simp)).trans (by simp);have fz1:w1.frozen? ⟨w.heap.size+1,1,none⟩=false:=(hcl0.2 _ _ (by simp)).trans (by simp);have fz2:w1.frozen? ⟨w.heap.size+1,2,none⟩=false:=(hcl0.2 _ _ (by simp)).trans (by simp);have fz3:w1.frozen? ⟨w.heap.size+1,3,none⟩=false:=(hcl0.2 _ _ (by simp)).trans (by simp);have fz4:w1.frozen? ⟨w.heap.size+1,4,none⟩=false:=(hcl0.2 _ _ (by simp)).trans (by simp);have fz5:w1.frozen? ⟨w.heap.size+1,5,none⟩=false:=(hcl0.2 _ _ (by simp)).trans (by simp);have fz6:w1.frozen? ⟨w.heap.size+1,6,none⟩=false:=(hcl0.2 _ _ (by simp)).trans (by simp);have fz7:w1.frozen? ⟨w.heap.size+1,7,none⟩=false:=(hcl0.2 _ _ (by simp)).trans (by simp);clear hcl0
 clear hc1
 simp only []
 go_simp
 iterate 90 (first|(go_at_call 98;refine (implBelow_c _ _ _).mono ?_;rintro e w5 ⟨rfl,rfl⟩;rw [hbel2];simp only [];go_simp)|go_values|go_skip|go_guarded|go_step|go_upon|skip)
 refine bodyPost_ret (v:=.tuple #[insV p.Procs[k].Code[j],.bool true]) ?_ rfl ?_
 · simp [results,Tryz.results75,go_sem,m0,m1,m2,m3,m4,m5,m6,m7,hza]
 refine ⟨?_,?_⟩
 · rw [hz.out];rfl
 · have hX1:=hX.out
   repeat (with_reducible first|refine Chg.r ?_ _|refine Chg.alloc ?_ _|refine Chg.drewN ?_ _|refine Chg.drew ?_|exact Chg.refl _ _|assumption)
end Go.Proofs.YtjakhnhnjhafgaaGreat.Wk
namespace Go.Proofs.YtjakhnhnjhafgaaGreat.Wk
open Go Go.RowKit Go.Deep Ow
open Rp (R sz)
theorem add_c(a b:Int)(w:World)(ha:-32768≤a∧a≤32767)(hb:-32768≤b∧b≤32767):Calls Tryz.prog 223 #[.int .i64 a,.int .i64 b] w fun e w'=>e=.returned (.int .i64 (a+b))∧w=w':=by
 have hm:=mulB ha hb
 obtain ⟨ha1,ha2⟩:=ha
 obtain ⟨hb1,hb2⟩:=hb
 obtain ⟨hm1,hm2⟩:=hm
 go_enter Tryz.func223,Tryz.ntmps223
 go_wp2
 go_ret
 exact ⟨rfl,rfl⟩
theorem sub_c(a b:Int)(w:World)(ha:-32768≤a∧a≤32767)(hb:-32768≤b∧b≤32767):Calls Tryz.prog 224 #[.int .i64 a,.int .i64 b] w fun e w'=>e=.returned (.int .i64 (a-b))∧w=w':=by
 have hm:=mulB ha hb
 obtain ⟨ha1,ha2⟩:=ha
 obtain ⟨hb1,hb2⟩:=hb
 obtain ⟨hm1,hm2⟩:=hm
 go_enter Tryz.func224,Tryz.ntmps224
 go_wp2
 go_ret
 exact ⟨rfl,rfl⟩
theorem mul_c(a b:Int)(w:World)(ha:-32768≤a∧a≤32767)(hb:-32768≤b∧b≤32767):Calls Tryz.prog 225 #[.int .i64 a,.int .i64 b] w fun e w'=>e=.returned (.int .i64 (a*b))∧w=w':=by
 have hm:=mulB ha hb
 obtain ⟨ha1,ha2⟩:=ha
 obtain ⟨hb1,hb2⟩:=hb
 obtain ⟨hm1,hm2⟩:=hm
 go_enter Tryz.func225,Tryz.ntmps225
 go_wp2
 go_ret
 exact ⟨rfl,rfl⟩
theorem div_c(a b:Int)(w:World)(ha:-32768≤a∧a≤32767)(hz:b≠0):Calls Tryz.prog 226 #[.int .i64 a,.int .i64 b] w fun e w'=>e=.returned (.int .i64 (a.tdiv b))∧w=w':=by
 have hm:=tdivB (b:=b) ha
 obtain ⟨ha1,ha2⟩:=ha
 obtain ⟨hm1,hm2⟩:=hm
 go_enter Tryz.func226,Tryz.ntmps226
 go_wp2
 go_ret
 exact ⟨rfl,rfl⟩
def OpsAt(a:Int)(w:World)(e:Ending)(w':World):Prop:=e=.returned (.slice (some ⟨w.heap.size,0,none⟩) 4 4)∧Chg [] w w'∧w'.cell? ⟨w.heap.size,0,none⟩=some (.func (.func 223) #[.int .i64 a] #[])∧w'.cell? ⟨w.heap.size,1,none⟩=some (.func (.func 224) #[.int .i64 a] #[])∧w'.cell? ⟨w.heap.size,2,none⟩=some (.func (.func 225) #[.int .i64 a] #[])∧w'.cell? ⟨w.heap.size,3,none⟩=some (.func (.func 226) #[.int .i64 a] #[])
theorem ops_c(a:Int)(w:World):Calls Tryz.prog 219 #[.int .i64 a] w (OpsAt a w):=by
 go_enter Tryz.func219,Tryz.ntmps219
 go_wp2
 go_ret
 exact ⟨rfl,Chg.c,by simp,by simp,by simp,by simp⟩
theorem unw1_c(a b:Int)(w:World)(ha:-32768≤a∧a≤32767)(hb:-32768≤b∧b≤32767):Calls Tryz.prog 207 #[.int .i64 1,.int .i64 a,.int .i64 b] w fun e w'=>e=.returned (.int .i64 (a+b))∧Chg [] w w':=by
 have hcall:=fun wx=>add_c a b wx ha hb
 go_enter Tryz.func207,Tryz.ntmps207
 go_wp2_with fail
 refine (ops_c a _).mono ?_
 rintro e w1 ⟨rfl,hc1,x0,x1,x2,x3⟩
 go_wp2_with (go_at_call 223;refine (hcall _).mono ?_;rintro e w2 ⟨rfl,rfl⟩)
 go_ret
 exact ⟨rfl,hc1⟩
theorem unw2_c(a b:Int)(w:World)(ha:-32768≤a∧a≤32767)(hb:-32768≤b∧b≤32767):Calls Tryz.prog 207 #[.int .i64 2,.int .i64 a,.int .i64 b] w fun e w'=>e=.returned (.int .i64 (a-b))∧Chg [] w w':=by
 have hcall:=fun wx=>sub_c a b wx ha hb
 go_enter Tryz.func207,Tryz.ntmps207
 go_wp2_with fail
 refine (ops_c a _).mono ?_
 rintro e w1 ⟨rfl,hc1,x0,x1,x2,x3⟩
 go_wp2_with (go_at_call 224;refine (hcall _).mono ?_;rintro e w2 ⟨rfl,rfl⟩)
 go_ret
 exact ⟨rfl,hc1⟩
theorem unw3_c(a b:Int)(w:World)(ha:-32768≤a∧a≤32767)(hb:-32768≤b∧b≤32767):Calls Tryz.prog 207 #[.int .i64 3,.int .i64 a,.int .i64 b] w fun e w'=>e=.returned (.int .i64 (a*b))∧Chg [] w w':=by
 have hcall:=fun wx=>mul_c a b wx ha hb
 go_enter Tryz.func207,Tryz.ntmps207
 go_wp2_with fail
 refine (ops_c a _).mono ?_
 rintro e w1 ⟨rfl,hc1,x0,x1,x2,x3⟩
 go_wp2_with (go_at_call 225;refine (hcall _).mono ?_;rintro e w2 ⟨rfl,rfl⟩)
 go_ret
 exact ⟨rfl,hc1⟩
theorem unw4_c(a b:Int)(w:World)(ha:-32768≤a∧a≤32767)(hz:b≠0):Calls Tryz.prog 207 #[.int .i64 4,.int .i64 a,.int .i64 b] w fun e w'=>e=.returned (.int .i64 (a.tdiv b))∧Chg [] w w':=by
 have hcall:=fun wx=>div_c a b wx ha hz
 go_enter Tryz.func207,Tryz.ntmps207
 go_wp2_with fail
 refine (ops_c a _).mono ?_
 rintro e w1 ⟨rfl,hc1,x0,x1,x2,x3⟩
 go_wp2_with (go_at_call 226;refine (hcall _).mono ?_;rintro e w2 ⟨rfl,rfl⟩)
 go_ret
 exact ⟨rfl,hc1⟩
theorem isArith_c(n:Int)(w:World):Calls Tryz.prog 205 #[.int .i64 n] w fun e w'=>e=.returned (.bool (decide (1≤n)&&decide (n≤4)))∧w=w':=by
 by_cases h1:1≤n
 all_goals by_cases h2:n≤4
 all_goals
  go_enter Tryz.func205,Tryz.ntmps205
  go_wp2
  go_ret
  exact ⟨by simp [h1,h2],rfl⟩
set_option maxHeartbeats 1000000 in
theorem implNumDo_c(op a b:Int)(w:World):Calls Tryz.prog 175 #[.int .i64 op,.int .i64 a,.int .i64 b] w fun e w'=>e=.returned (.tuple #[.int .i64 (numDo op a b).1,.bool (numDo op a b).2])∧Chg [] w w':=by
 by_cases ha:numOk a=true
 case neg=>
  rw [Bool.not_eq_true] at ha
  have hno:=Lib.hid (show numDo op a b=(0,false) by simp [numDo,ha])
  go_enter Tryz.func175,Tryz.ntmps175
  go_wp2_with (go_at_call 63;refine (implNumOk_c _ _).mono ?_;rintro e w3 ⟨rfl,rfl⟩)
  go_ret2
  exact ⟨by rw [hno.out];rfl,Chg.refl _ _⟩
 by_cases hb:numOk b=true
 case neg=>
  rw [Bool.not_eq_true] at hb
  have hno:=Lib.hid (show numDo op a b=(0,false) by simp [numDo,ha,hb])
  go_enter Tryz.func175,Tryz.ntmps175
  go_wp2_with (go_at_call 63;refine (implNumOk_c _ _).mono ?_;rintro e w3 ⟨rfl,rfl⟩)
  go_ret2
  exact ⟨by rw [hno.out];rfl,Chg.refl _ _⟩
 have ba:=(numOk_iff a).1 ha
 have bb:=(numOk_iff b).1 hb
 by_cases hr:(decide (1≤op)&&decide (op≤4))=true
 case neg=>
  rw [Bool.not_eq_true] at hr
  have hno:=Lib.hid (show numDo op a b=(0,false) by
   have h1:¬(op=1):=by rintro rfl;simp at hr
   have h2:¬(op=2):=by rintro rfl;simp at hr
   have h3:¬(op=3):=by rintro rfl;simp at hr
   have h4:¬(op=4):=by rintro rfl;simp at hr
   simp [numDo,ha,hb,h1,h2,h3,h4])
  clear ba bb
  go_enter Tryz.func175,Tryz.ntmps175
  go_wp2_with (first|(go_at_call 63;refine (implNumOk_c _ _).mono ?_;rintro e w3 ⟨rfl,rfl⟩)|(go_at_call 205;refine (isArith_c _ _).mono ?_;rintro e w4 ⟨rfl,rfl⟩;rw [hr]))
  go_ret2
  exact ⟨by rw [hno.out];rfl,Chg.refl _ _⟩
 have hr2:op=1∨op=2∨op=3∨op=4:=by
  simp only [Bool.and_eq_true,decide_eq_true_eq] at hr
  omega
 clear hr
 rcases hr2 with rfl|rfl|rfl|rfl
 · have hno:=Lib.hid (show numDo 1 a b=(numWrap (a+b),true) by simp [numDo,ha,hb])
   have hu:=fun wx=>unw1_c a b wx ba bb
   clear ba bb
   go_enter Tryz.func175,Tryz.ntmps175
   go_wp2_with (first|(go_at_call 63;refine (implNumOk_c _ _).mono ?_;rintro e w3 ⟨rfl,rfl⟩)|(go_at_call 205;refine (isArith_c _ _).mono ?_;rintro e w4 ⟨rfl,rfl⟩)|(go_at_call 207;refine (hu _).mono ?_;rintro e w5 ⟨rfl,hc5⟩)|(go_at_call 206;refine (implNumWrap_c _ _).mono ?_;rintro e w6 ⟨rfl,rfl⟩))
   go_ret2
   exact ⟨by rw [hno.out];rfl,hc5⟩
 · have hno:=Lib.hid (show numDo 2 a b=(numWrap (a-b),true) by simp [numDo,ha,hb])
   have hu:=fun wx=>unw2_c a b wx ba bb
   clear ba bb
   go_enter Tryz.func175,Tryz.ntmps175
   go_wp2_with (first|(go_at_call 63;refine (implNumOk_c _ _).mono ?_;rintro e w3 ⟨rfl,rfl⟩)|(go_at_call 205;refine (isArith_c _ _).mono ?_;rintro e w4 ⟨rfl,rfl⟩)|(go_at_call 207;refine (hu _).mono ?_;rintro e w5 ⟨rfl,hc5⟩)|(go_at_call 206;refine (implNumWrap_c _ _).mono ?_;rintro e w6 ⟨rfl,rfl⟩))
   go_ret2
   exact ⟨by rw [hno.out];rfl,hc5⟩
 · have hno:=Lib.hid (show numDo 3 a b=(numWrap (a*b),true) by simp [numDo,ha,hb])
   have hu:=fun wx=>unw3_c a b wx ba bb
   clear ba bb
   go_enter Tryz.func175,Tryz.ntmps175
   go_wp2_with (first|(go_at_call 63;refine (implNumOk_c _ _).mono ?_;rintro e w3 ⟨rfl,rfl⟩)|(go_at_call 205;refine (isArith_c _ _).mono ?_;rintro e w4 ⟨rfl,rfl⟩)|(go_at_call 207;refine (hu _).mono ?_;rintro e w5 ⟨rfl,hc5⟩)|(go_at_call 206;refine (implNumWrap_c _ _).mono ?_;rintro e w6 ⟨rfl,rfl⟩))
   go_ret2
   exact ⟨by rw [hno.out];rfl,hc5⟩
 · by_cases hz:b=0
   · subst hz
     have hno:=Lib.hid (show numDo 4 a 0=(0,false) by simp [numDo,ha,hb])
     clear ba bb
     go_enter Tryz.func175,Tryz.ntmps175
     go_wp2_with (first|(go_at_call 63;refine (implNumOk_c _ _).mono ?_;rintro e w3 ⟨rfl,rfl⟩)|(go_at_call 205;refine (isArith_c _ _).mono ?_;rintro e w4 ⟨rfl,rfl⟩))
     go_ret2
     exact ⟨by rw [hno.out];rfl,Chg.refl _ _⟩
   · have hno:=Lib.hid (show numDo 4 a b=(numWrap (a.tdiv b),true) by simp [numDo,ha,hb,hz])
     have hu:=fun wx=>unw4_c a b wx ba hz
     have hz2:(b==0)=false:=by simpa using hz
     clear ba bb
     go_enter Tryz.func175,Tryz.ntmps175
     go_wp2_with (first|(go_at_call 63;refine (implNumOk_c _ _).mono ?_;rintro e w3 ⟨rfl,rfl⟩)|(go_at_call 205;refine (isArith_c _ _).mono ?_;rintro e w4 ⟨rfl,rfl⟩)|(go_at_call 207;refine (hu _).mono ?_;rintro e w5 ⟨rfl,hc5⟩)|(go_at_call 206;refine (implNumWrap_c _ _).mono ?_;rintro e w6 ⟨rfl,rfl⟩))
     go_ret2
     exact ⟨by rw [hno.out];rfl,hc5⟩
end Go.Proofs.YtjakhnhnjhafgaaGreat.Wk
namespace Go.Proofs.YtjakhnhnjhafgaaGreat.Wk
open Go Go.RowKit Go.Deep Ow
open Rp (R sz)
def framesB(p:PrgProg)(fs:List RunFrame):Bool:=decide (1≤fs.length)&&decide (fs.length≤5)&&nestTo p fs fs.length
theorem framesB_no{p:PrgProg}{fs:List RunFrame}{k:Nat}(hlt:k<fs.length)(h:placeOk p fs k=false):framesB p fs=false:=by
 unfold framesB
 rw [nestTo_false h hlt,Bool.and_false]
theorem place_none{p:PrgProg}{fs:List RunFrame}{k:Nat}(hlt:k<fs.length)(h:prgAt p fs[k].Proc fs[k].Pc=none):placeOk p fs k=false:=by
 rw [placeOk_at hlt]
 unfold frameOk
 rw [h]
 rfl
theorem place_frame{p:PrgProg}{fs:List RunFrame}{k:Nat}(hlt:k<fs.length)(h:frameOk p fs[k]=false):placeOk p fs k=false:=by
 rw [placeOk_at hlt,h]
 rfl
theorem frame_V{p:PrgProg}{f:RunFrame}(h:numsOk f.Vars 4=false):frameOk p f=false:=by simp [frameOk,h]
theorem frame_C{p:PrgProg}{f:RunFrame}(h:numsOk f.Cells 4=false):frameOk p f=false:=by simp [frameOk,h]
theorem frame_yes{p:PrgProg}{f:RunFrame}{i:InsIns}(hx:prgAt p f.Proc f.Pc=some i)(h1:numsOk f.Vars 4=true)(h2:numsOk f.Cells 4=true):frameOk p f=true:=by simp [frameOk,hx,h1,h2]
theorem place_op{p:PrgProg}{fs:List RunFrame}{k:Nat}{i:InsIns}(hlt:k<fs.length)(hl:k+1<fs.length)(hx:prgAt p fs[k].Proc fs[k].Pc=some i)(h:(i.Op==10)=false):placeOk p fs k=false:=by
 rw [placeOk_at hlt,linkOk_in hl hx,h]
 simp
theorem place_to{p:PrgProg}{fs:List RunFrame}{k:Nat}{i:InsIns}(hlt:k<fs.length)(hl:k+1<fs.length)(hx:prgAt p fs[k].Proc fs[k].Pc=some i)(h:(i.To==fs[k+1].Proc)=false):placeOk p fs k=false:=by
 rw [placeOk_at hlt,linkOk_in hl hx,h]
 simp
theorem place_in{p:PrgProg}{fs:List RunFrame}{k:Nat}{i:InsIns}(hlt:k<fs.length)(hl:k+1<fs.length)(hx:prgAt p fs[k].Proc fs[k].Pc=some i)(hf:frameOk p fs[k]=true)(h1:(i.Op==10)=true)(h2:(i.To==fs[k+1].Proc)=true):placeOk p fs k=true:=by
 rw [placeOk_at hlt,linkOk_in hl hx,hf,h1,h2]
 rfl
theorem place_last{p:PrgProg}{fs:List RunFrame}{k:Nat}(hlt:k<fs.length)(hl:¬k+1<fs.length)(hf:frameOk p fs[k]=true):placeOk p fs k=true:=by
 rw [placeOk_at hlt,linkOk_last hl,hf]
 rfl
set_option maxRecDepth 100000 in
set_option maxHeartbeats 4000000 in
theorem implFrames_c(p:PrgProg)(fs:List RunFrame)(vP vF:Value)(FP FF:List Nat)(w:World)(hP:RL w p.Procs vP FP)(h:RL w fs vF FF):
 Calls Tryz.prog 127 #[.agg #[vP],vF] w fun e w'=>e=.returned (.bool (framesB p fs))∧Chg [] w w':=by
 obtain ⟨AP,cP,rfl,-,-⟩:=hP.form
 obtain ⟨A,ca,rfl,hl,hm⟩:=h.form
 have hn:fs.length≤maxLen:=by omega
 unfold maxLen at hn
 by_cases h1:fs.length<1
 case pos=>
  have hno:=Lib.hid (show framesB p fs=false by unfold framesB;rw [decide_eq_false (show ¬1≤fs.length by omega)];rfl)
  clear h hP
  go_enter Tryz.func127,Tryz.ntmps127
  go_wp2
  go_ret
  exact ⟨by rw [hno.out];rfl,Chg.c⟩
 by_cases h2:5<fs.length
 case pos=>
  have hno:=Lib.hid (show framesB p fs=false by unfold framesB;rw [decide_eq_false (show ¬fs.length≤5 by omega),Bool.and_false];rfl)
  clear h hP
  go_enter Tryz.func127,Tryz.ntmps127
  go_wp2
  go_ret
  exact ⟨by rw [hno.out];rfl,Chg.c⟩
 have hb5:(fs.length:Int)≤5:=by omega
 have hb1:(1:Int)≤fs.length:=by omega
 have hyes:=Lib.hid (show nestTo p fs fs.length=true→framesB p fs=true by intro hh;unfold framesB;rw [hh];simp;omega)
 go_enter Tryz.func127,Tryz.ntmps127
 go_wp2
 clear h1 h2
 go_loopw [19] (fun i wr=>∃k:Nat,k≤fs.length∧i=.int .i64 k∧Chg [] w wr∧wr.cell? ⟨w.heap.size,0,none⟩=some (.slice AP p.Procs.length cP)∧w.heap.size<wr.heap.size∧nestTo p fs k=true) (fun i _=>fs.length-(intOf i).toNat)
 case atStart=>exact ⟨0,Nat.zero_le _,rfl,Chg.c,by simp,by simp,rfl⟩
 case round=>
  obtain ⟨k,hk,rfl,hc,hcell,hsz,hall⟩:=hrel
  by_cases hlt:k<fs.length
  · obtain ⟨b1,o1,p1,c1,f1,e1,r1,m1,-⟩:=(h.chg0 hc).elem hlt
    obtain ⟨vV,FV,vC,FC,rfl,hF1,-,-,gV,gC⟩:=R_RunFrame.1 r1
    injection e1 with e1 _ e1c
    subst e1 e1c
    have ya0:=m1 0 (by decide)
    have ya1:=m1 1 (by decide)
    have ya2:=m1 2 (by decide)
    have ya3:=m1 3 (by decide)
    simp only [sz_RunFrame,Nat.add_zero,List.getElem?_cons_zero,List.getElem?_cons_succ] at ya0 ya1 ya2 ya3
    obtain ⟨AV,cV,rfl,-,-⟩:=gV.form
    obtain ⟨AC,cC,rfl,-,-⟩:=gC.form
    have hall':=Lib.hid hall
    have hat:=fun (wx:World) (hx:Chg [] w wx)=>implPrgAt_c p fs[k].Proc fs[k].Pc _ _ wx (hP.chg0 hx)
    have hnV:=fun (wx:World) (hx:Chg [] wr wx)=>implNums_c fs[k].Vars _ _ wx (gV.chg0 hx)
    have hnC:=fun (wx:World) (hx:Chg [] wr wx)=>implNums_c fs[k].Cells _ _ wx (gC.chg0 hx)
    clear hP hall
    rcases hx:prgAt p fs[k].Proc fs[k].Pc with _|i
    · clear h gV gC m1 r1
      have hno:=Lib.hid (framesB_no (p:=p) hlt (place_none hlt hx))
      rw [hx] at hat
      simp only [atV,Option.getD_none,Option.isSome_none] at hat
      clear hx hnV hnC
      go_wp2_with (go_at_call 75;refine (hat _ (Chg.c)).mono ?_;rintro e w1 ⟨rfl,hc1⟩;have a2:w1.cell? ⟨wr.heap.size,2,none⟩=some (.slice AV fs[k].Vars.length cV):=hc1.cell0 (by simp);have a3:w1.cell? ⟨wr.heap.size,3,none⟩=some (.slice AC fs[k].Cells.length cC):=hc1.cell0 (by simp);have hA:Chg [] wr w1:=Chg.trans0 (show Chg [] wr _ from Chg.c) hc1;have hzA:=hc1.size;rw [World.size_alloc] at hzA;have hzA2:wr.heap.size<w1.heap.size:=(by omega);clear hc1 hzA)
      go_ret
      exact ⟨by first|rfl|(rw [hno.out];rfl),Chg.k⟩
    rw [hx] at hat
    simp only [atV,Option.getD_some,Option.isSome_some] at hat
    by_cases hV:numsOk fs[k].Vars 4=true
    case neg=>
     rw [Bool.not_eq_true] at hV
     clear h gV gC m1 r1
     have hno:=Lib.hid (framesB_no (p:=p) hlt (place_frame hlt (frame_V hV)))
     rw [hV] at hnV
     clear hx hnC hV
     go_wp2_with (first|(go_at_call 75;refine (hat _ (Chg.c)).mono ?_;rintro e w1 ⟨rfl,hc1⟩;have a2:w1.cell? ⟨wr.heap.size,2,none⟩=some (.slice AV fs[k].Vars.length cV):=hc1.cell0 (by simp);have a3:w1.cell? ⟨wr.heap.size,3,none⟩=some (.slice AC fs[k].Cells.length cC):=hc1.cell0 (by simp);have hA:Chg [] wr w1:=Chg.trans0 (show Chg [] wr _ from Chg.c) hc1;have hzA:=hc1.size;rw [World.size_alloc] at hzA;have hzA2:wr.heap.size<w1.heap.size:=(by omega);clear hc1 hzA)|(go_at_call_of 173 AV;refine (hnV _ (Chg.k)).mono ?_;rintro e w2 ⟨rfl,hc2⟩;have b3:=(Chg.trans0 (show Chg [] w1 _ from Chg.c) hc2).cell0 a3;have i0:w2.cell? ⟨w1.heap.size,0,none⟩=some (.int .i64 i.Op):=hc2.cell0 (by simp);have i7:w2.cell? ⟨w1.heap.size,7,none⟩=some (.int .i64 i.To):=hc2.cell0 (by simp);have hB:Chg [] wr w2:=Chg.trans0 (show Chg [] wr _ from Chg.k) hc2;clear hc2 a2 a3))
     go_ret
     exact ⟨by first|rfl|(rw [hno.out];rfl),Chg.k⟩
    rw [hV] at hnV
    by_cases hC0:numsOk fs[k].Cells 4=true
    case neg=>
     rw [Bool.not_eq_true] at hC0
     clear h gV gC m1 r1
     have hno:=Lib.hid (framesB_no (p:=p) hlt (place_frame hlt (frame_C hC0)))
     rw [hC0] at hnC
     clear hx hV hC0
     go_wp2_with (first|(go_at_call 75;refine (hat _ (Chg.c)).mono ?_;rintro e w1 ⟨rfl,hc1⟩;have a2:w1.cell? ⟨wr.heap.size,2,none⟩=some (.slice AV fs[k].Vars.length cV):=hc1.cell0 (by simp);have a3:w1.cell? ⟨wr.heap.size,3,none⟩=some (.slice AC fs[k].Cells.length cC):=hc1.cell0 (by simp);have hA:Chg [] wr w1:=Chg.trans0 (show Chg [] wr _ from Chg.c) hc1;have hzA:=hc1.size;rw [World.size_alloc] at hzA;have hzA2:wr.heap.size<w1.heap.size:=(by omega);clear hc1 hzA)|(go_at_call_of 173 AV;refine (hnV _ (Chg.k)).mono ?_;rintro e w2 ⟨rfl,hc2⟩;have b3:=(Chg.trans0 (show Chg [] w1 _ from Chg.c) hc2).cell0 a3;have i0:w2.cell? ⟨w1.heap.size,0,none⟩=some (.int .i64 i.Op):=hc2.cell0 (by simp);have i7:w2.cell? ⟨w1.heap.size,7,none⟩=some (.int .i64 i.To):=hc2.cell0 (by simp);have hB:Chg [] wr w2:=Chg.trans0 (show Chg [] wr _ from Chg.k) hc2;clear hc2 a2 a3)|(go_at_call_of 173 AC;refine (hnC _ (Chg.k)).mono ?_;rintro e w3 ⟨rfl,hc3⟩;have j0:=hc3.cell0 i0;have j7:=hc3.cell0 i7;have hC:=hB.trans0 hc3;clear hc3 i0 i7 b3))
     go_ret
     exact ⟨by first|rfl|(rw [hno.out];rfl),Chg.k⟩
    rw [hC0] at hnC
    by_cases hl:k+1<fs.length
    case neg=>
     have hkI:decide ((k:Int)+1<fs.length)=false:=decide_eq_false (by omega)
     have hkJ:(fs.length:Int)≤(k:Int)+1:=by omega
     have hno:=Lib.hid (place_last hlt hl (frame_yes hx hV hC0))
     clear hx hV hC0
     clear h gV gC m1 r1
     go_wp2_with (first|(go_at_call 75;refine (hat _ (Chg.c)).mono ?_;rintro e w1 ⟨rfl,hc1⟩;have a2:w1.cell? ⟨wr.heap.size,2,none⟩=some (.slice AV fs[k].Vars.length cV):=hc1.cell0 (by simp);have a3:w1.cell? ⟨wr.heap.size,3,none⟩=some (.slice AC fs[k].Cells.length cC):=hc1.cell0 (by simp);have hA:Chg [] wr w1:=Chg.trans0 (show Chg [] wr _ from Chg.c) hc1;have hzA:=hc1.size;rw [World.size_alloc] at hzA;have hzA2:wr.heap.size<w1.heap.size:=(by omega);clear hc1 hzA)|(go_at_call_of 173 AV;refine (hnV _ (Chg.k)).mono ?_;rintro e w2 ⟨rfl,hc2⟩;have b3:=(Chg.trans0 (show Chg [] w1 _ from Chg.c) hc2).cell0 a3;have i0:w2.cell? ⟨w1.heap.size,0,none⟩=some (.int .i64 i.Op):=hc2.cell0 (by simp);have i7:w2.cell? ⟨w1.heap.size,7,none⟩=some (.int .i64 i.To):=hc2.cell0 (by simp);have hB:Chg [] wr w2:=Chg.trans0 (show Chg [] wr _ from Chg.k) hc2;clear hc2 a2 a3)|(go_at_call_of 173 AC;refine (hnC _ (Chg.k)).mono ?_;rintro e w3 ⟨rfl,hc3⟩;have j0:=hc3.cell0 i0;have j7:=hc3.cell0 i7;have hC:=hB.trans0 hc3;clear hc3 i0 i7 b3))
     first
     | go_quiet (fail)
     | go_region
     all_goals
      have v9:=hC.cell0 hcell
      have hzC:=hC.size
      go_wp2
      go_roundw
      case rel=>exact ⟨k+1,by omega,by go_num,Chg.k,by first|exact v9|simpa using v9,by simp;omega,by rw [nestTo_succ,hall'.out,hno.out];rfl⟩
      case measure=>simp [intOf];omega
    by_cases h10:(i.Op==10)=true
    case neg=>
     rw [Bool.not_eq_true] at h10
     obtain ⟨z1,z2,z3,zc,zf,ze,zr,zm,-⟩:=(h.chg0 hc).elem hl
     obtain ⟨zV,zFV,zC,zFC,rfl,-,-,-,-,-⟩:=R_RunFrame.1 zr
     injection ze with ze _ zec
     injection ze with ze
     injection ze with ze1 ze2
     subst ze1 ze2 zec
     have ya:=zm 0 (by decide)
     simp only [sz_RunFrame,Nat.add_zero,List.getElem?_cons_zero] at ya
     clear zm zr
     have hkI:(k:Int)+1<fs.length:=by omega
     have hkN:((k:Int)+1).toNat=k+1:=by omega
     have hk0:(0:Int)≤(k:Int)+1:=by omega
     have hno:=Lib.hid (framesB_no (p:=p) hlt (place_op hlt hl hx h10))
     have h10b:(i.Op != 10)=true:=by simpa [bne] using h10
     clear hx hV hC0
     clear h10
     clear h gV gC m1 r1
     go_wp2_with (first|(go_at_call 75;refine (hat _ (Chg.c)).mono ?_;rintro e w1 ⟨rfl,hc1⟩;have a2:w1.cell? ⟨wr.heap.size,2,none⟩=some (.slice AV fs[k].Vars.length cV):=hc1.cell0 (by simp);have a3:w1.cell? ⟨wr.heap.size,3,none⟩=some (.slice AC fs[k].Cells.length cC):=hc1.cell0 (by simp);have hA:Chg [] wr w1:=Chg.trans0 (show Chg [] wr _ from Chg.c) hc1;have hzA:=hc1.size;rw [World.size_alloc] at hzA;have hzA2:wr.heap.size<w1.heap.size:=(by omega);clear hc1 hzA)|(go_at_call_of 173 AV;refine (hnV _ (Chg.k)).mono ?_;rintro e w2 ⟨rfl,hc2⟩;have b3:=(Chg.trans0 (show Chg [] w1 _ from Chg.c) hc2).cell0 a3;have i0:w2.cell? ⟨w1.heap.size,0,none⟩=some (.int .i64 i.Op):=hc2.cell0 (by simp);have i7:w2.cell? ⟨w1.heap.size,7,none⟩=some (.int .i64 i.To):=hc2.cell0 (by simp);have hB:Chg [] wr w2:=Chg.trans0 (show Chg [] wr _ from Chg.k) hc2;clear hc2 a2 a3)|(go_at_call_of 173 AC;refine (hnC _ (Chg.k)).mono ?_;rintro e w3 ⟨rfl,hc3⟩;have j0:=hc3.cell0 i0;have j7:=hc3.cell0 i7;have hC:=hB.trans0 hc3;clear hc3 i0 i7 b3;have yb:=hC.cell0 ya;clear ya))
     first
     | go_quiet (fail)
     | go_region
     all_goals
      go_wp2
      go_ret
      exact ⟨by first|rfl|(rw [hno.out];rfl),Chg.k⟩
    by_cases hto:(i.To==fs[k+1].Proc)=true
    case neg=>
     rw [Bool.not_eq_true] at hto
     obtain ⟨z1,z2,z3,zc,zf,ze,zr,zm,-⟩:=(h.chg0 hc).elem hl
     obtain ⟨zV,zFV,zC,zFC,rfl,-,-,-,-,-⟩:=R_RunFrame.1 zr
     injection ze with ze _ zec
     injection ze with ze
     injection ze with ze1 ze2
     subst ze1 ze2 zec
     have ya:=zm 0 (by decide)
     simp only [sz_RunFrame,Nat.add_zero,List.getElem?_cons_zero] at ya
     clear zm zr
     have hkI:(k:Int)+1<fs.length:=by omega
     have hkN:((k:Int)+1).toNat=k+1:=by omega
     have hk0:(0:Int)≤(k:Int)+1:=by omega
     have hno:=Lib.hid (framesB_no (p:=p) hlt (place_to hlt hl hx hto))
     have h10b:(i.Op != 10)=false:=by simpa [bne] using h10
     have htob:(i.To != fs[k+1].Proc)=true:=by simpa [bne] using hto
     clear hx hV hC0
     clear h10 hto
     clear h gV gC m1 r1
     go_wp2_with (first|(go_at_call 75;refine (hat _ (Chg.c)).mono ?_;rintro e w1 ⟨rfl,hc1⟩;have a2:w1.cell? ⟨wr.heap.size,2,none⟩=some (.slice AV fs[k].Vars.length cV):=hc1.cell0 (by simp);have a3:w1.cell? ⟨wr.heap.size,3,none⟩=some (.slice AC fs[k].Cells.length cC):=hc1.cell0 (by simp);have hA:Chg [] wr w1:=Chg.trans0 (show Chg [] wr _ from Chg.c) hc1;have hzA:=hc1.size;rw [World.size_alloc] at hzA;have hzA2:wr.heap.size<w1.heap.size:=(by omega);clear hc1 hzA)|(go_at_call_of 173 AV;refine (hnV _ (Chg.k)).mono ?_;rintro e w2 ⟨rfl,hc2⟩;have b3:=(Chg.trans0 (show Chg [] w1 _ from Chg.c) hc2).cell0 a3;have i0:w2.cell? ⟨w1.heap.size,0,none⟩=some (.int .i64 i.Op):=hc2.cell0 (by simp);have i7:w2.cell? ⟨w1.heap.size,7,none⟩=some (.int .i64 i.To):=hc2.cell0 (by simp);have hB:Chg [] wr w2:=Chg.trans0 (show Chg [] wr _ from Chg.k) hc2;clear hc2 a2 a3)|(go_at_call_of 173 AC;refine (hnC _ (Chg.k)).mono ?_;rintro e w3 ⟨rfl,hc3⟩;have j0:=hc3.cell0 i0;have j7:=hc3.cell0 i7;have hC:=hB.trans0 hc3;clear hc3 i0 i7 b3;have yb:=hC.cell0 ya;clear ya))
     first
     | go_quiet (fail)
     | go_region
     all_goals
      go_wp2
      go_ret
      exact ⟨by first|rfl|(rw [hno.out];rfl),Chg.k⟩
    obtain ⟨z1,z2,z3,zc,zf,ze,zr,zm,-⟩:=(h.chg0 hc).elem hl
    obtain ⟨zV,zFV,zC,zFC,rfl,-,-,-,-,-⟩:=R_RunFrame.1 zr
    injection ze with ze _ zec
    injection ze with ze
    injection ze with ze1 ze2
    subst ze1 ze2 zec
    have ya:=zm 0 (by decide)
    simp only [sz_RunFrame,Nat.add_zero,List.getElem?_cons_zero] at ya
    clear zm zr
    have hkI:(k:Int)+1<fs.length:=by omega
    have hkN:((k:Int)+1).toNat=k+1:=by omega
    have hk0:(0:Int)≤(k:Int)+1:=by omega
    have hno:=Lib.hid (place_in hlt hl hx (frame_yes hx hV hC0) h10 hto)
    have h10b:(i.Op != 10)=false:=by simpa [bne] using h10
    have htob:(i.To != fs[k+1].Proc)=false:=by simpa [bne] using hto
    clear hx hV hC0
    clear h10 hto
    clear h gV gC m1 r1
    go_wp2_with (first|(go_at_call 75;refine (hat _ (Chg.c)).mono ?_;rintro e w1 ⟨rfl,hc1⟩;have a2:w1.cell? ⟨wr.heap.size,2,none⟩=some (.slice AV fs[k].Vars.length cV):=hc1.cell0 (by simp);have a3:w1.cell? ⟨wr.heap.size,3,none⟩=some (.slice AC fs[k].Cells.length cC):=hc1.cell0 (by simp);have hA:Chg [] wr w1:=Chg.trans0 (show Chg [] wr _ from Chg.c) hc1;have hzA:=hc1.size;rw [World.size_alloc] at hzA;have hzA2:wr.heap.size<w1.heap.size:=(by omega);clear hc1 hzA)|(go_at_call_of 173 AV;refine (hnV _ (Chg.k)).mono ?_;rintro e w2 ⟨rfl,hc2⟩;have b3:=(Chg.trans0 (show Chg [] w1 _ from Chg.c) hc2).cell0 a3;have i0:w2.cell? ⟨w1.heap.size,0,none⟩=some (.int .i64 i.Op):=hc2.cell0 (by simp);have i7:w2.cell? ⟨w1.heap.size,7,none⟩=some (.int .i64 i.To):=hc2.cell0 (by simp);have hB:Chg [] wr w2:=Chg.trans0 (show Chg [] wr _ from Chg.k) hc2;clear hc2 a2 a3)|(go_at_call_of 173 AC;refine (hnC _ (Chg.k)).mono ?_;rintro e w3 ⟨rfl,hc3⟩;have j0:=hc3.cell0 i0;have j7:=hc3.cell0 i7;have hC:=hB.trans0 hc3;clear hc3 i0 i7 b3;have yb:=hC.cell0 ya;clear ya))
    first
    | go_quiet (fail)
    | go_region
    all_goals
     have v9:=hC.cell0 hcell
     have hzC:=hC.size
     go_wp2
     go_roundw
     case rel=>exact ⟨k+1,by omega,by go_num,Chg.k,by first|exact v9|simpa using v9,by simp;omega,by rw [nestTo_succ,hall'.out,hno.out];rfl⟩
     case measure=>simp [intOf];omega
  · obtain rfl:k=fs.length:=by omega
    have hno:=Lib.hid (hyes.out hall)
    clear h hP hyes hall
    go_wp2
    go_ret
    exact ⟨by first|rfl|(rw [hno.out];rfl),hc⟩
end Go.Proofs.YtjakhnhnjhafgaaGreat.Wk
namespace Go.Proofs.YtjakhnhnjhafgaaGreat.Wk
open Go Go.RowKit Go.Deep Ow
open Rp (R sz)
theorem runOk_goes{p:PrgProg}{r:RunRun}(h1:prgOk p=true)(hs:r.State=1)(ho:numOk r.Out=true)(hz:r.Out=0)(hp:r.Proc=0)(hq:r.Pc=0):runOk p r=framesB p r.Frames:=by
 unfold runOk framesB
 rw [h1,hs,ho,hz,hp,hq,←nestOk_eq]
 simp
end Go.Proofs.YtjakhnhnjhafgaaGreat.Wk
namespace Go.Proofs.YtjakhnhnjhafgaaGreat.Wk
open Go Go.RowKit Go.Deep Ow
open Rp (R sz)
theorem cell8{w:World}{n:Nat}{u0 u1 u2 u3 u4 u5 u6 u7:Value}{a:Addr}(ha:a.block≠n):
 ((((((((w.setCell ⟨n,0,none⟩ u0).setCell ⟨n,1,none⟩ u1).setCell ⟨n,2,none⟩ u2).setCell ⟨n,3,none⟩ u3).setCell ⟨n,4,none⟩ u4).setCell ⟨n,5,none⟩ u5).setCell ⟨n,6,none⟩ u6).setCell ⟨n,7,none⟩ u7).cell? a=w.cell? a:=by
 have h:∀(w:World) (j:Nat) (u:Value),(w.setCell ⟨n,j,none⟩ u).cell? a=w.cell? a:=fun w j u=>World.cell?_setCell_other _ _ _ _ (by intro e;apply ha;rw [←e])
 simp only [h]
end Go.Proofs.YtjakhnhnjhafgaaGreat.Wk
namespace Ow
open Go Go.RowKit Go.Deep
theorem RunX.fr{w:World}{X:Nat}{vP v:Value}{x:RunRun}(h:RunX w X vP x v)(fs:List RunFrame):RunX w X vP { x with Frames:=fs } v:=⟨h.c0,h.c1,h.c2,h.c3,h.c4,h.c5,h.fz⟩
end Ow
namespace Go.Proofs.YtjakhnhnjhafgaaGreat.Wk
open Go Go.RowKit Go.Deep Ow
open Rp (R sz)
theorem i64_of{n:Int}(h:numOk n=true):I64 n:=by
 rw [numOk_iff] at h
 unfold I64
 omega
end Go.Proofs.YtjakhnhnjhafgaaGreat.Wk
namespace Go.Proofs.YtjakhnhnjhafgaaGreat.Wk
open Go Go.RowKit Go.Deep Ow
open Rp (R sz)
theorem form3{α:Type}[Rp α]{w:World}{xs:List α}{v:Value}{F:List Nat}(h:RL w xs v F):∃A n c,v=.slice A n c:=by
 obtain ⟨A,c,e,-,-⟩:=h.form
 exact ⟨A,_,c,e⟩
theorem to_i64{p:PrgProg}{proc pc:Int}{i:InsIns}(hp:prgOk p=true)(hi:prgAt p proc pc=some i)(h:i.Op=8∨i.Op=9):I64 i.To:=by
 obtain ⟨k,j,A⟩:=prgAt_facts hp hi
 have hk:=A.hk
 have hr:=(ins_facts A.ok).rest
 have hs:=A.size
 have hb:below i.To p.Procs[k].Code.length=true:=by
  unfold restOk at hr
  rcases h with h|h
  · rw [if_neg (by omega),if_pos h,Bool.and_eq_true] at hr;exact hr.2
  · rw [if_neg (by omega),if_neg (by omega),if_pos h] at hr;exact hr
 unfold below at hb
 simp only [Bool.and_eq_true,decide_eq_true_eq] at hb
 unfold I64
 omega
theorem below_get{n:Int}(h:below n 4=true):∃a:Nat,n=a∧a<4:=by
 unfold below at h
 simp only [Bool.and_eq_true,decide_eq_true_eq] at h
 obtain ⟨a,rfl⟩:=Int.eq_ofNat_of_zero_le h.1
 exact ⟨a,rfl,by omega⟩
end Go.Proofs.YtjakhnhnjhafgaaGreat.Wk
