/- A part of the proof. -/
import Derived.Test.YtjakhnhnjhafgaaGreatK16
import Derived.Test.YtjakhnhnjhafgaaGreatK14
set_option linter.unusedVariables false
set_option linter.unusedSimpArgs false
namespace Ow
open Go Go.RowKit Go.Deep
def pickN(y:X)(f:Nat→X):Nat→Nat→X
 | k,0=>f k
 | k,m+1=>.ite (mkCmp .eql y (.int .i64 k)) (f k) (pickN y f (k+1) m)
theorem pickN_den{e:Env}{y:X}{f:Nat→X}{z:Nat}(hz:intOf (y.den e)=(z:Int)):∀{m k:Nat},k≤z→z≤k+m→(pickN y f k m).den e=(f z).den e:=by
 intro m
 induction m with
 | zero=>
   intro k h1 h2
   obtain rfl:k=z:=by omega
   rfl
 | succ m ih=>
   intro k h1 h2
   simp only [pickN,X.den,mkCmp_den,boolOf_b,cmpI,hz,intOf_i]
   by_cases h:z=k
   · subst h;simp
   · rw [if_neg (by simp;omega)]
     exact ih (by omega) (by omega)
def idxL(n esz:Nat)(x y:X):Option X:=match x with
 | .ptr l sz i j=>some (pickN y (fun k=>.ptr l sz i (j+k*esz)) 0 (n-1))
 | .ep xs=>if isL xs then some (pickN y (fun k=>.ep (ofL ((toL xs).drop (k*esz)))) 0 (n-1)) else none
 | _=>none
def idxT(tab:Tab)(t:TypeId)(x y:X):OX:=match lookT t tab.ar,y.kd with
 | some (n,esz),some (.int _)=>(match decide (0<n),idxL n esz x y with
   | true,some r=>.val (X.mkAnd (mkCmp .leq (.int .i64 0) y) (mkCmp .lss y (.int .i64 n))) r []
   | _,_=>.no)
 | _,_=>.no
def ldL(tab:Tab)(s:Sx)(t:TypeId):X→Option (X×X×List Nat)
 | .ite q a b=>(ldL tab s t a).bind (fun u=>(ldL tab s t b).map (fun v=>(X.mkAnd u.1 v.1,X.mkIte q u.2.1 v.2.1,u.2.2++v.2.2)))
 | a=>match ldX tab s t a with | .val c r pre=>some (c,r,pre)|_=>none
def ldT(tab:Tab)(s:Sx)(t:TypeId)(a:X):OX:=match ldL tab s t a with
 | some (c,r,pre)=>if pre.all (fun l=>(getX s.H l).isSome) then .val c r pre else .no
 | none=>.no
def stL(tab:Tab)(s:Sx)(u:TypeId)(v:X):X→Option (X×Nat×X)
 | .ite q a b=>(stL tab s u v a).bind (fun p=>(stL tab s u v b).bind (fun r=>if p.2.1=r.2.1 then some (X.mkAnd p.1 r.1,p.2.1,X.mkIte q p.2.2 r.2.2) else none))
 | a=>match stX tab s u a v with | .mem c _ ([l,_],_) H _=>(getX H l).map (fun b=>(c,l,b.rows))|_=>none
def stT(tab:Tab)(s:Sx)(u:TypeId)(a v:X):OX:=match stL tab s u v a with
 | some (c,l,rows)=>.mem c .dead ([l,l],[l]) (putX s.H l rows) s.n
 | none=>.no
def rowsF(sz:Nat):Nat→List X→List X
 | 0,_=>[]
 | m+1,l=>ofL (l.take sz)::rowsF sz m (l.drop sz)
def kdsOf : List X→Option Ki
 | []=>some .nil
 | x::xs=>match x.kd with|some k=>(kdsOf xs).map (.cons k)|none=>none
def slT(tab:Tab)(t:TypeId)(x:X):OX:=match lookT t tab.ar,x with
 | some (n,sz),.ep xs=>(match isL xs&&decide (0<sz)&&decide (n*sz≤(toL xs).length)&&decide (n≤1000),kdsOf ((toL xs).take sz) with
   | true,some ks=>(match ks.flat&&ks.ok&&rkIs ks (ofL (rowsF sz n (toL xs)))&&decide (ks.len=sz) with
     | true=>.val (.bool true) (.fz ks (ofL (rowsF sz n (toL xs)))) []
     | false=>.no)
   | _,_=>.no)
 | _,_=>.no
def saT(tab:Tab)(t:TypeId)(x:X):OX:=match lookT t tab.ar,x.kd with
 | some (n,sz),some (.sl cs)=>(match decide (cs.len=sz)&&decide (0<sz)&&decide (0<n)&&cs.ls.all (fun k=>k.one) with
   | true=>.val (mkCmp .leq (.int .i64 n) (.len x)) (.ep (ofL ((List.range n).flatMap (fun i:Nat=>cellsX x (.int .i64 (i:Int)) cs.ls 0)))) []
   | false=>.no)
 | _,_=>.no
def arX(tab:Tab)(o:Oper)(s:Sx):OX:=match o.op with
 | .indexAddr t x y=>idxT tab t (evX s.T x) (evX s.T y)
 | .load t x=>ldT tab s t (evX s.T x)
 | .store t x y=>stT tab s t (evX s.T x) (evX s.T y)
 | .slice t x none none none=>slT tab t (evX s.T x)
 | .sliceToArrayPointer t x=>saT tab t (evX s.T x)
 | _=>.no
section
variable {P:Program} {e:Env} {tab:Tab} {s:Sx} {c r x:X} {pre:List Nat} {o:Oper} {t':Tch} {H:List XB} {n':Nat}
theorem idxT_ok(ht:TabOk P tab){t:Nat}{x y:Operand}(ho:o.op=.indexAddr t x y)(h:idxT tab t (evX s.T x) (evX s.T y)=.val c r pre):OvOk P e o s c r pre:=by
 unfold idxT at h
 split at h
 · rename_i n esz ki har hy
   split at h
   · rename_i r' hn hr
     cases h
     refine .of fun hc=>?_
     have har:=ht.ar _ _ har
     rw [decide_eq_true_eq] at hn
     rw [X.tr_and,mkCmp_tr,mkCmp_tr] at hc
     have e2:=kd_int (e:=e) hy
     generalize hzz:intOf ((evX s.T y).den e)=z at hc e2
     have c1:(0:Int)≤z:=of_decide_eq_true hc.1
     have c2:z<(n:Int):=of_decide_eq_true hc.2
     have hz:intOf ((evX s.T y).den e)=(z.toNat:Int):=by rw [hzz];omega
     unfold idxL at hr
     split at hr
     · rename_i l sz i j hx
       cases hr
       have:=OpT.idxP (P:=P) (ev:=fun y=>(evX s.T y).den e) ho (by show (evX s.T x).den e=_;rw [hx];rfl) e2 har c1 c2
       rw [pickN_den hz (Nat.zero_le _) (by omega)]
       exact this
     · rename_i xs hx
       split at hr
       · rename_i hl
         cases hr
         have:=OpT.idxAE (P:=P) (ev:=fun y=>(evX s.T y).den e) (cs:=(tupOf (xs.den e)).map dOf) ho (by show (evX s.T x).den e=_;rw [hx];rfl) e2 har c1 c2
         rw [pickN_den hz (Nat.zero_le _) (by omega)]
         simp only [X.den,ofL_den]
         rw [toL_den hl] at this
         rw [List.map_drop,List.map_drop]
         exact this
       · cases hr
     · cases hr
   · cases h
 · cases h
theorem hp_mem{l:Nat}{B:Blk}:∀{h:Hp},h.get l=some B→l∈h.map (·.1):=by
 intro h
 induction h with
 | nil=>intro h;cases h
 | cons p h ih=>
   intro hg
   rw [Hp.get_cons] at hg
   split at hg
   · rename_i e;simp [e]
   · exact List.mem_cons_of_mem _ (ih hg)
theorem ldL_load(ht:TabOk P tab){t:TypeId}:∀{a c r:X} {pre:List Nat},ldL tab s t a=some (c,r,pre)→c.tr e→∃pre':Hp,Ow.loadC P pre'.get t (a.den e)=some (r.den e)∧(∀l B,pre'.get l=some B→(s.den e).H.get l=some B)∧∀l∈pre'.map (·.1),l∈pre:=by
 have leaf:∀{a c r:X} {pre:List Nat},(match ldX tab s t a with | .val c r pre=>some (c,r,pre)|_=>none)=some (c,r,pre)→c.tr e→∃pre':Hp,Ow.loadC P pre'.get t (a.den e)=some (r.den e)∧(∀l B,pre'.get l=some B→(s.den e).H.get l=some B)∧∀l∈pre'.map (·.1),l∈pre:=by
  intro a c r pre h hc
  split at h
  · rename_i c' r' p' hl
    cases h
    obtain ⟨pre',h1,h2,h3⟩:=ldX_load (e:=e) ht hl hc
    exact ⟨pre',h1,h2,fun l hl=>h3▸hl⟩
  · cases h
 intro a
 induction a with
 | ite q a b _ iha ihb=>
   intro c r pre h hc
   simp only [ldL,Option.bind_eq_some_iff,Option.map_eq_some_iff,Prod.mk.injEq] at h
   obtain ⟨⟨c1,r1,p1⟩,h1,⟨c2,r2,p2⟩,h2,rfl,rfl,rfl⟩:=h
   rw [X.tr_and] at hc
   simp only [X.den,X.den_ite]
   split
   · obtain ⟨pre',g1,g2,g3⟩:=iha h1 hc.1
     exact ⟨pre',g1,g2,fun l hl=>List.mem_append_left _ (g3 l hl)⟩
   · obtain ⟨pre',g1,g2,g3⟩:=ihb h2 hc.2
     exact ⟨pre',g1,g2,fun l hl=>List.mem_append_right _ (g3 l hl)⟩
 | _=>intro c r pre h hc;exact leaf h hc
theorem ldT_ok(ht:TabOk P tab){t:TypeId}{x:Operand}(ho:o.op=.load t x)(h:ldT tab s t (evX s.T x)=.val c r pre):OvOk P e o s c r pre:=fun hc=>by
 unfold ldT at h
 split at h
 · rename_i c' r' p' hl
   split at h
   · rename_i hh
     cases h
     obtain ⟨pre',h1,h2,h3⟩:=ldL_load (e:=e) ht hl hc
     refine ⟨hbOf s e pre,OpT.loadC ho (loadC_mono (fun l B hB=>?_) h1),fun l B hB=>?_,hbOf_ids fun l hl=>List.all_eq_true.1 hh l hl⟩
     · rw [hbOf_get,if_pos (h3 l (hp_mem hB))];exact h2 l B hB
     · rw [hbOf_get] at hB
       split at hB
       · exact hB
       · cases hB
   · cases h
 · cases h
theorem putX_same{b:XB}{r:X}:∀{H:List XB} {l:Nat},getX H l=some b→getX (putX H l r) l=some ⟨b.l,b.cs,r⟩:=by
 intro H
 induction H with
 | nil=>intro l h;cases h
 | cons b' H ih=>
   intro l h
   simp only [getX] at h
   simp only [putX]
   by_cases hl:l=b'.l
   · rw [if_pos hl] at h ⊢
     cases h
     simp [getX,hl]
   · rw [if_neg hl] at h ⊢
     simp only [getX,if_neg hl]
     exact ih h
theorem stL_ok(ht:TabOk P tab){u:TypeId}{y z:Operand}(ho:o.op=.store u y z):∀{a c:X} {l:Nat} {rows:X},stL tab s u (evX s.T z) a=some (c,l,rows)→(evX s.T y).den e=a.den e→∃b,getX s.H l=some b∧l<s.n ∧
 (c.tr e→OpT P o (fun y=>(evX s.T y).den e) ⟨[(l,.c b.cs.len (rowsC (b.rows.den e)))],[l],[(l,.c b.cs.len (rowsC (rows.den e)))],.dead⟩):=by
 have leaf:∀{a c:X} {l:Nat} {rows:X},(match stX tab s u a (evX s.T z) with | .mem c _ ([l,_],_) H _=>(getX H l).map (fun b=>(c,l,b.rows))|_=>none)=some (c,l,rows)→(evX s.T y).den e=a.den e→∃b,getX s.H l=some b∧l<s.n ∧
  (c.tr e→OpT P o (fun y=>(evX s.T y).den e) ⟨[(l,.c b.cs.len (rowsC (b.rows.den e)))],[l],[(l,.c b.cs.len (rowsC (rows.den e)))],.dead⟩):=by
  intro a c l rows h ha
  split at h
  · rename_i c' x' l' l2 t2 H' n2 hs
    obtain ⟨l0,b,rows0,hb,hl,rfl,ht',-,-,hop⟩:=stX_spec (e:=e) ht ho ha hs
    simp only [Prod.mk.injEq,List.cons.injEq] at ht'
    obtain ⟨⟨rfl,-⟩,-⟩:=ht'
    rw [putX_same hb] at h
    simp only [Option.map_some,Option.some.injEq,Prod.mk.injEq] at h
    obtain ⟨rfl,rfl,rfl⟩:=h
    exact ⟨b,hb,hl,hop⟩
  · cases h
 intro a
 induction a with
 | ite q a b _ iha ihb=>
   intro c l rows h hden
   simp only [stL,Option.bind_eq_some_iff] at h
   obtain ⟨⟨c1,l1,r1⟩,h1,⟨c2,l2,r2⟩,h2,h⟩:=h
   split at h
   · rename_i hl
     simp only at hl
     subst hl
     simp only [Option.some.injEq,Prod.mk.injEq] at h
     obtain ⟨rfl,rfl,rfl⟩:=h
     simp only [X.den] at hden
     simp only [X.tr_and,X.den_ite]
     split at hden
     · rename_i hq
       obtain ⟨b,g1,g2,g3⟩:=iha h1 hden
       exact ⟨b,g1,g2,fun hc=>by rw [if_pos hq];exact g3 hc.1⟩
     · rename_i hq
       obtain ⟨b,g1,g2,g3⟩:=ihb h2 hden
       exact ⟨b,g1,g2,fun hc=>by rw [if_neg hq];exact g3 hc.2⟩
   · cases h
 | _=>intro c l rows h hden;exact leaf h hden
theorem stT_ok(ht:TabOk P tab){u:TypeId}{y z:Operand}(ho:o.op=.store u y z)(h:stT tab s u (evX s.T y) (evX s.T z)=.mem c x t' H n'):OmOk P e o s c x t' H n':=by
 unfold stT at h
 split at h
 · rename_i c' l rows hl
   cases h
   obtain ⟨b,hb,hlt,hop⟩:=stL_ok (e:=e) ht ho hl rfl
   exact .upd hb hlt hop
 · cases h
theorem rowsF_ok{sz:Nat}:∀{m:Nat} {l:List X},m*sz≤l.length→(rowsF sz m l).length=m∧∀i,i<m→(rowsF sz m l)[i]? = some (ofL ((l.drop (i*sz)).take sz)):=by
 intro m
 induction m with
 | zero=>intro l h;exact ⟨rfl,fun i hi=>absurd hi (Nat.not_lt_zero i)⟩
 | succ m ih=>
   intro l h
   rw [Nat.succ_mul] at h
   obtain ⟨h1,h2⟩:=ih (l:=l.drop sz) (by rw [List.length_drop];omega)
   refine ⟨by simp [rowsF,h1],fun i hi=>?_⟩
   cases i with
   | zero=>simp [rowsF]
   | succ i=>
     simp only [rowsF,List.getElem?_cons_succ]
     rw [h2 i (by omega),List.drop_drop]
     congr 4
     rw [Nat.succ_mul];omega
theorem slT_ok (ht : TabOk P tab) {t:Nat} {x:Operand} (ho:o.op=.slice t x none none none) (h:slT tab t (evX s.T x)=.val c r pre):OvOk P e o s c r pre:=by
 unfold slT at h
 split at h
 · rename_i n sz xs har hx
   split at h
   · rename_i ks hc hk
     simp only [Bool.and_eq_true,decide_eq_true_eq] at hc
     obtain ⟨⟨⟨h1,h2⟩,h3⟩,h4⟩:=hc
     split at h
     · rename_i hk2
       simp only [Bool.and_eq_true,decide_eq_true_eq] at hk2
       obtain ⟨⟨⟨k1,k2⟩,k3⟩,rfl⟩:=hk2
       cases h
       refine .of fun _=>?_
       obtain ⟨r1,r2⟩:=rowsF_ok (l:=toL xs) h3
       have hrows:(tupOf ((ofL (rowsF ks.len n (toL xs))).den e))=(rowsF ks.len n (toL xs)).map (X.den e):=ofL_den _
       have hrk:=rkIs_ok (e:=e) k3
       have hlen:((tupOf ((ofL (rowsF ks.len n (toL xs))).den e)).map (fun c=>ks.row ((tupOf c).map dOf))).length=n:=by rw [hrows];simp [r1]
       refine OpT.slcE (P:=P) (ev:=fun y=>(evX s.T y).den e) (cs:=(tupOf (xs.den e)).map dOf) ho (by show (evX s.T x).den e=_;rw [hx];rfl) (ht.ar _ _ har) h2 hlen (by unfold Go.maxLen;omega) (fun q hq=>?_) (fun i j z hz=>?_)
       · obtain ⟨c,-,rfl⟩:=List.mem_map.1 hq
         exact row_len k1 _
       · rw [hrows, List.map_map] at hz
         unfold at2 at hz
         rw [List.getElem?_map] at hz
         by_cases hi:i<n
         · rw [r2 i hi] at hz
           simp only [Option.map_some,Option.bind_some,Function.comp,ofL_den] at hz
           have hm:(((toL xs).drop (i*ks.len)).take ks.len).map (X.den e)∈rowsC ((ofL (rowsF ks.len n (toL xs))).den e):=by
            unfold rowsC
            rw [hrows,List.map_map]
            refine List.mem_map.2 ⟨ofL (((toL xs).drop (i*ks.len)).take ks.len),List.mem_of_getElem? (r2 i hi),?_⟩
            simp [ofL_den]
           have hK:=hrk _ hm
           have hj:j<ks.ls.length:=by
            have:=(List.getElem?_eq_some_iff.1 hz).1
            rw [row_len k1] at this;rw [ls_len];exact this
           have hkj:=List.getElem?_eq_getElem hj
           rw [row_get k1 hkj] at hz
           rw [toL_den h1,List.getElem?_map,List.getElem?_map]
           have hjl:j<ks.len:=by rw [←ls_len];exact hj
           have hb:i*ks.len+ks.len≤n*ks.len:=by rw [←Nat.succ_mul];exact Nat.mul_le_mul_right _ hi
           have hg:(toL xs)[i*ks.len+j]? = some ((toL xs)[i*ks.len+j]'(by omega)):=List.getElem?_eq_getElem (by omega)
           rw [hg]
           simp only [Option.map_some,Option.some.injEq] at hz ⊢
           rw [←hz]
           have hrow:((((toL xs).drop (i*ks.len)).take ks.len).map (X.den e))[j]? = some (((toL xs)[i*ks.len+j]'(by omega)).den e):=by
            rw [List.getElem?_map,List.getElem?_take,if_pos hjl,List.getElem?_drop,hg];rfl
           by_cases hone:ks.ls[j].one=true
           · have:=hK.2 j _ _ hkj hone hrow
             rw [List.getD_eq_getElem?_getD,List.getElem?_map,hrow]
             simp only [Option.map_some,Option.getD_some]
             have h9:=congrArg dOf this
             rw [dOf_d] at h9
             exact h9
           · exfalso
             have hkk:∀(l:List X) (ks:Ki),kdsOf l=some ks→∀k∈ks.ls,k.one=true:=by
              intro l
              induction l with
              | nil=>intro ks h;cases h;intro k hk;simp [Ki.ls] at hk
              | cons y l ih=>
                intro ks h
                unfold kdsOf at h
                split at h
                · rename_i k hk
                  obtain ⟨k',h1,rfl⟩:=Option.map_eq_some_iff.1 h
                  intro q hq
                  rcases List.mem_cons.1 hq with rfl|hq
                  · exact (kd_ok (e:=e) hk).1
                  · exact ih _ h1 q hq
                · cases h
             exact hone (hkk _ _ hk _ (List.getElem_mem hj))
         · rw [List.getElem?_eq_none (by omega)] at hz
           cases hz
     · cases h
   · cases h
 · cases h
theorem saT_ok(ht:TabOk P tab){t:Nat}{x:Operand}(ho:o.op=.sliceToArrayPointer t x)(h:saT tab t (evX s.T x)=.val c r pre):OvOk P e o s c r pre:=by
 have kS:=fun (sz n:Nat) (els:List (List D)) (cs:List D)=>OpT.s2a (P:=P) (o:=o) (ev:=fun y=>(evX s.T y).den e) (sz:=sz) (n:=n) (els:=els) (cs:=cs) ho
 revert h kS
 generalize evX s.T x=a
 intro h kS
 unfold saT at h
 split at h
 · rename_i n sz cs har hk
   split at h
   · rename_i hc0
     simp only [Bool.and_eq_true,decide_eq_true_eq] at hc0
     obtain ⟨⟨⟨rfl,h0⟩,h1⟩,hall⟩:=hc0
     cases h
     refine .of fun hc=>?_
     obtain ⟨k1,k2,k3,k4⟩:=kd_sl (e:=e) hk
     rw [mkCmp_tr] at hc
     have hlen:lenOf (a.den e)=(elsOf (a.den e)).length:=by generalize hz:elsOf (a.den e)=z at k3 ⊢;rw [k3];rfl
     have hn:((n:Nat):Int)≤((lenOf (a.den e):Nat):Int):=of_decide_eq_true hc
     rw [hlen] at hn
     have hn:n≤(elsOf (a.den e)).length:=by omega
     have hrow:∀i,i<n→((cellsX a (.int .i64 (i:Int)) cs.ls 0).map (X.den e)).map dOf=(elsOf (a.den e)).getD i []:=fun i hi=>by
      have hil:i<(elsOf (a.den e)).length:=by omega
      have hr:cs.row ((elsOf (a.den e)).getD i [])=(elsOf (a.den e)).getD i []:=by
       have h1:((elsOf (a.den e)).map cs.row).getD i []=(elsOf (a.den e)).getD i []:=by rw [k4]
       simpa [List.getD_eq_getElem?_getD,hil] using h1
      rw [cellsX_den]
      simp only [X.den,intOf_i,Int.toNat_natCast,Nat.zero_add]
      exact (row_cells k1 hr).symm
     refine kS cs.len n (elsOf (a.den e)) _ k3 (ht.ar _ _ har) h0 h1 hn (fun k z hz=>?_)
     rw [ofL_den,List.map_flatMap,List.map_flatMap] at hz
     have e1:(List.range n).flatMap (fun i:Nat=>((cellsX a (.int .i64 (i:Int)) cs.ls 0).map (X.den e)).map dOf)=((List.range n).map (fun i=>(elsOf (a.den e)).getD i [])).flatten:=by
      rw [List.flatMap_def]
      congr 1
      exact List.map_congr_left fun i hi=>hrow i (List.mem_range.1 hi)
     rw [e1] at hz
     have hl:∀q∈(List.range n).map (fun i=>(elsOf (a.den e)).getD i []),q.length=cs.len:=fun q hq=>by
      obtain ⟨i,hi,rfl⟩:=List.mem_map.1 hq
      rw [←hrow i (List.mem_range.1 hi),cellsX_den,List.length_mapIdx,ls_len]
     have:=flat_at2 h0 hl hz
     unfold at2 at this ⊢
     rw [List.getElem?_map] at this
     by_cases hi:k / cs.len<n
     · rw [List.getElem?_range hi] at this
       rw [List.getElem?_eq_getElem (show k / cs.len<(elsOf (a.den e)).length by omega)]
       simpa [List.getD_eq_getElem?_getD,show k / cs.len<(elsOf (a.den e)).length by omega] using this
     · rw [List.getElem?_eq_none (by simpa using hi)] at this
       cases this
   · cases h
 · cases h
theorem arX_ok(ht:TabOk P tab)(h:arX tab o s=.val c r pre):OvOk P e o s c r pre:=by
 unfold arX at h
 generalize hop:o.op=op at h
 split at h
 · exact idxT_ok ht hop h
 · exact ldT_ok ht hop h
 · unfold stT at h;split at h<;>cases h
 · exact slT_ok ht hop h
 · exact saT_ok ht hop h
 · cases h
theorem arX_mem(ht:TabOk P tab)(h:arX tab o s=.mem c x t' H n'):OmOk P e o s c x t' H n':=by
 unfold arX at h
 generalize hop:o.op=op at h
 split at h
 · unfold idxT at h;split at h<;>(try cases h);split at h<;>cases h
 · unfold ldT at h;split at h<;>(try cases h);split at h<;>cases h
 · exact stT_ok ht hop h
 · unfold slT at h;split at h<;>(try cases h);split at h<;>(try cases h);split at h<;>cases h
 · unfold saT at h;split at h<;>(try cases h);split at h<;>cases h
 · cases h
end
end Ow
namespace Ow
open Go Go.RowKit Go.Deep
section
variable {P:Program} {o:Oper} {ev:Operand→C}
theorem OpT.nilSl{x y:Operand}{t t':TypeId}{op:BinOp}{b:Bool}{n:Nat}{els:List (List D)}(ho:o.op=.binOp op t x y t')(hy:ev y=.d (.lit (.slice none 0 0)))(hx:ev x=.d (.sl n els))(hne:els≠[])(ht:lenT P t=some false)
 (hb:op=.eql∧b=false∨op=.neq∧b=true):OpT P o ev ⟨[],[],[],.d (.lit (.bool b))⟩:=
 .read [] _ fun ρ F RO w a _ hr=>by
  have h1:=hr x (by rw [ho];simp [Op.operands])
  have h2:=hr y (by rw [ho];simp [Op.operands])
  refine ⟨.bool b,?_,.lit' _⟩
  unfold execOp;rw [ho]
  rw [hy] at h2
  rw [hx] at h1
  have e2:=RelC.lit_eq h2
  unfold lenT at ht
  split at ht
  all_goals first|cases ht|skip
  rename_i e hu
  generalize ha:a.eval x=z at h1
  have:∃p l c,z=.slice (some p) l c:=by
   cases h1 with|d x v h=>cases h with
    | nil=>exact absurd rfl hne
    | sl=>exact ⟨_,_,_,rfl⟩
  obtain ⟨p,l,c,rfl⟩:=this
  rcases hb with ⟨rfl,rfl⟩|⟨rfl,rfl⟩<;>simp [ha,e2,eqGuard,run_binE (P:=P) (w:=w) (t:=t) (x:=.slice (some p) l c) (y:=.slice none 0 0) (b:=false) (fun d=>by simp [Op.equalIn,run_underlying hu]) rfl,run_binN (P:=P) (w:=w) (t:=t) (x:=.slice (some p) l c) (y:=.slice none 0 0) (b:=false) (fun d=>by simp [Op.equalIn,run_underlying hu]) rfl]
end
end Ow
namespace Ow
open Go Go.RowKit Go.Deep
def nsX(tab:Tab)(op:BinOp)(t:TypeId)(x:X):OX:=match lookT t tab.len,x.kd with
 | some false,some (.sl _)=>(match op with
   | .eql=>.val (mkCmp .lss (.int .i64 0) (.len x)) (.bool false) []
   | .neq=>.val (mkCmp .lss (.int .i64 0) (.len x)) (.bool true) []
   | _=>.no)
 | _,_=>.no
theorem nsX_ok{P:Program}{tab:Tab}{e:Env}{o:Oper}{s:Sx}{c r:X}{pre:List Nat}(ht:TabOk P tab){op:BinOp}{t u:Nat}{x y:Operand}(ho:o.op=.binOp op t x y u)(hy:evX s.T y=.nilS)(h:nsX tab op t (evX s.T x)=.val c r pre):OvOk P e o s c r pre:=by
 have kS:=fun (b:Bool) (n:Nat) (els:List (List D))=>OpT.nilSl (P:=P) (o:=o) (ev:=fun y=>(evX s.T y).den e) (b:=b) (n:=n) (els:=els) ho (by show (evX s.T y).den e=_;rw [hy];rfl)
 revert h kS
 generalize evX s.T x=a
 intro h kS
 unfold nsX at h
 split at h
 · rename_i cs hl hk
   obtain ⟨k1,k2,k3,k4⟩:=kd_sl (e:=e) hk
   have key:(mkCmp .lss (.int .i64 0) (.len a)).tr e→elsOf (a.den e)≠[]:=fun hc hz=>by
    rw [mkCmp_tr] at hc
    have hlen:lenOf (a.den e)=(elsOf (a.den e)).length:=by generalize hz:elsOf (a.den e)=z at k3 ⊢;rw [k3];rfl
    have hn:(0:Int)<((lenOf (a.den e):Nat):Int):=of_decide_eq_true hc
    rw [hlen,hz] at hn
    simp at hn
   split at h
   · cases h
     exact .of fun hc=>kS false cs.len (elsOf (a.den e)) k3 (key hc) (ht.len _ _ hl) (.inl ⟨rfl,rfl⟩)
   · cases h
     exact .of fun hc=>kS true cs.len (elsOf (a.den e)) k3 (key hc) (ht.len _ _ hl) (.inr ⟨rfl,rfl⟩)
   · cases h
 · cases h
end Ow
namespace Ow
open Go Go.RowKit Go.Deep
def blkD(c:C):Blk:=match c with | .tup [a,r]=>.c (intOf a).toNat (rowsC r)|_=>.c 0 []
def hpD : Nat→List C→Hp
 | _,[]=>[]
 | i,c::cs=>(i,blkD c)::hpD (i+1) cs
def ECD(P:Program):List C→Prop
 | [f,a,h,v,h',k']=>EC P (intOf f).toNat (tupOf h).length (tupOf a) (hpD 0 (tupOf h)) v (hpD 0 (tupOf h')) (intOf k').toNat
 | _=>False
open Classical in
noncomputable def evE(P:Program)(u:Env):Env:={ u with B:=fun i az=>if i=9 then decide (ECD P az) else u.B i az }
def EvOk(P:Program)(e:Env):Prop:=∀az,e.B 9 az=true→ECD P az
theorem evE_ok{P:Program}{u e:Env}(h:Like (evE P u) e):EvOk P e:=fun az ha=>by
 rw [(h 9 (by decide)).2.1] at ha
 simpa [evE] using ha
def numB : Nat→List (Ki×X)→List XB
 | _,[]=>[]
 | i,(cs,r)::l=>⟨i,cs,r⟩::numB (i+1) l
def encB : List (Ki×X)→X
 | []=>.nil
 | (cs,r)::l=>.cons (.tup (.cons (.int .i64 cs.len) (.cons r .nil))) (encB l)
theorem encB_ok{e:Env}:∀(l:List (Ki×X)) (i:Nat),hpD i (tupOf ((encB l).den e))=(numB i l).map (XB.den e)∧(tupOf ((encB l).den e)).length=l.length:=by
 intro l
 induction l with
 | nil=>intro i;exact ⟨rfl,rfl⟩
 | cons p l ih=>
   intro i
   obtain ⟨cs,r⟩:=p
   obtain ⟨h1,h2⟩:=ih (i+1)
   simp only [encB,X.den,tupOf_t,hpD,numB,List.map_cons,h1,XB.den,blkD,intOf_i,List.length_cons,h2,and_true]
   rfl
def ecX(f:Nat)(args:List X)(h:List (Ki×X))(v:X)(h':List (Ki×X))(k':Nat):X:=
 .atb 9 (ofL [.int .i64 f,.tup (ofL args),.tup (encB h),v,.tup (encB h'),.int .i64 k'])
theorem ecX_ok{P:Program}{e:Env}(he:EvOk P e){f:Nat}{args:List X}{h:List (Ki×X)}{v:X}{h':List (Ki×X)}{k':Nat}(hc:(ecX f args h v h' k').tr e):
 EC P f h.length (args.map (X.den e)) ((numB 0 h).map (XB.den e)) (v.den e) ((numB 0 h').map (XB.den e)) k':=by
 have h1:=he _ (show e.B 9 _=true from hc)
 simp only [ofL_den,List.map_cons,List.map_nil,ECD,X.den,tupOf_t,intOf_i,(encB_ok _ _).1,(encB_ok _ 0).2,Int.toNat_natCast,ofL_den] at h1
 exact h1
def frK(k:Ki)(id:Nat):Option X:=match k with
 | .int k=>some (.ati k id .nil)
 | .bool=>some (.atb id .nil)
 | .str=>some (.ats id .nil)
 | .sl cs=>some (.atl cs id .nil)
 | _=>none
def frKs : List Ki→Nat→Option (List X)
 | [],_=>some []
 | k::ks,id=>(frK k id).bind (fun x=>(frKs ks (id+1)).map (x::·))
def frT(kb:Kb)(t id:Nat):Option X:=match lookT t kb.rk with
 | some ks=>(frKs ks id).bind (fun xs=>match lookT t kb.tab.ag with
   | some true=>some (.agg (ofL xs))
   | _=>match xs with | [x]=>some x|_=>none)
 | none=>none
def frTs(kb:Kb):List Nat→Nat→Option (List X)
 | [],_=>some []
 | t::ts,id=>(frT kb t id).bind (fun x=>(frTs kb ts (id+30)).map (x::·))
def oneT : List X→X
 | [x]=>x
 | xs=>.tup (ofL xs)
def genX0(kb:Kb)(q f:Nat)(ys:List X):Option (X×X):=(lookT f kb.rt).bind (fun ts=>(frTs kb ts (q*1000)).map (fun vs=>(ecX f ys [] (oneT vs) [] 0,oneT vs)))
def genX(kb:Kb)(q f:Nat)(ys:List X):Option (X×X):=match look f kb.md with
 | some g=>(g ys).map (fun v=>(ecX f ys [] v [] 0,v))
 | none=>genX0 kb q f ys
def X.pids : X→List Nat
 | .ptr l _ _ _=>[l] | .osl l _ _ _=>[l]
 | .cons a b=>a.pids++b.pids | .app a b=>a.pids++b.pids | .fn _ a b=>a.pids++b.pids
 | .agg a=>a.pids | .tup a=>a.pids | .ifc _ a=>a.pids
 | .ite _ x y=>x.pids++y.pids
 | _=>[]
def addAll(acc l:List Nat):List Nat:=l.foldl (fun a x=>if a.contains x then a else a++[x]) acc
def cloX(s:Sx):Nat→List Nat→List Nat
 | 0,a=>a
 | n+1,a=>cloX s n (addAll a (a.flatMap (fun l=>match getX s.H l with|some b=>b.rows.pids|none=>[])))
def sgP(s:Sx)(xs:List X):List Nat:=cloX s 3 (addAll [] (xs.flatMap (fun x=>match x with | .ptr l _ _ _=>[l]|_=>[])))
def sgOf(s:Sx)(oh:Bool)(xs:List X):List Nat:=if oh then addAll (sgP s xs) (xs.flatMap X.pids) else sgP s xs
def idB(q i:Nat):Nat:=q*1000+200+100*i
def afR(q i:Nat)(cs:Ki)(r:X)(cell:X→Nat→X):X:=match r with
 | .cons row .nil=>if isL row then .cons (ofL ((toL row).mapIdx (fun j x=>cell x (idB q i+j)))) .nil else r
 | r=>if rkIs cs r&&cs.flat&&cs.ok then .rws cs (idB q i) .nil else r
def cellA(s:Sx)(sg:List Nat)(q:Nat)(x:X)(id:Nat):X:=match x with
 | .ptr l sz i j=>.ptr l sz i j
 | .osl l sz a n=>match getX s.H (sg.getD l 0) with|some b=>.osl l sz a (mkRln (afR q l b.cs b.rows (fun x _=>x)))|none=>.osl l sz a n
 | x=>match x.kd with|some (.sl _)=>x|some k=>(frK k id).getD x|none=>x
def rowsA(s:Sx)(sg:List Nat)(q:Nat):Nat→List (Ki×X)→List (Ki×X)
 | _,[]=>[]
 | i,(cs,r)::l=>(cs,afR q i cs r (cellA s sg q))::rowsA s sg q (i+1) l
def ownL : Nat→List X→List X×List (Ki×X)
 | _,[]=>([],[])
 | n,x::xs=>match x with
   | .atl cs id .nil=>(.osl n cs.len (.int .i64 0) (mkRln (.rws cs id .nil))::(ownL (n+1) xs).1,(cs,.rws cs id .nil)::(ownL (n+1) xs).2)
   | x=>(x::(ownL n xs).1,(ownL n xs).2)
def ownV(n:Nat):List X→List X×List (Ki×X)
 | []=>([],[])
 | x :: xs=>match x with
   | .agg l=>let p:=ownL n (toL l);(.agg (ofL p.1)::(ownV (n+p.2.length) xs).1,p.2++(ownV (n+p.2.length) xs).2)
   | x=>let p:=ownL n [x];(p.1++(ownV (n+p.2.length) xs).1,p.2++(ownV (n+p.2.length) xs).2)
def genN(kb:Kb)(q f:Nat)(ks:List Ki)(ts:List TypeId)(s:Sx)(xs:List X):Option Bc:=
 (kisOf kb.rk ts).bind (fun k2=>(frKs ks (q*1000)).map (fun row=>
   let ys:=(xs.zip k2).map (fun p=>match cvR s p.2 p.1 with|some r=>r.1|none=>.dead)
   let h':=[(anyK ks.length,X.cons (ofL row) .nil)]
   let p:X:=.ptr 0 ks.length (.int .i64 0) 0
   let v:X:=match (lookT f kb.rt).bind (fun rt=>frTs kb rt.tail (q*1000+200)) with|some (x::xs)=>.tup (ofL (p::x::xs))|_=>p
   ⟨0,1,[],ys,[],ecX f ys [] v h' 1,v,numB 0 h'⟩))
def genC(kb:Kb)(q f:Nat)(ts:List TypeId)(s:Sx)(xs:List X):Option Bc:=
 (lookT f kb.rt).bind (fun rt=>(kisOf kb.rk ts).bind (fun ks=>(frTs kb rt (q*1000)).map (fun vs=>
   let sg:=sgOf s (kb.oh.contains f) xs
   let h:=sg.map (fun l=>match getX s.H l with|some b=>(b.cs,b.rows.ren (sgI sg))|none=>(.nil,.nil))
   let ys:=(xs.zip ks).map (fun p=>if p.1.pids.all sg.contains then p.1.ren (sgI sg) else match cvR s p.2 p.1 with|some r=>r.1|none=>.dead)
   let h':=rowsA s sg q 0 (h.take (sgP s xs).length)
   match kb.ow.contains f with
   | false=>⟨h.length,h.length,sg,ys,numB 0 h,ecX f ys h (oneT vs) h' h.length,oneT vs,numB 0 h'⟩
   | true=>let o:=ownV h'.length vs
     ⟨h.length,h.length+o.2.length,sg,ys,numB 0 h,ecX f ys h (oneT o.1) (h'++o.2) (h.length+o.2.length),oneT o.1,numB 0 (h'++o.2)⟩)))
def genB(kb:Kb)(q f:Nat)(ts:List TypeId)(s:Sx)(xs:List X):Option Bc:=match look f kb.pn with
 | some ks=>genN kb q f ks ts s xs
 | none=>genC kb q f ts s xs
def callG(kb:Kb)(q:Nat)(o:Oper)(s:Sx):OX:=match o.op with
 | .call { callee:=.value (.func f),args:=az,argTypes:=ts }=>match callX [(f,genX kb q f)] kb.rk s f (az.toList.map (evX s.T)) ts.toList with
   | .no=>callB [(f,genB kb q f ts.toList)] kb.rk s f (az.toList.map (evX s.T)) ts.toList
   | r=>r
 | _=>.no
def lookM(t:Nat)(n:String):List (Nat×String×Nat)→Option Nat
 | []=>none
 | x::l=>if x.1=t then (if x.2.1=n then some x.2.2 else lookM t n l) else lookM t n l
def resB(op:BinOp)(b:Bool):OX:=match op with
 | .eql=>.val (.bool true) (.bool b) []
 | .neq=>.val (.bool true) (.bool (!b)) []
 | _=>.no
def taZ(kb:Kb)(u:Nat):OX:=match lookT u kb.zr with
 | some zs=>.val (.bool true) (.tup (.cons (.agg (ofL zs)) (.cons (.bool false) .nil))) []
 | none=>.no
def taX(kb:Kb)(u:Nat)(x:X):OX:=match kb.ta.contains u with
 | true=>match x with
   | .ifc t v=>if t=u then .val (.bool true) (.tup (.cons v (.cons (.bool true) .nil))) [] else taZ kb u
   | .nilI=>taZ kb u
   | _=>.no
 | false=>.no
def nlX(kb:Kb)(op:BinOp)(t:Nat)(y:Operand)(a b:X):OX:=match a,b with
 | .ifc _ _,.nilI=>if kb.it.contains t then resB op false else .no
 | .ptr _ _ _ _,.nilP=>if kb.pt.contains t then resB op false else .no
 | .ep _,.nilP=>if kb.pt.contains t then resB op false else .no
 | .nilP,.nilP=>if kb.pt.contains t then resB op true else .no
 | .nilI,.nilI=>(match y with | .const .nilIface=>if kb.it.contains t then resB op true else .no|_=>.no)
 | x,.nilS=>nsX kb.tab op t x
 | _,_=>.no
def callV(kb:Kb)(q f:Nat)(s:Sx)(ks:List (List Ki))(xs:List X):OX:=match cvRs s ks xs with
 | some (ys,ids)=>match genX kb q f ys with
   | some (c,r)=>if r.ids 0=true∧(ids=[]∨r.bare=true)∧ids.all (fun l=>(getX s.H l).isSome)=true then .val c r ids else .no
   | none=>.no
 | none=>.no
def callI(kb:Kb)(q:Nat)(s:Sx)(t:Nat)(v:X)(n:String)(xs:List X)(ts:List TypeId):OX:=match lookM t n kb.mt,kisOf kb.rk (t::ts) with
 | some f,some ks=>callV kb q f s ks (v::xs)
 | _,_=>.no
def callF(kb:Kb)(q:Nat)(s:Sx)(f:Nat)(us ys:X)(xs:List X)(ts:List TypeId):OX:=match isL us&&isL ys,kisOf kb.rk ts with
 | true,some ks=>callV kb q f s ((toL us).map (fun _=>[.any])++ks++(toL ys).map (fun _=>[.any])) (toL us++xs++toL ys)
 | _,_=>.no
def xtX(kb:Kb)(q:Nat)(o:Oper)(s:Sx):OX:=match o.op with
 | .makeInterface t x=>(match lookT t kb.tab.ag with|some true=>.val (.bool true) (.ifc t (evX s.T x)) []|_=>.no)
 | .typeAssert x _ u true=>taX kb u (evX s.T x)
 | .binOp op t x y _=>nlX kb op t y (evX s.T x) (evX s.T y)
 | .makeFunc (.func f) us ys=>.val (.bool true) (.fn f (ofL (us.toList.map (evX s.T))) (ofL (ys.toList.map (evX s.T)))) []
 | .call { callee:=.invoke x n,args:=az,argTypes:=ts }=>(match evX s.T x with | .ifc t v=>callI kb q s t v n (az.toList.map (evX s.T)) ts.toList|_=>.no)
 | .call { callee:=.value g,args:=az,argTypes:=ts }=>(match evX s.T g with | .fn f us ys=>callF kb q s f us ys (az.toList.map (evX s.T)) ts.toList|_=>.no)
 | _=>.no
def opG(kb:Kb)(q:Nat)(o:Oper)(s:Sx):OX:=match opX kb o s with
 | .no=>match callG kb q o s with
   | .no=>match xtX kb q o s with
     | .no=>arX kb.tab o s
     | r=>r
   | r=>r
 | r=>r
theorem genX_ec{P:Program}{e:Env}(he:EvOk P e){kb:Kb}{q f:Nat}{xs:List X}{c r:X}(h:genX kb q f xs=some (c,r))(hc:c.tr e):EC P f 0 (xs.map (X.den e)) [] (r.den e) [] 0:=by
 unfold genX at h
 split at h
 · simp only [Option.map_eq_some_iff,Prod.mk.injEq] at h
   obtain ⟨v,-,rfl,rfl⟩:=h
   exact ecX_ok (h:=[]) (h':=[]) he hc
 · unfold genX0 at h
   simp only [Option.bind_eq_some_iff,Option.map_eq_some_iff,Prod.mk.injEq] at h
   obtain ⟨ts,-,vs,-,rfl,rfl⟩:=h
   exact ecX_ok (h:=[]) (h':=[]) he hc
theorem genX_ok{P:Program}{e:Env}(he:EvOk P e){kb:Kb}{q f:Nat}:CtrOk P e [(f,genX kb q f)]:=by
 intro f' g hm xs c r h hc
 simp only [List.mem_singleton,Prod.mk.injEq] at hm
 obtain ⟨rfl,rfl⟩:=hm
 exact genX_ec he h hc
theorem genB_ok{P:Program}{e:Env}(he:EvOk P e){kb:Kb}{q f:Nat}{ts:List TypeId}:BtrOk P e [(f,genB kb q f ts)]:=by
 intro f' g hm s xs b h hc
 simp only [List.mem_singleton,Prod.mk.injEq] at hm
 obtain ⟨rfl,rfl⟩:=hm
 unfold genB at h
 split at h
 · unfold genN at h
   simp only [Option.bind_eq_some_iff,Option.map_eq_some_iff] at h
   obtain ⟨k2,-,row,-,h⟩:=h
   subst h
   exact ecX_ok (h:=[]) he hc
 unfold genC at h
 simp only [Option.bind_eq_some_iff,Option.map_eq_some_iff] at h
 obtain ⟨rt,-,ks,-,vs,-,h⟩:=h
 split at h<;>subst h<;>exact ecX_ok he hc
theorem callG_ok{P:Program}{e:Env}(he:EvOk P e){kb:Kb}{q:Nat}:OxOk P e (callG kb q):=by
 intro o s
 refine ⟨fun c x pre h hc=>?_,fun c x t H n h hc=>?_⟩
 · refine OvOk.does (c:=c) ?_ hc
   unfold callG at h
   generalize hop:o.op=op at h
   split at h
   · split at h
     · unfold callB at h;split at h<;>(try cases h);split at h<;>(try cases h);split at h<;>(try cases h);split at h<;>cases h
     · exact callX_ok (genX_ok he) hop h
   · cases h
 · have fin : OmOk P e o s c x t H n→∃r,Does P o (s.den e) r n∧((⟨setX s.T o.dst x,H,n⟩:Sx).den e).ab=(s.den e).ab.app o.dst (some r)∧(r.dom,r.chg)=t:=fun h=>h hc
   refine fin ?_
   unfold callG at h
   generalize hop:o.op=op at h
   split at h
   · split at h
     · exact callB_ok (genB_ok he) hop h
     · unfold callX at h
       split at h
       · split at h
         · split at h
           · split at h<;>cases h
           · cases h
         · cases h
       · cases h
   · cases h
section
variable {P:Program} {e:Env} {kb:Kb} {q:Nat} {o:Oper} {s:Sx} {c r:X} {pre:List Nat}
theorem lookM_mem{t:Nat}{n:String}{f:Nat}:∀{l:List (Nat×String×Nat)},lookM t n l=some f→(t,n,f)∈l:=by
 intro l
 induction l with
 | nil=>intro h;cases h
 | cons x l ih=>
   intro h
   simp only [lookM] at h
   split at h
   · rename_i h1
     split at h
     · rename_i h2;cases h;subst h1 h2;exact List.mem_cons_self
     · exact List.mem_cons_of_mem _ (ih h)
   · exact List.mem_cons_of_mem _ (ih h)
theorem callV_ok(he:EvOk P e){f:Nat}{ks:List (List Ki)}{xs:List X}(hent:FnOk P f→Enters P o (fun y=>(evX s.T y).den e) f (xs.map (X.den e)))(h:callV kb q f s ks xs=.val c r pre):OvOk P e o s c r pre:=by
 unfold callV at h
 split at h
 · rename_i ys ids hcv
   split at h
   · rename_i c' r' hgy
     split at h
     · rename_i hh
       cases h
       intro hc
       have he:=genX_ec he hgy hc
       have hids:∀l∈pre,(getX s.H l).isSome=true:=fun l hl=>List.all_eq_true.1 hh.2.2 l hl
       obtain ⟨e1,e2⟩:=cvRs_ok (e:=e) (σ:=id) (n:=0) (hv:=(hbOf s e pre).get) hcv (fun l hl=>by rw [hbOf_get,if_pos hl])
       have hsub:∀l B,(hbOf s e pre).get l=some B→(s.den e).H.get l=some B:=fun l B hB=>by
        rw [hbOf_get] at hB
        split at hB
        · exact hB
        · cases hB
       refine ⟨hbOf s e pre,?_,hsub,hbOf_ids hids⟩
       have:=OpT.call (ev:=fun y=>(evX s.T y).den e) he (hent he.1) (σ:=id) (ids:=[]) (hb:=hbOf s e pre) (pre:=hbOf s e pre)
        ⟨by simpa using e1,fun i a f h1 h2=>e2 i a f h1 h2,
          (fun l B h=>by cases h),(fun l B h=>h),(fun l B h=>by cases h),(fun l B h=>by cases h),(fun l h1 h2=>by omega),(fun l h=>by cases h),(fun l h=>by cases h),(fun l h=>by cases h),(fun l h=>by cases h),(fun l h=>by cases h),(fun x B h=>.inl h),by
          rcases hh.2.1 with h1|h1
          · exact .inl (by rw [h1];rfl)
          · exact .inr ⟨(X.bare_ok h1).1,fun l B h=>by cases h⟩⟩
       rw [(ren_self hh.1).1] at this
       simpa using this
     · cases h
   · cases h
 · cases h
theorem taZ_ok(hk:KbOk P kb){u:Nat}{x:Operand}{xt:Nat}(ho:o.op=.typeAssert x xt u true)(hu:kb.ta.contains u=true)(hx:(∃t v,evX s.T x=.ifc t v∧t≠u)∨evX s.T x=.nilI)(h:taZ kb u=.val c r pre):OvOk P e o s c r pre:=by
 unfold taZ at h
 split at h
 · rename_i zs hz
   cases h
   refine .of fun _=>?_
   have:=OpT.tOther (P:=P) (ev:=fun y=>(evX s.T y).den e) (t':=(match evX s.T x with | .ifc t _=>t|_=>0)) (v:=(match evX s.T x with | .ifc _ v=>v.den e|_=>.dead)) ho ?_ ?_ (hk.ta u hu) (hk.zr u zs hz e)
   · simpa [X.den,tupOf_t,ofL_den] using this
   · rcases hx with ⟨t,v,h1,-⟩|h1
     · left;simp only [h1];rfl
     · right;simp only [h1];rfl
   · intro h2
     rcases hx with ⟨t,v,h1,h3⟩|h1
     · simpa only [h1] using h3
     · simp only [h1] at h2;cases h2
 · cases h
theorem resB_op{op:BinOp}{b:Bool}(h:resB op b=.val c r pre):(∃d,(op=.eql∧d=b∨op=.neq∧d=!b)∧r=.bool d)∧pre=[]:=by
 unfold resB at h
 split at h<;>cases h<;>exact ⟨⟨_,by simp,rfl⟩,rfl⟩
theorem nlX_ok(hk:KbOk P kb){op:BinOp}{t u:Nat}{x y:Operand}(ho:o.op=.binOp op t x y u)(h:nlX kb op t y (evX s.T x) (evX s.T y)=.val c r pre):OvOk P e o s c r pre:=by
 unfold nlX at h
 split at h
 · rename_i hx hy
   split at h
   · rename_i ht
     obtain ⟨⟨d,hd,rfl⟩,rfl⟩:=resB_op h
     exact .of fun _=>OpT.nilEq (ev:=fun y=>(evX s.T y).den e) ho (.inl ⟨by rw [hy];rfl,hk.it t ht,_,_,by rw [hx];rfl⟩) (by simpa using hd)
   · cases h
 · rename_i hx hy
   split at h
   · rename_i ht
     obtain ⟨⟨d,hd,rfl⟩,rfl⟩:=resB_op h
     exact .of fun _=>OpT.nilEq (ev:=fun y=>(evX s.T y).den e) ho (.inr ⟨by rw [hy];rfl,hk.pt t ht,.inl ⟨_,_,_,_,by rw [hx];rfl⟩⟩) (by simpa using hd)
   · cases h
 · rename_i hx hy
   split at h
   · rename_i ht
     obtain ⟨⟨d,hd,rfl⟩,rfl⟩:=resB_op h
     exact .of fun _=>OpT.nilEq (ev:=fun y=>(evX s.T y).den e) ho (.inr ⟨by rw [hy];rfl,hk.pt t ht,.inr ⟨_,by rw [hx];rfl⟩⟩) (by simpa using hd)
   · cases h
 · rename_i hx hy
   split at h
   · rename_i ht
     obtain ⟨⟨d,hd,rfl⟩,rfl⟩:=resB_op h
     exact .of fun _=>OpT.nilNil (ev:=fun y=>(evX s.T y).den e) ho (.inl ⟨by rw [hy];rfl,hk.pt t ht,by rw [hx];rfl⟩) (by simpa using hd)
   · cases h
 · rename_i hx hy
   split at h
   · split at h
     · rename_i ht
       obtain ⟨⟨d,hd,rfl⟩,rfl⟩:=resB_op h
       exact .of fun _=>OpT.nilNil (ev:=fun y=>(evX s.T y).den e) ho (.inr ⟨rfl,by rw [hy];rfl,hk.it t ht,by rw [hx];rfl⟩) (by simpa using hd)
     · cases h
   · cases h
 · exact nsX_ok hk.tab ho (by assumption) h
 · cases h
theorem xtX_ok(hk:KbOk P kb)(he:EvOk P e)(h:xtX kb q o s=.val c r pre):OvOk P e o s c r pre:=by
 unfold xtX at h
 generalize hop:o.op=op at h
 split at h
 · split at h
   · rename_i ht
     cases h
     have ha:=hk.tab.ag _ _ ht
     refine .of fun _=>?_
     unfold aggT at ha
     obtain ⟨d,hd,hb⟩:=Option.map_eq_some_iff.1 ha
     exact OpT.mkIface (ev:=fun y=>(evX s.T y).den e) hop hd (by cases d<;>first|rfl|cases hb)
   · cases h
 · rename_i x xt u
   unfold taX at h
   split at h
   · rename_i hu
     split at h
     · rename_i t v hx
       split at h
       · rename_i e1
         subst e1
         cases h
         exact .of fun _=>OpT.tAssert (ev:=fun y=>(evX s.T y).den e) (v:=v.den e) hop (by show (evX s.T x).den e=_;rw [hx];rfl) (hk.ta _ hu)
       · rename_i e1
         exact taZ_ok hk hop hu (.inl ⟨_,_,hx,e1⟩) h
     · rename_i hx
       exact taZ_ok hk hop hu (.inr hx) h
     · cases h
   · cases h
 · exact nlX_ok hk hop h
 · cases h
   refine .of fun _=>?_
   have:=OpT.mkFunc (P:=P) (ev:=fun y=>(evX s.T y).den e) hop
   simp only [X.den,ofL_den,List.map_map]
   exact this
 · rename_i x n az ts
   split at h
   · rename_i t v hx
     unfold callI at h
     split at h
     · rename_i f ks hf hks
       refine callV_ok he (fun hfn=>?_) h
       have:=Enters.meth (ev:=fun y=>(evX s.T y).den e) (v:=v.den e) hop (by show (evX s.T x).den e=_;rw [hx];rfl) (hk.mt t n f (lookM_mem hf)) hfn
       simpa [List.map_map,Function.comp_def] using this
     · cases h
   · cases h
 · rename_i g az ts
   split at h
   · rename_i f us ys hg
     unfold callF at h
     split at h
     · rename_i ks hl hks
       simp only [Bool.and_eq_true] at hl
       refine callV_ok he (fun hfn=>?_) h
       have:=Enters.value (ev:=fun y=>(evX s.T y).den e) (us:=tupOf (us.den e)) (ys:=tupOf (ys.den e)) hop (by show (evX s.T g).den e=_;rw [hg];rfl) hfn
       rw [toL_den hl.1,toL_den hl.2] at this
       simpa [List.map_map,Function.comp_def] using this
     · cases h
   · cases h
 · cases h
theorem xtX_mem{x:X}{t:Tch}{H:List XB}{n:Nat}(h:xtX kb q o s=.mem c x t H n):False:=by
 have hV:∀{f ks xs},callV kb q f s ks xs=.mem c x t H n→False:=fun h=>by
  unfold callV at h;split at h<;>(try cases h);split at h<;>(try cases h);split at h<;>cases h
 have hR:∀{op b},resB op b=.mem c x t H n→False:=fun h=>by unfold resB at h;split at h<;>cases h
 have hZ:∀{u},taZ kb u=.mem c x t H n→False:=fun h=>by unfold taZ at h;split at h<;>cases h
 unfold xtX at h
 split at h
 · split at h<;>cases h
 · unfold taX at h
   split at h
   · split at h
     · split at h
       · cases h
       · exact hZ h
     · exact hZ h
     · cases h
   · cases h
 · unfold nlX at h
   split at h
   · split at h;exact hR h;cases h
   · split at h;exact hR h;cases h
   · split at h;exact hR h;cases h
   · split at h;exact hR h;cases h
   · split at h
     · split at h;exact hR h;cases h
     · cases h
   · unfold nsX at h
     split at h
     · split at h<;>cases h
     · cases h
   · cases h
 · cases h
 · split at h
   · unfold callI at h;split at h;exact hV h;cases h
   · cases h
 · split at h
   · unfold callF at h;split at h;exact hV h;cases h
   · cases h
 · cases h
end
theorem opG_ok{P:Program}{e:Env}{kb:Kb}(hk:KbOk P kb)(he:EvOk P e)(hct:CtrOk P e kb.ct)(hbt:BtrOk P e kb.bt)(q:Nat):OxOk P e (opG kb q):=by
 have h0:=opX_ok hk hct hbt
 have h1:=callG_ok he (kb:=kb) (q:=q)
 intro o s
 refine ⟨fun c x pre h hc=>?_,fun c x t H n h hc=>?_⟩
 · unfold opG at h
   split at h
   · split at h
     · split at h
       · exact OvOk.does (c:=c) (arX_ok hk.tab h) hc
       · exact OvOk.does (c:=c) (xtX_ok hk he h) hc
     · exact (h1 o s).1 c x pre h hc
   · exact (h0 o s).1 c x pre h hc
 · unfold opG at h
   split at h
   · split at h
     · split at h
       · exact arX_mem hk.tab h hc
       · exact (xtX_mem h).elim
     · exact (h1 o s).2 c x t H n h hc
   · exact (h0 o s).2 c x t H n h hc
end Ow
