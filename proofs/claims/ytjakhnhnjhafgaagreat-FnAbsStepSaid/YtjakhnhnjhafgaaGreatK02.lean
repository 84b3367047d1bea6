/- A part of the proof. -/
import Derived.Lib.Hide
import Derived.Test.YtjakhnhnjhafgaaGreatK01
import Derived.Deep.AppendLies
import Derived.Deep.RegionHeld3
import Derived.Recover
import Derived.Defers
import Derived.Deep.OwnRows
import Derived.Laws.StructEq
set_option linter.unusedVariables false
set_option linter.unusedSimpArgs false
namespace Ow
open Go Go.RowKit Go.Deep
open Rp (R sz)
abbrev runV(x:RunRun)(v:Value):Value:=.agg #[.int .i64 x.State,v,.int .i64 x.Out,.int .i64 x.Proc,.int .i64 x.Pc]
def RetRun(G:List Nat)(x:RunRun)(w:World)(e:Ending)(w':World):Prop:=∃v G',e=.returned (runV x v)∧Chg G w w'∧RL w' x.Frames v G'∧Own w' G'∧∀g∈G',g∈G∨w.heap.size≤g
theorem RetRun.nil_{G:List Nat}{x:RunRun}{w w':World}(hx:x.Frames=[])(hc:Chg G w w'):RetRun G x w (.returned (runV x (.slice none 0 0))) w':=
 ⟨_,[],rfl,hc,by rw [hx];exact RL.nil_,Own.nil_ _,by simp⟩
end Ow
namespace Ow
open Go Go.RowKit Go.Deep
open Rp (R sz)
def Room(w:World)(e:TypeId)(v:Value)(n:Nat):Prop:=
 (v=.slice none 0 0∧n=0)∨∃g cap cur,v=.slice (some ⟨g,0,none⟩) n cap∧w.heap[g]? = some (.cells cur e (0,0))∧n≤cap∧cap≤maxLen∧cur.size=cap*4
theorem Room.chg{w w':World}{e:TypeId}{v:Value}{n:Nat}{G:List Nat}(h:Room w e v n)(hc:Chg G w w')(hG:∀g,v.ownBlock=some g→g∉G):Room w' e v n:=by
 rcases h with h|⟨g,cap,cur,rfl,h2,h3,h4,h5⟩
 · exact Or.inl h
 · refine Or.inr ⟨g,cap,cur,rfl,(hc.block g ?_ (hG g rfl)).trans h2,h3,h4,h5⟩
   rcases Nat.lt_or_ge g w.heap.size with h1|h1
   · exact h1
   · rw [Array.getElem?_eq_none h1] at h2;cases h2
structure GrowF (base:Nat) (w:World) (e:TypeId) (fs:List RunFrame) (v:Value) (cells:List Value) (C:Nat→List Value) (Fs:Nat→List Nat):Prop where
 row:w.ownsRow base e 4 v fs.length cells
 at_:∀i,i<fs.length→∀j,j<4→cells[i*4+j]? = (C i)[j]?
 elem:∀i (hi:i<fs.length),R w fs[i] (C i) (Fs i)
 own:Own w ((List.range fs.length).flatMap Fs)
 ge:∀g∈(List.range fs.length).flatMap Fs,base≤g
 off:∀g,v.ownBlock=some g→g∉(List.range fs.length).flatMap Fs
def Grow(base:Nat)(w:World)(e:TypeId)(fs:List RunFrame)(v:Value):Prop:=∃cells C Fs,GrowF base w e fs v cells C Fs
theorem Grow.nil_(base:Nat)(w:World)(e:TypeId):Grow base w e [] (.slice none 0 0):=
 ⟨[],fun _=>[],fun _=>[],⟨ownsRow_nil _ _ _ _,by simp,by simp,Own.nil_ _,by simp,by simp⟩⟩
theorem row_keep{w w':World}{base:Nat}{e:TypeId}{v:Value}{n:Nat}{cells:List Value}(h:w.ownsRow base e 4 v n cells)(hk:∀g,v.ownBlock=some g→w'.heap[g]? = w.heap[g]?):w'.ownsRow base e 4 v n cells:=by
 refine ⟨h.1,?_⟩
 rcases h.2 with h2|⟨g,cap,cur,rfl,hb,hc,h3⟩
 · exact Or.inl h2
 · exact Or.inr ⟨g,cap,cur,rfl,hb,(hk g rfl).trans hc,h3⟩
theorem GrowF.chg{base:Nat}{w w':World}{e:TypeId}{fs:List RunFrame}{v:Value}{cells:List Value}{C:Nat→List Value}{Fs:Nat→List Nat}{G:List Nat}(h:GrowF base w e fs v cells C Fs)(hc:Chg G w w')(hG:∀g∈G,g<base):GrowF base w' e fs v cells C Fs:=by
 have hin:∀i,i<fs.length→∀g∈Fs i,g∈(List.range fs.length).flatMap Fs:=fun i hi g hg=>by
  simp only [List.mem_flatMap,List.mem_range];exact ⟨i,hi,hg⟩
 refine ⟨row_keep h.row (fun g hg=>?_),h.at_,fun i hi=>Rp.keep (h.elem i hi) (fun b hb=>?_),h.own.chg hc (fun b hb hb'=>?_),h.ge,h.off⟩
 · have h1:=ownsRow_lt h.row g hg
   exact hc.block g h1.2 (fun h2=>by have:=hG g h2;omega)
 · have h1:=h.ge b (hin i hi b hb)
   exact hc.block b (h.own.lt b (hin i hi b hb)) (fun h2=>by have:=hG b h2;omega)
 · have h1:=h.ge b hb
   have:=hG b hb'
   omega
theorem Grow.chg{base:Nat}{w w':World}{e:TypeId}{fs:List RunFrame}{v:Value}{G:List Nat}(h:Grow base w e fs v)(hc:Chg G w w')(hG:∀g∈G,g<base):Grow base w' e fs v:=by
 obtain ⟨cells,C,Fs,h⟩:=h
 exact ⟨cells,C,Fs,h.chg hc hG⟩
theorem GrowF.push{base:Nat}{w w':World}{e:TypeId}{fs:List RunFrame}{v v':Value}{cells:List Value}{C:Nat→List Value}{Fs:Nat→List Nat}{f:RunFrame}{cs:List Value}{Ff:List Nat}
 (h:GrowF base w e fs v cells C Fs) (hf:R w f cs Ff) (ho:Own w Ff) (hge:∀g∈Ff,base≤g) (hap:∀g∈Ff,g∉(List.range fs.length).flatMap Fs) (hoff:∀g,v.ownBlock=some g→g∉Ff)
 (hrow:w'.ownsRow base e 4 v' (fs.length+1) (cells++cs)) (hg:w.grownBy w' v.ownBlock) (hb:v'.ownBlock=v.ownBlock∨v'.ownBlock=some w.heap.size):Grow base w' e (fs++[f]) v':=by
 have hin:∀i,i<fs.length→∀g∈Fs i,g∈(List.range fs.length).flatMap Fs:=fun i hi g hg=>by
  simp only [List.mem_flatMap,List.mem_range];exact ⟨i,hi,hg⟩
 have hlen:cells.length=fs.length*4:=h.row.1
 have hl4:cs.length=4:=Rp.len hf
 let C':Nat→List Value:=fun i=>if i=fs.length then cs else C i
 let F':Nat→List Nat:=fun i=>if i=fs.length then Ff else Fs i
 have hfm:(List.range (fs++[f]).length).flatMap F'=(List.range fs.length).flatMap Fs++Ff:=by
  rw [List.length_append,List.length_singleton,List.range_succ,List.flatMap_append,List.flatMap_singleton]
  congr 1
  · rw [List.flatMap_def,List.flatMap_def]
    congr 1
    refine List.map_congr_left (fun i hi=>?_)
    have:=List.mem_range.1 hi
    show (if i=fs.length then _ else _)=_
    rw [if_neg (by omega)]
  · show (if fs.length=fs.length then _ else _)=_
    rw [if_pos rfl]
 have kept:∀b∈(List.range fs.length).flatMap Fs++Ff,w'.heap[b]? = w.heap[b]?:=fun b hb'=>by
  rcases List.mem_append.1 hb' with h1|h1
  · exact hg.block b (h.own.lt b h1) (fun e=>h.off b e.symm h1)
  · exact hg.block b (ho.lt b h1) (fun e=>hoff b e.symm h1)
 refine ⟨cells++cs,C',F',⟨by rw [List.length_append,List.length_singleton];exact hrow,fun i hi j hj=>?_,fun i hi=>?_,?_,?_,?_⟩⟩
 · rw [List.length_append,List.length_singleton] at hi
   by_cases hk:i=fs.length
   · subst hk
     rw [List.getElem?_append_right (by omega),hlen]
     show _=(if fs.length=fs.length then cs else _)[j]?
     rw [if_pos rfl]
     congr 1
     omega
   · rw [List.getElem?_append_left (by omega),h.at_ i (by omega) j hj]
     show _=(if i=fs.length then cs else C i)[j]?
     rw [if_neg hk]
 · rw [List.length_append,List.length_singleton] at hi
   by_cases hk:i=fs.length
   · subst hk
     show R w' _ (if fs.length=fs.length then cs else _) (if fs.length=fs.length then Ff else _)
     rw [if_pos rfl,if_pos rfl]
     rw [List.getElem_append_right (Nat.le_refl _)]
     simp only [Nat.sub_self,List.getElem_cons_zero]
     exact Rp.keep hf (fun b hb'=>kept b (List.mem_append_right _ hb'))
   · show R w' _ (if i=fs.length then cs else C i) (if i=fs.length then Ff else Fs i)
     rw [if_neg hk,if_neg hk,List.getElem_append_left (by omega)]
     exact Rp.keep (h.elem i (by omega)) (fun b hb'=>kept b (List.mem_append_left _ (hin i (by omega) b hb')))
 · rw [hfm]
   exact (Own.append h.own ho (fun b hb' hb2=>hap b hb2 hb')).keep kept
 · rw [hfm]
   intro g hg'
   rcases List.mem_append.1 hg' with h1|h1
   · exact h.ge g h1
   · exact hge g h1
 · rw [hfm]
   intro g hg1 hg2
   rcases hb with hb|hb
   · rw [hb] at hg1
     rcases List.mem_append.1 hg2 with h1|h1
     · exact h.off g hg1 h1
     · exact hoff g hg1 h1
   · rw [hb] at hg1
     injection hg1 with hg1
     subst hg1
     rcases List.mem_append.1 hg2 with h1|h1
     · exact absurd (h.own.lt _ h1) (by omega)
     · exact absurd (ho.lt _ h1) (by omega)
theorem Grow.out{base:Nat}{w:World}{e:TypeId}{fs:List RunFrame}{v:Value}(h:Grow base w e fs v):∃G,RL w fs v G∧Own w G∧(∀g∈G,base≤g)∧Room w e v fs.length:=by
 obtain ⟨cells,C,Fs,h⟩:=h
 obtain ⟨G,h1,h2,h3⟩:=RL.of_own (xs:=fs) C Fs (by rw [sz_RunFrame];exact h.row) rfl (fun i hi j hj=>by rw [sz_RunFrame] at hj ⊢;exact h.at_ i hi j hj) h.elem h.own h.off
 refine ⟨G,h1,h2,fun g hg=>?_,?_⟩
 · rcases h3 g hg with h4|h4
   · exact (ownsRow_lt h.row g h4).1
   · exact h.ge g h4
 · rcases h.row.2 with ⟨rfl,h4⟩|⟨g,cap,cur,rfl,hb,hc,h4,h5,h6,_⟩
   · exact Or.inl ⟨rfl,h4⟩
   · exact Or.inr ⟨g,cap,cur,rfl,hc,h4,h5,h6⟩
end Ow
namespace Ow
open Go Go.RowKit Go.Deep
open Rp (R sz)
structure IntAt (w:World) (l:List Int) (v:Value) (F:List Nat) (d:Nat) (hd:d<l.length) (b o c:Nat):Prop where
 eq:v=.slice (some ⟨b,o,none⟩) l.length c
 cell:w.cell? ⟨b,o+d,none⟩=some (.int .i64 l[d])
 fz:∀q,w.frozen? ⟨b,q,none⟩=false
 mem:b∈F
 bnd:I64 l[d]
 set:∀(w0:World) (n:Int),Chg [] w w0→I64 n→RL (w0.setCell ⟨b,o+d,none⟩ (.int .i64 n)) (l.set d n) v F∧Own (w0.setCell ⟨b,o+d,none⟩ (.int .i64 n)) F∧Chg F w (w0.setCell ⟨b,o+d,none⟩ (.int .i64 n))
theorem int_at{l:List Int}{v:Value}{F:List Nat}{w:World}(h:RL w l v F)(ho:Own w F){d:Nat}(hd:d<l.length):∃b o c,IntAt w l v F d hd b o c:=by
 obtain ⟨b,off,cap,cs,Fi,e1,r1,m1,hFi,hbF,hbn,hnd,E0,shut⟩:=h.open_elt ho.nodup hd
 obtain ⟨rfl,rfl,hI⟩:=R_int.1 r1
 have y0:=m1 0 (by decide)
 simp only [sz_int,Nat.mul_one,Nat.add_zero,List.getElem?_cons_zero] at y0 E0 shut
 refine ⟨b,off,cap,e1,y0,fun q=>ho.frozen hbF,hbF,hI,fun w0 n hc hn=>⟨?_,(ho.chg0 hc).setCell _ _,?_⟩⟩
 · exact shut _ n [.int .i64 n] (R_int.2 ⟨rfl,rfl,hn⟩) ((E0.call ho.lt hbF hbn hc (by simp)).store0 (by simp) (.int .i64 n))
 · exact (hc.of0 (F:=F)).setCell (Or.inl hbF) _
structure FrameIn (w:World) (fs:List RunFrame) (v:Value) (G:List Nat) (i:Nat) (hi:i<fs.length) (b off cap:Nat) (vV vC:Value) (FV FC:List Nat):Prop where
 eq:v=.slice (some ⟨b,off,none⟩) fs.length cap
 c0:w.cell? ⟨b,off+i*4,none⟩=some (.int .i64 fs[i].Proc)
 c1:w.cell? ⟨b,off+i*4+1,none⟩=some (.int .i64 fs[i].Pc)
 c2:w.cell? ⟨b,off+i*4+2,none⟩=some vV
 c3:w.cell? ⟨b,off+i*4+3,none⟩=some vC
 rV:RL w fs[i].Vars vV FV
 rC:RL w fs[i].Cells vC FC
 oV:Own w FV
 oC:Own w FC
 fz:∀q,w.frozen? ⟨b,q,none⟩=false
 mem:b∈G
 bV:b∉FV
 bC:b∉FC
 subV:∀g∈FV,g∈G
 subC:∀g∈FC,g∈G
 pcB:I64 fs[i].Pc
 prB:I64 fs[i].Proc
 setP:∀(w1:World) (q:Int),Chg [] w w1→I64 q→RL (w1.setCell ⟨b,off+i*4+1,none⟩ (.int .i64 q)) (fs.set i { fs[i] with Pc:=q }) v G∧Own (w1.setCell ⟨b,off+i*4+1,none⟩ (.int .i64 q)) G
 setVP:∀(w1:World) (l:List Int) (q:Int),RL w1 l vV FV→Own w1 FV→Chg FV w w1→I64 q→RL (w1.setCell ⟨b,off+i*4+1,none⟩ (.int .i64 q)) (fs.set i { fs[i] with Vars:=l,Pc:=q }) v G∧Own (w1.setCell ⟨b,off+i*4+1,none⟩ (.int .i64 q)) G
 setCP:∀(w1:World) (l:List Int) (q:Int),RL w1 l vC FC→Own w1 FC→Chg FC w w1→I64 q→RL (w1.setCell ⟨b,off+i*4+1,none⟩ (.int .i64 q)) (fs.set i { fs[i] with Cells:=l,Pc:=q }) v G∧Own (w1.setCell ⟨b,off+i*4+1,none⟩ (.int .i64 q)) G
theorem frame_in{fs:List RunFrame}{v:Value}{G:List Nat}{w:World}(h:RL w fs v G)(ho:Own w G){i:Nat}(hi:i<fs.length):
 ∃ b off cap vV vC FV FC,FrameIn w fs v G i hi b off cap vV vC FV FC:=by
 obtain ⟨b,off,cap,cs,Fi,e1,r1,m1,hFi,hbF,hbn,hnd,E0,shut⟩:=h.open_elt ho.nodup hi
 obtain ⟨vV,FV,vC,FC,rfl,rfl,i0,i1,g0,g1⟩:=R_RunFrame.1 r1
 have y0:=m1 0 (by decide)
 have y1:=m1 1 (by decide)
 have y2:=m1 2 (by decide)
 have y3:=m1 3 (by decide)
 simp only [sz_RunFrame,Nat.add_zero,List.getElem?_cons_zero,List.getElem?_cons_succ] at y0 y1 y2 y3 E0 shut
 have O:Own w (FV++FC):=⟨hnd,fun g hg=>ho.free g (hFi g hg)⟩
 have bV:b∉FV:=fun hb=>hbn (List.mem_append_left _ hb)
 have bC:b∉FC:=fun hb=>hbn (List.mem_append_right _ hb)
 have sV:∀g∈FV,g∈G:=fun g hg=>hFi g (List.mem_append_left _ hg)
 have sC:∀g∈FC,g∈G:=fun g hg=>hFi g (List.mem_append_right _ hg)
 have ap:=Own.apart O
 have hch:∀(w1:World) (q:Int),Chg [b] w1 (w1.setCell ⟨b,off+i*4+1,none⟩ (.int .i64 q)):=fun w1 q=>(Chg.refl [b] w1).setCell (Or.inl (by simp)) _
 have nV:∀g∈FV,g∉[b]:=fun g hg hgb=>by simp at hgb;subst hgb;exact bV hg
 have nC:∀g∈FC,g∉[b]:=fun g hg hgb=>by simp at hgb;subst hgb;exact bC hg
 refine ⟨b,off,cap,vV,vC,FV,FC,⟨e1,y0,y1,y2,y3,g0,g1,O.left,O.right,fun q=>ho.frozen hbF,hbF,bV,bC,sV,sC,i1,i0,?_,?_,?_⟩⟩
 · intro w1 q hc hq
   exact ⟨shut _ _ _ (R_RunFrame.2 ⟨vV,FV,vC,FC,rfl,rfl,i0,hq,(g0.chg0 hc).chg (hch w1 q) nV,(g1.chg0 hc).chg (hch w1 q) nC⟩) ((E0.call ho.lt hbF hbn hc (by simp)).store 1 (by simp) (.int .i64 q)),(ho.chg0 hc).setCell _ _⟩
 · intro w1 l q hl hO hc hq
   exact ⟨shut _ _ _ (R_RunFrame.2 ⟨vV,FV,vC,FC,rfl,rfl,i0,hq,hl.chg (hch w1 q) nV,(g1.chg hc (fun g hg hg'=>ap g hg' hg)).chg (hch w1 q) nC⟩) ((E0.call ho.lt hbF hbn hc (fun g hg=>List.mem_append_left _ hg)).store 1 (by simp) (.int .i64 q)),(ho.over hO hc).setCell _ _⟩
 · intro w1 l q hl hO hc hq
   exact ⟨shut _ _ _ (R_RunFrame.2 ⟨vV,FV,vC,FC,rfl,rfl,i0,hq,(g0.chg hc (fun g hg hg'=>ap g hg hg')).chg (hch w1 q) nV,hl.chg (hch w1 q) nC⟩) ((E0.call ho.lt hbF hbn hc (fun g hg=>List.mem_append_right _ hg)).store 1 (by simp) (.int .i64 q)),(ho.over hO hc).setCell _ _⟩
end Ow
namespace Ow
open Go Go.RowKit Go.Deep
open Rp (R sz)
theorem frame_in_ap{fs:List RunFrame}{v:Value}{G:List Nat}{w:World}(h:RL w fs v G)(ho:Own w G){i:Nat}(hi:i<fs.length):
 ∃ b off cap vV vC FV FC,FrameIn w fs v G i hi b off cap vV vC FV FC∧∀g∈FV,g∉FC:=by
 obtain ⟨b,off,cap,cs,Fi,e1,r1,m1,hFi,hbF,hbn,hnd,E0,shut⟩:=h.open_elt ho.nodup hi
 obtain ⟨vV,FV,vC,FC,rfl,rfl,i0,i1,g0,g1⟩:=R_RunFrame.1 r1
 have y0:=m1 0 (by decide)
 have y1:=m1 1 (by decide)
 have y2:=m1 2 (by decide)
 have y3:=m1 3 (by decide)
 simp only [sz_RunFrame,Nat.add_zero,List.getElem?_cons_zero,List.getElem?_cons_succ] at y0 y1 y2 y3 E0 shut
 have O:Own w (FV++FC):=⟨hnd,fun g hg=>ho.free g (hFi g hg)⟩
 have bV:b∉FV:=fun hb=>hbn (List.mem_append_left _ hb)
 have bC:b∉FC:=fun hb=>hbn (List.mem_append_right _ hb)
 have sV:∀g∈FV,g∈G:=fun g hg=>hFi g (List.mem_append_left _ hg)
 have sC:∀g∈FC,g∈G:=fun g hg=>hFi g (List.mem_append_right _ hg)
 have ap:=Own.apart O
 have hch:∀(w1:World) (q:Int),Chg [b] w1 (w1.setCell ⟨b,off+i*4+1,none⟩ (.int .i64 q)):=fun w1 q=>(Chg.refl [b] w1).setCell (Or.inl (by simp)) _
 have nV:∀g∈FV,g∉[b]:=fun g hg hgb=>by simp at hgb;subst hgb;exact bV hg
 have nC:∀g∈FC,g∉[b]:=fun g hg hgb=>by simp at hgb;subst hgb;exact bC hg
 refine ⟨b,off,cap,vV,vC,FV,FC,⟨e1,y0,y1,y2,y3,g0,g1,O.left,O.right,fun q=>ho.frozen hbF,hbF,bV,bC,sV,sC,i1,i0,?_,?_,?_⟩,ap⟩
 · intro w1 q hc hq
   exact ⟨shut _ _ _ (R_RunFrame.2 ⟨vV,FV,vC,FC,rfl,rfl,i0,hq,(g0.chg0 hc).chg (hch w1 q) nV,(g1.chg0 hc).chg (hch w1 q) nC⟩) ((E0.call ho.lt hbF hbn hc (by simp)).store 1 (by simp) (.int .i64 q)),(ho.chg0 hc).setCell _ _⟩
 · intro w1 l q hl hO hc hq
   exact ⟨shut _ _ _ (R_RunFrame.2 ⟨vV,FV,vC,FC,rfl,rfl,i0,hq,hl.chg (hch w1 q) nV,(g1.chg hc (fun g hg hg'=>ap g hg' hg)).chg (hch w1 q) nC⟩) ((E0.call ho.lt hbF hbn hc (fun g hg=>List.mem_append_left _ hg)).store 1 (by simp) (.int .i64 q)),(ho.over hO hc).setCell _ _⟩
 · intro w1 l q hl hO hc hq
   exact ⟨shut _ _ _ (R_RunFrame.2 ⟨vV,FV,vC,FC,rfl,rfl,i0,hq,(g0.chg hc (fun g hg hg'=>ap g hg hg')).chg (hch w1 q) nV,hl.chg (hch w1 q) nC⟩) ((E0.call ho.lt hbF hbn hc (fun g hg=>List.mem_append_right _ hg)).store 1 (by simp) (.int .i64 q)),(ho.over hO hc).setCell _ _⟩
end Ow
namespace Ow
open Go Go.RowKit Go.Deep
open Rp (R sz)
structure RunX (w:World) (X:Nat) (vP:Value) (x:RunRun) (v:Value):Prop where
 c0:w.cell? ⟨X,0,none⟩=some vP
 c1:w.cell? ⟨X,1,none⟩=some (.int .i64 x.State)
 c2:w.cell? ⟨X,2,none⟩=some v
 c3:w.cell? ⟨X,3,none⟩=some (.int .i64 x.Out)
 c4:w.cell? ⟨X,4,none⟩=some (.int .i64 x.Proc)
 c5:w.cell? ⟨X,5,none⟩=some (.int .i64 x.Pc)
 fz:∀j,w.frozen? ⟨X,j,none⟩=false
theorem RunX.lt{w:World}{X:Nat}{vP v:Value}{x:RunRun}(h:RunX w X vP x v):X<w.heap.size:=World.block_lt_of_cell? _ _ h.c0
theorem RunX.chg{w w':World}{X:Nat}{vP v:Value}{x:RunRun}{G:List Nat}(h:RunX w X vP x v)(hc:Chg G w w')(hX:X∉G):RunX w' X vP x v:=
 ⟨(hc.cell (p:=⟨X,0,none⟩) h.lt hX).trans h.c0,(hc.cell (p:=⟨X,1,none⟩) h.lt hX).trans h.c1,(hc.cell (p:=⟨X,2,none⟩) h.lt hX).trans h.c2,(hc.cell (p:=⟨X,3,none⟩) h.lt hX).trans h.c3,(hc.cell (p:=⟨X,4,none⟩) h.lt hX).trans h.c4,(hc.cell (p:=⟨X,5,none⟩) h.lt hX).trans h.c5,
   fun j=>(show w'.frozen? ⟨X,j,none⟩=w.frozen? ⟨X,j,none⟩ from World.frozen?_of_block (hc.block X h.lt hX)).trans (h.fz j)⟩
theorem RunX.chg0{w w':World}{X:Nat}{vP v:Value}{x:RunRun}(h:RunX w X vP x v)(hc:Chg [] w w'):RunX w' X vP x v:=h.chg hc (by simp)
def StepOut(X:Nat)(vP:Value)(G:List Nat)(x:RunRun)(w:World)(e:Ending)(w':World):Prop:=
 e = .returned (.tuple #[])∧∃v G',RunX w' X vP x v∧Chg (X::G) w w'∧RL w' x.Frames v G'∧Own w' G'∧∀g∈G',g∈G∨w.heap.size≤g
def StepBad(T:TypeId)(X:Nat)(G:List Nat)(x:RunRun)(w:World)(e:Ending)(w':World):Prop:=
 e = .panicked [{ v:=.iface T (runV x (.slice none 0 0)),recovered:=false }]∧Chg (X::G) w w'
end Ow
namespace Go.Proofs.YtjakhnhnjhafgaaGreat.Wk
open Go Go.RowKit Go.Deep Ow
open Rp (R sz)
theorem intInfo : (Tryz.prog.info? 3).map (fun i=>(i.zero,i.size,i.bytes))=some (some (.int .i64 0),1,8):=by kernel_rfl
set_option maxRecDepth 100000 in
set_option maxHeartbeats 1000000 in
theorem cloneInt_c(xs:List Int)(a:Value)(F:List Nat)(w:World)(ha:RL w xs a F)(h4:xs.length=4):
 Calls Tryz.prog 128 #[a] w (Fresh xs w):=by
 obtain ⟨i0,hi,hz0,hz1,hz2⟩:=info_parts intInfo
 obtain ⟨b,o,c,cs,Fi,rfl,-,-,-⟩:=ha.elem (i:=0) (by omega)
 have hH:=Lib.hid h4
 have heq:∀w,(binOp .eql 42 (.slice (some ⟨b,o,none⟩) 4 c) (.slice none 0 0)).run Tryz.prog w=.ok (.bool false) w:=fun w=>by kernel_rfl
 rw [h4] at ha ⊢
 clear h4
 go_enter Tryz.func128,Tryz.ntmps128
 go_wp2_with (at_builtin;refine wpList_append_RL rfl _ _ 42 rfl w.heap.size 3 i0 (.int .i64 0) 1 8 Tryz.underlying42 hi hz0 hz1 hz2 rfl (by decide) (.slice (some ⟨w.heap.size,0,none⟩) 0 0) 0 [] rfl ?_ xs _ F rfl ?_ rfl ?_ ?_ ?_ ?_;exact ownsRow_empty w w.heap.size _ 1 (Nat.le_refl _);exact ha.chg0 ((Chg.refl [] w).alloc _);(have hh:=hH.out;unfold maxLen;omega);(have hh:=hH.out;omega);exact Nat.le_of_lt (by simp);intro v' w1 news C Fs hown hcs hg hnil)
 go_ret
 rw [List.nil_append,Nat.zero_add] at hown
 obtain ⟨G,g1,g2,g3⟩:=RL.of_cells (ys:=xs) hown rfl ⟨hcs.len,hcs.at_,hcs.elem,fun i hi g hg=>by have:=(R_int.1 (hcs.elem i hi)).2.1;rw [this] at hg;exact hg,hcs.one⟩ rfl
 exact Fresh.mk_ (((Chg.refl [] w).alloc _).grown hg (by simp [Value.ownBlock])) g1 g2 g3
end Go.Proofs.YtjakhnhnjhafgaaGreat.Wk
namespace Go.Proofs.YtjakhnhnjhafgaaGreat.Wk
open Go Go.RowKit Go.Deep Ow
open Rp (R sz)
theorem frameInfo : (Tryz.prog.info? 58).map (fun i=>(i.zero,i.size,i.bytes))=some (some (.agg #[.int .i64 0,.int .i64 0,.slice none 0 0,.slice none 0 0]),4,64):=by kernel_rfl
theorem Below.cellB{n:Nat}{w w':World}(h:Below n w w'){b o:Nat}(hb:b<n):w'.cell? ⟨b,o,none⟩=w.cell? ⟨b,o,none⟩:=World.cell?_of_block (h.block b hb)
theorem Below.frozenB{n:Nat}{w w':World}(h:Below n w w'){b o:Nat}(hb:b<n):w'.frozen? ⟨b,o,none⟩=w.frozen? ⟨b,o,none⟩:=World.frozen?_of_block (a:=⟨b,o,none⟩) (h.block b hb)
theorem Chg.andBelow{n:Nat}{w w1 w2:World}(h:Chg [] w w1)(k:Below n w1 w2)(hn:w.heap.size≤n):Chg [] w w2:=
 ⟨k.os.trans h.os,k.tape.trans h.tape,k.output.trans h.output,Nat.le_trans h.size k.size,fun b hb _=>(k.block b (by omega)).trans (h.block b hb (by simp))⟩
structure NewFrame (w:World) (f:RunFrame) (AV:Option Addr) (cV:Nat) (GV:List Nat) (AC:Option Addr) (cC:Nat) (GC:List Nat) (L:Nat):Prop where
 rV:RL w f.Vars (.slice AV 4 cV) GV
 rC:RL w f.Cells (.slice AC 4 cC) GC
 own:Own w (GV++GC)
 new:∀g∈GV++GC,L≤g
 bP:I64 f.Proc
 bC:I64 f.Pc
abbrev frameCells(f:RunFrame)(AV:Option Addr)(cV:Nat)(AC:Option Addr)(cC:Nat):List Value:=[.int .i64 f.Proc,.int .i64 f.Pc,.slice AV 4 cV,.slice AC 4 cC]
theorem NewFrame.R_{w:World}{f:RunFrame}{AV:Option Addr}{cV:Nat}{GV:List Nat}{AC:Option Addr}{cC:Nat}{GC:List Nat}{L:Nat}(h:NewFrame w f AV cV GV AC cC GC L):R w f (frameCells f AV cV AC cC) (GV++GC):=
 R_RunFrame.2 ⟨_,GV,_,GC,rfl,rfl,h.bP,h.bC,h.rV,h.rC⟩
theorem NewFrame.chg{w w':World}{f:RunFrame}{AV:Option Addr}{cV:Nat}{GV:List Nat}{AC:Option Addr}{cC:Nat}{GC:List Nat}{L:Nat}(h:NewFrame w f AV cV GV AC cC GC L)(hc:Chg [] w w'):NewFrame w' f AV cV GV AC cC GC L:=
 ⟨h.rV.chg0 hc,h.rC.chg0 hc,h.own.chg0 hc,h.new,h.bP,h.bC⟩
theorem push_core{w0 w w':World}{base e:Nat}{fs:List RunFrame}{v:Value}{f:RunFrame}{AV:Option Addr}{cV:Nat}{GV:List Nat}{AC:Option Addr}{cC:Nat}{GC:List Nat}{cells:List Value}{C:Nat→List Value}{Fs:Nat→List Nat}{g cap:Nat}
 (hG:GrowF base w0 e fs v cells C Fs) (hc:Chg [] w0 w) (hf:NewFrame w f AV cV GV AC cC GC w0.heap.size) (hb:base≤w0.heap.size)
 (hrow:w'.ownsRow base e 4 (.slice (some ⟨g,0,none⟩) (fs.length+1) cap) (fs.length+1) (cells++frameCells f AV cV AC cC)) (hg:w.grownBy w' v.ownBlock) (hw:v.ownBlock=some g∨g=w.heap.size) :
 Grow base w' e (fs++[f]) (.slice (some ⟨g,0,none⟩) (fs.length+1) cap)∧Below base w w':=by
 have hG1:=hG.chg hc (by simp)
 have hin:∀b∈(List.range fs.length).flatMap Fs,b<w0.heap.size:=fun b hb=>hG.own.lt b hb
 have hvo:∀b,v.ownBlock=some b→base≤b∧b<w0.heap.size:=ownsRow_lt hG.row
 refine ⟨hG1.push hf.R_ hf.own (fun b hb'=>Nat.le_trans hb (hf.new b hb')) (fun b hb' hb2=>?_) (fun b hb' hb2=>?_) hrow hg ?_,⟨hg.os,hg.tape,hg.output,hg.size,fun k hk=>hg.block k ?_ (fun hh=>?_)⟩⟩
 · have h1:=hf.new b hb'
   have h2:=hin b hb2
   omega
 · have h1:=hf.new b hb2
   have h2:=hvo b hb'
   omega
 · rcases hw with h1|h1
   · left;rw [h1];rfl
   · right;rw [h1];rfl
 · have:=hc.size
   omega
 · have h1:=hvo k hh.symm
   omega
theorem step_push{ops:Array Oper}{o:Oper}{a:Act}{K:Act→World→Prop}{Q:Exit→Act→World→Prop}{E:Prop}(w:World)(hgd:o.guard=none)(s x:Operand)
 (ho:o.op=.call { callee:=.builtin .append,args:=#[s,x],argTypes:=#[43,43] })
 (w0:World) (base:Nat) (fs:List RunFrame) (v:Value) (hG:Grow base w0 58 fs v) (hc:Chg [] w0 w) (hbase:base≤w0.heap.size) (hlen:fs.length<1000) (n:Nat) (hn:fs.length=n) (hs:a.eval s=v)
 (BS c:Nat) (f:RunFrame) (AV:Option Addr) (cV:Nat) (GV:List Nat) (AC:Option Addr) (cC:Nat) (GC:List Nat) (hx:a.eval x=.slice (some ⟨BS,0,none⟩) 1 c)
 (hB:∀j u,(frameCells f AV cV AC cC)[j]? = some u→w.cell? ⟨BS,j,none⟩=some u) (hf:NewFrame w f AV cV GV AC cC GC w0.heap.size)
 (h:∀g cap w',Grow base w' 58 (fs++[f]) (.slice (some ⟨g,0,none⟩) (n+1) cap)→Below base w w'→K (a.put o.dst (.slice (some ⟨g,0,none⟩) (n+1) cap)) w') :
 if Region.wanted o (yielded ops a.tmps)=true then Oper.wp Tryz.prog o a w K Q else E:=by
 subst hn
 obtain ⟨i0,hi,hz0,hz1,hz2⟩:=info_parts frameInfo
 obtain ⟨cells,C,Fs,hG⟩:=hG
 have hrow:=(hG.chg hc (by simp)).row
 refine step_append_lies w hgd s x 43 ho base 58 i0 _ 4 64 Tryz.underlying43 hi hz0 hz1 hz2 rfl (by decide) v fs.length cells hs hrow ⟨BS,0,none⟩ 1 c (frameCells f AV cV AC cC) hx rfl (fun j u hj=>?_) (fun u hu=>?_) (by omega) (by unfold maxLen;omega) (by omega) (Nat.le_trans hbase hc.size) w.heap.size rfl ?_
 · have hadd:(⟨BS,0,none⟩:Addr).add j=⟨BS,j,none⟩:=by unfold Addr.add;split<;>simp_all
   rw [hadd]
   exact hB j u hj
 · exact Rp.one hf.R_ u hu
 · intro g cap w' h1 h2 h3 _
   have h4:=push_core hG hc hf hbase h1 h2 h3
   exact h g cap w' h4.1 h4.2
theorem wpList_push{ops:Array Oper}{rest:List Oper}{o:Oper}{a:Act}{Q:Exit→Act→World→Prop}(w:World)(hgd:o.guard=none)(s x:Operand)
 (ho:o.op=.call { callee:=.builtin .append,args:=#[s,x],argTypes:=#[43,43] })
 (w0:World) (base:Nat) (fs:List RunFrame) (v:Value) (hG:Grow base w0 58 fs v) (hc:Chg [] w0 w) (hbase:base≤w0.heap.size) (hlen:fs.length<1000) (n:Nat) (hn:fs.length=n) (hs:a.eval s=v)
 (BS c:Nat) (f:RunFrame) (AV:Option Addr) (cV:Nat) (GV:List Nat) (AC:Option Addr) (cC:Nat) (GC:List Nat) (hx:a.eval x=.slice (some ⟨BS,0,none⟩) 1 c)
 (hB:∀j u,(frameCells f AV cV AC cC)[j]? = some u→w.cell? ⟨BS,j,none⟩=some u) (hf:NewFrame w f AV cV GV AC cC GC w0.heap.size)
 (h:∀g cap w',Grow base w' 58 (fs++[f]) (.slice (some ⟨g,0,none⟩) (n+1) cap)→Below base w w'→wpList Tryz.prog ops Q rest (a.put o.dst (.slice (some ⟨g,0,none⟩) (n+1) cap)) w') :
 wpList Tryz.prog ops Q (o::rest) a w:=by
 subst hn
 obtain ⟨i0,hi,hz0,hz1,hz2⟩:=info_parts frameInfo
 obtain ⟨cells,C,Fs,hG⟩:=hG
 have hrow:=(hG.chg hc (by simp)).row
 refine wpList_append_lies w hgd s x 43 ho base 58 i0 _ 4 64 Tryz.underlying43 hi hz0 hz1 hz2 rfl (by decide) v fs.length cells hs hrow ⟨BS,0,none⟩ 1 c (frameCells f AV cV AC cC) hx rfl (fun j u hj=>?_) (fun u hu=>?_) (by omega) (by unfold maxLen;omega) (by omega) (Nat.le_trans hbase hc.size) w.heap.size rfl ?_
 · have hadd:(⟨BS,0,none⟩:Addr).add j=⟨BS,j,none⟩:=by unfold Addr.add;split<;>simp_all
   rw [hadd]
   exact hB j u hj
 · exact Rp.one hf.R_ u hu
 · intro g cap w' h1 h2 h3 _
   have h4:=push_core hG hc hf hbase h1 h2 h3
   exact h g cap w' h4.1 h4.2
end Go.Proofs.YtjakhnhnjhafgaaGreat.Wk
namespace Go.Proofs.YtjakhnhnjhafgaaGreat.Wk
open Go Go.RowKit Go.Deep Ow
open Rp (R sz)
theorem itv_bounds{lo hi:Int}(h:itvOk ⟨lo,hi⟩=true):-32768≤lo∧lo≤hi∧hi≤32767:=by
 unfold itvOk at h
 simp only [Bool.and_eq_true,decide_eq_true_eq,numOk_iff] at h
 omega
end Go.Proofs.YtjakhnhnjhafgaaGreat.Wk
namespace Go.Proofs.YtjakhnhnjhafgaaGreat.Wk
open Go Go.RowKit Go.Deep Ow
open Rp (R sz)
theorem taFail(a b c d:Int)(s:Value)(w:World):(Instr.typeAssert (.iface 182 (.agg #[.int .i64 a,s,.int .i64 b,.int .i64 c,.int .i64 d])) 20 182 true).run Tryz.prog w=.ok (.tuple #[.agg #[.int .i64 a,s,.int .i64 b,.int .i64 c,.int .i64 d],.bool true]) w:=by kernel_rfl
theorem catchIdle_c(p:Addr)(w:World):
 CallsD Tryz.prog 129 #[.pointer (some p)] .returning w fun e u' w'=>e=.returned (.tuple #[])∧u'=.returning∧w'=w:=by
 refine callsD_of_wpS Tryz.func129 rfl fun c₀ cs hu=>?_
 apply wpS_seq
 apply wpS_region
 simp [wpOpsS,go_sem,recoverD,hu,Tryz.ntmps129,Exit.thenS]
 apply wpS_seq
 apply wpS_region
 simp [wpOpsS,go_sem,Exit.thenS]
 refine wpS_cond (t:=false) (by simp [Act.eval,Array.replicate]) ?_
 simp only [Bool.false_eq_true,if_false]
 refine wpS_of_wp (wp_skip ?_)
 cases c₀
 simp_all [bodyPostS,results,Tryz.results129]
set_option maxRecDepth 100000 in
set_option maxHeartbeats 2000000 in
theorem catchPan_c(x:RunRun)(B:Nat)(w:World)(k0:w.cell? ⟨B,0,none⟩=some (.int .i64 0))(k1:w.cell? ⟨B,1,none⟩=some (.slice none 0 0))(k2:w.cell? ⟨B,2,none⟩=some (.int .i64 0))(k3:w.cell? ⟨B,3,none⟩=some (.int .i64 0))(k4:w.cell? ⟨B,4,none⟩=some (.int .i64 0))(fz:∀j,w.frozen? ⟨B,j,none⟩=false)(lB:B<w.heap.size):
 CallsD Tryz.prog 129 #[.pointer (some ⟨B,0,none⟩)] (.panicking ({ v:=.iface 182 (runV x (.slice none 0 0)),recovered:=false }::[])) w fun e u' w'=>
  e = .returned (.tuple #[])∧u'=.panicking ({ v:=.iface 182 (runV x (.slice none 0 0)),recovered:=true }::[])∧Chg [B] w w'∧w'.cell? ⟨B,0,none⟩=some (.int .i64 x.State)∧w'.cell? ⟨B,1,none⟩=some (.slice none 0 0)∧w'.cell? ⟨B,2,none⟩=some (.int .i64 x.Out)∧w'.cell? ⟨B,3,none⟩=some (.int .i64 x.Proc)∧w'.cell? ⟨B,4,none⟩=some (.int .i64 x.Pc):=by
 have hta:=taFail x.State x.Out x.Proc x.Pc (.slice none 0 0)
 refine callsD_of_wpS Tryz.func129 rfl fun c₀ cs hu=>?_
 apply wpS_seq
 apply wpS_region
 simp [wpOpsS,go_sem,recoverD,hu,Tryz.ntmps129,Exit.thenS]
 apply wpS_seq
 apply wpS_region
 simp [wpOpsS,go_sem,Exit.thenS]
 refine wpS_cond (t:=true) (by simp [Act.eval,Array.replicate]) ?_
 simp only [if_true]
 refine wpS_of_wp ?_
 have f0:=fz 0
 have f1:=fz 1
 have f2:=fz 2
 have f3:=fz 3
 have f4:=fz 4
 refine (show (∀Q:Exit→Act→World→Prop,(∀(a:Act) (w':World),a.defers=[]→(Chg [B] w w'∧w'.cell? ⟨B,0,none⟩=some (.int .i64 x.State)∧w'.cell? ⟨B,1,none⟩=some (.slice none 0 0)∧w'.cell? ⟨B,2,none⟩=some (.int .i64 x.Out)∧w'.cell? ⟨B,3,none⟩=some (.int .i64 x.Proc)∧w'.cell? ⟨B,4,none⟩=some (.int .i64 x.Pc))→Q .normal a w')→Code.wp _ _ Q _ _)→_ from fun key=>key _ ?_) ?_
 · intro a w' hd hW
   cases c₀
   simp_all [bodyPostS,results,Tryz.results129]
 · intro Q hQ
   have hQ':=Lib.hid hQ
   clear hQ hu fz
   have et:∀V:Value,(#[Value.pointer (some { block:=B,off:=0 })]++(((((Array.replicate 16 undef).setIfInBounds 3 V).setIfInBounds 0 V).setIfInBounds 4 V).setIfInBounds 5 (Value.bool true)))=#[Value.pointer (some { block:=B,off:=0 }),V,undef,undef,V,V,.bool true,undef,undef,undef,undef,undef,undef,undef,undef,undef,undef]:=fun V=>rfl
   rw [et]
   clear et
   go_wp2
   refine hQ'.out _ _ rfl ⟨?_,?_⟩
   · repeat (with_reducible first|exact Chg.refl _ _|refine Chg.setCell ?_ (Or.inl (by simp)) _|refine Chg.r ?_ _|refine Chg.alloc ?_ _)
   · simp [go_sem,k0,k1,k2,k3,k4,lB]
end Go.Proofs.YtjakhnhnjhafgaaGreat.Wk
namespace Go.Proofs.YtjakhnhnjhafgaaGreat.Wk
open Go Go.RowKit Go.Deep Ow
open Rp (R sz)
set_option maxHeartbeats 400000 in
theorem codeOf1_c(i:InsIns)(w:World)(h:i.Op=1):Calls Tryz.prog 120 #[insV i] w fun e w'=>e=.returned (.iface 175 (.agg #[.int .i64 i.Op,.int .i64 i.D,.int .i64 i.A,.int .i64 i.B]))∧Chg [] w w':=by
 have e1:(i.Op==1)=true:=by rw [h];rfl
 clear h
 go_enter Tryz.func120,Tryz.ntmps120
 go_wp2
 go_ret
 exact ⟨rfl,(Chg.refl _ _).alloc _⟩
set_option maxHeartbeats 400000 in
theorem codeOf2_c(i:InsIns)(w:World)(h:i.Op=2):Calls Tryz.prog 120 #[insV i] w fun e w'=>e=.returned (.iface 175 (.agg #[.int .i64 i.Op,.int .i64 i.D,.int .i64 i.A,.int .i64 i.B]))∧Chg [] w w':=by
 have e1:(i.Op==1)=false:=by rw [h];rfl
 have e2:(i.Op==2)=true:=by rw [h];rfl
 clear h
 go_enter Tryz.func120,Tryz.ntmps120
 go_wp2
 go_ret
 exact ⟨rfl,(Chg.refl _ _).alloc _⟩
set_option maxHeartbeats 400000 in
theorem codeOf3_c(i:InsIns)(w:World)(h:i.Op=3):Calls Tryz.prog 120 #[insV i] w fun e w'=>e=.returned (.iface 175 (.agg #[.int .i64 i.Op,.int .i64 i.D,.int .i64 i.A,.int .i64 i.B]))∧Chg [] w w':=by
 have e1:(i.Op==1)=false:=by rw [h];rfl
 have e2:(i.Op==2)=false:=by rw [h];rfl
 have e3:(i.Op==3)=true:=by rw [h];rfl
 clear h
 go_enter Tryz.func120,Tryz.ntmps120
 go_wp2
 go_ret
 exact ⟨rfl,(Chg.refl _ _).alloc _⟩
set_option maxHeartbeats 400000 in
theorem codeOf4_c(i:InsIns)(w:World)(h:i.Op=4):Calls Tryz.prog 120 #[insV i] w fun e w'=>e=.returned (.iface 175 (.agg #[.int .i64 i.Op,.int .i64 i.D,.int .i64 i.A,.int .i64 i.B]))∧Chg [] w w':=by
 have e1:(i.Op==1)=false:=by rw [h];rfl
 have e2:(i.Op==2)=false:=by rw [h];rfl
 have e3:(i.Op==3)=false:=by rw [h];rfl
 have e4:(i.Op==4)=true:=by rw [h];rfl
 clear h
 go_enter Tryz.func120,Tryz.ntmps120
 go_wp2
 go_ret
 exact ⟨rfl,(Chg.refl _ _).alloc _⟩
set_option maxHeartbeats 400000 in
theorem codeOf5_c(i:InsIns)(w:World)(h:i.Op=5):Calls Tryz.prog 120 #[insV i] w fun e w'=>e=.returned (.iface 165 (.agg #[.int .i64 i.D,.int .i64 i.Lo,.int .i64 i.Hi]))∧Chg [] w w':=by
 have e1:(i.Op==1)=false:=by rw [h];rfl
 have e2:(i.Op==2)=false:=by rw [h];rfl
 have e3:(i.Op==3)=false:=by rw [h];rfl
 have e4:(i.Op==4)=false:=by rw [h];rfl
 have e5:(i.Op==5)=true:=by rw [h];rfl
 clear h
 go_enter Tryz.func120,Tryz.ntmps120
 go_wp2
 go_ret
 exact ⟨rfl,(Chg.refl _ _).alloc _⟩
set_option maxHeartbeats 400000 in
theorem codeOf6_c(i:InsIns)(w:World)(h:i.Op=6):Calls Tryz.prog 120 #[insV i] w fun e w'=>e=.returned (.iface 177 (.agg #[.int .i64 i.D,.int .i64 i.A]))∧Chg [] w w':=by
 have e1:(i.Op==1)=false:=by rw [h];rfl
 have e2:(i.Op==2)=false:=by rw [h];rfl
 have e3:(i.Op==3)=false:=by rw [h];rfl
 have e4:(i.Op==4)=false:=by rw [h];rfl
 have e5:(i.Op==5)=false:=by rw [h];rfl
 have e6:(i.Op==6)=true:=by rw [h];rfl
 clear h
 go_enter Tryz.func120,Tryz.ntmps120
 go_wp2
 go_ret
 exact ⟨rfl,(Chg.refl _ _).alloc _⟩
set_option maxHeartbeats 400000 in
theorem codeOf7_c(i:InsIns)(w:World)(h:i.Op=7):Calls Tryz.prog 120 #[insV i] w fun e w'=>e=.returned (.iface 179 (.agg #[.int .i64 i.A,.int .i64 i.B]))∧Chg [] w w':=by
 have e1:(i.Op==1)=false:=by rw [h];rfl
 have e2:(i.Op==2)=false:=by rw [h];rfl
 have e3:(i.Op==3)=false:=by rw [h];rfl
 have e4:(i.Op==4)=false:=by rw [h];rfl
 have e5:(i.Op==5)=false:=by rw [h];rfl
 have e6:(i.Op==6)=false:=by rw [h];rfl
 have e7:(i.Op==7)=true:=by rw [h];rfl
 clear h
 go_enter Tryz.func120,Tryz.ntmps120
 go_wp2
 go_ret
 exact ⟨rfl,(Chg.refl _ _).alloc _⟩
set_option maxHeartbeats 400000 in
theorem codeOf8_c(i:InsIns)(w:World)(h:i.Op=8):Calls Tryz.prog 120 #[insV i] w fun e w'=>e=.returned (.iface 167 (.agg #[.int .i64 i.Rel,.int .i64 i.A,.int .i64 i.B,.int .i64 i.To]))∧Chg [] w w':=by
 have e1:(i.Op==1)=false:=by rw [h];rfl
 have e2:(i.Op==2)=false:=by rw [h];rfl
 have e3:(i.Op==3)=false:=by rw [h];rfl
 have e4:(i.Op==4)=false:=by rw [h];rfl
 have e5:(i.Op==5)=false:=by rw [h];rfl
 have e6:(i.Op==6)=false:=by rw [h];rfl
 have e7:(i.Op==7)=false:=by rw [h];rfl
 have e8:(i.Op==8)=true:=by rw [h];rfl
 clear h
 go_enter Tryz.func120,Tryz.ntmps120
 go_wp2
 go_ret
 exact ⟨rfl,(Chg.refl _ _).alloc _⟩
set_option maxHeartbeats 400000 in
theorem codeOf9_c(i:InsIns)(w:World)(h:i.Op=9):Calls Tryz.prog 120 #[insV i] w fun e w'=>e=.returned (.iface 169 (.agg #[.int .i64 i.To]))∧Chg [] w w':=by
 have e1:(i.Op==1)=false:=by rw [h];rfl
 have e2:(i.Op==2)=false:=by rw [h];rfl
 have e3:(i.Op==3)=false:=by rw [h];rfl
 have e4:(i.Op==4)=false:=by rw [h];rfl
 have e5:(i.Op==5)=false:=by rw [h];rfl
 have e6:(i.Op==6)=false:=by rw [h];rfl
 have e7:(i.Op==7)=false:=by rw [h];rfl
 have e8:(i.Op==8)=false:=by rw [h];rfl
 have e9:(i.Op==9)=true:=by rw [h];rfl
 clear h
 go_enter Tryz.func120,Tryz.ntmps120
 go_wp2
 go_ret
 exact ⟨rfl,(Chg.refl _ _).alloc _⟩
set_option maxHeartbeats 400000 in
theorem codeOf11_c(i:InsIns)(w:World)(h:i.Op=11):Calls Tryz.prog 120 #[insV i] w fun e w'=>e=.returned (.iface 173 (.agg #[.int .i64 i.Rel,.int .i64 i.A,.int .i64 i.B]))∧Chg [] w w':=by
 have e1:(i.Op==1)=false:=by rw [h];rfl
 have e2:(i.Op==2)=false:=by rw [h];rfl
 have e3:(i.Op==3)=false:=by rw [h];rfl
 have e4:(i.Op==4)=false:=by rw [h];rfl
 have e5:(i.Op==5)=false:=by rw [h];rfl
 have e6:(i.Op==6)=false:=by rw [h];rfl
 have e7:(i.Op==7)=false:=by rw [h];rfl
 have e8:(i.Op==8)=false:=by rw [h];rfl
 have e9:(i.Op==9)=false:=by rw [h];rfl
 have e10:(i.Op==10)=false:=by rw [h];rfl
 have e11:(i.Op==11)=true:=by rw [h];rfl
 clear h
 go_enter Tryz.func120,Tryz.ntmps120
 go_wp2
 go_ret
 exact ⟨rfl,(Chg.refl _ _).alloc _⟩
theorem ta_arith_arith(op' d' a' b':Int)(w:World):(Instr.typeAssert (.iface 175 (.agg #[.int .i64 op',.int .i64 d',.int .i64 a',.int .i64 b'])) 161 175 true).run Tryz.prog w=.ok (.tuple #[.agg #[.int .i64 op',.int .i64 d',.int .i64 a',.int .i64 b'],.bool true]) w:=by kernel_rfl
theorem ta_any_arith(d' lo' hi':Int)(w:World):(Instr.typeAssert (.iface 165 (.agg #[.int .i64 d',.int .i64 lo',.int .i64 hi'])) 161 175 true).run Tryz.prog w=.ok (.tuple #[.agg #[.int .i64 0,.int .i64 0,.int .i64 0,.int .i64 0],.bool false]) w:=by kernel_rfl
theorem ta_any_any(d' lo' hi':Int)(w:World):(Instr.typeAssert (.iface 165 (.agg #[.int .i64 d',.int .i64 lo',.int .i64 hi'])) 161 165 true).run Tryz.prog w=.ok (.tuple #[.agg #[.int .i64 d',.int .i64 lo',.int .i64 hi'],.bool true]) w:=by kernel_rfl
theorem ta_load_arith(d' a':Int)(w:World):(Instr.typeAssert (.iface 177 (.agg #[.int .i64 d',.int .i64 a'])) 161 175 true).run Tryz.prog w=.ok (.tuple #[.agg #[.int .i64 0,.int .i64 0,.int .i64 0,.int .i64 0],.bool false]) w:=by kernel_rfl
theorem ta_load_any(d' a':Int)(w:World):(Instr.typeAssert (.iface 177 (.agg #[.int .i64 d',.int .i64 a'])) 161 165 true).run Tryz.prog w=.ok (.tuple #[.agg #[.int .i64 0,.int .i64 0,.int .i64 0],.bool false]) w:=by kernel_rfl
theorem ta_load_load(d' a':Int)(w:World):(Instr.typeAssert (.iface 177 (.agg #[.int .i64 d',.int .i64 a'])) 161 177 true).run Tryz.prog w=.ok (.tuple #[.agg #[.int .i64 d',.int .i64 a'],.bool true]) w:=by kernel_rfl
theorem ta_store_arith(a' b':Int)(w:World):(Instr.typeAssert (.iface 179 (.agg #[.int .i64 a',.int .i64 b'])) 161 175 true).run Tryz.prog w=.ok (.tuple #[.agg #[.int .i64 0,.int .i64 0,.int .i64 0,.int .i64 0],.bool false]) w:=by kernel_rfl
theorem ta_store_any(a' b':Int)(w:World):(Instr.typeAssert (.iface 179 (.agg #[.int .i64 a',.int .i64 b'])) 161 165 true).run Tryz.prog w=.ok (.tuple #[.agg #[.int .i64 0,.int .i64 0,.int .i64 0],.bool false]) w:=by kernel_rfl
theorem ta_store_load(a' b':Int)(w:World):(Instr.typeAssert (.iface 179 (.agg #[.int .i64 a',.int .i64 b'])) 161 177 true).run Tryz.prog w=.ok (.tuple #[.agg #[.int .i64 0,.int .i64 0],.bool false]) w:=by kernel_rfl
theorem ta_store_store(a' b':Int)(w:World):(Instr.typeAssert (.iface 179 (.agg #[.int .i64 a',.int .i64 b'])) 161 179 true).run Tryz.prog w=.ok (.tuple #[.agg #[.int .i64 a',.int .i64 b'],.bool true]) w:=by kernel_rfl
theorem ta_if_arith(rel' a' b' to':Int)(w:World):(Instr.typeAssert (.iface 167 (.agg #[.int .i64 rel',.int .i64 a',.int .i64 b',.int .i64 to'])) 161 175 true).run Tryz.prog w=.ok (.tuple #[.agg #[.int .i64 0,.int .i64 0,.int .i64 0,.int .i64 0],.bool false]) w:=by kernel_rfl
theorem ta_if_any(rel' a' b' to':Int)(w:World):(Instr.typeAssert (.iface 167 (.agg #[.int .i64 rel',.int .i64 a',.int .i64 b',.int .i64 to'])) 161 165 true).run Tryz.prog w=.ok (.tuple #[.agg #[.int .i64 0,.int .i64 0,.int .i64 0],.bool false]) w:=by kernel_rfl
theorem ta_if_load(rel' a' b' to':Int)(w:World):(Instr.typeAssert (.iface 167 (.agg #[.int .i64 rel',.int .i64 a',.int .i64 b',.int .i64 to'])) 161 177 true).run Tryz.prog w=.ok (.tuple #[.agg #[.int .i64 0,.int .i64 0],.bool false]) w:=by kernel_rfl
theorem ta_if_store(rel' a' b' to':Int)(w:World):(Instr.typeAssert (.iface 167 (.agg #[.int .i64 rel',.int .i64 a',.int .i64 b',.int .i64 to'])) 161 179 true).run Tryz.prog w=.ok (.tuple #[.agg #[.int .i64 0,.int .i64 0],.bool false]) w:=by kernel_rfl
theorem ta_if_if(rel' a' b' to':Int)(w:World):(Instr.typeAssert (.iface 167 (.agg #[.int .i64 rel',.int .i64 a',.int .i64 b',.int .i64 to'])) 161 167 true).run Tryz.prog w=.ok (.tuple #[.agg #[.int .i64 rel',.int .i64 a',.int .i64 b',.int .i64 to'],.bool true]) w:=by kernel_rfl
theorem ta_jump_arith(to':Int)(w:World):(Instr.typeAssert (.iface 169 (.agg #[.int .i64 to'])) 161 175 true).run Tryz.prog w=.ok (.tuple #[.agg #[.int .i64 0,.int .i64 0,.int .i64 0,.int .i64 0],.bool false]) w:=by kernel_rfl
theorem ta_jump_any(to':Int)(w:World):(Instr.typeAssert (.iface 169 (.agg #[.int .i64 to'])) 161 165 true).run Tryz.prog w=.ok (.tuple #[.agg #[.int .i64 0,.int .i64 0,.int .i64 0],.bool false]) w:=by kernel_rfl
theorem ta_jump_load(to':Int)(w:World):(Instr.typeAssert (.iface 169 (.agg #[.int .i64 to'])) 161 177 true).run Tryz.prog w=.ok (.tuple #[.agg #[.int .i64 0,.int .i64 0],.bool false]) w:=by kernel_rfl
theorem ta_jump_store(to':Int)(w:World):(Instr.typeAssert (.iface 169 (.agg #[.int .i64 to'])) 161 179 true).run Tryz.prog w=.ok (.tuple #[.agg #[.int .i64 0,.int .i64 0],.bool false]) w:=by kernel_rfl
theorem ta_jump_if(to':Int)(w:World):(Instr.typeAssert (.iface 169 (.agg #[.int .i64 to'])) 161 167 true).run Tryz.prog w=.ok (.tuple #[.agg #[.int .i64 0,.int .i64 0,.int .i64 0,.int .i64 0],.bool false]) w:=by kernel_rfl
theorem ta_jump_jump(to':Int)(w:World):(Instr.typeAssert (.iface 169 (.agg #[.int .i64 to'])) 161 169 true).run Tryz.prog w=.ok (.tuple #[.agg #[.int .i64 to'],.bool true]) w:=by kernel_rfl
theorem ta_assert_arith(rel' a' b':Int)(w:World):(Instr.typeAssert (.iface 173 (.agg #[.int .i64 rel',.int .i64 a',.int .i64 b'])) 161 175 true).run Tryz.prog w=.ok (.tuple #[.agg #[.int .i64 0,.int .i64 0,.int .i64 0,.int .i64 0],.bool false]) w:=by kernel_rfl
theorem ta_assert_any(rel' a' b':Int)(w:World):(Instr.typeAssert (.iface 173 (.agg #[.int .i64 rel',.int .i64 a',.int .i64 b'])) 161 165 true).run Tryz.prog w=.ok (.tuple #[.agg #[.int .i64 0,.int .i64 0,.int .i64 0],.bool false]) w:=by kernel_rfl
theorem ta_assert_load(rel' a' b':Int)(w:World):(Instr.typeAssert (.iface 173 (.agg #[.int .i64 rel',.int .i64 a',.int .i64 b'])) 161 177 true).run Tryz.prog w=.ok (.tuple #[.agg #[.int .i64 0,.int .i64 0],.bool false]) w:=by kernel_rfl
theorem ta_assert_store(rel' a' b':Int)(w:World):(Instr.typeAssert (.iface 173 (.agg #[.int .i64 rel',.int .i64 a',.int .i64 b'])) 161 179 true).run Tryz.prog w=.ok (.tuple #[.agg #[.int .i64 0,.int .i64 0],.bool false]) w:=by kernel_rfl
theorem ta_assert_if(rel' a' b':Int)(w:World):(Instr.typeAssert (.iface 173 (.agg #[.int .i64 rel',.int .i64 a',.int .i64 b'])) 161 167 true).run Tryz.prog w=.ok (.tuple #[.agg #[.int .i64 0,.int .i64 0,.int .i64 0,.int .i64 0],.bool false]) w:=by kernel_rfl
theorem ta_assert_jump(rel' a' b':Int)(w:World):(Instr.typeAssert (.iface 173 (.agg #[.int .i64 rel',.int .i64 a',.int .i64 b'])) 161 169 true).run Tryz.prog w=.ok (.tuple #[.agg #[.int .i64 0],.bool false]) w:=by kernel_rfl
theorem ta_assert_call(rel' a' b':Int)(w:World):(Instr.typeAssert (.iface 173 (.agg #[.int .i64 rel',.int .i64 a',.int .i64 b'])) 161 171 true).run Tryz.prog w=.ok (.tuple #[.agg #[.int .i64 0,.int .i64 0,.int .i64 0],.bool false]) w:=by kernel_rfl
theorem ta_assert_assert(rel' a' b':Int)(w:World):(Instr.typeAssert (.iface 173 (.agg #[.int .i64 rel',.int .i64 a',.int .i64 b'])) 161 173 true).run Tryz.prog w=.ok (.tuple #[.agg #[.int .i64 rel',.int .i64 a',.int .i64 b'],.bool true]) w:=by kernel_rfl
end Go.Proofs.YtjakhnhnjhafgaaGreat.Wk
namespace Ow
def linkOk(p:PrgProg)(f:RunFrame)(g:Option RunFrame):Bool:=
 match g with
 | none=>true
 | some g=>(prgAt p f.Proc f.Pc).elim false fun i=>i.Op==10&&i.To==g.Proc
def placeOk(p:PrgProg)(fs:List RunFrame)(k:Nat):Bool:=fs[k]?.elim true fun f=>frameOk p f&&linkOk p f fs[k+1]?
def nestTo(p:PrgProg)(fs:List RunFrame)(k:Nat):Bool:=(List.range k).all (placeOk p fs)
theorem nestTo_succ(p:PrgProg)(fs:List RunFrame)(k:Nat):nestTo p fs (k+1)=(nestTo p fs k&&placeOk p fs k):=by
 unfold nestTo
 rw [List.range_succ,List.all_append]
 simp
theorem nestTo_cons(p:PrgProg)(f:RunFrame)(fs:List RunFrame)(k:Nat):nestTo p (f::fs) (k+1)=(placeOk p (f::fs) 0&&nestTo p fs k):=by
 unfold nestTo
 rw [List.range_succ_eq_map,List.all_cons,List.all_map]
 congr 1
theorem nestOk_eq(p:PrgProg)(fs:List RunFrame):nestOk p fs=nestTo p fs fs.length:=by
 induction fs with
 | nil=>rfl
 | cons f r ih=>
   rw [List.length_cons,nestTo_cons]
   cases r with
   | nil=>simp [nestOk,placeOk,linkOk,nestTo]
   | cons g r=>
     simp only [nestOk]
     rw [ih]
     simp [placeOk,linkOk]
theorem nestTo_false{p:PrgProg}{fs:List RunFrame}{k n:Nat}(h:placeOk p fs k=false)(hk:k<n):nestTo p fs n=false:=by
 unfold nestTo
 rw [List.all_eq_false]
 exact ⟨k,List.mem_range.2 hk,by simp [h]⟩
theorem placeOk_at{p:PrgProg}{fs:List RunFrame}{k:Nat}(h:k<fs.length):placeOk p fs k=(frameOk p fs[k]&&linkOk p fs[k] fs[k+1]?):=by
 unfold placeOk
 rw [List.getElem?_eq_getElem h]
 rfl
theorem linkOk_last{p:PrgProg}{f:RunFrame}{fs:List RunFrame}{k:Nat}(h:¬k+1<fs.length):linkOk p f fs[k+1]? = true:=by
 rw [List.getElem?_eq_none (by omega)]
 rfl
theorem linkOk_in{p:PrgProg}{f:RunFrame}{fs:List RunFrame}{k:Nat}{i:InsIns}(h:k+1<fs.length)(hi:prgAt p f.Proc f.Pc=some i):linkOk p f fs[k+1]? = (i.Op==10&&i.To==fs[k+1].Proc):=by
 rw [List.getElem?_eq_getElem h]
 unfold linkOk
 rw [hi]
 rfl
end Ow
namespace Ow
theorem set_last{l:List RunFrame}{m:Nat}(h:l.length=m+1)(x:RunFrame):l.set m x=setLast l x:=by
 unfold setLast
 rw [List.dropLast_eq_take,h,Nat.add_sub_cancel]
 apply List.ext_getElem
 · simp;omega
 · intro i h1 h2
   rw [List.getElem_set]
   split
   · rename_i e
     subst e
     rw [List.getElem_append_right (by rw [List.length_take];omega)]
     simp
   · rename_i e
     rw [List.length_set] at h1
     rw [List.getElem_append_left (by rw [List.length_take];omega),List.getElem_take]
theorem getLast_last{l:List RunFrame}{m:Nat}(h:l.length=m+1):l.getLast? = some l[m]:=by
 rw [List.getLast?_eq_getElem?,show l.length-1=m by omega]
 exact List.getElem?_eq_getElem _
theorem nest_iff(p:PrgProg)(fs:List RunFrame):nestOk p fs=true↔∀k (h:k<fs.length),frameOk p fs[k]=true∧∀(h2:k+1<fs.length),∃i,prgAt p fs[k].Proc fs[k].Pc=some i∧i.Op=10∧i.To=fs[k+1].Proc:=by
 rw [nestOk_eq]
 unfold nestTo
 rw [List.all_eq_true]
 constructor
 · intro h k hk
   have h1:=h k (List.mem_range.2 hk)
   rw [placeOk_at hk,Bool.and_eq_true] at h1
   refine ⟨h1.1,fun h2=>?_⟩
   have h3:=h1.2
   rw [List.getElem?_eq_getElem h2] at h3
   unfold linkOk at h3
   simp only at h3
   generalize hx:prgAt p fs[k].Proc fs[k].Pc=x at h3
   cases x with
   | none=>simp at h3
   | some i=>simp at h3;exact ⟨i,rfl,h3.1,h3.2⟩
 · intro h k hk
   have hk:=List.mem_range.1 hk
   rw [placeOk_at hk,Bool.and_eq_true]
   refine ⟨(h k hk).1,?_⟩
   by_cases h2:k+1<fs.length
   · obtain ⟨i,e1,e2,e3⟩:=(h k hk).2 h2
     rw [linkOk_in h2 e1]
     simp [e2,e3]
   · exact linkOk_last h2
theorem frame_facts{p:PrgProg}{f:RunFrame}(h:frameOk p f=true):∃i,prgAt p f.Proc f.Pc=some i∧f.Vars.length=4∧f.Cells.length=4∧(∀n∈f.Vars,numOk n=true)∧(∀n∈f.Cells,numOk n=true):=by
 unfold frameOk numsOk at h
 simp only [Bool.and_eq_true,beq_iff_eq,List.all_eq_true] at h
 obtain ⟨⟨h1,h2,h3⟩,h4,h5⟩:=h
 obtain ⟨i,hi⟩:=Option.isSome_iff_exists.1 h1
 exact ⟨i,hi,h2,h4,h3,h5⟩
structure AtFacts (p:PrgProg) (proc pc:Int) (i:InsIns) (k j:Nat):Prop where
 hk:k<p.Procs.length
 hj:j<p.Procs[k].Code.length
 eproc:proc=k
 epc:pc=j
 k4:k<4
 j10:j<10
 ei:p.Procs[k].Code[j]=i
 ok:insOk i p.Procs.length p.Procs[k].Code.length=true
 size:p.Procs[k].Code.length≤10
 ends:p.Procs[k].Code.getLast?.elim false insEnds=true
theorem prg_facts{p:PrgProg}(hp:prgOk p=true):1≤p.Procs.length∧p.Procs.length≤4∧∀k (h:k<p.Procs.length),procOk p.Procs[k] p.Procs.length=true:=by
 unfold prgOk at hp
 simp only [Bool.and_eq_true,decide_eq_true_eq,List.all_eq_true] at hp
 exact ⟨hp.1.1,hp.1.2,fun k h=>hp.2 _ (List.getElem_mem h)⟩
theorem proc_facts{c:PrcProc}{n:Int}(h:procOk c n=true):itvOk ⟨c.Lo,c.Hi⟩=true∧1≤c.Code.length∧c.Code.length≤10∧(∀j (h:j<c.Code.length),insOk c.Code[j] n c.Code.length=true)∧c.Code.getLast?.elim false insEnds=true:=by
 unfold procOk at h
 simp only [Bool.and_eq_true,decide_eq_true_eq,List.all_eq_true] at h
 exact ⟨h.1.1.1.1,h.1.1.1.2,h.1.1.2,fun j hj=>h.1.2 _ (List.getElem_mem hj),h.2⟩
theorem prgAt_facts{p:PrgProg}{proc pc:Int}{i:InsIns}(hp:prgOk p=true)(h:prgAt p proc pc=some i):∃k j,AtFacts p proc pc i k j:=by
 unfold prgAt at h
 split at h
 · cases h
 · rename_i hneg
   obtain ⟨k,rfl⟩:=Int.eq_ofNat_of_zero_le (show 0≤proc by omega)
   obtain ⟨j,rfl⟩:=Int.eq_ofNat_of_zero_le (show 0≤pc by omega)
   simp only [Int.toNat_natCast] at h
   by_cases hk:k<p.Procs.length
   · rw [List.getElem?_eq_getElem hk] at h
     simp only [Option.bind_some] at h
     by_cases hj:j<p.Procs[k].Code.length
     · rw [List.getElem?_eq_getElem hj] at h
       obtain ⟨h1,h2,h3⟩:=prg_facts hp
       obtain ⟨g1,g2,g3,g4,g5⟩:=proc_facts (h3 k hk)
       have e:=Option.some.inj h
       exact ⟨k,j,hk,hj,rfl,rfl,by omega,by omega,e,e▸g4 j hj,g3,g5⟩
     · rw [List.getElem?_eq_none (by omega)] at h;cases h
   · rw [List.getElem?_eq_none (by omega)] at h;cases h
structure InsFacts (i:InsIns) (procs size:Int):Prop where
 op1:1≤i.Op
 op12:i.Op≤12
 form:formOk i=true
 d0:0≤i.D
 d4:i.D<4
 a0:0≤i.A
 a4:i.A<4
 b0:0≤i.B
 b4:i.B<4
 rest:restOk i procs size=true
theorem ins_facts{i:InsIns}{procs size:Int}(h:insOk i procs size=true):InsFacts i procs size:=by
 unfold insOk varOk at h
 simp only [Bool.and_eq_true,decide_eq_true_eq] at h
 obtain ⟨⟨⟨⟨⟨⟨h1,h2⟩,h3⟩,h4,h5⟩,h6,h7⟩,h8,h9⟩,h10⟩:=h
 exact ⟨h1,h2,h3,h4,h5,h6,h7,h8,h9,h10⟩
structure GoesFacts (p:PrgProg) (r:RunRun):Prop where
 prg:prgOk p=true
 out:r.Out=0
 proc:r.Proc=0
 pc:r.Pc=0
 n1:1≤r.Frames.length
 n5:r.Frames.length≤5
 nest:nestOk p r.Frames=true
theorem goes_facts{p:PrgProg}{r:RunRun}(h:runOk p r=true)(hs:r.State=1):GoesFacts p r:=by
 unfold runOk at h
 rw [hs] at h
 simp at h
 obtain ⟨⟨⟨⟨h1,h2⟩,h3⟩,h4,h5⟩,h6,h7⟩:=h
 exact ⟨h1,h3,h4,h5,h6.1,h6.2,h7⟩
theorem goes_eq{p:PrgProg}{r:RunRun}(h:GoesFacts p r)(hs:r.State=1):r=goes r.Frames:=by
 obtain ⟨s,f,o,c,q⟩:=r
 obtain ⟨-,h1,h2,h3,-⟩:=h
 simp only at h1 h2 h3 hs
 subst h1 h2 h3 hs
 rfl
end Ow
namespace Ow
theorem numOk_wrap(n:Int):numOk (numWrap n)=true:=(numOk_iff _).2 (numWrap_ok n)
theorem numDo_ok{op a b:Int}(ha:numOk a=true)(hb:numOk b=true)(h1:1≤op)(h4:op≤4):numOk (numDo op a b).1=true∧((numDo op a b).2=false→op=4):=by
 unfold numDo
 rw [if_pos (by simp [ha,hb])]
 rcases (by omega:op=1∨op=2∨op=3∨op=4) with rfl|rfl|rfl|rfl
 · exact ⟨numOk_wrap _,fun h=>by cases h⟩
 · exact ⟨numOk_wrap _,fun h=>by cases h⟩
 · exact ⟨numOk_wrap _,fun h=>by cases h⟩
 · refine ⟨?_,fun _=>rfl⟩
   rw [if_neg (by decide),if_neg (by decide),if_neg (by decide),if_pos rfl]
   split
   · rfl
   · exact numOk_wrap _
end Ow
namespace Ow
section
variable {α:Type} [Mk α] [Sz α]
end
end Ow
namespace Ow
theorem getI_nat{l:List Int}{d:Nat}(h:d<l.length):getI l d=l[d]:=by
 unfold getI
 rw [List.getD_eq_getElem?_getD,Int.toNat_natCast,List.getElem?_eq_getElem h]
 rfl
theorem setI_nat(l:List Int)(d:Nat)(v:Int):setI l d v=l.set d v:=by
 unfold setI
 rw [Int.toNat_natCast]
theorem stepped_at{p:PrgProg}{fs:List RunFrame}{m:Nat}{i:InsIns}(hm:fs.length=m+1)(hi:prgAt p fs[m].Proc fs[m].Pc=some i)(inp:Int):stepped p (goes fs) inp=stepAt p fs fs[m] i inp:=by
 unfold stepped
 simp only [goes]
 rw [getLast_last hm]
 simp only
 rw [hi]
 rfl
section
variable {p:PrgProg} {fs:List RunFrame} {m:Nat} {i:InsIns} {inp:Int}
theorem st_arith(hm:fs.length=m+1)(hi:prgAt p fs[m].Proc fs[m].Pc=some i)(h4:i.Op≤4){dA dB dD:Nat}(hA:i.A=dA)(hB:i.B=dB)(hD:i.D=dD)(lA:dA<fs[m].Vars.length)(lB:dB<fs[m].Vars.length)(n:Int)(hn:numDo i.Op fs[m].Vars[dA] fs[m].Vars[dB]=(n,true)):
 stepped p (goes fs) inp=goes (fs.set m { fs[m] with Vars:=fs[m].Vars.set dD n,Pc:=fs[m].Pc+1 }):=by
 rw [stepped_at hm hi,set_last hm]
 unfold stepAt
 simp only
 rw [if_pos h4,hA,hB,getI_nat lA,getI_nat lB,hn,hD,setI_nat]
 simp
theorem st_arith_bad(hm:fs.length=m+1)(hi:prgAt p fs[m].Proc fs[m].Pc=some i)(h4:i.Op≤4){dA dB:Nat}(hA:i.A=dA)(hB:i.B=dB)(lA:dA<fs[m].Vars.length)(lB:dB<fs[m].Vars.length)(hn:(numDo i.Op fs[m].Vars[dA] fs[m].Vars[dB]).2=false):
 stepped p (goes fs) inp=runFail fs[m]:=by
 rw [stepped_at hm hi]
 unfold stepAt
 simp only
 rw [if_pos h4,hA,hB,getI_nat lA,getI_nat lB,hn]
 simp
theorem st_any(hm:fs.length=m+1)(hi:prgAt p fs[m].Proc fs[m].Pc=some i)(h5:i.Op=5){dD:Nat}(hD:i.D=dD):
 stepped p (goes fs) inp=goes (fs.set m { fs[m] with Vars:=fs[m].Vars.set dD (i.Lo+inp % (i.Hi-i.Lo+1)),Pc:=fs[m].Pc+1 }):=by
 rw [stepped_at hm hi,set_last hm]
 unfold stepAt
 simp only
 rw [if_neg (by omega),if_pos h5,hD,setI_nat]
theorem st_cell_bad(hm:fs.length=m+1)(hi:prgAt p fs[m].Proc fs[m].Pc=some i)(h67:i.Op=6∨i.Op=7){dA:Nat}(hA:i.A=dA)(lA:dA<fs[m].Vars.length)(hb:below fs[m].Vars[dA] 4=false):
 stepped p (goes fs) inp=runFail fs[m]:=by
 rw [stepped_at hm hi]
 unfold stepAt
 simp only
 rw [hA,getI_nat lA,hb]
 rcases h67 with h|h
 · rw [if_neg (by omega),if_neg (by omega),if_pos h];simp
 · rw [if_neg (by omega),if_neg (by omega),if_neg (by omega),if_pos h];simp
theorem below_nat{a:Nat}(h:a<4):below a 4=true:=by
 unfold below
 simp
 omega
theorem st_load(hm:fs.length=m+1)(hi:prgAt p fs[m].Proc fs[m].Pc=some i)(h6:i.Op=6){dA dD a:Nat}(hA:i.A=dA)(hD:i.D=dD)(lA:dA<fs[m].Vars.length)(ha:fs[m].Vars[dA]=a)(h4:a<4)(lC:a<fs[m].Cells.length):
 stepped p (goes fs) inp=goes (fs.set m { fs[m] with Vars:=fs[m].Vars.set dD fs[m].Cells[a],Pc:=fs[m].Pc+1 }):=by
 rw [stepped_at hm hi,set_last hm]
 unfold stepAt
 simp only
 rw [if_neg (by omega),if_neg (by omega),if_pos h6,hA,getI_nat lA,ha,below_nat h4,hD,setI_nat,getI_nat lC]
 simp
theorem st_store(hm:fs.length=m+1)(hi:prgAt p fs[m].Proc fs[m].Pc=some i)(h7:i.Op=7){dA dB a:Nat}(hA:i.A=dA)(hB:i.B=dB)(lA:dA<fs[m].Vars.length)(lB:dB<fs[m].Vars.length)(ha:fs[m].Vars[dA]=a)(h4:a<4):
 stepped p (goes fs) inp=goes (fs.set m { fs[m] with Cells:=fs[m].Cells.set a fs[m].Vars[dB],Pc:=fs[m].Pc+1 }):=by
 rw [stepped_at hm hi,set_last hm]
 unfold stepAt
 simp only
 rw [if_neg (by omega),if_neg (by omega),if_neg (by omega),if_pos h7,hA,getI_nat lA,ha,below_nat h4,hB,getI_nat lB,setI_nat]
 simp
theorem st_if(hm:fs.length=m+1)(hi:prgAt p fs[m].Proc fs[m].Pc=some i)(h8:i.Op=8){dA dB:Nat}(hA:i.A=dA)(hB:i.B=dB)(lA:dA<fs[m].Vars.length)(lB:dB<fs[m].Vars.length):
 stepped p (goes fs) inp=goes (fs.set m { fs[m] with Pc:=if relHolds i.Rel fs[m].Vars[dA] fs[m].Vars[dB] then i.To else fs[m].Pc+1 }):=by
 rw [stepped_at hm hi,set_last hm]
 unfold stepAt
 simp only
 rw [if_neg (by omega),if_neg (by omega),if_neg (by omega),if_neg (by omega),if_pos h8,hA,getI_nat lA,hB,getI_nat lB]
theorem st_jump(hm:fs.length=m+1)(hi:prgAt p fs[m].Proc fs[m].Pc=some i)(h9:i.Op=9):
 stepped p (goes fs) inp=goes (fs.set m { fs[m] with Pc:=i.To }):=by
 rw [stepped_at hm hi,set_last hm]
 unfold stepAt
 simp only
 rw [if_neg (by omega),if_neg (by omega),if_neg (by omega),if_neg (by omega),if_neg (by omega),if_pos h9]
theorem st_assert(hm:fs.length=m+1)(hi:prgAt p fs[m].Proc fs[m].Pc=some i)(h11:i.Op=11){dA dB:Nat}(hA:i.A=dA)(hB:i.B=dB)(lA:dA<fs[m].Vars.length)(lB:dB<fs[m].Vars.length):
 stepped p (goes fs) inp=if relHolds i.Rel fs[m].Vars[dA] fs[m].Vars[dB] then goes (fs.set m { fs[m] with Pc:=fs[m].Pc+1 }) else runFail fs[m]:=by
 rw [stepped_at hm hi,set_last hm]
 unfold stepAt
 simp only
 rw [if_neg (by omega),if_neg (by omega),if_neg (by omega),if_neg (by omega),if_neg (by omega),if_neg (by omega),if_neg (by omega),if_pos h11,hA,getI_nat lA,hB,getI_nat lB]
end
end Ow
