/- A part of the proof. -/
import Derived.Deep.RegionHeld3
import Derived.Test.YtjakhnhnjhafgaaGreatK04
import Derived.Test.YtjakhnhnjhafgaaGreatK05
import Derived.Test.YtjakhnhnjhafgaaGreatK06
import Derived.Test.YtjakhnhnjhafgaaGreatK03
import Derived.Test.YtjakhnhnjhafgaaGreatK02
import Derived.Test.YtjakhnhnjhafgaaGreatK46
import Derived.Test.YtjakhnhnjhafgaaGreatK28
import Derived.Test.YtjakhnhnjhafgaaGreatK38
import Derived.Test.YtjakhnhnjhafgaaGreatK45
set_option linter.unusedVariables false
set_option linter.unusedSimpArgs false
namespace Go.Proofs.YtjakhnhnjhafgaaGreat.Wk
open Go Go.RowKit Go.Deep Ow
open Rp (R sz)
theorem nImpStep_c(p:PrgProg)(fs:List RunFrame)(inp:Int)(X:Nat)(vP:Value)(FP:List Nat)(v:Value)(G:List Nat)(w:World)(hP:RL w p.Procs vP FP)(hXP:X∉FP)(hX:RunX w X vP (goes fs) v)(h:RL w fs v G)(ho:Own w G)(hXG:X∉G)(hroom:Room w 58 v fs.length)(hin:I64 inp)(hok:runOk p (goes fs)=true)(hal:∀(m:Nat) (hml:m<fs.length) (i:InsIns),fs.length=m+1→prgAt p fs[m].Proc fs[m].Pc=some i→i.Op=1∨i.Op=2∨i.Op=3∨i.Op=4∨i.Op=5∨i.Op=6∨i.Op=7∨i.Op=8∨i.Op=9∨i.Op=11):
 Calls Tryz.prog 130 #[.pointer (some ⟨X,0,none⟩),.int .i64 inp] w (StepRes X vP G (stepped p (goes fs) inp) w):=by
 have F:=goes_facts hok rfl
 obtain ⟨m,hm⟩:∃m,fs.length=m+1:=⟨fs.length-1,by have:=F.n1;simp only [goes] at this;omega⟩
 obtain ⟨i,hi,-⟩:=frame_facts ((nest_iff p _).1 F.nest m (by simp only [goes];omega)).1
 simp only [goes] at hi
 obtain ⟨kp,jp,At⟩:=prgAt_facts F.prg hi
 have I:=ins_facts At.ok
 have hsel:∀P:Int→Prop,P i.Op→∀(m:Nat) (hml:m<fs.length) (i:InsIns),fs.length=m+1→prgAt p fs[m].Proc fs[m].Pc=some i→P i.Op:=by
  intro P hPo m' hml' i' hm' hi'
  obtain rfl:m'=m:=by omega
  rw [hi] at hi'
  cases hi'
  exact hPo
 rcases hal m (by omega) i hm hi with h1|h1|h1|h1|h1|h1|h1|h1|h1|h1
 · exact impStep1_c p fs inp X vP FP v G w hP hXP hX h ho hXG hroom hin hok (hsel (fun o=>1≤o∧o≤4) ⟨I.op1,by omega⟩)
 · exact impStep1_c p fs inp X vP FP v G w hP hXP hX h ho hXG hroom hin hok (hsel (fun o=>1≤o∧o≤4) ⟨I.op1,by omega⟩)
 · exact impStep1_c p fs inp X vP FP v G w hP hXP hX h ho hXG hroom hin hok (hsel (fun o=>1≤o∧o≤4) ⟨I.op1,by omega⟩)
 · exact impStep1_c p fs inp X vP FP v G w hP hXP hX h ho hXG hroom hin hok (hsel (fun o=>1≤o∧o≤4) ⟨I.op1,by omega⟩)
 · exact impStep5_c p fs inp X vP FP v G w hP hXP hX h ho hXG hroom hin hok (hsel (·=5) h1)
 · exact impStep6_c p fs inp X vP FP v G w hP hXP hX h ho hXG hroom hin hok (hsel (·=6) h1)
 · exact impStep7_c p fs inp X vP FP v G w hP hXP hX h ho hXG hroom hin hok (hsel (·=7) h1)
 · exact impStep8_c p fs inp X vP FP v G w hP hXP hX h ho hXG hroom hin hok (hsel (·=8) h1)
 · exact impStep9_c p fs inp X vP FP v G w hP hXP hX h ho hXG hroom hin hok (hsel (·=9) h1)
 · exact impStep11_c p fs inp X vP FP v G w hP hXP hX h ho hXG hroom hin hok (hsel (·=11) h1)
set_option maxRecDepth 100000 in
set_option maxHeartbeats 8000000 in
theorem nImplStepped_c(p:PrgProg)(fs:List RunFrame)(inp:Int)(vP vF:Value)(FP FF:List Nat)(w:World)(hP:RL w p.Procs vP FP)(h:RL w fs vF FF)(hin:I64 inp)(hok:runOk p (goes fs)=true)(hal:∀(m:Nat) (hml:m<fs.length) (i:InsIns),fs.length=m+1→prgAt p fs[m].Proc fs[m].Pc=some i→i.Op=1∨i.Op=2∨i.Op=3∨i.Op=4∨i.Op=5∨i.Op=6∨i.Op=7∨i.Op=8∨i.Op=9∨i.Op=11):
 Calls Tryz.prog 66 #[.agg #[vP],.agg #[.int .i64 1,vF,.int .i64 0,.int .i64 0,.int .i64 0],.int .i64 inp] w (RetRun [] (stepped p (goes fs) inp) w):=by
 have F:=goes_facts hok rfl
 have hN:nestOk p fs=true:=F.nest
 have n5:fs.length≤5:=F.n5
 have h44:∀f∈fs,f.Vars.length=4∧f.Cells.length=4:=fun f hf=>by
  obtain ⟨k,hk,rfl⟩:=List.mem_iff_getElem.1 hf
  obtain ⟨-,-,h1,h2,-⟩:=frame_facts ((nest_iff p _).1 hN k hk).1
  exact ⟨h1,h2⟩
 have hcp:∀wx,Chg [] w wx→Calls Tryz.prog 65 #[.agg #[.int .i64 1,vF,.int .i64 0,.int .i64 0,.int .i64 0]] wx (RetCopy (goes fs) wx):=fun wx hx=>copyRun_c (goes fs) _ _ wx (h.chg0 hx) n5 h44
 have hP_:=Lib.hid hP
 have hok_:=Lib.hid hok
 have hal_:=Lib.hid hal
 clear hal
 obtain ⟨AP,cP,rfl,-,-⟩:=hP.form
 obtain ⟨AF,cF,rfl,-,-⟩:=h.form
 clear F hN n5 h44 hP h hok
 have hmf:∀(fn:Fn) (first cap:Array Value) (w:World),(Instr.makeFunc fn first cap).run Tryz.prog w=.ok (.func fn first cap) w:=fun _ _ _ _=>rfl
 go_enter_defers Tryz.func66,Tryz.ntmps66
 go_wp2_with fail
 generalize hW0:World.alloc _ _=w0
 have hK0:Chg [] w w0:=hW0▸Chg.c
 have pb:w0.cell? ⟨w.heap.size,0,none⟩=some (.slice AP p.Procs.length cP):=by rw [←hW0];simp [go_sem]
 have r0:w0.cell? ⟨w.heap.size+1,0,none⟩=some (.int .i64 1):=by rw [←hW0];simp [go_sem]
 have r1:w0.cell? ⟨w.heap.size+1,1,none⟩=some (.slice AF fs.length cF):=by rw [←hW0];simp [go_sem]
 have r2:w0.cell? ⟨w.heap.size+1,2,none⟩=some (.int .i64 0):=by rw [←hW0];simp [go_sem]
 have r3:w0.cell? ⟨w.heap.size+1,3,none⟩=some (.int .i64 0):=by rw [←hW0];simp [go_sem]
 have r4:w0.cell? ⟨w.heap.size+1,4,none⟩=some (.int .i64 0):=by rw [←hW0];simp [go_sem]
 have x0:w0.cell? ⟨w.heap.size+2,0,none⟩=some (.int .i64 0):=by rw [←hW0];simp [go_sem]
 have x1:w0.cell? ⟨w.heap.size+2,1,none⟩=some (.slice none 0 0):=by rw [←hW0];simp [go_sem]
 have x2:w0.cell? ⟨w.heap.size+2,2,none⟩=some (.int .i64 0):=by rw [←hW0];simp [go_sem]
 have x3:w0.cell? ⟨w.heap.size+2,3,none⟩=some (.int .i64 0):=by rw [←hW0];simp [go_sem]
 have x4:w0.cell? ⟨w.heap.size+2,4,none⟩=some (.int .i64 0):=by rw [←hW0];simp [go_sem]
 have fx:∀j,w0.frozen? ⟨w.heap.size+2,j,none⟩=false:=fun j=>by rw [←hW0];simp [go_sem]
 have l0:w.heap.size+2<w0.heap.size:=by rw [←hW0];simp [go_sem]
 clear hW0 hmf
 go_region_held3 (fun w'=>w'.cell? ⟨w.heap.size,0,none⟩=some (.slice AP p.Procs.length cP)∧w'.cell? ⟨w.heap.size+1,0,none⟩=some (.int .i64 1)∧w'.cell? ⟨w.heap.size+1,1,none⟩=some (.slice AF fs.length cF)∧w'.cell? ⟨w.heap.size+1,2,none⟩=some (.int .i64 0)∧w'.cell? ⟨w.heap.size+1,3,none⟩=some (.int .i64 0)∧w'.cell? ⟨w.heap.size+1,4,none⟩=some (.int .i64 0)) (((try dsimp only);(repeat' apply And.intro)<;>(first|with_reducible assumption|(go_keep;done))))
  (first|(go_at_call 65;refine (hcp _ (Chg.k)).mono ?_;rintro e wc ⟨v,base,rfl,hcc,hGc,hbc⟩;have hKc:Chg [] w0 wc:=Chg.trans0 (show Chg [] w0 _ from Chg.c) hcc;have hbase:w0.heap.size≤base:=Nat.le_trans (show Chg [] w0 _ from Chg.c).size hbc;obtain ⟨G,hR,hO,hge,hRoom⟩:=hGc.out;simp only [goes] at hR hRoom;obtain ⟨A3,k3,c3,rfl⟩:=form3 hR;have hR_:=Lib.hid hR;have hO_:=Lib.hid hO;have hge_:=Lib.hid hge;have hRoom_:=Lib.hid hRoom;have pbc:=hKc.cell0 pb;have rc0:=hKc.cell0 r0;have rc1:=hKc.cell0 r1;have rc2:=hKc.cell0 r2;have rc3:=hKc.cell0 r3;have rc4:=hKc.cell0 r4;clear hcc hGc hbc hR hO hge hRoom hcp))
 all_goals
  generalize hW3:World.alloc _ _=w3
  have h3:Chg [] wc w3:=hW3▸Chg.c
  have hX3:RunX w3 wc.heap.size (.slice AP p.Procs.length cP) (goes fs) (.slice A3 k3 c3):=by
   have e:=hW3
   clear hW3
   rw [←e]
   clear e
   refine ⟨?_,?_,?_,?_,?_,?_,fun j=>?_⟩<;>simp [go_sem,goes]
  have hK3:=hK0.trans0 (hKc.trans0 h3)
  have hXw:w.heap.size+2<wc.heap.size:=Nat.lt_of_lt_of_le l0 hKc.size
  have hXP:=Lib.hid (show wc.heap.size∉FP from fun hg=>absurd (hP_.out.lt _ hg) (by omega))
  have hXG:=Lib.hid (show wc.heap.size∉G from fun hg=>absurd (hO_.out.lt _ hg) (Nat.lt_irrefl _))
  have hns:=Lib.hid (show w.heap.size+2∉wc.heap.size::G from fun hg=>by
   rcases List.mem_cons.1 hg with h1|h1
   · omega
   · have:=hge_.out _ h1;omega)
  have hnw:=Lib.hid (show ∀g∈wc.heap.size::G,w.heap.size≤g from fun g hg=>by
   rcases List.mem_cons.1 hg with h1|h1
   · omega
   · have:=hge_.out _ h1;omega)
  have h03:=hKc.trans0 h3
  have x30:=h03.cell0 x0
  have x31:=h03.cell0 x1
  have x32:=h03.cell0 x2
  have x33:=h03.cell0 x3
  have x34:=h03.cell0 x4
  have fx3:∀j,w3.frozen? ⟨w.heap.size+2,j,none⟩=false:=fun j=>(h03.cells.2 (w.heap.size+2) j l0).trans (fx j)
  have l3:=Nat.lt_of_lt_of_le l0 h03.size
  have hX3_:=Lib.hid hX3
  clear hW3 hX3
  go_wp2_with fail
  refine (nImpStep_c p fs inp wc.heap.size _ FP _ G _ (hP_.out.chg0 hK3) hXP.out hX3_.out (hR_.out.chg0 h3) (hO_.out.chg0 h3) hXG.out (hRoom_.out.chg h3 (by simp)) hin hok_.out hal_.out).mono ?_
  rintro e w9 hres
  have hnx:=Lib.hid (show ∀x:RunRun,True from fun _=>trivial)
  rcases hres with ⟨rfl,v9,G9,RX9,hc9,r9,o9,g9⟩|⟨⟨rfl,hc9⟩,hnil⟩
  · obtain ⟨A9,k9,c9,rfl⟩:=form3 r9
    have q0:=(hc9.cell (p:=⟨w.heap.size+2,0,none⟩) l3 hns.out).trans x30
    have q1:=(hc9.cell (p:=⟨w.heap.size+2,1,none⟩) l3 hns.out).trans x31
    have q2:=(hc9.cell (p:=⟨w.heap.size+2,2,none⟩) l3 hns.out).trans x32
    have q3:=(hc9.cell (p:=⟨w.heap.size+2,3,none⟩) l3 hns.out).trans x33
    have q4:=(hc9.cell (p:=⟨w.heap.size+2,4,none⟩) l3 hns.out).trans x34
    have l9:=Nat.lt_of_lt_of_le l3 hc9.size
    have fz9:∀j,w9.frozen? ⟨w.heap.size+2,j,none⟩=false:=fun j=>(show w9.frozen? ⟨w.heap.size+2,j,none⟩=w3.frozen? ⟨w.heap.size+2,j,none⟩ from World.frozen?_of_block (hc9.block (w.heap.size+2) l3 hns.out)).trans (fx3 j)
    have z0:=fz9 0
    have z1:=fz9 1
    have z2:=fz9 2
    have z3:=fz9 3
    have z4:=fz9 4
    have X1:=RX9.c1
    have X2:=RX9.c2
    have X3:=RX9.c3
    have X4:=RX9.c4
    have X5:=RX9.c5
    have hcW:Chg [] w w9:=hK3.trans hc9 (fun g hg=>Or.inr (hnw.out g hg))
    have g9':=Lib.hid (show ∀g∈G9,w.heap.size+2<g from fun g hg=>by
     rcases g9 g hg with h1|h1
     · have:=hge_.out _ h1;omega
     · omega)
    have hc9_:=Lib.hid hc9
    have r9_:=Lib.hid r9
    have o9_:=Lib.hid o9
    clear RX9 hc9 r9 o9 g9 fz9 fx fx3
    generalize hst:stepped p (goes fs) inp=x at *
    clear hst
    go_wp2
    refine leaves_cons (f:=129) (args:=#[.pointer (some ⟨w.heap.size+2,0,none⟩)]) (by simp) (by simp [go_sem]) ?_
    refine (catchIdle_c _ _).mono ?_
    rintro e u' w'' ⟨rfl,rfl,rfl⟩
    refine Exists.intro (runV x (.slice A9 k9 c9)) ⟨?_,?_⟩
    · simp [results,Tryz.results66,go_sem,q0,q1,q2,q3,q4,l9]
    · have n9:∀g∈G9,g∉[w.heap.size+2]:=fun g hg hb=>by have h1:=g9'.out g hg;have h2:=List.mem_singleton.1 hb;omega
      exact ⟨_,G9,rfl,Chg.k,r9_.out.chg (G:=[w.heap.size+2]) (Chg.g) n9,o9_.out.chg (G:=[w.heap.size+2]) (Chg.g) n9,fun g hg=>Or.inr (by have:=g9'.out g hg;omega)⟩
  · have q0:=(hc9.cell (p:=⟨w.heap.size+2,0,none⟩) l3 hns.out).trans x30
    have q1:=(hc9.cell (p:=⟨w.heap.size+2,1,none⟩) l3 hns.out).trans x31
    have q2:=(hc9.cell (p:=⟨w.heap.size+2,2,none⟩) l3 hns.out).trans x32
    have q3:=(hc9.cell (p:=⟨w.heap.size+2,3,none⟩) l3 hns.out).trans x33
    have q4:=(hc9.cell (p:=⟨w.heap.size+2,4,none⟩) l3 hns.out).trans x34
    have l9:=Nat.lt_of_lt_of_le l3 hc9.size
    have fz9:∀j,w9.frozen? ⟨w.heap.size+2,j,none⟩=false:=fun j=>(show w9.frozen? ⟨w.heap.size+2,j,none⟩=w3.frozen? ⟨w.heap.size+2,j,none⟩ from World.frozen?_of_block (hc9.block (w.heap.size+2) l3 hns.out)).trans (fx3 j)
    have hcW:Chg [] w w9:=hK3.trans hc9 (fun g hg=>Or.inr (hnw.out g hg))
    refine leaves_cons (f:=129) (args:=#[.pointer (some ⟨w.heap.size+2,0,none⟩)]) (by simp) (by simp [go_sem]) ?_
    refine (catchPan_c _ (w.heap.size+2) w9 q0 q1 q2 q3 q4 fz9 l9).mono ?_
    rintro e u' w'' ⟨rfl,rfl,hcB,d0,d1,d2,d3,d4⟩
    refine Exists.intro (runV (stepped p (goes fs) inp) (.slice none 0 0)) ⟨?_,?_⟩
    · simp [results,Tryz.results66,go_sem,d0,d1,d2,d3,d4]
    · exact RetRun.nil_ hnil (hcW.trans hcB (fun g hg=>Or.inr (by have:=List.mem_singleton.1 hg;omega)))
set_option maxHeartbeats 1000000 in
theorem nImplStepGo_c(p:PrgProg)(r:RunRun)(inp:Int)(vP vF:Value)(FP FF:List Nat)(w:World)(hP:RL w p.Procs vP FP)(h:RL w r.Frames vF FF)(hin:I64 inp)(hok:runOk p r=true)(hs:r.State=1)(hal:∀(m:Nat) (hml:m<r.Frames.length) (i:InsIns),r.Frames.length=m+1→prgAt p r.Frames[m].Proc r.Frames[m].Pc=some i→i.Op=1∨i.Op=2∨i.Op=3∨i.Op=4∨i.Op=5∨i.Op=6∨i.Op=7∨i.Op=8∨i.Op=9∨i.Op=11)(hk:EC Tryz.prog 64 0 [.agg [.d (.sl 3 (p.Procs.map dPrcProc))],.agg [CI r.State,.d (.sl 4 (r.Frames.map dRunFrame)),CI r.Out,CI r.Proc,CI r.Pc]] [] (CB true) [] 0):
 Calls Tryz.prog 14 #[.agg #[vP],runV r vF,.int .i64 inp] w (RetRun [] (runStep p r inp) w):=by
 have hst:runStep p r inp=stepped p r inp:=by unfold runStep;rw [if_pos hok,if_pos hs]
 have eg:=goes_eq (goes_facts hok hs) hs
 have hcp:∀wx,Chg [] w wx→Calls Tryz.prog 66 #[.agg #[vP],runV r vF,.int .i64 inp] wx (RetRun [] (runStep p r inp) wx):=fun wx hx=>by
  rw [hst]
  have hok2:runOk p (goes r.Frames)=true:=eg▸hok
  have:=nImplStepped_c p r.Frames inp _ _ _ _ wx (hP.chg0 hx) (h.chg0 hx) hin hok2 hal
  have e2:stepped p r inp=stepped p (goes r.Frames) inp:=congrArg (fun q=>stepped p q inp) eg
  rw [e2]
  have f:=goes_facts hok hs
  simp only [runV]
  rw [hs,f.out,f.proc,f.pc]
  exact this
 have hsn:(r.State != 1)=false:=by rw [hs];rfl
 have hrk : ∀wx,Chg [] w wx→Calls Tryz.prog 64 #[.agg #[vP],runV r vF] wx (fun e w'=>e=.returned (.bool true)∧Chg [] wx w'):=fun wx hx=>by
  refine (hk.calls (RO:=fun b=>b∈FP∨b∈FF) (w:=wx) (vs:=#[.agg #[vP],runV r vF]) (fun b hb=>hb.elim ((hP.chg0 hx).lt b) ((h.chg0 hx).lt b)) ⟨rfl,fun i c u h1 h2=>?_⟩).mono ?_
  · match i,h1,h2 with
    | 0, h1,h2=>
      cases h1;cases h2
      refine .agg _ [_] rfl ?_ (fun i c u h1 h2=>?_)
      · obtain ⟨A,cap,rfl,-⟩:=hP.form
        simp [Value.oneCell']
      · match i,h1,h2 with
        | 0,h1,h2=>cases h1;cases h2;exact .d _ _ ((hP.chg0 hx).toD.mono (fun b hb=>.inl hb) (fun _ _=>rfl))
    | 1, h1,h2=>
      cases h1;cases h2
      refine .agg _ [_,vF,_,_,_] rfl ?_ (fun i c u h1 h2=>?_)
      · obtain ⟨A,cap,rfl,-⟩:=h.form
        simp [Value.oneCell']
      · match i,h1,h2 with
        | 0,h1,h2=>cases h1;cases h2;exact .d _ _ (.lit _)
        | 1,h1,h2=>cases h1;cases h2;exact .d _ _ ((h.chg0 hx).toD.mono (fun b hb=>.inr hb) (fun _ _=>rfl))
        | 2,h1,h2=>cases h1;cases h2;exact .d _ _ (.lit _)
        | 3,h1,h2=>cases h1;cases h2;exact .d _ _ (.lit _)
        | 4,h1,h2=>cases h1;cases h2;exact .d _ _ (.lit _)
  · rintro e w' ⟨RO',v,rfl,hc,-,-,-,hr⟩
    exact ⟨by rw [RelC.lit hr],hc⟩
 obtain ⟨AP,cP,rfl,-,-⟩:=hP.form
 obtain ⟨AF,cF,rfl,-,-⟩:=h.form
 clear hal hP h hok hs hin hst eg
 generalize runStep p r inp=x at hcp ⊢
 go_enter Tryz.func14,Tryz.ntmps14
 go_wp2_with (first
  | (go_at_call 64;refine (hrk _ (Chg.c)).mono ?_;rintro e w8 ⟨rfl,hc8⟩;have hK8:Chg [] w w8:=Chg.trans0 (show Chg [] w _ from Chg.c) hc8;have r0:=hc8.cell0 (p:=⟨w.heap.size+1,0,none⟩) (v:=.int .i64 r.State) (by simp [go_sem]);have r1:=hc8.cell0 (p:=⟨w.heap.size+1,1,none⟩) (v:=.slice AF r.Frames.length cF) (by simp [go_sem]);have r2:=hc8.cell0 (p:=⟨w.heap.size+1,2,none⟩) (v:=.int .i64 r.Out) (by simp [go_sem]);have r3:=hc8.cell0 (p:=⟨w.heap.size+1,3,none⟩) (v:=.int .i64 r.Proc) (by simp [go_sem]);have r4:=hc8.cell0 (p:=⟨w.heap.size+1,4,none⟩) (v:=.int .i64 r.Pc) (by simp [go_sem]);have p0:=hc8.cell0 (p:=⟨w.heap.size,0,none⟩) (v:=.slice AP p.Procs.length cP) (by simp [go_sem]);have q0:w8.cell? ⟨w.heap.size+2,0,none⟩=some (.int .i64 0):=hc8.cell0 (by simp [go_sem]);have q1:w8.cell? ⟨w.heap.size+2,1,none⟩=some (.slice none 0 0):=hc8.cell0 (by simp [go_sem]);have q2:w8.cell? ⟨w.heap.size+2,2,none⟩=some (.int .i64 0):=hc8.cell0 (by simp [go_sem]);have q3:w8.cell? ⟨w.heap.size+2,3,none⟩=some (.int .i64 0):=hc8.cell0 (by simp [go_sem]);have q4:w8.cell? ⟨w.heap.size+2,4,none⟩=some (.int .i64 0):=hc8.cell0 (by simp [go_sem]);have z0:w8.frozen? ⟨w.heap.size+2,0,none⟩=false:=(hc8.cells.2 (w.heap.size+2) 0 (by simp [go_sem])).trans (by simp [go_sem]);have z1:w8.frozen? ⟨w.heap.size+2,1,none⟩=false:=(hc8.cells.2 (w.heap.size+2) 1 (by simp [go_sem])).trans (by simp [go_sem]);have z2:w8.frozen? ⟨w.heap.size+2,2,none⟩=false:=(hc8.cells.2 (w.heap.size+2) 2 (by simp [go_sem])).trans (by simp [go_sem]);have z3:w8.frozen? ⟨w.heap.size+2,3,none⟩=false:=(hc8.cells.2 (w.heap.size+2) 3 (by simp [go_sem])).trans (by simp [go_sem]);have z4:w8.frozen? ⟨w.heap.size+2,4,none⟩=false:=(hc8.cells.2 (w.heap.size+2) 4 (by simp [go_sem])).trans (by simp [go_sem]);have lz:w.heap.size+2<w8.heap.size:=Nat.lt_of_lt_of_le (by simp [go_sem]) hc8.size)
  | (go_at_call 66;refine (hcp _ (Chg.k)).mono ?_;rintro e w9 ⟨v9,G9,rfl,hc9,r9,o9,g9⟩;obtain ⟨A9,k9,c9,rfl⟩:=form3 r9;have hY:Chg [] w8 w9:=Chg.trans0 (show Chg [] w8 _ from Chg.c) hc9;have hK9:=hK8.trans0 hY;have hY0:=(show Chg [] w8 _ from Chg.c).size;have u0:=hY.cell0 q0;have u1:=hY.cell0 q1;have u2:=hY.cell0 q2;have u3:=hY.cell0 q3;have u4:=hY.cell0 q4;have y0:w9.frozen? ⟨w.heap.size+2,0,none⟩=false:=(hY.cells.2 (w.heap.size+2) 0 lz).trans z0;have y1:w9.frozen? ⟨w.heap.size+2,1,none⟩=false:=(hY.cells.2 (w.heap.size+2) 1 lz).trans z1;have y2:w9.frozen? ⟨w.heap.size+2,2,none⟩=false:=(hY.cells.2 (w.heap.size+2) 2 lz).trans z2;have y3:w9.frozen? ⟨w.heap.size+2,3,none⟩=false:=(hY.cells.2 (w.heap.size+2) 3 lz).trans z3;have y4:w9.frozen? ⟨w.heap.size+2,4,none⟩=false:=(hY.cells.2 (w.heap.size+2) 4 lz).trans z4;have lz9:=Nat.lt_of_lt_of_le lz hY.size;have lz9b:w.heap.size+1<w9.heap.size:=Nat.lt_of_succ_lt lz9))
 all_goals
  have g9':∀g∈G9,w.heap.size+2<g:=fun g hg=>(g9 g hg).elim (fun h1=>absurd h1 (by simp)) (fun h1=>Nat.lt_of_lt_of_le (Nat.lt_of_lt_of_le lz hY0) h1)
  have n9:∀g∈G9,g∉[w.heap.size+2]:=fun g hg hb=>by have h1:=g9' g hg;have h2:=List.mem_singleton.1 hb;omega
  refine bodyPost_ret (v:=runV x (.slice A9 k9 c9)) ?_ rfl ?_
  · simp [results,Tryz.results14,go_sem,u0,u1,u2,u3,u4,lz9]
  · exact ⟨_,G9,rfl,Chg.k,r9.chg (G:=[w.heap.size+2]) (Chg.g) n9,o9.chg (G:=[w.heap.size+2]) (Chg.g) n9,fun g hg=>Or.inr (Nat.le_of_lt (Nat.lt_trans (by omega) (g9' g hg)))⟩
end Go.Proofs.YtjakhnhnjhafgaaGreat.Wk
namespace Go.Proofs.YtjakhnhnjhafgaaGreat.Wk
open Go Go.RowKit Go.Deep Ow
set_option maxRecDepth 100000
theorem nRunStep_e{p0:List PrcProc}{r0 r2 r3 r4 inp:Int}{r1:List RunFrame}{x:RunRun}(hp:p0≠[]∧∀c∈p0,Bo.ok c)(hf:r1≠[]∧∀f∈r1,Bo.ok f)(hi:I64 inp)(hok:runOk ⟨p0⟩ ⟨r0,r1,r2,r3,r4⟩=true)(hs:r0=1)(hal:∀(m:Nat) (hml:m<r1.length) (i:InsIns),r1.length=m+1→prgAt ⟨p0⟩ r1[m].Proc r1[m].Pc=some i→i.Op=1∨i.Op=2∨i.Op=3∨i.Op=4∨i.Op=5∨i.Op=6∨i.Op=7∨i.Op=8∨i.Op=9∨i.Op=11)(h:runStep ⟨p0⟩ ⟨r0,r1,r2,r3,r4⟩ inp=x):
 EC Tryz.prog 14 0 [.agg [.d (.sl 3 (p0.map dPrcProc))],.agg [CI r0,.d (.sl 4 (r1.map dRunFrame)),CI r2,CI r3,CI r4],CI inp] [] (.agg [CI x.State,.d (.sl 4 (x.Frames.map dRunFrame)),CI x.Out,CI x.Proc,CI x.Pc]) [] 0:=by
 subst h
 refine EC.ofMem (FnIs.ok (fn:=Tryz.f14) ⟨by kernel_rfl,by kernel_rfl,rfl⟩) (fun ρ RO w vs hro hr=>?_)
 obtain ⟨a,b,c,rfl,ha,hb,hc⟩:=hr.vs3
 obtain ⟨vP,rfl,hP⟩:=ha.agg1
 obtain ⟨y0,vF,y2,y3,y4,rfl,h0,hF,h2,h3,h4⟩:=hb.agg5
 obtain rfl:=h0.lit
 obtain rfl:=h2.lit
 obtain rfl:=h3.lit
 obtain rfl:=h4.lit
 obtain rfl:=hc.lit
 obtain ⟨FP,-,rP⟩:=RL.ofD (xs:=p0) hro hp.1 hp.2 hP.dd
 obtain ⟨FF,-,rF⟩:=RL.ofD (xs:=r1) hro hf.1 hf.2 hF.dd
 refine (nImplStepGo_c ⟨p0⟩ ⟨r0,r1,r2,r3,r4⟩ inp vP vF FP FF w rP rF hi hok hs hal (kRunOk_e hp hf hs hok)).mono ?_
 rintro e w' ⟨v,G,rfl,hc,hR,hO,hg⟩
 refine ⟨_,G,rfl,hc,fun g h=>(hg g h).elim (fun h=>by cases h) .inr,hR.lt,?_⟩
 have hD:RelD (fun b=>RO b∨b∈G) w' (.sl 4 ((runStep ⟨p0⟩ ⟨r0,r1,r2,r3,r4⟩ inp).Frames.map dRunFrame)) v:=hR.toD.mono (fun b hb=>.inr hb) (fun _ _=>rfl)
 refine .agg _ [_,v,_,_,_] rfl ?_ ?_
 · obtain ⟨A,cap,rfl,-⟩:=hR.form
   simp [Value.oneCell']
 · intro i c u h1 h2
   match i,h1,h2 with
   | 0,h1,h2=>cases h1;cases h2;exact .d _ _ (.lit _)
   | 1,h1,h2=>cases h1;cases h2;exact .d _ _ hD
   | 2,h1,h2=>cases h1;cases h2;exact .d _ _ (.lit _)
   | 3,h1,h2=>cases h1;cases h2;exact .d _ _ (.lit _)
   | 4,h1,h2=>cases h1;cases h2;exact .d _ _ (.lit _)
end Go.Proofs.YtjakhnhnjhafgaaGreat.Wk
namespace Go.Proofs.YtjakhnhnjhafgaaGreat.Wk
open Go Go.RowKit Go.Deep Ow
theorem ins_i64{i:InsIns}{n m:Int}(h:insOk i n m=true)(hn:n≤1000)(hm:m≤1000):Bo.ok i:=by
 obtain ⟨o,d,a,b,r,l,hi,t⟩:=i
 simp only [insOk,Bool.and_eq_true,decide_eq_true_eq,varOk] at h
 obtain ⟨⟨⟨⟨⟨⟨h1,h2⟩,h3⟩,h4⟩,h5⟩,h6⟩,h7⟩:=h
 show I64 o∧I64 d∧I64 a∧I64 b∧I64 r∧I64 l∧I64 hi∧I64 t
 have key:-10≤r∧r≤10∧-1100000000≤l∧l≤1100000000∧-1100000000≤hi∧hi≤1100000000∧0≤t∧t≤1000:=by
  rcases (by omega:o=1∨o=2∨o=3∨o=4∨o=5∨o=6∨o=7∨o=8∨o=9∨o=10∨o=11∨o=12) with rfl|rfl|rfl|rfl|rfl|rfl|rfl|rfl|rfl|rfl|rfl|rfl <;>
   simp [formOk,restOk,relOk,below,itvOk,numOk] at h3 h7<;>omega
 unfold I64
 omega
theorem procs_i64{p:PrgProg}(h:prgOk p=true):p.Procs≠[]∧∀c∈p.Procs,Bo.ok c:=by
 simp only [prgOk,Bool.and_eq_true,decide_eq_true_eq,List.all_eq_true] at h
 obtain ⟨⟨h1,h2⟩,h3⟩:=h
 refine ⟨fun e=>by simp [e] at h1,fun c hc=>?_⟩
 have:=h3 c hc
 simp only [procOk,Bool.and_eq_true,decide_eq_true_eq,List.all_eq_true,itvOk,numOk] at this
 obtain ⟨⟨⟨⟨g1,g2⟩,g3⟩,g4⟩,g5⟩:=this
 refine ⟨?_,?_,fun e=>by (have e':c.Code=[]:=e;rw [e'] at g2;exact absurd g2 (by simp)),fun i hi=>ins_i64 (g4 i hi) (by omega) (by omega)⟩
 · show I64 c.Lo
   unfold I64;omega
 · show I64 c.Hi
   unfold I64;omega
theorem nums_i64{l:List Int}{n:Nat}(h:numsOk l n=true)(hn:0<n):Bo.ok l:=by
 simp only [numsOk,Bool.and_eq_true,List.all_eq_true] at h
 have hl:l.length=n:=by simpa using h.1
 refine ⟨fun e=>by (rw [e] at hl;exact absurd hl (by simp;omega)),fun x hx=>?_⟩
 have:=h.2 x hx
 simp only [numOk,Bool.and_eq_true,decide_eq_true_eq] at this
 show I64 x
 unfold I64;omega
end Go.Proofs.YtjakhnhnjhafgaaGreat.Wk
namespace Ow
open Go Go.RowKit Go.Deep
instance : Bo UInt8 where
 d x:=[.lit (.int .u8 x.toNat)]
 ok _:=True
 len _:=rfl
 to:=fun _ ho hl h=>by
  obtain ⟨v,rfl⟩:=one_of hl
  have:=h 0 _ v rfl rfl
  cases this
  exact ⟨[],by simp,rfl,rfl⟩
 of:=fun h j c u hc hu=>by
  obtain ⟨rfl,rfl⟩:=h
  match j,hc,hu with
  | 0,hc,hu=>cases hc;cases hu;exact .lit _
theorem EC.law2{P:Program}{f:FuncId}{x y:List UInt8}{v u:Value}{F G:List Nat}{w:World}(e:EC P f 0 [.d (.sl 1 (x.map Bo.d)),.d (.sl 1 (y.map Bo.d))] [] (CB true) [] 0)(g:RL w x v F)(g2:RL w y u G):
 Calls P f #[v,u] w fun e w'=>e=.returned (.bool true)∧Chg [] w w':=by
 refine (e.calls (RO:=fun b=>b∈F∨b∈G) (w:=w) (vs:=#[v,u]) (fun b hb=>hb.elim (g.lt b) (g2.lt b)) ⟨rfl,fun i c z hc hu=>?_⟩).mono ?_
 · match i,hc,hu with
   | 0,hc,hu=>cases hc;cases hu;exact .d _ _ (g.toD.mono (fun _ h=>.inl h) (fun _ _=>rfl))
   | 1,hc,hu=>cases hc;cases hu;exact .d _ _ (g2.toD.mono (fun _ h=>.inr h) (fun _ _=>rfl))
 · rintro e w' ⟨RO',v,rfl,hc,-,-,-,hr⟩
   exact ⟨by rw [RelC.lit hr],hc⟩
end Ow
namespace Go.Proofs.YtjakhnhnjhafgaaGreat.Wk
open Go Go.RowKit Go.Deep Ow
theorem pt_step{i:InsIns}{m n:Int}{s:AbsState}{list:List Int}(hl:list.length=12∧∀x∈list,-32768≤x∧x≤32767)(hi:insOk i m 10=true)(hok:absOk s=true)(hon:s.On=true)(h10:i.Op≠10)(h12:i.Op≠12):
 EC Tryz.prog 14 0 [.agg [.d (.sl 3 ((owLone i).Procs.map dPrcProc))],.agg [CI (ptRun s n list).State,.d (.sl 4 ((ptRun s n list).Frames.map dRunFrame)),CI (ptRun s n list).Out,CI (ptRun s n list).Proc,CI (ptRun s n list).Pc],CI (list.getD 8 0)] [] (.agg [CI (ptEnd i s n list).State,.d (.sl 4 ((ptEnd i s n list).Frames.map dRunFrame)),CI (ptEnd i s n list).Out,CI (ptEnd i s n list).Proc,CI (ptEnd i s n list).Pc]) [] 0:=by
 obtain ⟨on,V,c⟩:=s
 simp only at hon
 subst hon
 obtain ⟨hV,hC⟩:=point_in (n:=n) (list:=list) hok
 obtain ⟨hr,-⟩:=run_lone (inp:=list.getD 8 0) hi (inV_nums hV) (inC_nums hC)
 have h8:-32768≤list.getD 8 0∧list.getD 8 0≤32767:=by
  rw [List.getD_eq_getElem?_getD,List.getElem?_eq_getElem (by omega)]
  exact hl.2 _ (List.getElem_mem _)
 have hz:I64 0:=by unfold I64;omega
 refine nRunStep_e (p0:=(owLone i).Procs) (r1:=(ptRun ⟨true,V,c⟩ n list).Frames) (procs_i64 (prg_lone hi)) ⟨nofun,fun f hf=>?_⟩ (by unfold I64;omega) hr rfl (fun m hml j hm hj=>?_) rfl
 · obtain rfl:=List.mem_singleton.1 hf
   exact ⟨hz,hz,nums_i64 (inV_nums hV) (by omega),nums_i64 (inC_nums hC) (by omega)⟩
 · have hm0:m=0:=by simp only [ptRun,List.length_cons,List.length_nil] at hm;omega
   subst hm0
   have hat:prgAt (owLone i) 0 0=some (loneIns i):=by simp [prgAt,owLone]
   have hj':prgAt (owLone i) 0 0=some j:=hj
   rw [hat] at hj'
   cases hj'
   have ho:1≤i.Op∧i.Op≤12:=by simp only [insOk,Bool.and_eq_true,decide_eq_true_eq] at hi;omega
   show i.Op=1∨_
   simp only [loneIns]
   omega
theorem walkFnAbsStep(x:List UInt8)(v:Value)(F:List Nat)(y:List UInt8)(u:Value)(G:List Nat)(w:World)(g:RL w x v F)(g2:RL w y u G):
 Calls Tryz.prog 7 #[v,u] w fun e w'=>e=.returned (.bool true)∧Chg [] w w':=by
 have hd:=dAS_e x
 have hI:=dIn_e y
 have hl:=dIn_len y
 generalize dAS x=a at hd
 generalize dIn y=b at hI hl
 obtain ⟨⟨p0⟩,sl,i,pc,s⟩:=a
 obtain ⟨n,list⟩:=b
 exact (fnAbsStep_e hl.1 hd hI (fun h1 h2 h3 h4 h5=>pt_step hl h1 h2 h3 h4 h5) rfl).law2 g g2
end Go.Proofs.YtjakhnhnjhafgaaGreat.Wk
