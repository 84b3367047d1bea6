/- A part of the proof. -/
import Derived.Handy
import Derived.Test.YtjakhnhnjhafgaaGreatK21
set_option linter.unusedVariables false
set_option linter.unusedSimpArgs false
namespace Go.Proofs.YtjakhnhnjhafgaaGreat.Wk
open Go Go.RowKit Go.Deep Ow
theorem cutItv_c(a b lo hi:Int)(w:World):Calls Tryz.prog 190 #[.agg #[.int .i64 a,.int .i64 b],.int .i64 lo,.int .i64 hi] w fun e w'=>e=.returned (.agg #[.int .i64 (mx a lo),.int .i64 (mn b hi)])∧Chg [] w w':=EC.lit (cutItv_e rfl) rfl rfl w
theorem iItvOk_c(a b:Int)(w:World):Calls Tryz.prog 113 #[.agg #[.int .i64 a,.int .i64 b]] w fun e w'=>e=.returned (.bool (itvOk ⟨a,b⟩))∧Chg [] w w':=EC.lit (iItvOk_e rfl) rfl rfl w
theorem bothOk_c(a b c d:Int)(w:World):Calls Tryz.prog 170 #[.agg #[.int .i64 a,.int .i64 b],.agg #[.int .i64 c,.int .i64 d]] w fun e w'=>e=.returned (.bool (itvOk ⟨a,b⟩&&itvOk ⟨c,d⟩))∧Chg [] w w':=EC.lit (bothOk_e rfl) rfl rfl w
def restr(rel:Int)(a b:ItvItv):ItvItv×ItvItv:=
 if rel=1 then (⟨mx a.Lo (-32768),mn a.Hi (IntKind.i64.wrap (b.Hi-1))⟩,⟨mx b.Lo (IntKind.i64.wrap (a.Lo+1)),mn b.Hi 32767⟩)
 else if rel=2 then (⟨mx a.Lo (-32768),mn a.Hi b.Hi⟩,⟨mx b.Lo a.Lo,mn b.Hi 32767⟩)
 else if rel=3 then (⟨mx a.Lo b.Lo,mn a.Hi b.Hi⟩,⟨mx a.Lo b.Lo,mn a.Hi b.Hi⟩)
 else (without a b,without b a)
def iRel(rel:Int)(a b:ItvItv):ItvItv×ItvItv×Bool:=
 if (decide (1≤rel)&&decide (rel≤4)&&(itvOk a&&itvOk b))=true then
  if rel=3∧itvOk ⟨mx a.Lo b.Lo,mn a.Hi b.Hi⟩=false then (⟨0,0⟩,⟨0,0⟩,false)
  else if (itvOk (restr rel a b).1&&itvOk (restr rel a b).2)=true then ((restr rel a b).1,(restr rel a b).2,true) else (⟨0,0⟩,⟨0,0⟩,false)
 else (⟨0,0⟩,⟨0,0⟩,false)
theorem less_c(a0 a1 b0 b1:Int)(w:World):Calls Tryz.prog 252 #[.agg #[],.agg #[.int .i64 a0,.int .i64 a1],.agg #[.int .i64 b0,.int .i64 b1]] w fun e w'=>e=.returned (.tuple #[.agg #[.int .i64 (mx a0 (-32768)),.int .i64 (mn a1 (wrap64 (b1-1)))],.agg #[.int .i64 (mx b0 (wrap64 (a0+1))),.int .i64 (mn b1 32767)]])∧Chg [] w w':=by
 have h:=EC.lit (lessRel_e (a0:=a0) (a1:=a1) (b0:=b0) (b1:=b1) rfl rfl) rfl rfl w
 simp only [IntWalk.i64_left] at h
 exact h
theorem most_c(a0 a1 b0 b1:Int)(w:World):Calls Tryz.prog 253 #[.agg #[],.agg #[.int .i64 a0,.int .i64 a1],.agg #[.int .i64 b0,.int .i64 b1]] w fun e w'=>e=.returned (.tuple #[.agg #[.int .i64 (mx a0 (-32768)),.int .i64 (mn a1 b1)],.agg #[.int .i64 (mx b0 a0),.int .i64 (mn b1 32767)]])∧Chg [] w w':=EC.lit (mostRel_e rfl rfl) rfl rfl w
theorem same_c(a0 a1 b0 b1:Int)(w:World):Calls Tryz.prog 251 #[.agg #[],.agg #[.int .i64 a0,.int .i64 a1],.agg #[.int .i64 b0,.int .i64 b1]] w fun e w'=>e=.returned (.tuple #[.agg #[.int .i64 (mx a0 b0),.int .i64 (mn a1 b1)],.agg #[.int .i64 (mx a0 b0),.int .i64 (mn a1 b1)]])∧Chg [] w w':=EC.lit (sameRel_e rfl rfl) rfl rfl w
theorem other_c(a0 a1 b0 b1:Int)(w:World):Calls Tryz.prog 254 #[.agg #[],.agg #[.int .i64 a0,.int .i64 a1],.agg #[.int .i64 b0,.int .i64 b1]] w fun e w'=>e=.returned (.tuple #[.agg #[.int .i64 (without ⟨a0,a1⟩ ⟨b0,b1⟩).Lo,.int .i64 (without ⟨a0,a1⟩ ⟨b0,b1⟩).Hi],.agg #[.int .i64 (without ⟨b0,b1⟩ ⟨a0,a1⟩).Lo,.int .i64 (without ⟨b0,b1⟩ ⟨a0,a1⟩).Hi]])∧Chg [] w w':=EC.lit (otherRel_e rfl rfl) rfl rfl w
def itv3(x:ItvItv×ItvItv×Bool):Value:=.tuple #[.agg #[.int .i64 x.1.Lo,.int .i64 x.1.Hi],.agg #[.int .i64 x.2.1.Lo,.int .i64 x.2.1.Hi],.bool x.2.2]
theorem ta_rel_less(w:World):(Instr.typeAssert (.iface 262 (.agg #[])) 237 242 true).run Tryz.prog w=.ok (.tuple #[.agg #[],.bool false]) w:=by kernel_rfl
theorem ta_rel_most(w:World):(Instr.typeAssert (.iface 263 (.agg #[])) 237 242 true).run Tryz.prog w=.ok (.tuple #[.agg #[],.bool false]) w:=by kernel_rfl
theorem ta_rel_same(w:World):(Instr.typeAssert (.iface 242 (.agg #[])) 237 242 true).run Tryz.prog w=.ok (.tuple #[.agg #[],.bool true]) w:=by kernel_rfl
theorem ta_rel_other(w:World):(Instr.typeAssert (.iface 264 (.agg #[])) 237 242 true).run Tryz.prog w=.ok (.tuple #[.agg #[],.bool false]) w:=by kernel_rfl
set_option maxRecDepth 100000 in
set_option maxHeartbeats 4000000 in
theorem itvRel1_c(a0 a1 b0 b1:Int)(w:World):Calls Tryz.prog 153 #[.int .i64 1,.agg #[.int .i64 a0,.int .i64 a1],.agg #[.int .i64 b0,.int .i64 b1]] w fun e w'=>e=.returned (itv3 (iRel 1 ⟨a0,a1⟩ ⟨b0,b1⟩))∧Chg [] w w':=by
 have hU:iRel 1 ⟨a0,a1⟩ ⟨b0,b1⟩=if (itvOk ⟨a0,a1⟩&&itvOk ⟨b0,b1⟩)=true then if (itvOk ⟨mx a0 (-32768),mn a1 (wrap64 (b1-1))⟩&&itvOk ⟨mx b0 (wrap64 (a0+1)),mn b1 32767⟩)=true then (⟨mx a0 (-32768),mn a1 (wrap64 (b1-1))⟩,⟨mx b0 (wrap64 (a0+1)),mn b1 32767⟩,true) else (⟨0,0⟩,⟨0,0⟩,false) else (⟨0,0⟩,⟨0,0⟩,false):=by simp [iRel,restr,IntWalk.i64_left]
 rw [hU]
 clear hU
 cases hok:(itvOk ⟨a0,a1⟩&&itvOk ⟨b0,b1⟩)
 case false=>
  rw [if_neg (by simp)]
  go_enter Tryz.func153,Tryz.ntmps153
  go_wp2_with fail
  refine (relations_c _).mono ?_
  rintro e w1 ⟨rfl,hm⟩
  have hl:=run_lookK w1 _ _ relE 1 hm.map
  have hta:=ta_rel_less
  have hc1:=hm.chg
  obtain ⟨hcl1,hfz1⟩:=hc1.cells
  simp [go_sem,relE,lookK] at hl
  have hz1:w.heap.size+1+1+1+1<w1.heap.size:=by have:=hm.size;simpa using this
  have hz1a:w.heap.size<w1.heap.size:=by omega
  have hz1b:w.heap.size+1<w1.heap.size:=by omega
  have hz1c:w.heap.size+1+1<w1.heap.size:=by omega
  have hz1d:w.heap.size+1+1+1<w1.heap.size:=by omega
  clear hm
  go_wp2_with (first|(go_at_call 170;refine (bothOk_c _ _ _ _ _).mono ?_;rintro e w2 ⟨rfl,hc2⟩;obtain ⟨hcl2,hfz2⟩:=hc2.cells;have hz2:=hc2.size;(try simp only [World.size_alloc,World.size_setCell] at hz2);have hy2:w.heap.size+1+1+1+1<w2.heap.size:=(by omega);have hya2:w.heap.size<w2.heap.size:=(by omega);have hyb2:w.heap.size+1<w2.heap.size:=(by omega);have hyc2:w.heap.size+1+1<w2.heap.size:=(by omega);have hyd2:w.heap.size+1+1+1<w2.heap.size:=(by omega);(try have hva:w3.heap.size<w2.heap.size:=(by omega));(try have hvb:w3.heap.size+1<w2.heap.size:=(by omega)))|(go_at_call 190;refine (cutItv_c _ _ _ _ _).mono ?_;rintro e w5 ⟨rfl,hc5⟩;obtain ⟨hcl5,hfz5⟩:=hc5.cells;have hz5:=hc5.size;(try simp only [World.size_alloc,World.size_setCell] at hz5);have hy5:w.heap.size+1+1+1+1<w5.heap.size:=(by omega);have hya5:w.heap.size<w5.heap.size:=(by omega);have hyb5:w.heap.size+1<w5.heap.size:=(by omega);have hyc5:w.heap.size+1+1<w5.heap.size:=(by omega);have hyd5:w.heap.size+1+1+1<w5.heap.size:=(by omega))|(go_at_call 113;refine (iItvOk_c _ _ _).mono ?_;rintro e w6 ⟨rfl,hc6⟩;obtain ⟨hcl6,hfz6⟩:=hc6.cells;have hz6:=hc6.size;(try simp only [World.size_alloc,World.size_setCell] at hz6);have hy6:w.heap.size+1+1+1+1<w6.heap.size:=(by omega);have hya6:w.heap.size<w6.heap.size:=(by omega);have hyb6:w.heap.size+1<w6.heap.size:=(by omega);have hyc6:w.heap.size+1+1<w6.heap.size:=(by omega);have hyd6:w.heap.size+1+1+1<w6.heap.size:=(by omega))|(go_at_call 252;refine (less_c _ _ _ _ _).mono ?_;rintro e w3 ⟨rfl,hc3⟩;obtain ⟨hcl3,hfz3⟩:=hc3.cells;have hz3:=hc3.size;(try simp only [World.size_alloc,World.size_setCell] at hz3);have hy3:w.heap.size+1+1+1+1<w3.heap.size:=(by omega);have hya3:w.heap.size<w3.heap.size:=(by omega);have hyb3:w.heap.size+1<w3.heap.size:=(by omega);have hyc3:w.heap.size+1+1<w3.heap.size:=(by omega);have hyd3:w.heap.size+1+1+1<w3.heap.size:=(by omega)))
  clear hl hta
  refine bodyPost_ret (v:=itv3 (⟨0,0⟩,⟨0,0⟩,false)) (by simp [results,Tryz.results153,go_sem,itv3, *]) rfl ?_
  exact ⟨rfl,Chg.q⟩
 rw [if_pos rfl]
 cases h2:(itvOk ⟨mx a0 (-32768),mn a1 (wrap64 (b1-1))⟩&&itvOk ⟨mx b0 (wrap64 (a0+1)),mn b1 32767⟩)
 case false=>
  rw [if_neg (by simp)]
  go_enter Tryz.func153,Tryz.ntmps153
  go_wp2_with fail
  refine (relations_c _).mono ?_
  rintro e w1 ⟨rfl,hm⟩
  have hl:=run_lookK w1 _ _ relE 1 hm.map
  have hta:=ta_rel_less
  have hc1:=hm.chg
  obtain ⟨hcl1,hfz1⟩:=hc1.cells
  simp [go_sem,relE,lookK] at hl
  have hz1:w.heap.size+1+1+1+1<w1.heap.size:=by have:=hm.size;simpa using this
  have hz1a:w.heap.size<w1.heap.size:=by omega
  have hz1b:w.heap.size+1<w1.heap.size:=by omega
  have hz1c:w.heap.size+1+1<w1.heap.size:=by omega
  have hz1d:w.heap.size+1+1+1<w1.heap.size:=by omega
  clear hm
  go_wp2_with (first|(go_at_call 170;refine (bothOk_c _ _ _ _ _).mono ?_;rintro e w2 ⟨rfl,hc2⟩;obtain ⟨hcl2,hfz2⟩:=hc2.cells;have hz2:=hc2.size;(try simp only [World.size_alloc,World.size_setCell] at hz2);have hy2:w.heap.size+1+1+1+1<w2.heap.size:=(by omega);have hya2:w.heap.size<w2.heap.size:=(by omega);have hyb2:w.heap.size+1<w2.heap.size:=(by omega);have hyc2:w.heap.size+1+1<w2.heap.size:=(by omega);have hyd2:w.heap.size+1+1+1<w2.heap.size:=(by omega);(try have hva:w3.heap.size<w2.heap.size:=(by omega));(try have hvb:w3.heap.size+1<w2.heap.size:=(by omega)))|(go_at_call 190;refine (cutItv_c _ _ _ _ _).mono ?_;rintro e w5 ⟨rfl,hc5⟩;obtain ⟨hcl5,hfz5⟩:=hc5.cells;have hz5:=hc5.size;(try simp only [World.size_alloc,World.size_setCell] at hz5);have hy5:w.heap.size+1+1+1+1<w5.heap.size:=(by omega);have hya5:w.heap.size<w5.heap.size:=(by omega);have hyb5:w.heap.size+1<w5.heap.size:=(by omega);have hyc5:w.heap.size+1+1<w5.heap.size:=(by omega);have hyd5:w.heap.size+1+1+1<w5.heap.size:=(by omega))|(go_at_call 113;refine (iItvOk_c _ _ _).mono ?_;rintro e w6 ⟨rfl,hc6⟩;obtain ⟨hcl6,hfz6⟩:=hc6.cells;have hz6:=hc6.size;(try simp only [World.size_alloc,World.size_setCell] at hz6);have hy6:w.heap.size+1+1+1+1<w6.heap.size:=(by omega);have hya6:w.heap.size<w6.heap.size:=(by omega);have hyb6:w.heap.size+1<w6.heap.size:=(by omega);have hyc6:w.heap.size+1+1<w6.heap.size:=(by omega);have hyd6:w.heap.size+1+1+1<w6.heap.size:=(by omega))|(go_at_call 252;refine (less_c _ _ _ _ _).mono ?_;rintro e w3 ⟨rfl,hc3⟩;obtain ⟨hcl3,hfz3⟩:=hc3.cells;have hz3:=hc3.size;(try simp only [World.size_alloc,World.size_setCell] at hz3);have hy3:w.heap.size+1+1+1+1<w3.heap.size:=(by omega);have hya3:w.heap.size<w3.heap.size:=(by omega);have hyb3:w.heap.size+1<w3.heap.size:=(by omega);have hyc3:w.heap.size+1+1<w3.heap.size:=(by omega);have hyd3:w.heap.size+1+1+1<w3.heap.size:=(by omega)))
  clear hl hta
  refine bodyPost_ret (v:=itv3 (⟨0,0⟩,⟨0,0⟩,false)) (by simp [results,Tryz.results153,go_sem,itv3, *]) rfl ?_
  exact ⟨rfl,Chg.q⟩
 rw [if_pos rfl]
 go_enter Tryz.func153,Tryz.ntmps153
 go_wp2_with fail
 refine (relations_c _).mono ?_
 rintro e w1 ⟨rfl,hm⟩
 have hl:=run_lookK w1 _ _ relE 1 hm.map
 have hta:=ta_rel_less
 have hc1:=hm.chg
 obtain ⟨hcl1,hfz1⟩:=hc1.cells
 simp [go_sem,relE,lookK] at hl
 have hz1:w.heap.size+1+1+1+1<w1.heap.size:=by have:=hm.size;simpa using this
 have hz1a:w.heap.size<w1.heap.size:=by omega
 have hz1b:w.heap.size+1<w1.heap.size:=by omega
 have hz1c:w.heap.size+1+1<w1.heap.size:=by omega
 have hz1d:w.heap.size+1+1+1<w1.heap.size:=by omega
 clear hm
 go_wp2_with (first|(go_at_call 170;refine (bothOk_c _ _ _ _ _).mono ?_;rintro e w2 ⟨rfl,hc2⟩;obtain ⟨hcl2,hfz2⟩:=hc2.cells;have hz2:=hc2.size;(try simp only [World.size_alloc,World.size_setCell] at hz2);have hy2:w.heap.size+1+1+1+1<w2.heap.size:=(by omega);have hya2:w.heap.size<w2.heap.size:=(by omega);have hyb2:w.heap.size+1<w2.heap.size:=(by omega);have hyc2:w.heap.size+1+1<w2.heap.size:=(by omega);have hyd2:w.heap.size+1+1+1<w2.heap.size:=(by omega);(try have hva:w3.heap.size<w2.heap.size:=(by omega));(try have hvb:w3.heap.size+1<w2.heap.size:=(by omega)))|(go_at_call 190;refine (cutItv_c _ _ _ _ _).mono ?_;rintro e w5 ⟨rfl,hc5⟩;obtain ⟨hcl5,hfz5⟩:=hc5.cells;have hz5:=hc5.size;(try simp only [World.size_alloc,World.size_setCell] at hz5);have hy5:w.heap.size+1+1+1+1<w5.heap.size:=(by omega);have hya5:w.heap.size<w5.heap.size:=(by omega);have hyb5:w.heap.size+1<w5.heap.size:=(by omega);have hyc5:w.heap.size+1+1<w5.heap.size:=(by omega);have hyd5:w.heap.size+1+1+1<w5.heap.size:=(by omega))|(go_at_call 113;refine (iItvOk_c _ _ _).mono ?_;rintro e w6 ⟨rfl,hc6⟩;obtain ⟨hcl6,hfz6⟩:=hc6.cells;have hz6:=hc6.size;(try simp only [World.size_alloc,World.size_setCell] at hz6);have hy6:w.heap.size+1+1+1+1<w6.heap.size:=(by omega);have hya6:w.heap.size<w6.heap.size:=(by omega);have hyb6:w.heap.size+1<w6.heap.size:=(by omega);have hyc6:w.heap.size+1+1<w6.heap.size:=(by omega);have hyd6:w.heap.size+1+1+1<w6.heap.size:=(by omega))|(go_at_call 252;refine (less_c _ _ _ _ _).mono ?_;rintro e w3 ⟨rfl,hc3⟩;obtain ⟨hcl3,hfz3⟩:=hc3.cells;have hz3:=hc3.size;(try simp only [World.size_alloc,World.size_setCell] at hz3);have hy3:w.heap.size+1+1+1+1<w3.heap.size:=(by omega);have hya3:w.heap.size<w3.heap.size:=(by omega);have hyb3:w.heap.size+1<w3.heap.size:=(by omega);have hyc3:w.heap.size+1+1<w3.heap.size:=(by omega);have hyd3:w.heap.size+1+1+1<w3.heap.size:=(by omega)))
 go_region
 go_wp2
 clear hl hta
 refine bodyPost_ret (v:=itv3 (⟨mx a0 (-32768),mn a1 (wrap64 (b1-1))⟩,⟨mx b0 (wrap64 (a0+1)),mn b1 32767⟩,true)) (by simp [results,Tryz.results153,go_sem,itv3, *]) rfl ?_
 exact ⟨rfl,Chg.q⟩
set_option maxRecDepth 100000 in
set_option maxHeartbeats 4000000 in
theorem itvRel2_c(a0 a1 b0 b1:Int)(w:World):Calls Tryz.prog 153 #[.int .i64 2,.agg #[.int .i64 a0,.int .i64 a1],.agg #[.int .i64 b0,.int .i64 b1]] w fun e w'=>e=.returned (itv3 (iRel 2 ⟨a0,a1⟩ ⟨b0,b1⟩))∧Chg [] w w':=by
 have hU:iRel 2 ⟨a0,a1⟩ ⟨b0,b1⟩=if (itvOk ⟨a0,a1⟩&&itvOk ⟨b0,b1⟩)=true then if (itvOk ⟨mx a0 (-32768),mn a1 b1⟩&&itvOk ⟨mx b0 a0,mn b1 32767⟩)=true then (⟨mx a0 (-32768),mn a1 b1⟩,⟨mx b0 a0,mn b1 32767⟩,true) else (⟨0,0⟩,⟨0,0⟩,false) else (⟨0,0⟩,⟨0,0⟩,false):=by simp [iRel,restr,IntWalk.i64_left]
 rw [hU]
 clear hU
 cases hok:(itvOk ⟨a0,a1⟩&&itvOk ⟨b0,b1⟩)
 case false=>
  rw [if_neg (by simp)]
  go_enter Tryz.func153,Tryz.ntmps153
  go_wp2_with fail
  refine (relations_c _).mono ?_
  rintro e w1 ⟨rfl,hm⟩
  have hl:=run_lookK w1 _ _ relE 2 hm.map
  have hta:=ta_rel_most
  have hc1:=hm.chg
  obtain ⟨hcl1,hfz1⟩:=hc1.cells
  simp [go_sem,relE,lookK] at hl
  have hz1:w.heap.size+1+1+1+1<w1.heap.size:=by have:=hm.size;simpa using this
  have hz1a:w.heap.size<w1.heap.size:=by omega
  have hz1b:w.heap.size+1<w1.heap.size:=by omega
  have hz1c:w.heap.size+1+1<w1.heap.size:=by omega
  have hz1d:w.heap.size+1+1+1<w1.heap.size:=by omega
  clear hm
  go_wp2_with (first|(go_at_call 170;refine (bothOk_c _ _ _ _ _).mono ?_;rintro e w2 ⟨rfl,hc2⟩;obtain ⟨hcl2,hfz2⟩:=hc2.cells;have hz2:=hc2.size;(try simp only [World.size_alloc,World.size_setCell] at hz2);have hy2:w.heap.size+1+1+1+1<w2.heap.size:=(by omega);have hya2:w.heap.size<w2.heap.size:=(by omega);have hyb2:w.heap.size+1<w2.heap.size:=(by omega);have hyc2:w.heap.size+1+1<w2.heap.size:=(by omega);have hyd2:w.heap.size+1+1+1<w2.heap.size:=(by omega);(try have hva:w3.heap.size<w2.heap.size:=(by omega));(try have hvb:w3.heap.size+1<w2.heap.size:=(by omega)))|(go_at_call 190;refine (cutItv_c _ _ _ _ _).mono ?_;rintro e w5 ⟨rfl,hc5⟩;obtain ⟨hcl5,hfz5⟩:=hc5.cells;have hz5:=hc5.size;(try simp only [World.size_alloc,World.size_setCell] at hz5);have hy5:w.heap.size+1+1+1+1<w5.heap.size:=(by omega);have hya5:w.heap.size<w5.heap.size:=(by omega);have hyb5:w.heap.size+1<w5.heap.size:=(by omega);have hyc5:w.heap.size+1+1<w5.heap.size:=(by omega);have hyd5:w.heap.size+1+1+1<w5.heap.size:=(by omega))|(go_at_call 113;refine (iItvOk_c _ _ _).mono ?_;rintro e w6 ⟨rfl,hc6⟩;obtain ⟨hcl6,hfz6⟩:=hc6.cells;have hz6:=hc6.size;(try simp only [World.size_alloc,World.size_setCell] at hz6);have hy6:w.heap.size+1+1+1+1<w6.heap.size:=(by omega);have hya6:w.heap.size<w6.heap.size:=(by omega);have hyb6:w.heap.size+1<w6.heap.size:=(by omega);have hyc6:w.heap.size+1+1<w6.heap.size:=(by omega);have hyd6:w.heap.size+1+1+1<w6.heap.size:=(by omega))|(go_at_call 253;refine (most_c _ _ _ _ _).mono ?_;rintro e w3 ⟨rfl,hc3⟩;obtain ⟨hcl3,hfz3⟩:=hc3.cells;have hz3:=hc3.size;(try simp only [World.size_alloc,World.size_setCell] at hz3);have hy3:w.heap.size+1+1+1+1<w3.heap.size:=(by omega);have hya3:w.heap.size<w3.heap.size:=(by omega);have hyb3:w.heap.size+1<w3.heap.size:=(by omega);have hyc3:w.heap.size+1+1<w3.heap.size:=(by omega);have hyd3:w.heap.size+1+1+1<w3.heap.size:=(by omega)))
  clear hl hta
  refine bodyPost_ret (v:=itv3 (⟨0,0⟩,⟨0,0⟩,false)) (by simp [results,Tryz.results153,go_sem,itv3, *]) rfl ?_
  exact ⟨rfl,Chg.q⟩
 rw [if_pos rfl]
 cases h2:(itvOk ⟨mx a0 (-32768),mn a1 b1⟩&&itvOk ⟨mx b0 a0,mn b1 32767⟩)
 case false=>
  rw [if_neg (by simp)]
  go_enter Tryz.func153,Tryz.ntmps153
  go_wp2_with fail
  refine (relations_c _).mono ?_
  rintro e w1 ⟨rfl,hm⟩
  have hl:=run_lookK w1 _ _ relE 2 hm.map
  have hta:=ta_rel_most
  have hc1:=hm.chg
  obtain ⟨hcl1,hfz1⟩:=hc1.cells
  simp [go_sem,relE,lookK] at hl
  have hz1:w.heap.size+1+1+1+1<w1.heap.size:=by have:=hm.size;simpa using this
  have hz1a:w.heap.size<w1.heap.size:=by omega
  have hz1b:w.heap.size+1<w1.heap.size:=by omega
  have hz1c:w.heap.size+1+1<w1.heap.size:=by omega
  have hz1d:w.heap.size+1+1+1<w1.heap.size:=by omega
  clear hm
  go_wp2_with (first|(go_at_call 170;refine (bothOk_c _ _ _ _ _).mono ?_;rintro e w2 ⟨rfl,hc2⟩;obtain ⟨hcl2,hfz2⟩:=hc2.cells;have hz2:=hc2.size;(try simp only [World.size_alloc,World.size_setCell] at hz2);have hy2:w.heap.size+1+1+1+1<w2.heap.size:=(by omega);have hya2:w.heap.size<w2.heap.size:=(by omega);have hyb2:w.heap.size+1<w2.heap.size:=(by omega);have hyc2:w.heap.size+1+1<w2.heap.size:=(by omega);have hyd2:w.heap.size+1+1+1<w2.heap.size:=(by omega);(try have hva:w3.heap.size<w2.heap.size:=(by omega));(try have hvb:w3.heap.size+1<w2.heap.size:=(by omega)))|(go_at_call 190;refine (cutItv_c _ _ _ _ _).mono ?_;rintro e w5 ⟨rfl,hc5⟩;obtain ⟨hcl5,hfz5⟩:=hc5.cells;have hz5:=hc5.size;(try simp only [World.size_alloc,World.size_setCell] at hz5);have hy5:w.heap.size+1+1+1+1<w5.heap.size:=(by omega);have hya5:w.heap.size<w5.heap.size:=(by omega);have hyb5:w.heap.size+1<w5.heap.size:=(by omega);have hyc5:w.heap.size+1+1<w5.heap.size:=(by omega);have hyd5:w.heap.size+1+1+1<w5.heap.size:=(by omega))|(go_at_call 113;refine (iItvOk_c _ _ _).mono ?_;rintro e w6 ⟨rfl,hc6⟩;obtain ⟨hcl6,hfz6⟩:=hc6.cells;have hz6:=hc6.size;(try simp only [World.size_alloc,World.size_setCell] at hz6);have hy6:w.heap.size+1+1+1+1<w6.heap.size:=(by omega);have hya6:w.heap.size<w6.heap.size:=(by omega);have hyb6:w.heap.size+1<w6.heap.size:=(by omega);have hyc6:w.heap.size+1+1<w6.heap.size:=(by omega);have hyd6:w.heap.size+1+1+1<w6.heap.size:=(by omega))|(go_at_call 253;refine (most_c _ _ _ _ _).mono ?_;rintro e w3 ⟨rfl,hc3⟩;obtain ⟨hcl3,hfz3⟩:=hc3.cells;have hz3:=hc3.size;(try simp only [World.size_alloc,World.size_setCell] at hz3);have hy3:w.heap.size+1+1+1+1<w3.heap.size:=(by omega);have hya3:w.heap.size<w3.heap.size:=(by omega);have hyb3:w.heap.size+1<w3.heap.size:=(by omega);have hyc3:w.heap.size+1+1<w3.heap.size:=(by omega);have hyd3:w.heap.size+1+1+1<w3.heap.size:=(by omega)))
  clear hl hta
  refine bodyPost_ret (v:=itv3 (⟨0,0⟩,⟨0,0⟩,false)) (by simp [results,Tryz.results153,go_sem,itv3, *]) rfl ?_
  exact ⟨rfl,Chg.q⟩
 rw [if_pos rfl]
 go_enter Tryz.func153,Tryz.ntmps153
 go_wp2_with fail
 refine (relations_c _).mono ?_
 rintro e w1 ⟨rfl,hm⟩
 have hl:=run_lookK w1 _ _ relE 2 hm.map
 have hta:=ta_rel_most
 have hc1:=hm.chg
 obtain ⟨hcl1,hfz1⟩:=hc1.cells
 simp [go_sem,relE,lookK] at hl
 have hz1:w.heap.size+1+1+1+1<w1.heap.size:=by have:=hm.size;simpa using this
 have hz1a:w.heap.size<w1.heap.size:=by omega
 have hz1b:w.heap.size+1<w1.heap.size:=by omega
 have hz1c:w.heap.size+1+1<w1.heap.size:=by omega
 have hz1d:w.heap.size+1+1+1<w1.heap.size:=by omega
 clear hm
 go_wp2_with (first|(go_at_call 170;refine (bothOk_c _ _ _ _ _).mono ?_;rintro e w2 ⟨rfl,hc2⟩;obtain ⟨hcl2,hfz2⟩:=hc2.cells;have hz2:=hc2.size;(try simp only [World.size_alloc,World.size_setCell] at hz2);have hy2:w.heap.size+1+1+1+1<w2.heap.size:=(by omega);have hya2:w.heap.size<w2.heap.size:=(by omega);have hyb2:w.heap.size+1<w2.heap.size:=(by omega);have hyc2:w.heap.size+1+1<w2.heap.size:=(by omega);have hyd2:w.heap.size+1+1+1<w2.heap.size:=(by omega);(try have hva:w3.heap.size<w2.heap.size:=(by omega));(try have hvb:w3.heap.size+1<w2.heap.size:=(by omega)))|(go_at_call 190;refine (cutItv_c _ _ _ _ _).mono ?_;rintro e w5 ⟨rfl,hc5⟩;obtain ⟨hcl5,hfz5⟩:=hc5.cells;have hz5:=hc5.size;(try simp only [World.size_alloc,World.size_setCell] at hz5);have hy5:w.heap.size+1+1+1+1<w5.heap.size:=(by omega);have hya5:w.heap.size<w5.heap.size:=(by omega);have hyb5:w.heap.size+1<w5.heap.size:=(by omega);have hyc5:w.heap.size+1+1<w5.heap.size:=(by omega);have hyd5:w.heap.size+1+1+1<w5.heap.size:=(by omega))|(go_at_call 113;refine (iItvOk_c _ _ _).mono ?_;rintro e w6 ⟨rfl,hc6⟩;obtain ⟨hcl6,hfz6⟩:=hc6.cells;have hz6:=hc6.size;(try simp only [World.size_alloc,World.size_setCell] at hz6);have hy6:w.heap.size+1+1+1+1<w6.heap.size:=(by omega);have hya6:w.heap.size<w6.heap.size:=(by omega);have hyb6:w.heap.size+1<w6.heap.size:=(by omega);have hyc6:w.heap.size+1+1<w6.heap.size:=(by omega);have hyd6:w.heap.size+1+1+1<w6.heap.size:=(by omega))|(go_at_call 253;refine (most_c _ _ _ _ _).mono ?_;rintro e w3 ⟨rfl,hc3⟩;obtain ⟨hcl3,hfz3⟩:=hc3.cells;have hz3:=hc3.size;(try simp only [World.size_alloc,World.size_setCell] at hz3);have hy3:w.heap.size+1+1+1+1<w3.heap.size:=(by omega);have hya3:w.heap.size<w3.heap.size:=(by omega);have hyb3:w.heap.size+1<w3.heap.size:=(by omega);have hyc3:w.heap.size+1+1<w3.heap.size:=(by omega);have hyd3:w.heap.size+1+1+1<w3.heap.size:=(by omega)))
 go_region
 go_wp2
 clear hl hta
 refine bodyPost_ret (v:=itv3 (⟨mx a0 (-32768),mn a1 b1⟩,⟨mx b0 a0,mn b1 32767⟩,true)) (by simp [results,Tryz.results153,go_sem,itv3, *]) rfl ?_
 exact ⟨rfl,Chg.q⟩
set_option maxRecDepth 100000 in
set_option maxHeartbeats 4000000 in
theorem itvRel3_c(a0 a1 b0 b1:Int)(w:World):Calls Tryz.prog 153 #[.int .i64 3,.agg #[.int .i64 a0,.int .i64 a1],.agg #[.int .i64 b0,.int .i64 b1]] w fun e w'=>e=.returned (itv3 (iRel 3 ⟨a0,a1⟩ ⟨b0,b1⟩))∧Chg [] w w':=by
 have hU:iRel 3 ⟨a0,a1⟩ ⟨b0,b1⟩=if (itvOk ⟨a0,a1⟩&&itvOk ⟨b0,b1⟩)=true then if itvOk ⟨mx a0 b0,mn a1 b1⟩=false then (⟨0,0⟩,⟨0,0⟩,false) else if (itvOk ⟨mx a0 b0,mn a1 b1⟩&&itvOk ⟨mx a0 b0,mn a1 b1⟩)=true then (⟨mx a0 b0,mn a1 b1⟩,⟨mx a0 b0,mn a1 b1⟩,true) else (⟨0,0⟩,⟨0,0⟩,false) else (⟨0,0⟩,⟨0,0⟩,false):=by simp [iRel,restr,IntWalk.i64_left]
 rw [hU]
 clear hU
 cases hok:(itvOk ⟨a0,a1⟩&&itvOk ⟨b0,b1⟩)
 case false=>
  rw [if_neg (by simp)]
  go_enter Tryz.func153,Tryz.ntmps153
  go_wp2_with fail
  refine (relations_c _).mono ?_
  rintro e w1 ⟨rfl,hm⟩
  have hl:=run_lookK w1 _ _ relE 3 hm.map
  have hta:=ta_rel_same
  have hc1:=hm.chg
  obtain ⟨hcl1,hfz1⟩:=hc1.cells
  simp [go_sem,relE,lookK] at hl
  have hz1:w.heap.size+1+1+1+1<w1.heap.size:=by have:=hm.size;simpa using this
  have hz1a:w.heap.size<w1.heap.size:=by omega
  have hz1b:w.heap.size+1<w1.heap.size:=by omega
  have hz1c:w.heap.size+1+1<w1.heap.size:=by omega
  have hz1d:w.heap.size+1+1+1<w1.heap.size:=by omega
  clear hm
  go_wp2_with (first|(go_at_call 170;refine (bothOk_c _ _ _ _ _).mono ?_;rintro e w2 ⟨rfl,hc2⟩;obtain ⟨hcl2,hfz2⟩:=hc2.cells;have hz2:=hc2.size;(try simp only [World.size_alloc,World.size_setCell] at hz2);have hy2:w.heap.size+1+1+1+1<w2.heap.size:=(by omega);have hya2:w.heap.size<w2.heap.size:=(by omega);have hyb2:w.heap.size+1<w2.heap.size:=(by omega);have hyc2:w.heap.size+1+1<w2.heap.size:=(by omega);have hyd2:w.heap.size+1+1+1<w2.heap.size:=(by omega);(try have hva:w3.heap.size<w2.heap.size:=(by omega));(try have hvb:w3.heap.size+1<w2.heap.size:=(by omega)))|(go_at_call 190;refine (cutItv_c _ _ _ _ _).mono ?_;rintro e w5 ⟨rfl,hc5⟩;obtain ⟨hcl5,hfz5⟩:=hc5.cells;have hz5:=hc5.size;(try simp only [World.size_alloc,World.size_setCell] at hz5);have hy5:w.heap.size+1+1+1+1<w5.heap.size:=(by omega);have hya5:w.heap.size<w5.heap.size:=(by omega);have hyb5:w.heap.size+1<w5.heap.size:=(by omega);have hyc5:w.heap.size+1+1<w5.heap.size:=(by omega);have hyd5:w.heap.size+1+1+1<w5.heap.size:=(by omega))|(go_at_call 113;refine (iItvOk_c _ _ _).mono ?_;rintro e w6 ⟨rfl,hc6⟩;obtain ⟨hcl6,hfz6⟩:=hc6.cells;have hz6:=hc6.size;(try simp only [World.size_alloc,World.size_setCell] at hz6);have hy6:w.heap.size+1+1+1+1<w6.heap.size:=(by omega);have hya6:w.heap.size<w6.heap.size:=(by omega);have hyb6:w.heap.size+1<w6.heap.size:=(by omega);have hyc6:w.heap.size+1+1<w6.heap.size:=(by omega);have hyd6:w.heap.size+1+1+1<w6.heap.size:=(by omega))|(go_at_call 251;refine (same_c _ _ _ _ _).mono ?_;rintro e w3 ⟨rfl,hc3⟩;obtain ⟨hcl3,hfz3⟩:=hc3.cells;have hz3:=hc3.size;(try simp only [World.size_alloc,World.size_setCell] at hz3);have hy3:w.heap.size+1+1+1+1<w3.heap.size:=(by omega);have hya3:w.heap.size<w3.heap.size:=(by omega);have hyb3:w.heap.size+1<w3.heap.size:=(by omega);have hyc3:w.heap.size+1+1<w3.heap.size:=(by omega);have hyd3:w.heap.size+1+1+1<w3.heap.size:=(by omega)))
  clear hl hta
  refine bodyPost_ret (v:=itv3 (⟨0,0⟩,⟨0,0⟩,false)) (by simp [results,Tryz.results153,go_sem,itv3, *]) rfl ?_
  exact ⟨rfl,Chg.q⟩
 rw [if_pos rfl]
 cases h3:itvOk ⟨mx a0 b0,mn a1 b1⟩
 case false=>
  rw [if_pos rfl]
  go_enter Tryz.func153,Tryz.ntmps153
  go_wp2_with fail
  refine (relations_c _).mono ?_
  rintro e w1 ⟨rfl,hm⟩
  have hl:=run_lookK w1 _ _ relE 3 hm.map
  have hta:=ta_rel_same
  have hc1:=hm.chg
  obtain ⟨hcl1,hfz1⟩:=hc1.cells
  simp [go_sem,relE,lookK] at hl
  have hz1:w.heap.size+1+1+1+1<w1.heap.size:=by have:=hm.size;simpa using this
  have hz1a:w.heap.size<w1.heap.size:=by omega
  have hz1b:w.heap.size+1<w1.heap.size:=by omega
  have hz1c:w.heap.size+1+1<w1.heap.size:=by omega
  have hz1d:w.heap.size+1+1+1<w1.heap.size:=by omega
  clear hm
  go_wp2_with (first|(go_at_call 170;refine (bothOk_c _ _ _ _ _).mono ?_;rintro e w2 ⟨rfl,hc2⟩;obtain ⟨hcl2,hfz2⟩:=hc2.cells;have hz2:=hc2.size;(try simp only [World.size_alloc,World.size_setCell] at hz2);have hy2:w.heap.size+1+1+1+1<w2.heap.size:=(by omega);have hya2:w.heap.size<w2.heap.size:=(by omega);have hyb2:w.heap.size+1<w2.heap.size:=(by omega);have hyc2:w.heap.size+1+1<w2.heap.size:=(by omega);have hyd2:w.heap.size+1+1+1<w2.heap.size:=(by omega);(try have hva:w3.heap.size<w2.heap.size:=(by omega));(try have hvb:w3.heap.size+1<w2.heap.size:=(by omega)))|(go_at_call 190;refine (cutItv_c _ _ _ _ _).mono ?_;rintro e w5 ⟨rfl,hc5⟩;obtain ⟨hcl5,hfz5⟩:=hc5.cells;have hz5:=hc5.size;(try simp only [World.size_alloc,World.size_setCell] at hz5);have hy5:w.heap.size+1+1+1+1<w5.heap.size:=(by omega);have hya5:w.heap.size<w5.heap.size:=(by omega);have hyb5:w.heap.size+1<w5.heap.size:=(by omega);have hyc5:w.heap.size+1+1<w5.heap.size:=(by omega);have hyd5:w.heap.size+1+1+1<w5.heap.size:=(by omega))|(go_at_call 113;refine (iItvOk_c _ _ _).mono ?_;rintro e w6 ⟨rfl,hc6⟩;obtain ⟨hcl6,hfz6⟩:=hc6.cells;have hz6:=hc6.size;(try simp only [World.size_alloc,World.size_setCell] at hz6);have hy6:w.heap.size+1+1+1+1<w6.heap.size:=(by omega);have hya6:w.heap.size<w6.heap.size:=(by omega);have hyb6:w.heap.size+1<w6.heap.size:=(by omega);have hyc6:w.heap.size+1+1<w6.heap.size:=(by omega);have hyd6:w.heap.size+1+1+1<w6.heap.size:=(by omega))|(go_at_call 251;refine (same_c _ _ _ _ _).mono ?_;rintro e w3 ⟨rfl,hc3⟩;obtain ⟨hcl3,hfz3⟩:=hc3.cells;have hz3:=hc3.size;(try simp only [World.size_alloc,World.size_setCell] at hz3);have hy3:w.heap.size+1+1+1+1<w3.heap.size:=(by omega);have hya3:w.heap.size<w3.heap.size:=(by omega);have hyb3:w.heap.size+1<w3.heap.size:=(by omega);have hyc3:w.heap.size+1+1<w3.heap.size:=(by omega);have hyd3:w.heap.size+1+1+1<w3.heap.size:=(by omega)))
  clear hl hta
  refine bodyPost_ret (v:=itv3 (⟨0,0⟩,⟨0,0⟩,false)) (by simp [results,Tryz.results153,go_sem,itv3, *]) rfl ?_
  exact ⟨rfl,Chg.q⟩
 rw [if_neg (by simp),if_pos (show (true&&true)=true from rfl)]
 go_enter Tryz.func153,Tryz.ntmps153
 go_wp2_with fail
 refine (relations_c _).mono ?_
 rintro e w1 ⟨rfl,hm⟩
 have hl:=run_lookK w1 _ _ relE 3 hm.map
 have hta:=ta_rel_same
 have hc1:=hm.chg
 obtain ⟨hcl1,hfz1⟩:=hc1.cells
 simp [go_sem,relE,lookK] at hl
 have hz1:w.heap.size+1+1+1+1<w1.heap.size:=by have:=hm.size;simpa using this
 have hz1a:w.heap.size<w1.heap.size:=by omega
 have hz1b:w.heap.size+1<w1.heap.size:=by omega
 have hz1c:w.heap.size+1+1<w1.heap.size:=by omega
 have hz1d:w.heap.size+1+1+1<w1.heap.size:=by omega
 clear hm
 go_wp2_with (first|(go_at_call 170;refine (bothOk_c _ _ _ _ _).mono ?_;rintro e w2 ⟨rfl,hc2⟩;obtain ⟨hcl2,hfz2⟩:=hc2.cells;have hz2:=hc2.size;(try simp only [World.size_alloc,World.size_setCell] at hz2);have hy2:w.heap.size+1+1+1+1<w2.heap.size:=(by omega);have hya2:w.heap.size<w2.heap.size:=(by omega);have hyb2:w.heap.size+1<w2.heap.size:=(by omega);have hyc2:w.heap.size+1+1<w2.heap.size:=(by omega);have hyd2:w.heap.size+1+1+1<w2.heap.size:=(by omega);(try have hva:w3.heap.size<w2.heap.size:=(by omega));(try have hvb:w3.heap.size+1<w2.heap.size:=(by omega)))|(go_at_call 190;refine (cutItv_c _ _ _ _ _).mono ?_;rintro e w5 ⟨rfl,hc5⟩;obtain ⟨hcl5,hfz5⟩:=hc5.cells;have hz5:=hc5.size;(try simp only [World.size_alloc,World.size_setCell] at hz5);have hy5:w.heap.size+1+1+1+1<w5.heap.size:=(by omega);have hya5:w.heap.size<w5.heap.size:=(by omega);have hyb5:w.heap.size+1<w5.heap.size:=(by omega);have hyc5:w.heap.size+1+1<w5.heap.size:=(by omega);have hyd5:w.heap.size+1+1+1<w5.heap.size:=(by omega))|(go_at_call 113;refine (iItvOk_c _ _ _).mono ?_;rintro e w6 ⟨rfl,hc6⟩;obtain ⟨hcl6,hfz6⟩:=hc6.cells;have hz6:=hc6.size;(try simp only [World.size_alloc,World.size_setCell] at hz6);have hy6:w.heap.size+1+1+1+1<w6.heap.size:=(by omega);have hya6:w.heap.size<w6.heap.size:=(by omega);have hyb6:w.heap.size+1<w6.heap.size:=(by omega);have hyc6:w.heap.size+1+1<w6.heap.size:=(by omega);have hyd6:w.heap.size+1+1+1<w6.heap.size:=(by omega))|(go_at_call 251;refine (same_c _ _ _ _ _).mono ?_;rintro e w3 ⟨rfl,hc3⟩;obtain ⟨hcl3,hfz3⟩:=hc3.cells;have hz3:=hc3.size;(try simp only [World.size_alloc,World.size_setCell] at hz3);have hy3:w.heap.size+1+1+1+1<w3.heap.size:=(by omega);have hya3:w.heap.size<w3.heap.size:=(by omega);have hyb3:w.heap.size+1<w3.heap.size:=(by omega);have hyc3:w.heap.size+1+1<w3.heap.size:=(by omega);have hyd3:w.heap.size+1+1+1<w3.heap.size:=(by omega)))
 go_region
 go_wp2
 clear hl hta
 refine bodyPost_ret (v:=itv3 (⟨mx a0 b0,mn a1 b1⟩,⟨mx a0 b0,mn a1 b1⟩,true)) (by simp [results,Tryz.results153,go_sem,itv3, *]) rfl ?_
 exact ⟨rfl,Chg.q⟩
set_option maxRecDepth 100000 in
set_option maxHeartbeats 4000000 in
theorem itvRel4_c(a0 a1 b0 b1:Int)(w:World):Calls Tryz.prog 153 #[.int .i64 4,.agg #[.int .i64 a0,.int .i64 a1],.agg #[.int .i64 b0,.int .i64 b1]] w fun e w'=>e=.returned (itv3 (iRel 4 ⟨a0,a1⟩ ⟨b0,b1⟩))∧Chg [] w w':=by
 have hU:iRel 4 ⟨a0,a1⟩ ⟨b0,b1⟩=if (itvOk ⟨a0,a1⟩&&itvOk ⟨b0,b1⟩)=true then if (itvOk ⟨(without ⟨a0,a1⟩ ⟨b0,b1⟩).Lo,(without ⟨a0,a1⟩ ⟨b0,b1⟩).Hi⟩&&itvOk ⟨(without ⟨b0,b1⟩ ⟨a0,a1⟩).Lo,(without ⟨b0,b1⟩ ⟨a0,a1⟩).Hi⟩)=true then (⟨(without ⟨a0,a1⟩ ⟨b0,b1⟩).Lo,(without ⟨a0,a1⟩ ⟨b0,b1⟩).Hi⟩,⟨(without ⟨b0,b1⟩ ⟨a0,a1⟩).Lo,(without ⟨b0,b1⟩ ⟨a0,a1⟩).Hi⟩,true) else (⟨0,0⟩,⟨0,0⟩,false) else (⟨0,0⟩,⟨0,0⟩,false):=by simp [iRel,restr,IntWalk.i64_left]
 rw [hU]
 clear hU
 cases hok:(itvOk ⟨a0,a1⟩&&itvOk ⟨b0,b1⟩)
 case false=>
  rw [if_neg (by simp)]
  go_enter Tryz.func153,Tryz.ntmps153
  go_wp2_with fail
  refine (relations_c _).mono ?_
  rintro e w1 ⟨rfl,hm⟩
  have hl:=run_lookK w1 _ _ relE 4 hm.map
  have hta:=ta_rel_other
  have hc1:=hm.chg
  obtain ⟨hcl1,hfz1⟩:=hc1.cells
  simp [go_sem,relE,lookK] at hl
  have hz1:w.heap.size+1+1+1+1<w1.heap.size:=by have:=hm.size;simpa using this
  have hz1a:w.heap.size<w1.heap.size:=by omega
  have hz1b:w.heap.size+1<w1.heap.size:=by omega
  have hz1c:w.heap.size+1+1<w1.heap.size:=by omega
  have hz1d:w.heap.size+1+1+1<w1.heap.size:=by omega
  clear hm
  go_wp2_with (first|(go_at_call 170;refine (bothOk_c _ _ _ _ _).mono ?_;rintro e w2 ⟨rfl,hc2⟩;obtain ⟨hcl2,hfz2⟩:=hc2.cells;have hz2:=hc2.size;(try simp only [World.size_alloc,World.size_setCell] at hz2);have hy2:w.heap.size+1+1+1+1<w2.heap.size:=(by omega);have hya2:w.heap.size<w2.heap.size:=(by omega);have hyb2:w.heap.size+1<w2.heap.size:=(by omega);have hyc2:w.heap.size+1+1<w2.heap.size:=(by omega);have hyd2:w.heap.size+1+1+1<w2.heap.size:=(by omega);(try have hva:w3.heap.size<w2.heap.size:=(by omega));(try have hvb:w3.heap.size+1<w2.heap.size:=(by omega)))|(go_at_call 190;refine (cutItv_c _ _ _ _ _).mono ?_;rintro e w5 ⟨rfl,hc5⟩;obtain ⟨hcl5,hfz5⟩:=hc5.cells;have hz5:=hc5.size;(try simp only [World.size_alloc,World.size_setCell] at hz5);have hy5:w.heap.size+1+1+1+1<w5.heap.size:=(by omega);have hya5:w.heap.size<w5.heap.size:=(by omega);have hyb5:w.heap.size+1<w5.heap.size:=(by omega);have hyc5:w.heap.size+1+1<w5.heap.size:=(by omega);have hyd5:w.heap.size+1+1+1<w5.heap.size:=(by omega))|(go_at_call 113;refine (iItvOk_c _ _ _).mono ?_;rintro e w6 ⟨rfl,hc6⟩;obtain ⟨hcl6,hfz6⟩:=hc6.cells;have hz6:=hc6.size;(try simp only [World.size_alloc,World.size_setCell] at hz6);have hy6:w.heap.size+1+1+1+1<w6.heap.size:=(by omega);have hya6:w.heap.size<w6.heap.size:=(by omega);have hyb6:w.heap.size+1<w6.heap.size:=(by omega);have hyc6:w.heap.size+1+1<w6.heap.size:=(by omega);have hyd6:w.heap.size+1+1+1<w6.heap.size:=(by omega))|(go_at_call 254;refine (other_c _ _ _ _ _).mono ?_;rintro e w3 ⟨rfl,hc3⟩;obtain ⟨hcl3,hfz3⟩:=hc3.cells;have hz3:=hc3.size;(try simp only [World.size_alloc,World.size_setCell] at hz3);have hy3:w.heap.size+1+1+1+1<w3.heap.size:=(by omega);have hya3:w.heap.size<w3.heap.size:=(by omega);have hyb3:w.heap.size+1<w3.heap.size:=(by omega);have hyc3:w.heap.size+1+1<w3.heap.size:=(by omega);have hyd3:w.heap.size+1+1+1<w3.heap.size:=(by omega)))
  clear hl hta
  refine bodyPost_ret (v:=itv3 (⟨0,0⟩,⟨0,0⟩,false)) (by simp [results,Tryz.results153,go_sem,itv3, *]) rfl ?_
  exact ⟨rfl,Chg.q⟩
 rw [if_pos rfl]
 cases h2:(itvOk ⟨(without ⟨a0,a1⟩ ⟨b0,b1⟩).Lo,(without ⟨a0,a1⟩ ⟨b0,b1⟩).Hi⟩&&itvOk ⟨(without ⟨b0,b1⟩ ⟨a0,a1⟩).Lo,(without ⟨b0,b1⟩ ⟨a0,a1⟩).Hi⟩)
 case false=>
  rw [if_neg (by simp)]
  go_enter Tryz.func153,Tryz.ntmps153
  go_wp2_with fail
  refine (relations_c _).mono ?_
  rintro e w1 ⟨rfl,hm⟩
  have hl:=run_lookK w1 _ _ relE 4 hm.map
  have hta:=ta_rel_other
  have hc1:=hm.chg
  obtain ⟨hcl1,hfz1⟩:=hc1.cells
  simp [go_sem,relE,lookK] at hl
  have hz1:w.heap.size+1+1+1+1<w1.heap.size:=by have:=hm.size;simpa using this
  have hz1a:w.heap.size<w1.heap.size:=by omega
  have hz1b:w.heap.size+1<w1.heap.size:=by omega
  have hz1c:w.heap.size+1+1<w1.heap.size:=by omega
  have hz1d:w.heap.size+1+1+1<w1.heap.size:=by omega
  clear hm
  go_wp2_with (first|(go_at_call 170;refine (bothOk_c _ _ _ _ _).mono ?_;rintro e w2 ⟨rfl,hc2⟩;obtain ⟨hcl2,hfz2⟩:=hc2.cells;have hz2:=hc2.size;(try simp only [World.size_alloc,World.size_setCell] at hz2);have hy2:w.heap.size+1+1+1+1<w2.heap.size:=(by omega);have hya2:w.heap.size<w2.heap.size:=(by omega);have hyb2:w.heap.size+1<w2.heap.size:=(by omega);have hyc2:w.heap.size+1+1<w2.heap.size:=(by omega);have hyd2:w.heap.size+1+1+1<w2.heap.size:=(by omega);(try have hva:w3.heap.size<w2.heap.size:=(by omega));(try have hvb:w3.heap.size+1<w2.heap.size:=(by omega)))|(go_at_call 190;refine (cutItv_c _ _ _ _ _).mono ?_;rintro e w5 ⟨rfl,hc5⟩;obtain ⟨hcl5,hfz5⟩:=hc5.cells;have hz5:=hc5.size;(try simp only [World.size_alloc,World.size_setCell] at hz5);have hy5:w.heap.size+1+1+1+1<w5.heap.size:=(by omega);have hya5:w.heap.size<w5.heap.size:=(by omega);have hyb5:w.heap.size+1<w5.heap.size:=(by omega);have hyc5:w.heap.size+1+1<w5.heap.size:=(by omega);have hyd5:w.heap.size+1+1+1<w5.heap.size:=(by omega))|(go_at_call 113;refine (iItvOk_c _ _ _).mono ?_;rintro e w6 ⟨rfl,hc6⟩;obtain ⟨hcl6,hfz6⟩:=hc6.cells;have hz6:=hc6.size;(try simp only [World.size_alloc,World.size_setCell] at hz6);have hy6:w.heap.size+1+1+1+1<w6.heap.size:=(by omega);have hya6:w.heap.size<w6.heap.size:=(by omega);have hyb6:w.heap.size+1<w6.heap.size:=(by omega);have hyc6:w.heap.size+1+1<w6.heap.size:=(by omega);have hyd6:w.heap.size+1+1+1<w6.heap.size:=(by omega))|(go_at_call 254;refine (other_c _ _ _ _ _).mono ?_;rintro e w3 ⟨rfl,hc3⟩;obtain ⟨hcl3,hfz3⟩:=hc3.cells;have hz3:=hc3.size;(try simp only [World.size_alloc,World.size_setCell] at hz3);have hy3:w.heap.size+1+1+1+1<w3.heap.size:=(by omega);have hya3:w.heap.size<w3.heap.size:=(by omega);have hyb3:w.heap.size+1<w3.heap.size:=(by omega);have hyc3:w.heap.size+1+1<w3.heap.size:=(by omega);have hyd3:w.heap.size+1+1+1<w3.heap.size:=(by omega)))
  clear hl hta
  refine bodyPost_ret (v:=itv3 (⟨0,0⟩,⟨0,0⟩,false)) (by simp [results,Tryz.results153,go_sem,itv3, *]) rfl ?_
  exact ⟨rfl,Chg.q⟩
 rw [if_pos rfl]
 go_enter Tryz.func153,Tryz.ntmps153
 go_wp2_with fail
 refine (relations_c _).mono ?_
 rintro e w1 ⟨rfl,hm⟩
 have hl:=run_lookK w1 _ _ relE 4 hm.map
 have hta:=ta_rel_other
 have hc1:=hm.chg
 obtain ⟨hcl1,hfz1⟩:=hc1.cells
 simp [go_sem,relE,lookK] at hl
 have hz1:w.heap.size+1+1+1+1<w1.heap.size:=by have:=hm.size;simpa using this
 have hz1a:w.heap.size<w1.heap.size:=by omega
 have hz1b:w.heap.size+1<w1.heap.size:=by omega
 have hz1c:w.heap.size+1+1<w1.heap.size:=by omega
 have hz1d:w.heap.size+1+1+1<w1.heap.size:=by omega
 clear hm
 go_wp2_with (first|(go_at_call 170;refine (bothOk_c _ _ _ _ _).mono ?_;rintro e w2 ⟨rfl,hc2⟩;obtain ⟨hcl2,hfz2⟩:=hc2.cells;have hz2:=hc2.size;(try simp only [World.size_alloc,World.size_setCell] at hz2);have hy2:w.heap.size+1+1+1+1<w2.heap.size:=(by omega);have hya2:w.heap.size<w2.heap.size:=(by omega);have hyb2:w.heap.size+1<w2.heap.size:=(by omega);have hyc2:w.heap.size+1+1<w2.heap.size:=(by omega);have hyd2:w.heap.size+1+1+1<w2.heap.size:=(by omega);(try have hva:w3.heap.size<w2.heap.size:=(by omega));(try have hvb:w3.heap.size+1<w2.heap.size:=(by omega)))|(go_at_call 190;refine (cutItv_c _ _ _ _ _).mono ?_;rintro e w5 ⟨rfl,hc5⟩;obtain ⟨hcl5,hfz5⟩:=hc5.cells;have hz5:=hc5.size;(try simp only [World.size_alloc,World.size_setCell] at hz5);have hy5:w.heap.size+1+1+1+1<w5.heap.size:=(by omega);have hya5:w.heap.size<w5.heap.size:=(by omega);have hyb5:w.heap.size+1<w5.heap.size:=(by omega);have hyc5:w.heap.size+1+1<w5.heap.size:=(by omega);have hyd5:w.heap.size+1+1+1<w5.heap.size:=(by omega))|(go_at_call 113;refine (iItvOk_c _ _ _).mono ?_;rintro e w6 ⟨rfl,hc6⟩;obtain ⟨hcl6,hfz6⟩:=hc6.cells;have hz6:=hc6.size;(try simp only [World.size_alloc,World.size_setCell] at hz6);have hy6:w.heap.size+1+1+1+1<w6.heap.size:=(by omega);have hya6:w.heap.size<w6.heap.size:=(by omega);have hyb6:w.heap.size+1<w6.heap.size:=(by omega);have hyc6:w.heap.size+1+1<w6.heap.size:=(by omega);have hyd6:w.heap.size+1+1+1<w6.heap.size:=(by omega))|(go_at_call 254;refine (other_c _ _ _ _ _).mono ?_;rintro e w3 ⟨rfl,hc3⟩;obtain ⟨hcl3,hfz3⟩:=hc3.cells;have hz3:=hc3.size;(try simp only [World.size_alloc,World.size_setCell] at hz3);have hy3:w.heap.size+1+1+1+1<w3.heap.size:=(by omega);have hya3:w.heap.size<w3.heap.size:=(by omega);have hyb3:w.heap.size+1<w3.heap.size:=(by omega);have hyc3:w.heap.size+1+1<w3.heap.size:=(by omega);have hyd3:w.heap.size+1+1+1<w3.heap.size:=(by omega)))
 go_region
 go_wp2
 clear hl hta
 refine bodyPost_ret (v:=itv3 (⟨(without ⟨a0,a1⟩ ⟨b0,b1⟩).Lo,(without ⟨a0,a1⟩ ⟨b0,b1⟩).Hi⟩,⟨(without ⟨b0,b1⟩ ⟨a0,a1⟩).Lo,(without ⟨b0,b1⟩ ⟨a0,a1⟩).Hi⟩,true)) (by simp [results,Tryz.results153,go_sem,itv3, *]) rfl ?_
 exact ⟨rfl,Chg.q⟩
set_option maxRecDepth 100000 in
set_option maxHeartbeats 4000000 in
theorem itvRel0_c(rel a0 a1 b0 b1:Int)(hr:¬(1≤rel∧rel≤4))(w:World):Calls Tryz.prog 153 #[.int .i64 rel,.agg #[.int .i64 a0,.int .i64 a1],.agg #[.int .i64 b0,.int .i64 b1]] w fun e w'=>e=.returned (itv3 (⟨0,0⟩,⟨0,0⟩,false))∧Chg [] w w':=by
 have e1:¬(1:Int)=rel:=by omega
 have e2:¬(2:Int)=rel:=by omega
 have e3:¬(3:Int)=rel:=by omega
 have e4:¬(4:Int)=rel:=by omega
 clear hr
 go_enter Tryz.func153,Tryz.ntmps153
 go_wp2_with fail
 refine (relations_c _).mono ?_
 rintro e w1 ⟨rfl,hm⟩
 have hl:=run_lookK w1 _ _ relE rel hm.map
 have hc1:=hm.chg
 obtain ⟨hcl1,hfz1⟩:=hc1.cells
 simp [go_sem,relE,lookK,e1,e2,e3,e4] at hl
 have hz1:w.heap.size+1+1+1+1<w1.heap.size:=by have:=hm.size;simpa using this
 have hz1a:w.heap.size<w1.heap.size:=by omega
 have hz1b:w.heap.size+1<w1.heap.size:=by omega
 have hz1c:w.heap.size+1+1<w1.heap.size:=by omega
 have hz1d:w.heap.size+1+1+1<w1.heap.size:=by omega
 clear hm e1 e2 e3 e4
 go_wp2
 clear hl
 refine bodyPost_ret (v:=itv3 (⟨0,0⟩,⟨0,0⟩,false)) (by simp [results,Tryz.results153,go_sem,itv3, *]) rfl ?_
 exact ⟨rfl,Chg.q⟩
theorem itvRel_c(rel a0 a1 b0 b1:Int)(w:World):Calls Tryz.prog 153 #[.int .i64 rel,.agg #[.int .i64 a0,.int .i64 a1],.agg #[.int .i64 b0,.int .i64 b1]] w fun e w'=>e=.returned (itv3 (iRel rel ⟨a0,a1⟩ ⟨b0,b1⟩))∧Chg [] w w':=by
 by_cases hr:1≤rel∧rel≤4
 · rcases (by omega:rel=1∨rel=2∨rel=3∨rel=4) with rfl|rfl|rfl|rfl
   · exact itvRel1_c a0 a1 b0 b1 w
   · exact itvRel2_c a0 a1 b0 b1 w
   · exact itvRel3_c a0 a1 b0 b1 w
   · exact itvRel4_c a0 a1 b0 b1 w
 · have:iRel rel ⟨a0,a1⟩ ⟨b0,b1⟩=(⟨0,0⟩,⟨0,0⟩,false):=by
    unfold iRel
    rw [if_neg]
    simp only [Bool.and_eq_true,decide_eq_true_eq]
    omega
   rw [this]
   exact itvRel0_c rel a0 a1 b0 b1 hr w
theorem iRel_eq(rel:Int)(a b:ItvItv):iRel rel a b=itvRel rel a b:=by
 obtain ⟨a0,a1⟩:=a
 obtain ⟨b0,b1⟩:=b
 by_cases ha:itvOk ⟨a0,a1⟩=true
 case neg=>rw [Bool.not_eq_true] at ha;simp [iRel,itvRel,ha]
 by_cases hb:itvOk ⟨b0,b1⟩=true
 case neg=>rw [Bool.not_eq_true] at hb;simp [iRel,itvRel,hb]
 simp only [itvOk,numOk,Bool.and_eq_true,decide_eq_true_eq] at ha hb
 have w1:IntKind.i64.wrap (a0+1)=a0+1:=by rw [wrapI]<;>omega
 have w2:IntKind.i64.wrap (a1-1)=a1-1:=by rw [wrapI]<;>omega
 have w3:IntKind.i64.wrap (b0+1)=b0+1:=by rw [wrapI]<;>omega
 have w4:IntKind.i64.wrap (b1-1)=b1-1:=by rw [wrapI]<;>omega
 by_cases hr:1≤rel∧rel≤4
 case neg=>
  unfold iRel
  rw [if_neg (by simp only [Bool.and_eq_true,decide_eq_true_eq];omega)]
  have e1:¬rel=1:=by omega
  have e2:¬rel=2:=by omega
  have e3:¬rel=3:=by omega
  have e4:¬rel=4:=by omega
  simp [itvRel,e1,e2,e3,e4]
 rcases (by omega:rel=1∨rel=2∨rel=3∨rel=4) with rfl|rfl|rfl|rfl
 all_goals grind [iRel,itvRel,restr,without,l2Both,l2Other,l2Cut,itvOk,numOk]
theorem iItvRel_e{rel a0 a1 b0 b1:Int}{r0 r1:ItvItv}{r2:Bool}(h0:(itvRel rel ⟨a0,a1⟩ ⟨b0,b1⟩).1=r0)(h1:(itvRel rel ⟨a0,a1⟩ ⟨b0,b1⟩).2.1=r1)(h2:(itvRel rel ⟨a0,a1⟩ ⟨b0,b1⟩).2.2=r2):
 EC Tryz.prog 153 0 [CI rel,.agg [CI a0,CI a1],.agg [CI b0,CI b1]] [] (.tup [.agg [CI r0.Lo,CI r0.Hi],.agg [CI r1.Lo,CI r1.Hi],CB r2]) [] 0:=by
 subst h0 h1 h2
 rw [←iRel_eq]
 refine EC.ofVal (FnIs.ok (fn:=Tryz.f153) ⟨by kernel_rfl,by kernel_rfl,rfl⟩) (u:=itv3 (iRel rel ⟨a0,a1⟩ ⟨b0,b1⟩)) rfl (fun ρ RO w vs _ hr=>?_)
 rw [hr.vals (us:=[.int .i64 rel,.agg #[.int .i64 a0,.int .i64 a1],.agg #[.int .i64 b0,.int .i64 b1]]) rfl]
 exact itvRel_c rel a0 a1 b0 b1 w
end Go.Proofs.YtjakhnhnjhafgaaGreat.Wk
