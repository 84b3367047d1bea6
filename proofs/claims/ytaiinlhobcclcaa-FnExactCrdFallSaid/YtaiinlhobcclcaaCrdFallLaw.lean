/- The law FnExactCrdFall returns true. -/
import Derived.Test.YtaiinlhobcclcaaLawEq
import Derived.Test.YtaiinlhobcclcaaLawSz
import Derived.Test.YtaiinlhobcclcaaLawTo
import Derived.Test.YtaiinlhobcclcaaLawMark
import Derived.Test.YtaiinlhobcclcaaLawHeld
import Derived.Test.YtaiinlhobcclcaaFall2
namespace Go.Proofs.Ytaiinlhobcclcaa.Wk
open Go Go.RowKit Go.Deep Ow
open Rp (R sz)

set_option maxRecDepth 100000 in
set_option maxHeartbeats 8000000 in
theorem walkCrdFall (x : CrdCoord) (vDone : Value) (Fa_Done : List Nat) (vCerts : Value) (Fa_Certs : List Nat) (vLeases : Value) (Fa_Leases : List Nat) (vVerdictSites : Value) (Fa_VerdictSites : List Nat) (vLog : Value) (Fa_Log : List Nat) (w : World) (ha_Done : RL w x.Done vDone Fa_Done) (ha_Certs : RL w x.Certs vCerts Fa_Certs) (ha_Leases : RL w x.Leases vLeases Fa_Leases) (ha_VerdictSites : RL w x.Verdict.Sites vVerdictSites Fa_VerdictSites) (ha_Log : RL w x.Log vLog Fa_Log) : Calls Try.prog 4 #[.agg #[.bool x.Up, .int .i64 x.Epoch, .int .i64 x.Seq, .int .i64 x.Clock, vDone, vCerts, vLeases, .int .i64 x.Verdict.Kind, .int .i64 x.Verdict.Line, vVerdictSites, vLog]] w fun e w' => e = .returned (.bool true) ∧ Chg [] w w' := by
  have Ba : ∀ g ∈ Fa_Done ++ (Fa_Certs ++ (Fa_Leases ++ (Fa_VerdictSites ++ (Fa_Log)))), g < w.heap.size := fun g hg => by
    rcases List.mem_append.1 hg with hg | hg
    exact ha_Done.lt g hg
    rcases List.mem_append.1 hg with hg | hg
    exact ha_Certs.lt g hg
    rcases List.mem_append.1 hg with hg | hg
    exact ha_Leases.lt g hg
    rcases List.mem_append.1 hg with hg | hg
    exact ha_VerdictSites.lt g hg
    exact ha_Log.lt g hg
  replace Ba := Lib.hid Ba
  replace ha_Done := Lib.hid ha_Done
  replace ha_Certs := Lib.hid ha_Certs
  replace ha_Leases := Lib.hid ha_Leases
  replace ha_VerdictSites := Lib.hid ha_VerdictSites
  replace ha_Log := Lib.hid ha_Log
  go_enter Try.func4, Try.ntmps4
  go_wp2_with fail
  refine (szCrdCoord_c x _ _ _ _ _ _ _ _ _ _ 1048576 _ (ha_Done.out.chg0 (by repeat (first | with_reducible exact Chg.refl _ _ | with_reducible refine Chg.alloc ?_ _ | with_reducible refine Chg.drewN ?_ _ | with_reducible refine Chg.drew ?_))) (ha_Certs.out.chg0 (by repeat (first | with_reducible exact Chg.refl _ _ | with_reducible refine Chg.alloc ?_ _ | with_reducible refine Chg.drewN ?_ _ | with_reducible refine Chg.drew ?_))) (ha_Leases.out.chg0 (by repeat (first | with_reducible exact Chg.refl _ _ | with_reducible refine Chg.alloc ?_ _ | with_reducible refine Chg.drewN ?_ _ | with_reducible refine Chg.drew ?_))) (ha_VerdictSites.out.chg0 (by repeat (first | with_reducible exact Chg.refl _ _ | with_reducible refine Chg.alloc ?_ _ | with_reducible refine Chg.drewN ?_ _ | with_reducible refine Chg.drew ?_))) (ha_Log.out.chg0 (by repeat (first | with_reducible exact Chg.refl _ _ | with_reducible refine Chg.alloc ?_ _ | with_reducible refine Chg.drewN ?_ _ | with_reducible refine Chg.drew ?_))) (by omega) (by omega)).mono ?_
  rintro e w1 ⟨⟨r1, rfl, hr1⟩, hm⟩
  have hs1 := hm.size
  repeat (first | rw [World.size_alloc] at hs1 | rw [World.size_setCell] at hs1 | rw [World.size_drew] at hs1 | rw [World.heap_drewN] at hs1)
  have hb1_0 := fun o => hm.cell (p := ⟨w.heap.size, o, none⟩) (show w.heap.size < _ from by (repeat (first | rw [World.size_alloc] | rw [World.size_setCell] | rw [World.size_drew] | rw [World.heap_drewN])); omega) (by simp)
  have hl1_0 : w.heap.size < w1.heap.size := by omega
  have hX : Chg ([]) w w1 := Chg.trans (by repeat (first | with_reducible exact Chg.refl _ _ | with_reducible refine Chg.alloc ?_ _ | with_reducible refine Chg.drewN ?_ _ | with_reducible refine Chg.drew ?_)) hm (fun g hg => Or.inl hg)
  replace hX := Lib.hid hX
  clear hm
  replace ha_Done := Lib.hid (ha_Done.out.chg0 hX.out)
  replace ha_Certs := Lib.hid (ha_Certs.out.chg0 hX.out)
  replace ha_Leases := Lib.hid (ha_Leases.out.chg0 hX.out)
  replace ha_VerdictSites := Lib.hid (ha_VerdictSites.out.chg0 hX.out)
  replace ha_Log := Lib.hid (ha_Log.out.chg0 hX.out)
  have hK1 := Lib.hid (hX.out)
  clear hX
  rcases hr1 with rfl | ⟨hn1, he1⟩
  · go_wp2
    go_ret
    exact ⟨rfl, hK1.out⟩
  have HZa : Hid (Sz.size x ≤ 1048576) := Lib.hid (by omega)
  have HLg : Hid ((x.Log.length : Int) ≤ 1073741824) := Lib.hid (by have := HZa.out; simp only [size_CrdCoord, size_VrdVerdict, szL] at this; omega)
  have HCN := Lib.hid (cv_le x HZa.out)
  have hcn : 1 + (cntL x.Done : Int) + (cntL x.Certs : Int) + (cntL x.Leases : Int) + (cntL x.Verdict.Sites : Int) + (cntL x.Log : Int) ≤ 4000000000 := by have := HCN.out; omega
  clear he1 HCN
  go_wp2_with fail
  refine (toCrdCoord_c x _ _ _ _ _ _ _ _ _ _ _ (ha_Done.out.chg0 (by repeat (first | with_reducible exact Chg.refl _ _ | with_reducible refine Chg.alloc ?_ _ | with_reducible refine Chg.drewN ?_ _ | with_reducible refine Chg.drew ?_))) (ha_Certs.out.chg0 (by repeat (first | with_reducible exact Chg.refl _ _ | with_reducible refine Chg.alloc ?_ _ | with_reducible refine Chg.drewN ?_ _ | with_reducible refine Chg.drew ?_))) (ha_Leases.out.chg0 (by repeat (first | with_reducible exact Chg.refl _ _ | with_reducible refine Chg.alloc ?_ _ | with_reducible refine Chg.drewN ?_ _ | with_reducible refine Chg.drew ?_))) (ha_VerdictSites.out.chg0 (by repeat (first | with_reducible exact Chg.refl _ _ | with_reducible refine Chg.alloc ?_ _ | with_reducible refine Chg.drewN ?_ _ | with_reducible refine Chg.drew ?_))) (ha_Log.out.chg0 (by repeat (first | with_reducible exact Chg.refl _ _ | with_reducible refine Chg.alloc ?_ _ | with_reducible refine Chg.drewN ?_ _ | with_reducible refine Chg.drew ?_))) HZa.out).mono ?_
  rintro e w2 ⟨vt_Done, Ft_Done, vt_Certs, Ft_Certs, vt_Leases, Ft_Leases, vt_VerdictSites, Ft_VerdictSites, vt_Log, Ft_Log, rfl, hm, ht_Done, ht_Certs, ht_Leases, ht_VerdictSites, ht_Log, Ot, Bt⟩
  obtain ⟨At_Done, ct_Done, rfl, -, -⟩ := ht_Done.form
  obtain ⟨At_Certs, ct_Certs, rfl, -, -⟩ := ht_Certs.form
  obtain ⟨At_Leases, ct_Leases, rfl, -, -⟩ := ht_Leases.form
  obtain ⟨At_VerdictSites, ct_VerdictSites, rfl, -, -⟩ := ht_VerdictSites.form
  obtain ⟨At_Log, ct_Log, rfl, -, -⟩ := ht_Log.form
  replace Bt : ∀ g ∈ Ft_Done ++ (Ft_Certs ++ (Ft_Leases ++ (Ft_VerdictSites ++ (Ft_Log)))), w.heap.size < g ∧ g < w2.heap.size := fun g hg => ⟨by have := Bt g hg; (repeat (first | rw [World.size_alloc] at this | rw [World.size_setCell] at this | rw [World.size_drew] at this | rw [World.heap_drewN] at this)); omega, Ot.lt g hg⟩
  replace Bt := Lib.hid Bt
  replace Ot := Lib.hid Ot
  replace ht_Done := Lib.hid ht_Done
  replace ht_Certs := Lib.hid ht_Certs
  replace ht_Leases := Lib.hid ht_Leases
  replace ht_VerdictSites := Lib.hid ht_VerdictSites
  replace ht_Log := Lib.hid ht_Log
  have hs2 := hm.size
  repeat (first | rw [World.size_alloc] at hs2 | rw [World.size_setCell] at hs2 | rw [World.size_drew] at hs2 | rw [World.heap_drewN] at hs2)
  have hb2_0 := fun o => hm.cell (p := ⟨w.heap.size, o, none⟩) (show w.heap.size < _ from by (repeat (first | rw [World.size_alloc] | rw [World.size_setCell] | rw [World.size_drew] | rw [World.heap_drewN])); omega) (by simp)
  have hl2_0 : w.heap.size < w2.heap.size := by omega
  have hX : Chg ([]) w1 w2 := Chg.trans (by repeat (first | with_reducible exact Chg.refl _ _ | with_reducible refine Chg.alloc ?_ _ | with_reducible refine Chg.drewN ?_ _ | with_reducible refine Chg.drew ?_)) hm (fun g hg => Or.inl hg)
  replace hX := Lib.hid hX
  clear hm
  replace ha_Done := Lib.hid (ha_Done.out.chg0 hX.out)
  replace ha_Certs := Lib.hid (ha_Certs.out.chg0 hX.out)
  replace ha_Leases := Lib.hid (ha_Leases.out.chg0 hX.out)
  replace ha_VerdictSites := Lib.hid (ha_VerdictSites.out.chg0 hX.out)
  replace ha_Log := Lib.hid (ha_Log.out.chg0 hX.out)
  have hK2 := Lib.hid ((hK1.out.trans0 hX.out))
  clear hX hK1
  go_wp2_with fail
  refine (specFall_c x _ _ _ _ _ _ _ _ _ _ _ (ht_Done.out.chg0 (by repeat (first | with_reducible exact Chg.refl _ _ | with_reducible refine Chg.alloc ?_ _ | with_reducible refine Chg.drewN ?_ _ | with_reducible refine Chg.drew ?_))) (ht_Certs.out.chg0 (by repeat (first | with_reducible exact Chg.refl _ _ | with_reducible refine Chg.alloc ?_ _ | with_reducible refine Chg.drewN ?_ _ | with_reducible refine Chg.drew ?_))) (ht_Leases.out.chg0 (by repeat (first | with_reducible exact Chg.refl _ _ | with_reducible refine Chg.alloc ?_ _ | with_reducible refine Chg.drewN ?_ _ | with_reducible refine Chg.drew ?_))) (ht_VerdictSites.out.chg0 (by repeat (first | with_reducible exact Chg.refl _ _ | with_reducible refine Chg.alloc ?_ _ | with_reducible refine Chg.drewN ?_ _ | with_reducible refine Chg.drew ?_))) (ht_Log.out.chg0 (by repeat (first | with_reducible exact Chg.refl _ _ | with_reducible refine Chg.alloc ?_ _ | with_reducible refine Chg.drewN ?_ _ | with_reducible refine Chg.drew ?_))) HLg.out).mono ?_
  rintro e w3 ⟨vw_Done, Fw_Done, vw_Certs, Fw_Certs, vw_Leases, Fw_Leases, vw_VerdictSites, Fw_VerdictSites, vw_Log, Fw_Log, rfl, hm, hw_Done, hw_Certs, hw_Leases, hw_VerdictSites, hw_Log, Ow, Bw⟩
  obtain ⟨Aw_Done, cw_Done, rfl, -, -⟩ := hw_Done.form
  obtain ⟨Aw_Certs, cw_Certs, rfl, -, -⟩ := hw_Certs.form
  obtain ⟨Aw_Leases, cw_Leases, rfl, -, -⟩ := hw_Leases.form
  obtain ⟨Aw_VerdictSites, cw_VerdictSites, rfl, -, -⟩ := hw_VerdictSites.form
  obtain ⟨Aw_Log, cw_Log, rfl, -, -⟩ := hw_Log.form
  replace Bw : ∀ g ∈ Fw_Done ++ (Fw_Certs ++ (Fw_Leases ++ (Fw_VerdictSites ++ (Fw_Log)))), w.heap.size < g ∧ g < w3.heap.size := fun g hg => ⟨by have := Bw g hg; (repeat (first | rw [World.size_alloc] at this | rw [World.size_setCell] at this | rw [World.size_drew] at this | rw [World.heap_drewN] at this)); omega, Ow.lt g hg⟩
  replace Bw := Lib.hid Bw
  replace Ow := Lib.hid Ow
  replace hw_Done := Lib.hid hw_Done
  replace hw_Certs := Lib.hid hw_Certs
  replace hw_Leases := Lib.hid hw_Leases
  replace hw_VerdictSites := Lib.hid hw_VerdictSites
  replace hw_Log := Lib.hid hw_Log
  have hs3 := hm.size
  repeat (first | rw [World.size_alloc] at hs3 | rw [World.size_setCell] at hs3 | rw [World.size_drew] at hs3 | rw [World.heap_drewN] at hs3)
  have hb3_0 := fun o => hm.cell (p := ⟨w.heap.size, o, none⟩) (show w.heap.size < _ from by (repeat (first | rw [World.size_alloc] | rw [World.size_setCell] | rw [World.size_drew] | rw [World.heap_drewN])); omega) (by simp)
  have hl3_0 : w.heap.size < w3.heap.size := by omega
  have hX : Chg ([]) w2 w3 := Chg.trans (by repeat (first | with_reducible exact Chg.refl _ _ | with_reducible refine Chg.alloc ?_ _ | with_reducible refine Chg.drewN ?_ _ | with_reducible refine Chg.drew ?_)) hm (fun g hg => Or.inl hg)
  replace hX := Lib.hid hX
  clear hm
  replace ha_Done := Lib.hid (ha_Done.out.chg0 hX.out)
  replace ha_Certs := Lib.hid (ha_Certs.out.chg0 hX.out)
  replace ha_Leases := Lib.hid (ha_Leases.out.chg0 hX.out)
  replace ha_VerdictSites := Lib.hid (ha_VerdictSites.out.chg0 hX.out)
  replace ha_Log := Lib.hid (ha_Log.out.chg0 hX.out)
  replace ht_Done := Lib.hid (ht_Done.out.chg0 hX.out)
  replace ht_Certs := Lib.hid (ht_Certs.out.chg0 hX.out)
  replace ht_Leases := Lib.hid (ht_Leases.out.chg0 hX.out)
  replace ht_VerdictSites := Lib.hid (ht_VerdictSites.out.chg0 hX.out)
  replace ht_Log := Lib.hid (ht_Log.out.chg0 hX.out)
  replace Ot := Lib.hid (Ot.out.chg0 hX.out)
  have hK3 := Lib.hid ((hK2.out.trans0 hX.out))
  clear hX hK2
  clear Bt Ot ht_Done ht_Certs ht_Leases ht_VerdictSites ht_Log
  go_wp2_with fail
  refine (toCrdCoord_c x _ _ _ _ _ _ _ _ _ _ _ (ha_Done.out.chg0 (by repeat (first | with_reducible exact Chg.refl _ _ | with_reducible refine Chg.alloc ?_ _ | with_reducible refine Chg.drewN ?_ _ | with_reducible refine Chg.drew ?_))) (ha_Certs.out.chg0 (by repeat (first | with_reducible exact Chg.refl _ _ | with_reducible refine Chg.alloc ?_ _ | with_reducible refine Chg.drewN ?_ _ | with_reducible refine Chg.drew ?_))) (ha_Leases.out.chg0 (by repeat (first | with_reducible exact Chg.refl _ _ | with_reducible refine Chg.alloc ?_ _ | with_reducible refine Chg.drewN ?_ _ | with_reducible refine Chg.drew ?_))) (ha_VerdictSites.out.chg0 (by repeat (first | with_reducible exact Chg.refl _ _ | with_reducible refine Chg.alloc ?_ _ | with_reducible refine Chg.drewN ?_ _ | with_reducible refine Chg.drew ?_))) (ha_Log.out.chg0 (by repeat (first | with_reducible exact Chg.refl _ _ | with_reducible refine Chg.alloc ?_ _ | with_reducible refine Chg.drewN ?_ _ | with_reducible refine Chg.drew ?_))) HZa.out).mono ?_
  rintro e w4 ⟨vx_Done, Fx_Done, vx_Certs, Fx_Certs, vx_Leases, Fx_Leases, vx_VerdictSites, Fx_VerdictSites, vx_Log, Fx_Log, rfl, hm, hx_Done, hx_Certs, hx_Leases, hx_VerdictSites, hx_Log, Ox, Bx⟩
  obtain ⟨Ax_Done, cx_Done, rfl, -, -⟩ := hx_Done.form
  obtain ⟨Ax_Certs, cx_Certs, rfl, -, -⟩ := hx_Certs.form
  obtain ⟨Ax_Leases, cx_Leases, rfl, -, -⟩ := hx_Leases.form
  obtain ⟨Ax_VerdictSites, cx_VerdictSites, rfl, -, -⟩ := hx_VerdictSites.form
  obtain ⟨Ax_Log, cx_Log, rfl, -, -⟩ := hx_Log.form
  replace Bx : ∀ g ∈ Fx_Done ++ (Fx_Certs ++ (Fx_Leases ++ (Fx_VerdictSites ++ (Fx_Log)))), w3.heap.size < g ∧ g < w4.heap.size := fun g hg => ⟨by have := Bx g hg; (repeat (first | rw [World.size_alloc] at this | rw [World.size_setCell] at this | rw [World.size_drew] at this | rw [World.heap_drewN] at this)); omega, Ox.lt g hg⟩
  replace Bx := Lib.hid Bx
  replace Ox := Lib.hid Ox
  replace hx_Done := Lib.hid hx_Done
  replace hx_Certs := Lib.hid hx_Certs
  replace hx_Leases := Lib.hid hx_Leases
  replace hx_VerdictSites := Lib.hid hx_VerdictSites
  replace hx_Log := Lib.hid hx_Log
  have hs4 := hm.size
  repeat (first | rw [World.size_alloc] at hs4 | rw [World.size_setCell] at hs4 | rw [World.size_drew] at hs4 | rw [World.heap_drewN] at hs4)
  have hb4_0 := fun o => hm.cell (p := ⟨w.heap.size, o, none⟩) (show w.heap.size < _ from by (repeat (first | rw [World.size_alloc] | rw [World.size_setCell] | rw [World.size_drew] | rw [World.heap_drewN])); omega) (by simp)
  have hb4_1 := fun o => hm.cell (p := ⟨w3.heap.size, o, none⟩) (show w3.heap.size < _ from by (repeat (first | rw [World.size_alloc] | rw [World.size_setCell] | rw [World.size_drew] | rw [World.heap_drewN])); omega) (by simp)
  have hl4_0 : w.heap.size < w4.heap.size := by omega
  have hl4_1 : w3.heap.size < w4.heap.size := by omega
  have hX : Chg ([]) w3 w4 := Chg.trans (by repeat (first | with_reducible exact Chg.refl _ _ | with_reducible refine Chg.alloc ?_ _ | with_reducible refine Chg.drewN ?_ _ | with_reducible refine Chg.drew ?_)) hm (fun g hg => Or.inl hg)
  replace hX := Lib.hid hX
  clear hm
  replace ha_Done := Lib.hid (ha_Done.out.chg0 hX.out)
  replace ha_Certs := Lib.hid (ha_Certs.out.chg0 hX.out)
  replace ha_Leases := Lib.hid (ha_Leases.out.chg0 hX.out)
  replace ha_VerdictSites := Lib.hid (ha_VerdictSites.out.chg0 hX.out)
  replace ha_Log := Lib.hid (ha_Log.out.chg0 hX.out)
  replace hw_Done := Lib.hid (hw_Done.out.chg0 hX.out)
  replace hw_Certs := Lib.hid (hw_Certs.out.chg0 hX.out)
  replace hw_Leases := Lib.hid (hw_Leases.out.chg0 hX.out)
  replace hw_VerdictSites := Lib.hid (hw_VerdictSites.out.chg0 hX.out)
  replace hw_Log := Lib.hid (hw_Log.out.chg0 hX.out)
  replace Ow := Lib.hid (Ow.out.chg0 hX.out)
  have hK4 := Lib.hid ((hK3.out.trans0 hX.out))
  clear hX hK3
  go_wp2_with fail
  refine (implFall_c x _ _ _ _ _ _ _ _ _ _ _ (hx_Done.out.chg0 (by repeat (first | with_reducible exact Chg.refl _ _ | with_reducible refine Chg.alloc ?_ _ | with_reducible refine Chg.drewN ?_ _ | with_reducible refine Chg.drew ?_))) (hx_Certs.out.chg0 (by repeat (first | with_reducible exact Chg.refl _ _ | with_reducible refine Chg.alloc ?_ _ | with_reducible refine Chg.drewN ?_ _ | with_reducible refine Chg.drew ?_))) (hx_Leases.out.chg0 (by repeat (first | with_reducible exact Chg.refl _ _ | with_reducible refine Chg.alloc ?_ _ | with_reducible refine Chg.drewN ?_ _ | with_reducible refine Chg.drew ?_))) (hx_VerdictSites.out.chg0 (by repeat (first | with_reducible exact Chg.refl _ _ | with_reducible refine Chg.alloc ?_ _ | with_reducible refine Chg.drewN ?_ _ | with_reducible refine Chg.drew ?_))) (hx_Log.out.chg0 (by repeat (first | with_reducible exact Chg.refl _ _ | with_reducible refine Chg.alloc ?_ _ | with_reducible refine Chg.drewN ?_ _ | with_reducible refine Chg.drew ?_))) HLg.out).mono ?_
  rintro e w5 ⟨vg_Done, Fg_Done, vg_Certs, Fg_Certs, vg_Leases, Fg_Leases, vg_VerdictSites, Fg_VerdictSites, vg_Log, Fg_Log, rfl, hm, hg_Done, hg_Certs, hg_Leases, hg_VerdictSites, hg_Log, Og, Bg⟩
  obtain ⟨Ag_Done, cg_Done, rfl, -, -⟩ := hg_Done.form
  obtain ⟨Ag_Certs, cg_Certs, rfl, -, -⟩ := hg_Certs.form
  obtain ⟨Ag_Leases, cg_Leases, rfl, -, -⟩ := hg_Leases.form
  obtain ⟨Ag_VerdictSites, cg_VerdictSites, rfl, -, -⟩ := hg_VerdictSites.form
  obtain ⟨Ag_Log, cg_Log, rfl, -, -⟩ := hg_Log.form
  replace Bg : ∀ g ∈ Fg_Done ++ (Fg_Certs ++ (Fg_Leases ++ (Fg_VerdictSites ++ (Fg_Log)))), w4.heap.size < g ∧ g < w5.heap.size := fun g hg => ⟨by have := Bg g hg; (repeat (first | rw [World.size_alloc] at this | rw [World.size_setCell] at this | rw [World.size_drew] at this | rw [World.heap_drewN] at this)); omega, Og.lt g hg⟩
  replace Bg := Lib.hid Bg
  replace Og := Lib.hid Og
  replace hg_Done := Lib.hid hg_Done
  replace hg_Certs := Lib.hid hg_Certs
  replace hg_Leases := Lib.hid hg_Leases
  replace hg_VerdictSites := Lib.hid hg_VerdictSites
  replace hg_Log := Lib.hid hg_Log
  have hs5 := hm.size
  repeat (first | rw [World.size_alloc] at hs5 | rw [World.size_setCell] at hs5 | rw [World.size_drew] at hs5 | rw [World.heap_drewN] at hs5)
  have hb5_0 := fun o => hm.cell (p := ⟨w.heap.size, o, none⟩) (show w.heap.size < _ from by (repeat (first | rw [World.size_alloc] | rw [World.size_setCell] | rw [World.size_drew] | rw [World.heap_drewN])); omega) (by simp)
  have hb5_1 := fun o => hm.cell (p := ⟨w3.heap.size, o, none⟩) (show w3.heap.size < _ from by (repeat (first | rw [World.size_alloc] | rw [World.size_setCell] | rw [World.size_drew] | rw [World.heap_drewN])); omega) (by simp)
  have hb5_2 := fun o => hm.cell (p := ⟨w4.heap.size, o, none⟩) (show w4.heap.size < _ from by (repeat (first | rw [World.size_alloc] | rw [World.size_setCell] | rw [World.size_drew] | rw [World.heap_drewN])); omega) (by simp)
  have hl5_0 : w.heap.size < w5.heap.size := by omega
  have hl5_1 : w3.heap.size < w5.heap.size := by omega
  have hl5_2 : w4.heap.size < w5.heap.size := by omega
  have hX : Chg ([]) w4 w5 := Chg.trans (by repeat (first | with_reducible exact Chg.refl _ _ | with_reducible refine Chg.alloc ?_ _ | with_reducible refine Chg.drewN ?_ _ | with_reducible refine Chg.drew ?_)) hm (fun g hg => Or.inl hg)
  replace hX := Lib.hid hX
  clear hm
  replace ha_Done := Lib.hid (ha_Done.out.chg0 hX.out)
  replace ha_Certs := Lib.hid (ha_Certs.out.chg0 hX.out)
  replace ha_Leases := Lib.hid (ha_Leases.out.chg0 hX.out)
  replace ha_VerdictSites := Lib.hid (ha_VerdictSites.out.chg0 hX.out)
  replace ha_Log := Lib.hid (ha_Log.out.chg0 hX.out)
  replace hw_Done := Lib.hid (hw_Done.out.chg0 hX.out)
  replace hw_Certs := Lib.hid (hw_Certs.out.chg0 hX.out)
  replace hw_Leases := Lib.hid (hw_Leases.out.chg0 hX.out)
  replace hw_VerdictSites := Lib.hid (hw_VerdictSites.out.chg0 hX.out)
  replace hw_Log := Lib.hid (hw_Log.out.chg0 hX.out)
  replace hx_Done := Lib.hid (hx_Done.out.chg0 hX.out)
  replace hx_Certs := Lib.hid (hx_Certs.out.chg0 hX.out)
  replace hx_Leases := Lib.hid (hx_Leases.out.chg0 hX.out)
  replace hx_VerdictSites := Lib.hid (hx_VerdictSites.out.chg0 hX.out)
  replace hx_Log := Lib.hid (hx_Log.out.chg0 hX.out)
  replace Ow := Lib.hid (Ow.out.chg0 hX.out)
  replace Ox := Lib.hid (Ox.out.chg0 hX.out)
  have hK5 := Lib.hid ((hK4.out.trans0 hX.out))
  clear hX hK4
  go_wp2_with fail
  refine (eqCrdCoord_c (fallen x) _ _ _ _ _ _ _ _ _ _ _ _ _ _ _ _ _ _ _ _ _ (hg_Done.out.chg0 (by repeat (first | with_reducible exact Chg.refl _ _ | with_reducible refine Chg.alloc ?_ _ | with_reducible refine Chg.drewN ?_ _ | with_reducible refine Chg.drew ?_))) (hw_Done.out.chg0 (by repeat (first | with_reducible exact Chg.refl _ _ | with_reducible refine Chg.alloc ?_ _ | with_reducible refine Chg.drewN ?_ _ | with_reducible refine Chg.drew ?_))) (hg_Certs.out.chg0 (by repeat (first | with_reducible exact Chg.refl _ _ | with_reducible refine Chg.alloc ?_ _ | with_reducible refine Chg.drewN ?_ _ | with_reducible refine Chg.drew ?_))) (hw_Certs.out.chg0 (by repeat (first | with_reducible exact Chg.refl _ _ | with_reducible refine Chg.alloc ?_ _ | with_reducible refine Chg.drewN ?_ _ | with_reducible refine Chg.drew ?_))) (hg_Leases.out.chg0 (by repeat (first | with_reducible exact Chg.refl _ _ | with_reducible refine Chg.alloc ?_ _ | with_reducible refine Chg.drewN ?_ _ | with_reducible refine Chg.drew ?_))) (hw_Leases.out.chg0 (by repeat (first | with_reducible exact Chg.refl _ _ | with_reducible refine Chg.alloc ?_ _ | with_reducible refine Chg.drewN ?_ _ | with_reducible refine Chg.drew ?_))) (hg_VerdictSites.out.chg0 (by repeat (first | with_reducible exact Chg.refl _ _ | with_reducible refine Chg.alloc ?_ _ | with_reducible refine Chg.drewN ?_ _ | with_reducible refine Chg.drew ?_))) (hw_VerdictSites.out.chg0 (by repeat (first | with_reducible exact Chg.refl _ _ | with_reducible refine Chg.alloc ?_ _ | with_reducible refine Chg.drewN ?_ _ | with_reducible refine Chg.drew ?_))) (hg_Log.out.chg0 (by repeat (first | with_reducible exact Chg.refl _ _ | with_reducible refine Chg.alloc ?_ _ | with_reducible refine Chg.drewN ?_ _ | with_reducible refine Chg.drew ?_))) (hw_Log.out.chg0 (by repeat (first | with_reducible exact Chg.refl _ _ | with_reducible refine Chg.alloc ?_ _ | with_reducible refine Chg.drewN ?_ _ | with_reducible refine Chg.drew ?_)))).mono ?_
  rintro e w6 ⟨rfl, hm⟩
  have hs6 := hm.size
  repeat (first | rw [World.size_alloc] at hs6 | rw [World.size_setCell] at hs6 | rw [World.size_drew] at hs6 | rw [World.heap_drewN] at hs6)
  have hb6_0 := fun o => hm.cell (p := ⟨w.heap.size, o, none⟩) (show w.heap.size < _ from by (repeat (first | rw [World.size_alloc] | rw [World.size_setCell] | rw [World.size_drew] | rw [World.heap_drewN])); omega) (by simp)
  have hb6_1 := fun o => hm.cell (p := ⟨w3.heap.size, o, none⟩) (show w3.heap.size < _ from by (repeat (first | rw [World.size_alloc] | rw [World.size_setCell] | rw [World.size_drew] | rw [World.heap_drewN])); omega) (by simp)
  have hb6_2 := fun o => hm.cell (p := ⟨w4.heap.size, o, none⟩) (show w4.heap.size < _ from by (repeat (first | rw [World.size_alloc] | rw [World.size_setCell] | rw [World.size_drew] | rw [World.heap_drewN])); omega) (by simp)
  have hb6_3 := fun o => hm.cell (p := ⟨w5.heap.size, o, none⟩) (show w5.heap.size < _ from by (repeat (first | rw [World.size_alloc] | rw [World.size_setCell] | rw [World.size_drew] | rw [World.heap_drewN])); omega) (by simp)
  have hl6_0 : w.heap.size < w6.heap.size := by omega
  have hl6_1 : w3.heap.size < w6.heap.size := by omega
  have hl6_2 : w4.heap.size < w6.heap.size := by omega
  have hl6_3 : w5.heap.size < w6.heap.size := by omega
  have hX : Chg ([]) w5 w6 := Chg.trans (by repeat (first | with_reducible exact Chg.refl _ _ | with_reducible refine Chg.alloc ?_ _ | with_reducible refine Chg.drewN ?_ _ | with_reducible refine Chg.drew ?_)) hm (fun g hg => Or.inl hg)
  replace hX := Lib.hid hX
  clear hm
  replace ha_Done := Lib.hid (ha_Done.out.chg0 hX.out)
  replace ha_Certs := Lib.hid (ha_Certs.out.chg0 hX.out)
  replace ha_Leases := Lib.hid (ha_Leases.out.chg0 hX.out)
  replace ha_VerdictSites := Lib.hid (ha_VerdictSites.out.chg0 hX.out)
  replace ha_Log := Lib.hid (ha_Log.out.chg0 hX.out)
  replace hw_Done := Lib.hid (hw_Done.out.chg0 hX.out)
  replace hw_Certs := Lib.hid (hw_Certs.out.chg0 hX.out)
  replace hw_Leases := Lib.hid (hw_Leases.out.chg0 hX.out)
  replace hw_VerdictSites := Lib.hid (hw_VerdictSites.out.chg0 hX.out)
  replace hw_Log := Lib.hid (hw_Log.out.chg0 hX.out)
  replace hx_Done := Lib.hid (hx_Done.out.chg0 hX.out)
  replace hx_Certs := Lib.hid (hx_Certs.out.chg0 hX.out)
  replace hx_Leases := Lib.hid (hx_Leases.out.chg0 hX.out)
  replace hx_VerdictSites := Lib.hid (hx_VerdictSites.out.chg0 hX.out)
  replace hx_Log := Lib.hid (hx_Log.out.chg0 hX.out)
  replace hg_Done := Lib.hid (hg_Done.out.chg0 hX.out)
  replace hg_Certs := Lib.hid (hg_Certs.out.chg0 hX.out)
  replace hg_Leases := Lib.hid (hg_Leases.out.chg0 hX.out)
  replace hg_VerdictSites := Lib.hid (hg_VerdictSites.out.chg0 hX.out)
  replace hg_Log := Lib.hid (hg_Log.out.chg0 hX.out)
  replace Ow := Lib.hid (Ow.out.chg0 hX.out)
  replace Ox := Lib.hid (Ox.out.chg0 hX.out)
  replace Og := Lib.hid (Og.out.chg0 hX.out)
  have hK6 := Lib.hid ((hK5.out.trans0 hX.out))
  clear hX hK5
  have hcr : 1 + (cntL (fallen x).Done : Int) + (cntL (fallen x).Certs : Int) + (cntL (fallen x).Leases : Int) + (cntL (fallen x).Verdict.Sites : Int) + (cntL (fallen x).Log : Int) ≤ 4000000000 := by
    have h0 := hcn
    simp only [fallen, cntL]
    omega
  go_wp2_with fail
  go_region_with (first
    | (go_at_call 12
       refine (toCrdCoord_c x _ _ _ _ _ _ _ _ _ _ _ (ha_Done.out.chg0 (by repeat (first | with_reducible exact Chg.refl _ _ | with_reducible refine Chg.alloc ?_ _ | with_reducible refine Chg.drewN ?_ _ | with_reducible refine Chg.drew ?_))) (ha_Certs.out.chg0 (by repeat (first | with_reducible exact Chg.refl _ _ | with_reducible refine Chg.alloc ?_ _ | with_reducible refine Chg.drewN ?_ _ | with_reducible refine Chg.drew ?_))) (ha_Leases.out.chg0 (by repeat (first | with_reducible exact Chg.refl _ _ | with_reducible refine Chg.alloc ?_ _ | with_reducible refine Chg.drewN ?_ _ | with_reducible refine Chg.drew ?_))) (ha_VerdictSites.out.chg0 (by repeat (first | with_reducible exact Chg.refl _ _ | with_reducible refine Chg.alloc ?_ _ | with_reducible refine Chg.drewN ?_ _ | with_reducible refine Chg.drew ?_))) (ha_Log.out.chg0 (by repeat (first | with_reducible exact Chg.refl _ _ | with_reducible refine Chg.alloc ?_ _ | with_reducible refine Chg.drewN ?_ _ | with_reducible refine Chg.drew ?_))) HZa.out).mono ?_
       rintro e w7 ⟨vy_Done, Fy_Done, vy_Certs, Fy_Certs, vy_Leases, Fy_Leases, vy_VerdictSites, Fy_VerdictSites, vy_Log, Fy_Log, rfl, hm, hy_Done, hy_Certs, hy_Leases, hy_VerdictSites, hy_Log, Oy, By⟩
       obtain ⟨Ay_Done, cy_Done, rfl, -, -⟩ := hy_Done.form
       obtain ⟨Ay_Certs, cy_Certs, rfl, -, -⟩ := hy_Certs.form
       obtain ⟨Ay_Leases, cy_Leases, rfl, -, -⟩ := hy_Leases.form
       obtain ⟨Ay_VerdictSites, cy_VerdictSites, rfl, -, -⟩ := hy_VerdictSites.form
       obtain ⟨Ay_Log, cy_Log, rfl, -, -⟩ := hy_Log.form
       replace By : ∀ g ∈ Fy_Done ++ (Fy_Certs ++ (Fy_Leases ++ (Fy_VerdictSites ++ (Fy_Log)))), w5.heap.size < g ∧ g < w7.heap.size := fun g hg => ⟨by have := By g hg; (repeat (first | rw [World.size_alloc] at this | rw [World.size_setCell] at this | rw [World.size_drew] at this | rw [World.heap_drewN] at this)); omega, Oy.lt g hg⟩
       replace By := Lib.hid By
       replace Oy := Lib.hid Oy
       replace hy_Done := Lib.hid hy_Done
       replace hy_Certs := Lib.hid hy_Certs
       replace hy_Leases := Lib.hid hy_Leases
       replace hy_VerdictSites := Lib.hid hy_VerdictSites
       replace hy_Log := Lib.hid hy_Log
       have hs7 := hm.size
       repeat (first | rw [World.size_alloc] at hs7 | rw [World.size_setCell] at hs7 | rw [World.size_drew] at hs7 | rw [World.heap_drewN] at hs7)
       have hb7_0 := fun o => hm.cell (p := ⟨w.heap.size, o, none⟩) (show w.heap.size < _ from by (repeat (first | rw [World.size_alloc] | rw [World.size_setCell] | rw [World.size_drew] | rw [World.heap_drewN])); omega) (by simp)
       have hb7_1 := fun o => hm.cell (p := ⟨w3.heap.size, o, none⟩) (show w3.heap.size < _ from by (repeat (first | rw [World.size_alloc] | rw [World.size_setCell] | rw [World.size_drew] | rw [World.heap_drewN])); omega) (by simp)
       have hb7_2 := fun o => hm.cell (p := ⟨w4.heap.size, o, none⟩) (show w4.heap.size < _ from by (repeat (first | rw [World.size_alloc] | rw [World.size_setCell] | rw [World.size_drew] | rw [World.heap_drewN])); omega) (by simp)
       have hb7_3 := fun o => hm.cell (p := ⟨w5.heap.size, o, none⟩) (show w5.heap.size < _ from by (repeat (first | rw [World.size_alloc] | rw [World.size_setCell] | rw [World.size_drew] | rw [World.heap_drewN])); omega) (by simp)
       have hl7_0 : w.heap.size < w7.heap.size := by omega
       have hl7_1 : w3.heap.size < w7.heap.size := by omega
       have hl7_2 : w4.heap.size < w7.heap.size := by omega
       have hl7_3 : w5.heap.size < w7.heap.size := by omega
       have hX : Chg ([]) w6 w7 := Chg.trans (by repeat (first | with_reducible exact Chg.refl _ _ | with_reducible refine Chg.alloc ?_ _ | with_reducible refine Chg.drewN ?_ _ | with_reducible refine Chg.drew ?_)) hm (fun g hg => Or.inl hg)
       replace hX := Lib.hid hX
       clear hm
       replace ha_Done := Lib.hid (ha_Done.out.chg0 hX.out)
       replace ha_Certs := Lib.hid (ha_Certs.out.chg0 hX.out)
       replace ha_Leases := Lib.hid (ha_Leases.out.chg0 hX.out)
       replace ha_VerdictSites := Lib.hid (ha_VerdictSites.out.chg0 hX.out)
       replace ha_Log := Lib.hid (ha_Log.out.chg0 hX.out)
       replace hw_Done := Lib.hid (hw_Done.out.chg0 hX.out)
       replace hw_Certs := Lib.hid (hw_Certs.out.chg0 hX.out)
       replace hw_Leases := Lib.hid (hw_Leases.out.chg0 hX.out)
       replace hw_VerdictSites := Lib.hid (hw_VerdictSites.out.chg0 hX.out)
       replace hw_Log := Lib.hid (hw_Log.out.chg0 hX.out)
       replace hx_Done := Lib.hid (hx_Done.out.chg0 hX.out)
       replace hx_Certs := Lib.hid (hx_Certs.out.chg0 hX.out)
       replace hx_Leases := Lib.hid (hx_Leases.out.chg0 hX.out)
       replace hx_VerdictSites := Lib.hid (hx_VerdictSites.out.chg0 hX.out)
       replace hx_Log := Lib.hid (hx_Log.out.chg0 hX.out)
       replace hg_Done := Lib.hid (hg_Done.out.chg0 hX.out)
       replace hg_Certs := Lib.hid (hg_Certs.out.chg0 hX.out)
       replace hg_Leases := Lib.hid (hg_Leases.out.chg0 hX.out)
       replace hg_VerdictSites := Lib.hid (hg_VerdictSites.out.chg0 hX.out)
       replace hg_Log := Lib.hid (hg_Log.out.chg0 hX.out)
       replace Ow := Lib.hid (Ow.out.chg0 hX.out)
       replace Ox := Lib.hid (Ox.out.chg0 hX.out)
       replace Og := Lib.hid (Og.out.chg0 hX.out)
       have hK7 := Lib.hid ((hK6.out.trans0 hX.out))
       clear hX hK6)
    | (go_at_call 14
       refine (eqCrdCoord_c x _ _ _ _ _ _ _ _ _ _ _ _ _ _ _ _ _ _ _ _ _ (hx_Done.out.chg0 (by repeat (first | with_reducible exact Chg.refl _ _ | with_reducible refine Chg.alloc ?_ _ | with_reducible refine Chg.drewN ?_ _ | with_reducible refine Chg.drew ?_))) (hy_Done.out.chg0 (by repeat (first | with_reducible exact Chg.refl _ _ | with_reducible refine Chg.alloc ?_ _ | with_reducible refine Chg.drewN ?_ _ | with_reducible refine Chg.drew ?_))) (hx_Certs.out.chg0 (by repeat (first | with_reducible exact Chg.refl _ _ | with_reducible refine Chg.alloc ?_ _ | with_reducible refine Chg.drewN ?_ _ | with_reducible refine Chg.drew ?_))) (hy_Certs.out.chg0 (by repeat (first | with_reducible exact Chg.refl _ _ | with_reducible refine Chg.alloc ?_ _ | with_reducible refine Chg.drewN ?_ _ | with_reducible refine Chg.drew ?_))) (hx_Leases.out.chg0 (by repeat (first | with_reducible exact Chg.refl _ _ | with_reducible refine Chg.alloc ?_ _ | with_reducible refine Chg.drewN ?_ _ | with_reducible refine Chg.drew ?_))) (hy_Leases.out.chg0 (by repeat (first | with_reducible exact Chg.refl _ _ | with_reducible refine Chg.alloc ?_ _ | with_reducible refine Chg.drewN ?_ _ | with_reducible refine Chg.drew ?_))) (hx_VerdictSites.out.chg0 (by repeat (first | with_reducible exact Chg.refl _ _ | with_reducible refine Chg.alloc ?_ _ | with_reducible refine Chg.drewN ?_ _ | with_reducible refine Chg.drew ?_))) (hy_VerdictSites.out.chg0 (by repeat (first | with_reducible exact Chg.refl _ _ | with_reducible refine Chg.alloc ?_ _ | with_reducible refine Chg.drewN ?_ _ | with_reducible refine Chg.drew ?_))) (hx_Log.out.chg0 (by repeat (first | with_reducible exact Chg.refl _ _ | with_reducible refine Chg.alloc ?_ _ | with_reducible refine Chg.drewN ?_ _ | with_reducible refine Chg.drew ?_))) (hy_Log.out.chg0 (by repeat (first | with_reducible exact Chg.refl _ _ | with_reducible refine Chg.alloc ?_ _ | with_reducible refine Chg.drewN ?_ _ | with_reducible refine Chg.drew ?_)))).mono ?_
       rintro e w8 ⟨rfl, hm⟩
       have hs8 := hm.size
       repeat (first | rw [World.size_alloc] at hs8 | rw [World.size_setCell] at hs8 | rw [World.size_drew] at hs8 | rw [World.heap_drewN] at hs8)
       have hb8_0 := fun o => hm.cell (p := ⟨w.heap.size, o, none⟩) (show w.heap.size < _ from by (repeat (first | rw [World.size_alloc] | rw [World.size_setCell] | rw [World.size_drew] | rw [World.heap_drewN])); omega) (by simp)
       have hb8_1 := fun o => hm.cell (p := ⟨w3.heap.size, o, none⟩) (show w3.heap.size < _ from by (repeat (first | rw [World.size_alloc] | rw [World.size_setCell] | rw [World.size_drew] | rw [World.heap_drewN])); omega) (by simp)
       have hb8_2 := fun o => hm.cell (p := ⟨w4.heap.size, o, none⟩) (show w4.heap.size < _ from by (repeat (first | rw [World.size_alloc] | rw [World.size_setCell] | rw [World.size_drew] | rw [World.heap_drewN])); omega) (by simp)
       have hb8_3 := fun o => hm.cell (p := ⟨w5.heap.size, o, none⟩) (show w5.heap.size < _ from by (repeat (first | rw [World.size_alloc] | rw [World.size_setCell] | rw [World.size_drew] | rw [World.heap_drewN])); omega) (by simp)
       have hl8_0 : w.heap.size < w8.heap.size := by omega
       have hl8_1 : w3.heap.size < w8.heap.size := by omega
       have hl8_2 : w4.heap.size < w8.heap.size := by omega
       have hl8_3 : w5.heap.size < w8.heap.size := by omega
       have hX : Chg ([]) w7 w8 := Chg.trans (by repeat (first | with_reducible exact Chg.refl _ _ | with_reducible refine Chg.alloc ?_ _ | with_reducible refine Chg.drewN ?_ _ | with_reducible refine Chg.drew ?_)) hm (fun g hg => Or.inl hg)
       replace hX := Lib.hid hX
       clear hm
       replace ha_Done := Lib.hid (ha_Done.out.chg0 hX.out)
       replace ha_Certs := Lib.hid (ha_Certs.out.chg0 hX.out)
       replace ha_Leases := Lib.hid (ha_Leases.out.chg0 hX.out)
       replace ha_VerdictSites := Lib.hid (ha_VerdictSites.out.chg0 hX.out)
       replace ha_Log := Lib.hid (ha_Log.out.chg0 hX.out)
       replace hw_Done := Lib.hid (hw_Done.out.chg0 hX.out)
       replace hw_Certs := Lib.hid (hw_Certs.out.chg0 hX.out)
       replace hw_Leases := Lib.hid (hw_Leases.out.chg0 hX.out)
       replace hw_VerdictSites := Lib.hid (hw_VerdictSites.out.chg0 hX.out)
       replace hw_Log := Lib.hid (hw_Log.out.chg0 hX.out)
       replace hx_Done := Lib.hid (hx_Done.out.chg0 hX.out)
       replace hx_Certs := Lib.hid (hx_Certs.out.chg0 hX.out)
       replace hx_Leases := Lib.hid (hx_Leases.out.chg0 hX.out)
       replace hx_VerdictSites := Lib.hid (hx_VerdictSites.out.chg0 hX.out)
       replace hx_Log := Lib.hid (hx_Log.out.chg0 hX.out)
       replace hg_Done := Lib.hid (hg_Done.out.chg0 hX.out)
       replace hg_Certs := Lib.hid (hg_Certs.out.chg0 hX.out)
       replace hg_Leases := Lib.hid (hg_Leases.out.chg0 hX.out)
       replace hg_VerdictSites := Lib.hid (hg_VerdictSites.out.chg0 hX.out)
       replace hg_Log := Lib.hid (hg_Log.out.chg0 hX.out)
       replace hy_Done := Lib.hid (hy_Done.out.chg0 hX.out)
       replace hy_Certs := Lib.hid (hy_Certs.out.chg0 hX.out)
       replace hy_Leases := Lib.hid (hy_Leases.out.chg0 hX.out)
       replace hy_VerdictSites := Lib.hid (hy_VerdictSites.out.chg0 hX.out)
       replace hy_Log := Lib.hid (hy_Log.out.chg0 hX.out)
       replace Ow := Lib.hid (Ow.out.chg0 hX.out)
       replace Ox := Lib.hid (Ox.out.chg0 hX.out)
       replace Og := Lib.hid (Og.out.chg0 hX.out)
       replace Oy := Lib.hid (Oy.out.chg0 hX.out)
       have hK8 := Lib.hid ((hK7.out.trans0 hX.out))
       clear hX hK7))
  all_goals
    clear By Oy hy_Done hy_Certs hy_Leases hy_VerdictSites hy_Log
    go_wp2_with fail
    refine (markCrdCoord_c x (1) _ _ _ _ _ _ _ _ _ _ _ (hx_Done.out.chg0 (by repeat (first | with_reducible exact Chg.refl _ _ | with_reducible refine Chg.alloc ?_ _ | with_reducible refine Chg.drewN ?_ _ | with_reducible refine Chg.drew ?_))) (hx_Certs.out.chg0 (by repeat (first | with_reducible exact Chg.refl _ _ | with_reducible refine Chg.alloc ?_ _ | with_reducible refine Chg.drewN ?_ _ | with_reducible refine Chg.drew ?_))) (hx_Leases.out.chg0 (by repeat (first | with_reducible exact Chg.refl _ _ | with_reducible refine Chg.alloc ?_ _ | with_reducible refine Chg.drewN ?_ _ | with_reducible refine Chg.drew ?_))) (hx_VerdictSites.out.chg0 (by repeat (first | with_reducible exact Chg.refl _ _ | with_reducible refine Chg.alloc ?_ _ | with_reducible refine Chg.drewN ?_ _ | with_reducible refine Chg.drew ?_))) (hx_Log.out.chg0 (by repeat (first | with_reducible exact Chg.refl _ _ | with_reducible refine Chg.alloc ?_ _ | with_reducible refine Chg.drewN ?_ _ | with_reducible refine Chg.drew ?_))) (Ox.out.chg0 (by repeat (first | with_reducible exact Chg.refl _ _ | with_reducible refine Chg.alloc ?_ _ | with_reducible refine Chg.drewN ?_ _ | with_reducible refine Chg.drew ?_))) (by omega) (Int.le_trans hcn (by omega))).mono ?_
    rintro e w9 ⟨rfl, hm, om, mhx_Done, mhx_Certs, mhx_Leases, mhx_VerdictSites, mhx_Log⟩
    replace hx_Done := Lib.hid mhx_Done
    clear mhx_Done
    replace hx_Certs := Lib.hid mhx_Certs
    clear mhx_Certs
    replace hx_Leases := Lib.hid mhx_Leases
    clear mhx_Leases
    replace hx_VerdictSites := Lib.hid mhx_VerdictSites
    clear mhx_VerdictSites
    replace hx_Log := Lib.hid mhx_Log
    clear mhx_Log
    replace Ox := Lib.hid om
    clear om
    have hs9 := hm.size
    repeat (first | rw [World.size_alloc] at hs9 | rw [World.size_setCell] at hs9 | rw [World.size_drew] at hs9 | rw [World.heap_drewN] at hs9)
    have hb9_0 := fun o => hm.cell (p := ⟨w.heap.size, o, none⟩) (show w.heap.size < _ from by (repeat (first | rw [World.size_alloc] | rw [World.size_setCell] | rw [World.size_drew] | rw [World.heap_drewN])); omega) (fun (hf : w.heap.size ∈ Fx_Done ++ (Fx_Certs ++ (Fx_Leases ++ (Fx_VerdictSites ++ (Fx_Log))))) => by have := Bx.out _ hf; omega)
    have hb9_1 := fun o => hm.cell (p := ⟨w3.heap.size, o, none⟩) (show w3.heap.size < _ from by (repeat (first | rw [World.size_alloc] | rw [World.size_setCell] | rw [World.size_drew] | rw [World.heap_drewN])); omega) (fun (hf : w3.heap.size ∈ Fx_Done ++ (Fx_Certs ++ (Fx_Leases ++ (Fx_VerdictSites ++ (Fx_Log))))) => by have := Bx.out _ hf; omega)
    have hb9_2 := fun o => hm.cell (p := ⟨w4.heap.size, o, none⟩) (show w4.heap.size < _ from by (repeat (first | rw [World.size_alloc] | rw [World.size_setCell] | rw [World.size_drew] | rw [World.heap_drewN])); omega) (fun (hf : w4.heap.size ∈ Fx_Done ++ (Fx_Certs ++ (Fx_Leases ++ (Fx_VerdictSites ++ (Fx_Log))))) => by have := Bx.out _ hf; omega)
    have hb9_3 := fun o => hm.cell (p := ⟨w5.heap.size, o, none⟩) (show w5.heap.size < _ from by (repeat (first | rw [World.size_alloc] | rw [World.size_setCell] | rw [World.size_drew] | rw [World.heap_drewN])); omega) (fun (hf : w5.heap.size ∈ Fx_Done ++ (Fx_Certs ++ (Fx_Leases ++ (Fx_VerdictSites ++ (Fx_Log))))) => by have := Bx.out _ hf; omega)
    have hl9_0 : w.heap.size < w9.heap.size := by omega
    have hl9_1 : w3.heap.size < w9.heap.size := by omega
    have hl9_2 : w4.heap.size < w9.heap.size := by omega
    have hl9_3 : w5.heap.size < w9.heap.size := by omega
    have hX : Chg (Fx_Done ++ (Fx_Certs ++ (Fx_Leases ++ (Fx_VerdictSites ++ (Fx_Log))))) w8 w9 := Chg.trans (by repeat (first | with_reducible exact Chg.refl _ _ | with_reducible refine Chg.alloc ?_ _ | with_reducible refine Chg.drewN ?_ _ | with_reducible refine Chg.drew ?_)) hm (fun g hg => Or.inl hg)
    replace hX := Lib.hid hX
    clear hm
    replace ha_Done := Lib.hid (RL.chg ha_Done.out hX.out (fun g hg h => by have a1 := Ba.out g (List.mem_append_left _ hg); have a2 := Bx.out g h; omega))
    replace ha_Certs := Lib.hid (RL.chg ha_Certs.out hX.out (fun g hg h => by have a1 := Ba.out g (List.mem_append_right _ (List.mem_append_left _ hg)); have a2 := Bx.out g h; omega))
    replace ha_Leases := Lib.hid (RL.chg ha_Leases.out hX.out (fun g hg h => by have a1 := Ba.out g (List.mem_append_right _ (List.mem_append_right _ (List.mem_append_left _ hg))); have a2 := Bx.out g h; omega))
    replace ha_VerdictSites := Lib.hid (RL.chg ha_VerdictSites.out hX.out (fun g hg h => by have a1 := Ba.out g (List.mem_append_right _ (List.mem_append_right _ (List.mem_append_right _ (List.mem_append_left _ hg)))); have a2 := Bx.out g h; omega))
    replace ha_Log := Lib.hid (RL.chg ha_Log.out hX.out (fun g hg h => by have a1 := Ba.out g (List.mem_append_right _ (List.mem_append_right _ (List.mem_append_right _ (List.mem_append_right _ (hg))))); have a2 := Bx.out g h; omega))
    replace hw_Done := Lib.hid (RL.chg hw_Done.out hX.out (fun g hg h => by have a1 := Bw.out g (List.mem_append_left _ hg); have a2 := Bx.out g h; omega))
    replace hw_Certs := Lib.hid (RL.chg hw_Certs.out hX.out (fun g hg h => by have a1 := Bw.out g (List.mem_append_right _ (List.mem_append_left _ hg)); have a2 := Bx.out g h; omega))
    replace hw_Leases := Lib.hid (RL.chg hw_Leases.out hX.out (fun g hg h => by have a1 := Bw.out g (List.mem_append_right _ (List.mem_append_right _ (List.mem_append_left _ hg))); have a2 := Bx.out g h; omega))
    replace hw_VerdictSites := Lib.hid (RL.chg hw_VerdictSites.out hX.out (fun g hg h => by have a1 := Bw.out g (List.mem_append_right _ (List.mem_append_right _ (List.mem_append_right _ (List.mem_append_left _ hg)))); have a2 := Bx.out g h; omega))
    replace hw_Log := Lib.hid (RL.chg hw_Log.out hX.out (fun g hg h => by have a1 := Bw.out g (List.mem_append_right _ (List.mem_append_right _ (List.mem_append_right _ (List.mem_append_right _ (hg))))); have a2 := Bx.out g h; omega))
    replace hg_Done := Lib.hid (RL.chg hg_Done.out hX.out (fun g hg h => by have a1 := Bg.out g (List.mem_append_left _ hg); have a2 := Bx.out g h; omega))
    replace hg_Certs := Lib.hid (RL.chg hg_Certs.out hX.out (fun g hg h => by have a1 := Bg.out g (List.mem_append_right _ (List.mem_append_left _ hg)); have a2 := Bx.out g h; omega))
    replace hg_Leases := Lib.hid (RL.chg hg_Leases.out hX.out (fun g hg h => by have a1 := Bg.out g (List.mem_append_right _ (List.mem_append_right _ (List.mem_append_left _ hg))); have a2 := Bx.out g h; omega))
    replace hg_VerdictSites := Lib.hid (RL.chg hg_VerdictSites.out hX.out (fun g hg h => by have a1 := Bg.out g (List.mem_append_right _ (List.mem_append_right _ (List.mem_append_right _ (List.mem_append_left _ hg)))); have a2 := Bx.out g h; omega))
    replace hg_Log := Lib.hid (RL.chg hg_Log.out hX.out (fun g hg h => by have a1 := Bg.out g (List.mem_append_right _ (List.mem_append_right _ (List.mem_append_right _ (List.mem_append_right _ (hg))))); have a2 := Bx.out g h; omega))
    replace Ow := Lib.hid (Own.chg Ow.out hX.out (fun g hg h => by have a1 := Bw.out g hg; have a2 := Bx.out g h; omega))
    replace Og := Lib.hid (Own.chg Og.out hX.out (fun g hg h => by have a1 := Bg.out g hg; have a2 := Bx.out g h; omega))
    have hK9 := Lib.hid (hK8.out.trans hX.out (fun g hg => Or.inr (by have := Bx.out g hg; omega)))
    clear hX hK8
    clear Bx Ox hx_Done hx_Certs hx_Leases hx_VerdictSites hx_Log
    go_wp2_with fail
    refine (eqCrdCoord_c (fallen x) _ _ _ _ _ _ _ _ _ _ _ _ _ _ _ _ _ _ _ _ _ (hg_Done.out.chg0 (by repeat (first | with_reducible exact Chg.refl _ _ | with_reducible refine Chg.alloc ?_ _ | with_reducible refine Chg.drewN ?_ _ | with_reducible refine Chg.drew ?_))) (hw_Done.out.chg0 (by repeat (first | with_reducible exact Chg.refl _ _ | with_reducible refine Chg.alloc ?_ _ | with_reducible refine Chg.drewN ?_ _ | with_reducible refine Chg.drew ?_))) (hg_Certs.out.chg0 (by repeat (first | with_reducible exact Chg.refl _ _ | with_reducible refine Chg.alloc ?_ _ | with_reducible refine Chg.drewN ?_ _ | with_reducible refine Chg.drew ?_))) (hw_Certs.out.chg0 (by repeat (first | with_reducible exact Chg.refl _ _ | with_reducible refine Chg.alloc ?_ _ | with_reducible refine Chg.drewN ?_ _ | with_reducible refine Chg.drew ?_))) (hg_Leases.out.chg0 (by repeat (first | with_reducible exact Chg.refl _ _ | with_reducible refine Chg.alloc ?_ _ | with_reducible refine Chg.drewN ?_ _ | with_reducible refine Chg.drew ?_))) (hw_Leases.out.chg0 (by repeat (first | with_reducible exact Chg.refl _ _ | with_reducible refine Chg.alloc ?_ _ | with_reducible refine Chg.drewN ?_ _ | with_reducible refine Chg.drew ?_))) (hg_VerdictSites.out.chg0 (by repeat (first | with_reducible exact Chg.refl _ _ | with_reducible refine Chg.alloc ?_ _ | with_reducible refine Chg.drewN ?_ _ | with_reducible refine Chg.drew ?_))) (hw_VerdictSites.out.chg0 (by repeat (first | with_reducible exact Chg.refl _ _ | with_reducible refine Chg.alloc ?_ _ | with_reducible refine Chg.drewN ?_ _ | with_reducible refine Chg.drew ?_))) (hg_Log.out.chg0 (by repeat (first | with_reducible exact Chg.refl _ _ | with_reducible refine Chg.alloc ?_ _ | with_reducible refine Chg.drewN ?_ _ | with_reducible refine Chg.drew ?_))) (hw_Log.out.chg0 (by repeat (first | with_reducible exact Chg.refl _ _ | with_reducible refine Chg.alloc ?_ _ | with_reducible refine Chg.drewN ?_ _ | with_reducible refine Chg.drew ?_)))).mono ?_
    rintro e w10 ⟨rfl, hm⟩
    have hs10 := hm.size
    repeat (first | rw [World.size_alloc] at hs10 | rw [World.size_setCell] at hs10 | rw [World.size_drew] at hs10 | rw [World.heap_drewN] at hs10)
    have hb10_0 := fun o => hm.cell (p := ⟨w.heap.size, o, none⟩) (show w.heap.size < _ from by (repeat (first | rw [World.size_alloc] | rw [World.size_setCell] | rw [World.size_drew] | rw [World.heap_drewN])); omega) (by simp)
    have hb10_1 := fun o => hm.cell (p := ⟨w3.heap.size, o, none⟩) (show w3.heap.size < _ from by (repeat (first | rw [World.size_alloc] | rw [World.size_setCell] | rw [World.size_drew] | rw [World.heap_drewN])); omega) (by simp)
    have hb10_2 := fun o => hm.cell (p := ⟨w4.heap.size, o, none⟩) (show w4.heap.size < _ from by (repeat (first | rw [World.size_alloc] | rw [World.size_setCell] | rw [World.size_drew] | rw [World.heap_drewN])); omega) (by simp)
    have hb10_3 := fun o => hm.cell (p := ⟨w5.heap.size, o, none⟩) (show w5.heap.size < _ from by (repeat (first | rw [World.size_alloc] | rw [World.size_setCell] | rw [World.size_drew] | rw [World.heap_drewN])); omega) (by simp)
    have hl10_0 : w.heap.size < w10.heap.size := by omega
    have hl10_1 : w3.heap.size < w10.heap.size := by omega
    have hl10_2 : w4.heap.size < w10.heap.size := by omega
    have hl10_3 : w5.heap.size < w10.heap.size := by omega
    have hX : Chg ([]) w9 w10 := Chg.trans (by repeat (first | with_reducible exact Chg.refl _ _ | with_reducible refine Chg.alloc ?_ _ | with_reducible refine Chg.drewN ?_ _ | with_reducible refine Chg.drew ?_)) hm (fun g hg => Or.inl hg)
    replace hX := Lib.hid hX
    clear hm
    replace ha_Done := Lib.hid (ha_Done.out.chg0 hX.out)
    replace ha_Certs := Lib.hid (ha_Certs.out.chg0 hX.out)
    replace ha_Leases := Lib.hid (ha_Leases.out.chg0 hX.out)
    replace ha_VerdictSites := Lib.hid (ha_VerdictSites.out.chg0 hX.out)
    replace ha_Log := Lib.hid (ha_Log.out.chg0 hX.out)
    replace hw_Done := Lib.hid (hw_Done.out.chg0 hX.out)
    replace hw_Certs := Lib.hid (hw_Certs.out.chg0 hX.out)
    replace hw_Leases := Lib.hid (hw_Leases.out.chg0 hX.out)
    replace hw_VerdictSites := Lib.hid (hw_VerdictSites.out.chg0 hX.out)
    replace hw_Log := Lib.hid (hw_Log.out.chg0 hX.out)
    replace hg_Done := Lib.hid (hg_Done.out.chg0 hX.out)
    replace hg_Certs := Lib.hid (hg_Certs.out.chg0 hX.out)
    replace hg_Leases := Lib.hid (hg_Leases.out.chg0 hX.out)
    replace hg_VerdictSites := Lib.hid (hg_VerdictSites.out.chg0 hX.out)
    replace hg_Log := Lib.hid (hg_Log.out.chg0 hX.out)
    replace Ow := Lib.hid (Ow.out.chg0 hX.out)
    replace Og := Lib.hid (Og.out.chg0 hX.out)
    have hK10 := Lib.hid ((hK9.out.trans0 hX.out))
    clear hX hK9
    go_wp2_with fail
    refine (markCrdCoord_c (fallen x) (1) _ _ _ _ _ _ _ _ _ _ _ (hg_Done.out.chg0 (by repeat (first | with_reducible exact Chg.refl _ _ | with_reducible refine Chg.alloc ?_ _ | with_reducible refine Chg.drewN ?_ _ | with_reducible refine Chg.drew ?_))) (hg_Certs.out.chg0 (by repeat (first | with_reducible exact Chg.refl _ _ | with_reducible refine Chg.alloc ?_ _ | with_reducible refine Chg.drewN ?_ _ | with_reducible refine Chg.drew ?_))) (hg_Leases.out.chg0 (by repeat (first | with_reducible exact Chg.refl _ _ | with_reducible refine Chg.alloc ?_ _ | with_reducible refine Chg.drewN ?_ _ | with_reducible refine Chg.drew ?_))) (hg_VerdictSites.out.chg0 (by repeat (first | with_reducible exact Chg.refl _ _ | with_reducible refine Chg.alloc ?_ _ | with_reducible refine Chg.drewN ?_ _ | with_reducible refine Chg.drew ?_))) (hg_Log.out.chg0 (by repeat (first | with_reducible exact Chg.refl _ _ | with_reducible refine Chg.alloc ?_ _ | with_reducible refine Chg.drewN ?_ _ | with_reducible refine Chg.drew ?_))) (Og.out.chg0 (by repeat (first | with_reducible exact Chg.refl _ _ | with_reducible refine Chg.alloc ?_ _ | with_reducible refine Chg.drewN ?_ _ | with_reducible refine Chg.drew ?_))) (by omega) (Int.le_trans hcr (by omega))).mono ?_
    rintro e w11 ⟨rfl, hm, om, mhg_Done, mhg_Certs, mhg_Leases, mhg_VerdictSites, mhg_Log⟩
    replace hg_Done := Lib.hid mhg_Done
    clear mhg_Done
    replace hg_Certs := Lib.hid mhg_Certs
    clear mhg_Certs
    replace hg_Leases := Lib.hid mhg_Leases
    clear mhg_Leases
    replace hg_VerdictSites := Lib.hid mhg_VerdictSites
    clear mhg_VerdictSites
    replace hg_Log := Lib.hid mhg_Log
    clear mhg_Log
    replace Og := Lib.hid om
    clear om
    have hs11 := hm.size
    repeat (first | rw [World.size_alloc] at hs11 | rw [World.size_setCell] at hs11 | rw [World.size_drew] at hs11 | rw [World.heap_drewN] at hs11)
    have hb11_0 := fun o => hm.cell (p := ⟨w.heap.size, o, none⟩) (show w.heap.size < _ from by (repeat (first | rw [World.size_alloc] | rw [World.size_setCell] | rw [World.size_drew] | rw [World.heap_drewN])); omega) (fun (hf : w.heap.size ∈ Fg_Done ++ (Fg_Certs ++ (Fg_Leases ++ (Fg_VerdictSites ++ (Fg_Log))))) => by have := Bg.out _ hf; omega)
    have hb11_1 := fun o => hm.cell (p := ⟨w3.heap.size, o, none⟩) (show w3.heap.size < _ from by (repeat (first | rw [World.size_alloc] | rw [World.size_setCell] | rw [World.size_drew] | rw [World.heap_drewN])); omega) (fun (hf : w3.heap.size ∈ Fg_Done ++ (Fg_Certs ++ (Fg_Leases ++ (Fg_VerdictSites ++ (Fg_Log))))) => by have := Bg.out _ hf; omega)
    have hb11_2 := fun o => hm.cell (p := ⟨w4.heap.size, o, none⟩) (show w4.heap.size < _ from by (repeat (first | rw [World.size_alloc] | rw [World.size_setCell] | rw [World.size_drew] | rw [World.heap_drewN])); omega) (fun (hf : w4.heap.size ∈ Fg_Done ++ (Fg_Certs ++ (Fg_Leases ++ (Fg_VerdictSites ++ (Fg_Log))))) => by have := Bg.out _ hf; omega)
    have hb11_3 := fun o => hm.cell (p := ⟨w5.heap.size, o, none⟩) (show w5.heap.size < _ from by (repeat (first | rw [World.size_alloc] | rw [World.size_setCell] | rw [World.size_drew] | rw [World.heap_drewN])); omega) (fun (hf : w5.heap.size ∈ Fg_Done ++ (Fg_Certs ++ (Fg_Leases ++ (Fg_VerdictSites ++ (Fg_Log))))) => by have := Bg.out _ hf; omega)
    have hl11_0 : w.heap.size < w11.heap.size := by omega
    have hl11_1 : w3.heap.size < w11.heap.size := by omega
    have hl11_2 : w4.heap.size < w11.heap.size := by omega
    have hl11_3 : w5.heap.size < w11.heap.size := by omega
    have hX : Chg (Fg_Done ++ (Fg_Certs ++ (Fg_Leases ++ (Fg_VerdictSites ++ (Fg_Log))))) w10 w11 := Chg.trans (by repeat (first | with_reducible exact Chg.refl _ _ | with_reducible refine Chg.alloc ?_ _ | with_reducible refine Chg.drewN ?_ _ | with_reducible refine Chg.drew ?_)) hm (fun g hg => Or.inl hg)
    replace hX := Lib.hid hX
    clear hm
    replace ha_Done := Lib.hid (RL.chg ha_Done.out hX.out (fun g hg h => by have a1 := Ba.out g (List.mem_append_left _ hg); have a2 := Bg.out g h; omega))
    replace ha_Certs := Lib.hid (RL.chg ha_Certs.out hX.out (fun g hg h => by have a1 := Ba.out g (List.mem_append_right _ (List.mem_append_left _ hg)); have a2 := Bg.out g h; omega))
    replace ha_Leases := Lib.hid (RL.chg ha_Leases.out hX.out (fun g hg h => by have a1 := Ba.out g (List.mem_append_right _ (List.mem_append_right _ (List.mem_append_left _ hg))); have a2 := Bg.out g h; omega))
    replace ha_VerdictSites := Lib.hid (RL.chg ha_VerdictSites.out hX.out (fun g hg h => by have a1 := Ba.out g (List.mem_append_right _ (List.mem_append_right _ (List.mem_append_right _ (List.mem_append_left _ hg)))); have a2 := Bg.out g h; omega))
    replace ha_Log := Lib.hid (RL.chg ha_Log.out hX.out (fun g hg h => by have a1 := Ba.out g (List.mem_append_right _ (List.mem_append_right _ (List.mem_append_right _ (List.mem_append_right _ (hg))))); have a2 := Bg.out g h; omega))
    replace hw_Done := Lib.hid (RL.chg hw_Done.out hX.out (fun g hg h => by have a1 := Bw.out g (List.mem_append_left _ hg); have a2 := Bg.out g h; omega))
    replace hw_Certs := Lib.hid (RL.chg hw_Certs.out hX.out (fun g hg h => by have a1 := Bw.out g (List.mem_append_right _ (List.mem_append_left _ hg)); have a2 := Bg.out g h; omega))
    replace hw_Leases := Lib.hid (RL.chg hw_Leases.out hX.out (fun g hg h => by have a1 := Bw.out g (List.mem_append_right _ (List.mem_append_right _ (List.mem_append_left _ hg))); have a2 := Bg.out g h; omega))
    replace hw_VerdictSites := Lib.hid (RL.chg hw_VerdictSites.out hX.out (fun g hg h => by have a1 := Bw.out g (List.mem_append_right _ (List.mem_append_right _ (List.mem_append_right _ (List.mem_append_left _ hg)))); have a2 := Bg.out g h; omega))
    replace hw_Log := Lib.hid (RL.chg hw_Log.out hX.out (fun g hg h => by have a1 := Bw.out g (List.mem_append_right _ (List.mem_append_right _ (List.mem_append_right _ (List.mem_append_right _ (hg))))); have a2 := Bg.out g h; omega))
    replace Ow := Lib.hid (Own.chg Ow.out hX.out (fun g hg h => by have a1 := Bw.out g hg; have a2 := Bg.out g h; omega))
    have hK11 := Lib.hid (hK10.out.trans hX.out (fun g hg => Or.inr (by have := Bg.out g hg; omega)))
    clear hX hK10
    go_wp2_with fail
    refine (heldCrdCoord_c (fallen x) (1) _ _ _ _ _ _ _ _ _ _ _ (hg_Done.out.chg0 (by repeat (first | with_reducible exact Chg.refl _ _ | with_reducible refine Chg.alloc ?_ _ | with_reducible refine Chg.drewN ?_ _ | with_reducible refine Chg.drew ?_))) (hg_Certs.out.chg0 (by repeat (first | with_reducible exact Chg.refl _ _ | with_reducible refine Chg.alloc ?_ _ | with_reducible refine Chg.drewN ?_ _ | with_reducible refine Chg.drew ?_))) (hg_Leases.out.chg0 (by repeat (first | with_reducible exact Chg.refl _ _ | with_reducible refine Chg.alloc ?_ _ | with_reducible refine Chg.drewN ?_ _ | with_reducible refine Chg.drew ?_))) (hg_VerdictSites.out.chg0 (by repeat (first | with_reducible exact Chg.refl _ _ | with_reducible refine Chg.alloc ?_ _ | with_reducible refine Chg.drewN ?_ _ | with_reducible refine Chg.drew ?_))) (hg_Log.out.chg0 (by repeat (first | with_reducible exact Chg.refl _ _ | with_reducible refine Chg.alloc ?_ _ | with_reducible refine Chg.drewN ?_ _ | with_reducible refine Chg.drew ?_))) (by omega) (Int.le_trans hcr (by omega))).mono ?_
    rintro e w12 ⟨rfl, hm⟩
    have hs12 := hm.size
    repeat (first | rw [World.size_alloc] at hs12 | rw [World.size_setCell] at hs12 | rw [World.size_drew] at hs12 | rw [World.heap_drewN] at hs12)
    have hb12_0 := fun o => hm.cell (p := ⟨w.heap.size, o, none⟩) (show w.heap.size < _ from by (repeat (first | rw [World.size_alloc] | rw [World.size_setCell] | rw [World.size_drew] | rw [World.heap_drewN])); omega) (by simp)
    have hb12_1 := fun o => hm.cell (p := ⟨w3.heap.size, o, none⟩) (show w3.heap.size < _ from by (repeat (first | rw [World.size_alloc] | rw [World.size_setCell] | rw [World.size_drew] | rw [World.heap_drewN])); omega) (by simp)
    have hb12_2 := fun o => hm.cell (p := ⟨w4.heap.size, o, none⟩) (show w4.heap.size < _ from by (repeat (first | rw [World.size_alloc] | rw [World.size_setCell] | rw [World.size_drew] | rw [World.heap_drewN])); omega) (by simp)
    have hb12_3 := fun o => hm.cell (p := ⟨w5.heap.size, o, none⟩) (show w5.heap.size < _ from by (repeat (first | rw [World.size_alloc] | rw [World.size_setCell] | rw [World.size_drew] | rw [World.heap_drewN])); omega) (by simp)
    have hl12_0 : w.heap.size < w12.heap.size := by omega
    have hl12_1 : w3.heap.size < w12.heap.size := by omega
    have hl12_2 : w4.heap.size < w12.heap.size := by omega
    have hl12_3 : w5.heap.size < w12.heap.size := by omega
    have hX : Chg ([]) w11 w12 := Chg.trans (by repeat (first | with_reducible exact Chg.refl _ _ | with_reducible refine Chg.alloc ?_ _ | with_reducible refine Chg.drewN ?_ _ | with_reducible refine Chg.drew ?_)) hm (fun g hg => Or.inl hg)
    replace hX := Lib.hid hX
    clear hm
    replace ha_Done := Lib.hid (ha_Done.out.chg0 hX.out)
    replace ha_Certs := Lib.hid (ha_Certs.out.chg0 hX.out)
    replace ha_Leases := Lib.hid (ha_Leases.out.chg0 hX.out)
    replace ha_VerdictSites := Lib.hid (ha_VerdictSites.out.chg0 hX.out)
    replace ha_Log := Lib.hid (ha_Log.out.chg0 hX.out)
    replace hw_Done := Lib.hid (hw_Done.out.chg0 hX.out)
    replace hw_Certs := Lib.hid (hw_Certs.out.chg0 hX.out)
    replace hw_Leases := Lib.hid (hw_Leases.out.chg0 hX.out)
    replace hw_VerdictSites := Lib.hid (hw_VerdictSites.out.chg0 hX.out)
    replace hw_Log := Lib.hid (hw_Log.out.chg0 hX.out)
    replace hg_Done := Lib.hid (hg_Done.out.chg0 hX.out)
    replace hg_Certs := Lib.hid (hg_Certs.out.chg0 hX.out)
    replace hg_Leases := Lib.hid (hg_Leases.out.chg0 hX.out)
    replace hg_VerdictSites := Lib.hid (hg_VerdictSites.out.chg0 hX.out)
    replace hg_Log := Lib.hid (hg_Log.out.chg0 hX.out)
    replace Ow := Lib.hid (Ow.out.chg0 hX.out)
    replace Og := Lib.hid (Og.out.chg0 hX.out)
    have hK12 := Lib.hid ((hK11.out.trans0 hX.out))
    clear hX hK11
    go_wp2_with fail
    refine (toCrdCoord_c x _ _ _ _ _ _ _ _ _ _ _ (ha_Done.out.chg0 (by repeat (first | with_reducible exact Chg.refl _ _ | with_reducible refine Chg.alloc ?_ _ | with_reducible refine Chg.drewN ?_ _ | with_reducible refine Chg.drew ?_))) (ha_Certs.out.chg0 (by repeat (first | with_reducible exact Chg.refl _ _ | with_reducible refine Chg.alloc ?_ _ | with_reducible refine Chg.drewN ?_ _ | with_reducible refine Chg.drew ?_))) (ha_Leases.out.chg0 (by repeat (first | with_reducible exact Chg.refl _ _ | with_reducible refine Chg.alloc ?_ _ | with_reducible refine Chg.drewN ?_ _ | with_reducible refine Chg.drew ?_))) (ha_VerdictSites.out.chg0 (by repeat (first | with_reducible exact Chg.refl _ _ | with_reducible refine Chg.alloc ?_ _ | with_reducible refine Chg.drewN ?_ _ | with_reducible refine Chg.drew ?_))) (ha_Log.out.chg0 (by repeat (first | with_reducible exact Chg.refl _ _ | with_reducible refine Chg.alloc ?_ _ | with_reducible refine Chg.drewN ?_ _ | with_reducible refine Chg.drew ?_))) HZa.out).mono ?_
    rintro e w13 ⟨vt_Done, Ft_Done, vt_Certs, Ft_Certs, vt_Leases, Ft_Leases, vt_VerdictSites, Ft_VerdictSites, vt_Log, Ft_Log, rfl, hm, ht_Done, ht_Certs, ht_Leases, ht_VerdictSites, ht_Log, Ot, Bt⟩
    obtain ⟨At_Done, ct_Done, rfl, -, -⟩ := ht_Done.form
    obtain ⟨At_Certs, ct_Certs, rfl, -, -⟩ := ht_Certs.form
    obtain ⟨At_Leases, ct_Leases, rfl, -, -⟩ := ht_Leases.form
    obtain ⟨At_VerdictSites, ct_VerdictSites, rfl, -, -⟩ := ht_VerdictSites.form
    obtain ⟨At_Log, ct_Log, rfl, -, -⟩ := ht_Log.form
    replace Bt : ∀ g ∈ Ft_Done ++ (Ft_Certs ++ (Ft_Leases ++ (Ft_VerdictSites ++ (Ft_Log)))), w5.heap.size < g ∧ g < w13.heap.size := fun g hg => ⟨by have := Bt g hg; (repeat (first | rw [World.size_alloc] at this | rw [World.size_setCell] at this | rw [World.size_drew] at this | rw [World.heap_drewN] at this)); omega, Ot.lt g hg⟩
    replace Bt := Lib.hid Bt
    replace Ot := Lib.hid Ot
    replace ht_Done := Lib.hid ht_Done
    replace ht_Certs := Lib.hid ht_Certs
    replace ht_Leases := Lib.hid ht_Leases
    replace ht_VerdictSites := Lib.hid ht_VerdictSites
    replace ht_Log := Lib.hid ht_Log
    have hs13 := hm.size
    repeat (first | rw [World.size_alloc] at hs13 | rw [World.size_setCell] at hs13 | rw [World.size_drew] at hs13 | rw [World.heap_drewN] at hs13)
    have hb13_0 := fun o => hm.cell (p := ⟨w.heap.size, o, none⟩) (show w.heap.size < _ from by (repeat (first | rw [World.size_alloc] | rw [World.size_setCell] | rw [World.size_drew] | rw [World.heap_drewN])); omega) (by simp)
    have hb13_1 := fun o => hm.cell (p := ⟨w3.heap.size, o, none⟩) (show w3.heap.size < _ from by (repeat (first | rw [World.size_alloc] | rw [World.size_setCell] | rw [World.size_drew] | rw [World.heap_drewN])); omega) (by simp)
    have hb13_2 := fun o => hm.cell (p := ⟨w4.heap.size, o, none⟩) (show w4.heap.size < _ from by (repeat (first | rw [World.size_alloc] | rw [World.size_setCell] | rw [World.size_drew] | rw [World.heap_drewN])); omega) (by simp)
    have hb13_3 := fun o => hm.cell (p := ⟨w5.heap.size, o, none⟩) (show w5.heap.size < _ from by (repeat (first | rw [World.size_alloc] | rw [World.size_setCell] | rw [World.size_drew] | rw [World.heap_drewN])); omega) (by simp)
    have hl13_0 : w.heap.size < w13.heap.size := by omega
    have hl13_1 : w3.heap.size < w13.heap.size := by omega
    have hl13_2 : w4.heap.size < w13.heap.size := by omega
    have hl13_3 : w5.heap.size < w13.heap.size := by omega
    have hX : Chg ([]) w12 w13 := Chg.trans (by repeat (first | with_reducible exact Chg.refl _ _ | with_reducible refine Chg.alloc ?_ _ | with_reducible refine Chg.drewN ?_ _ | with_reducible refine Chg.drew ?_)) hm (fun g hg => Or.inl hg)
    replace hX := Lib.hid hX
    clear hm
    replace ha_Done := Lib.hid (ha_Done.out.chg0 hX.out)
    replace ha_Certs := Lib.hid (ha_Certs.out.chg0 hX.out)
    replace ha_Leases := Lib.hid (ha_Leases.out.chg0 hX.out)
    replace ha_VerdictSites := Lib.hid (ha_VerdictSites.out.chg0 hX.out)
    replace ha_Log := Lib.hid (ha_Log.out.chg0 hX.out)
    replace hw_Done := Lib.hid (hw_Done.out.chg0 hX.out)
    replace hw_Certs := Lib.hid (hw_Certs.out.chg0 hX.out)
    replace hw_Leases := Lib.hid (hw_Leases.out.chg0 hX.out)
    replace hw_VerdictSites := Lib.hid (hw_VerdictSites.out.chg0 hX.out)
    replace hw_Log := Lib.hid (hw_Log.out.chg0 hX.out)
    replace hg_Done := Lib.hid (hg_Done.out.chg0 hX.out)
    replace hg_Certs := Lib.hid (hg_Certs.out.chg0 hX.out)
    replace hg_Leases := Lib.hid (hg_Leases.out.chg0 hX.out)
    replace hg_VerdictSites := Lib.hid (hg_VerdictSites.out.chg0 hX.out)
    replace hg_Log := Lib.hid (hg_Log.out.chg0 hX.out)
    replace Ow := Lib.hid (Ow.out.chg0 hX.out)
    replace Og := Lib.hid (Og.out.chg0 hX.out)
    have hK13 := Lib.hid ((hK12.out.trans0 hX.out))
    clear hX hK12
    go_wp2_with fail
    refine (implFall_c x _ _ _ _ _ _ _ _ _ _ _ (ht_Done.out.chg0 (by repeat (first | with_reducible exact Chg.refl _ _ | with_reducible refine Chg.alloc ?_ _ | with_reducible refine Chg.drewN ?_ _ | with_reducible refine Chg.drew ?_))) (ht_Certs.out.chg0 (by repeat (first | with_reducible exact Chg.refl _ _ | with_reducible refine Chg.alloc ?_ _ | with_reducible refine Chg.drewN ?_ _ | with_reducible refine Chg.drew ?_))) (ht_Leases.out.chg0 (by repeat (first | with_reducible exact Chg.refl _ _ | with_reducible refine Chg.alloc ?_ _ | with_reducible refine Chg.drewN ?_ _ | with_reducible refine Chg.drew ?_))) (ht_VerdictSites.out.chg0 (by repeat (first | with_reducible exact Chg.refl _ _ | with_reducible refine Chg.alloc ?_ _ | with_reducible refine Chg.drewN ?_ _ | with_reducible refine Chg.drew ?_))) (ht_Log.out.chg0 (by repeat (first | with_reducible exact Chg.refl _ _ | with_reducible refine Chg.alloc ?_ _ | with_reducible refine Chg.drewN ?_ _ | with_reducible refine Chg.drew ?_))) HLg.out).mono ?_
    rintro e w14 ⟨vh_Done, Fh_Done, vh_Certs, Fh_Certs, vh_Leases, Fh_Leases, vh_VerdictSites, Fh_VerdictSites, vh_Log, Fh_Log, rfl, hm, hh_Done, hh_Certs, hh_Leases, hh_VerdictSites, hh_Log, Oh, Bh⟩
    obtain ⟨Ah_Done, ch_Done, rfl, -, -⟩ := hh_Done.form
    obtain ⟨Ah_Certs, ch_Certs, rfl, -, -⟩ := hh_Certs.form
    obtain ⟨Ah_Leases, ch_Leases, rfl, -, -⟩ := hh_Leases.form
    obtain ⟨Ah_VerdictSites, ch_VerdictSites, rfl, -, -⟩ := hh_VerdictSites.form
    obtain ⟨Ah_Log, ch_Log, rfl, -, -⟩ := hh_Log.form
    replace Bh : ∀ g ∈ Fh_Done ++ (Fh_Certs ++ (Fh_Leases ++ (Fh_VerdictSites ++ (Fh_Log)))), w5.heap.size < g ∧ g < w14.heap.size := fun g hg => ⟨by have := Bh g hg; (repeat (first | rw [World.size_alloc] at this | rw [World.size_setCell] at this | rw [World.size_drew] at this | rw [World.heap_drewN] at this)); omega, Oh.lt g hg⟩
    replace Bh := Lib.hid Bh
    replace Oh := Lib.hid Oh
    replace hh_Done := Lib.hid hh_Done
    replace hh_Certs := Lib.hid hh_Certs
    replace hh_Leases := Lib.hid hh_Leases
    replace hh_VerdictSites := Lib.hid hh_VerdictSites
    replace hh_Log := Lib.hid hh_Log
    have hs14 := hm.size
    repeat (first | rw [World.size_alloc] at hs14 | rw [World.size_setCell] at hs14 | rw [World.size_drew] at hs14 | rw [World.heap_drewN] at hs14)
    have hb14_0 := fun o => hm.cell (p := ⟨w.heap.size, o, none⟩) (show w.heap.size < _ from by (repeat (first | rw [World.size_alloc] | rw [World.size_setCell] | rw [World.size_drew] | rw [World.heap_drewN])); omega) (by simp)
    have hb14_1 := fun o => hm.cell (p := ⟨w3.heap.size, o, none⟩) (show w3.heap.size < _ from by (repeat (first | rw [World.size_alloc] | rw [World.size_setCell] | rw [World.size_drew] | rw [World.heap_drewN])); omega) (by simp)
    have hb14_2 := fun o => hm.cell (p := ⟨w4.heap.size, o, none⟩) (show w4.heap.size < _ from by (repeat (first | rw [World.size_alloc] | rw [World.size_setCell] | rw [World.size_drew] | rw [World.heap_drewN])); omega) (by simp)
    have hb14_3 := fun o => hm.cell (p := ⟨w5.heap.size, o, none⟩) (show w5.heap.size < _ from by (repeat (first | rw [World.size_alloc] | rw [World.size_setCell] | rw [World.size_drew] | rw [World.heap_drewN])); omega) (by simp)
    have hl14_0 : w.heap.size < w14.heap.size := by omega
    have hl14_1 : w3.heap.size < w14.heap.size := by omega
    have hl14_2 : w4.heap.size < w14.heap.size := by omega
    have hl14_3 : w5.heap.size < w14.heap.size := by omega
    have hX : Chg ([]) w13 w14 := Chg.trans (by repeat (first | with_reducible exact Chg.refl _ _ | with_reducible refine Chg.alloc ?_ _ | with_reducible refine Chg.drewN ?_ _ | with_reducible refine Chg.drew ?_)) hm (fun g hg => Or.inl hg)
    replace hX := Lib.hid hX
    clear hm
    replace ha_Done := Lib.hid (ha_Done.out.chg0 hX.out)
    replace ha_Certs := Lib.hid (ha_Certs.out.chg0 hX.out)
    replace ha_Leases := Lib.hid (ha_Leases.out.chg0 hX.out)
    replace ha_VerdictSites := Lib.hid (ha_VerdictSites.out.chg0 hX.out)
    replace ha_Log := Lib.hid (ha_Log.out.chg0 hX.out)
    replace hw_Done := Lib.hid (hw_Done.out.chg0 hX.out)
    replace hw_Certs := Lib.hid (hw_Certs.out.chg0 hX.out)
    replace hw_Leases := Lib.hid (hw_Leases.out.chg0 hX.out)
    replace hw_VerdictSites := Lib.hid (hw_VerdictSites.out.chg0 hX.out)
    replace hw_Log := Lib.hid (hw_Log.out.chg0 hX.out)
    replace hg_Done := Lib.hid (hg_Done.out.chg0 hX.out)
    replace hg_Certs := Lib.hid (hg_Certs.out.chg0 hX.out)
    replace hg_Leases := Lib.hid (hg_Leases.out.chg0 hX.out)
    replace hg_VerdictSites := Lib.hid (hg_VerdictSites.out.chg0 hX.out)
    replace hg_Log := Lib.hid (hg_Log.out.chg0 hX.out)
    replace ht_Done := Lib.hid (ht_Done.out.chg0 hX.out)
    replace ht_Certs := Lib.hid (ht_Certs.out.chg0 hX.out)
    replace ht_Leases := Lib.hid (ht_Leases.out.chg0 hX.out)
    replace ht_VerdictSites := Lib.hid (ht_VerdictSites.out.chg0 hX.out)
    replace ht_Log := Lib.hid (ht_Log.out.chg0 hX.out)
    replace Ow := Lib.hid (Ow.out.chg0 hX.out)
    replace Og := Lib.hid (Og.out.chg0 hX.out)
    replace Ot := Lib.hid (Ot.out.chg0 hX.out)
    have hK14 := Lib.hid ((hK13.out.trans0 hX.out))
    clear hX hK13
    clear Bt Ot ht_Done ht_Certs ht_Leases ht_VerdictSites ht_Log
    go_wp2_with fail
    refine (eqCrdCoord_c (fallen x) _ _ _ _ _ _ _ _ _ _ _ _ _ _ _ _ _ _ _ _ _ (hh_Done.out.chg0 (by repeat (first | with_reducible exact Chg.refl _ _ | with_reducible refine Chg.alloc ?_ _ | with_reducible refine Chg.drewN ?_ _ | with_reducible refine Chg.drew ?_))) (hw_Done.out.chg0 (by repeat (first | with_reducible exact Chg.refl _ _ | with_reducible refine Chg.alloc ?_ _ | with_reducible refine Chg.drewN ?_ _ | with_reducible refine Chg.drew ?_))) (hh_Certs.out.chg0 (by repeat (first | with_reducible exact Chg.refl _ _ | with_reducible refine Chg.alloc ?_ _ | with_reducible refine Chg.drewN ?_ _ | with_reducible refine Chg.drew ?_))) (hw_Certs.out.chg0 (by repeat (first | with_reducible exact Chg.refl _ _ | with_reducible refine Chg.alloc ?_ _ | with_reducible refine Chg.drewN ?_ _ | with_reducible refine Chg.drew ?_))) (hh_Leases.out.chg0 (by repeat (first | with_reducible exact Chg.refl _ _ | with_reducible refine Chg.alloc ?_ _ | with_reducible refine Chg.drewN ?_ _ | with_reducible refine Chg.drew ?_))) (hw_Leases.out.chg0 (by repeat (first | with_reducible exact Chg.refl _ _ | with_reducible refine Chg.alloc ?_ _ | with_reducible refine Chg.drewN ?_ _ | with_reducible refine Chg.drew ?_))) (hh_VerdictSites.out.chg0 (by repeat (first | with_reducible exact Chg.refl _ _ | with_reducible refine Chg.alloc ?_ _ | with_reducible refine Chg.drewN ?_ _ | with_reducible refine Chg.drew ?_))) (hw_VerdictSites.out.chg0 (by repeat (first | with_reducible exact Chg.refl _ _ | with_reducible refine Chg.alloc ?_ _ | with_reducible refine Chg.drewN ?_ _ | with_reducible refine Chg.drew ?_))) (hh_Log.out.chg0 (by repeat (first | with_reducible exact Chg.refl _ _ | with_reducible refine Chg.alloc ?_ _ | with_reducible refine Chg.drewN ?_ _ | with_reducible refine Chg.drew ?_))) (hw_Log.out.chg0 (by repeat (first | with_reducible exact Chg.refl _ _ | with_reducible refine Chg.alloc ?_ _ | with_reducible refine Chg.drewN ?_ _ | with_reducible refine Chg.drew ?_)))).mono ?_
    rintro e w15 ⟨rfl, hm⟩
    have hs15 := hm.size
    repeat (first | rw [World.size_alloc] at hs15 | rw [World.size_setCell] at hs15 | rw [World.size_drew] at hs15 | rw [World.heap_drewN] at hs15)
    have hb15_0 := fun o => hm.cell (p := ⟨w.heap.size, o, none⟩) (show w.heap.size < _ from by (repeat (first | rw [World.size_alloc] | rw [World.size_setCell] | rw [World.size_drew] | rw [World.heap_drewN])); omega) (by simp)
    have hb15_1 := fun o => hm.cell (p := ⟨w3.heap.size, o, none⟩) (show w3.heap.size < _ from by (repeat (first | rw [World.size_alloc] | rw [World.size_setCell] | rw [World.size_drew] | rw [World.heap_drewN])); omega) (by simp)
    have hb15_2 := fun o => hm.cell (p := ⟨w4.heap.size, o, none⟩) (show w4.heap.size < _ from by (repeat (first | rw [World.size_alloc] | rw [World.size_setCell] | rw [World.size_drew] | rw [World.heap_drewN])); omega) (by simp)
    have hb15_3 := fun o => hm.cell (p := ⟨w5.heap.size, o, none⟩) (show w5.heap.size < _ from by (repeat (first | rw [World.size_alloc] | rw [World.size_setCell] | rw [World.size_drew] | rw [World.heap_drewN])); omega) (by simp)
    have hb15_4 := fun o => hm.cell (p := ⟨w14.heap.size, o, none⟩) (show w14.heap.size < _ from by (repeat (first | rw [World.size_alloc] | rw [World.size_setCell] | rw [World.size_drew] | rw [World.heap_drewN])); omega) (by simp)
    have hl15_0 : w.heap.size < w15.heap.size := by omega
    have hl15_1 : w3.heap.size < w15.heap.size := by omega
    have hl15_2 : w4.heap.size < w15.heap.size := by omega
    have hl15_3 : w5.heap.size < w15.heap.size := by omega
    have hl15_4 : w14.heap.size < w15.heap.size := by omega
    have hX : Chg ([]) w14 w15 := Chg.trans (by repeat (first | with_reducible exact Chg.refl _ _ | with_reducible refine Chg.alloc ?_ _ | with_reducible refine Chg.drewN ?_ _ | with_reducible refine Chg.drew ?_)) hm (fun g hg => Or.inl hg)
    replace hX := Lib.hid hX
    clear hm
    replace ha_Done := Lib.hid (ha_Done.out.chg0 hX.out)
    replace ha_Certs := Lib.hid (ha_Certs.out.chg0 hX.out)
    replace ha_Leases := Lib.hid (ha_Leases.out.chg0 hX.out)
    replace ha_VerdictSites := Lib.hid (ha_VerdictSites.out.chg0 hX.out)
    replace ha_Log := Lib.hid (ha_Log.out.chg0 hX.out)
    replace hw_Done := Lib.hid (hw_Done.out.chg0 hX.out)
    replace hw_Certs := Lib.hid (hw_Certs.out.chg0 hX.out)
    replace hw_Leases := Lib.hid (hw_Leases.out.chg0 hX.out)
    replace hw_VerdictSites := Lib.hid (hw_VerdictSites.out.chg0 hX.out)
    replace hw_Log := Lib.hid (hw_Log.out.chg0 hX.out)
    replace hg_Done := Lib.hid (hg_Done.out.chg0 hX.out)
    replace hg_Certs := Lib.hid (hg_Certs.out.chg0 hX.out)
    replace hg_Leases := Lib.hid (hg_Leases.out.chg0 hX.out)
    replace hg_VerdictSites := Lib.hid (hg_VerdictSites.out.chg0 hX.out)
    replace hg_Log := Lib.hid (hg_Log.out.chg0 hX.out)
    replace hh_Done := Lib.hid (hh_Done.out.chg0 hX.out)
    replace hh_Certs := Lib.hid (hh_Certs.out.chg0 hX.out)
    replace hh_Leases := Lib.hid (hh_Leases.out.chg0 hX.out)
    replace hh_VerdictSites := Lib.hid (hh_VerdictSites.out.chg0 hX.out)
    replace hh_Log := Lib.hid (hh_Log.out.chg0 hX.out)
    replace Ow := Lib.hid (Ow.out.chg0 hX.out)
    replace Og := Lib.hid (Og.out.chg0 hX.out)
    replace Oh := Lib.hid (Oh.out.chg0 hX.out)
    have hK15 := Lib.hid ((hK14.out.trans0 hX.out))
    clear hX hK14
    clear Bh Oh hh_Done hh_Certs hh_Leases hh_VerdictSites hh_Log
    go_wp2_with fail
    refine (heldCrdCoord_c (fallen x) (1) _ _ _ _ _ _ _ _ _ _ _ (hg_Done.out.chg0 (by repeat (first | with_reducible exact Chg.refl _ _ | with_reducible refine Chg.alloc ?_ _ | with_reducible refine Chg.drewN ?_ _ | with_reducible refine Chg.drew ?_))) (hg_Certs.out.chg0 (by repeat (first | with_reducible exact Chg.refl _ _ | with_reducible refine Chg.alloc ?_ _ | with_reducible refine Chg.drewN ?_ _ | with_reducible refine Chg.drew ?_))) (hg_Leases.out.chg0 (by repeat (first | with_reducible exact Chg.refl _ _ | with_reducible refine Chg.alloc ?_ _ | with_reducible refine Chg.drewN ?_ _ | with_reducible refine Chg.drew ?_))) (hg_VerdictSites.out.chg0 (by repeat (first | with_reducible exact Chg.refl _ _ | with_reducible refine Chg.alloc ?_ _ | with_reducible refine Chg.drewN ?_ _ | with_reducible refine Chg.drew ?_))) (hg_Log.out.chg0 (by repeat (first | with_reducible exact Chg.refl _ _ | with_reducible refine Chg.alloc ?_ _ | with_reducible refine Chg.drewN ?_ _ | with_reducible refine Chg.drew ?_))) (by omega) (Int.le_trans hcr (by omega))).mono ?_
    rintro e w16 ⟨rfl, hm⟩
    have hs16 := hm.size
    repeat (first | rw [World.size_alloc] at hs16 | rw [World.size_setCell] at hs16 | rw [World.size_drew] at hs16 | rw [World.heap_drewN] at hs16)
    have hb16_0 := fun o => hm.cell (p := ⟨w.heap.size, o, none⟩) (show w.heap.size < _ from by (repeat (first | rw [World.size_alloc] | rw [World.size_setCell] | rw [World.size_drew] | rw [World.heap_drewN])); omega) (by simp)
    have hb16_1 := fun o => hm.cell (p := ⟨w3.heap.size, o, none⟩) (show w3.heap.size < _ from by (repeat (first | rw [World.size_alloc] | rw [World.size_setCell] | rw [World.size_drew] | rw [World.heap_drewN])); omega) (by simp)
    have hb16_2 := fun o => hm.cell (p := ⟨w4.heap.size, o, none⟩) (show w4.heap.size < _ from by (repeat (first | rw [World.size_alloc] | rw [World.size_setCell] | rw [World.size_drew] | rw [World.heap_drewN])); omega) (by simp)
    have hb16_3 := fun o => hm.cell (p := ⟨w5.heap.size, o, none⟩) (show w5.heap.size < _ from by (repeat (first | rw [World.size_alloc] | rw [World.size_setCell] | rw [World.size_drew] | rw [World.heap_drewN])); omega) (by simp)
    have hb16_4 := fun o => hm.cell (p := ⟨w14.heap.size, o, none⟩) (show w14.heap.size < _ from by (repeat (first | rw [World.size_alloc] | rw [World.size_setCell] | rw [World.size_drew] | rw [World.heap_drewN])); omega) (by simp)
    have hl16_0 : w.heap.size < w16.heap.size := by omega
    have hl16_1 : w3.heap.size < w16.heap.size := by omega
    have hl16_2 : w4.heap.size < w16.heap.size := by omega
    have hl16_3 : w5.heap.size < w16.heap.size := by omega
    have hl16_4 : w14.heap.size < w16.heap.size := by omega
    have hX : Chg ([]) w15 w16 := Chg.trans (by repeat (first | with_reducible exact Chg.refl _ _ | with_reducible refine Chg.alloc ?_ _ | with_reducible refine Chg.drewN ?_ _ | with_reducible refine Chg.drew ?_)) hm (fun g hg => Or.inl hg)
    replace hX := Lib.hid hX
    clear hm
    replace ha_Done := Lib.hid (ha_Done.out.chg0 hX.out)
    replace ha_Certs := Lib.hid (ha_Certs.out.chg0 hX.out)
    replace ha_Leases := Lib.hid (ha_Leases.out.chg0 hX.out)
    replace ha_VerdictSites := Lib.hid (ha_VerdictSites.out.chg0 hX.out)
    replace ha_Log := Lib.hid (ha_Log.out.chg0 hX.out)
    replace hw_Done := Lib.hid (hw_Done.out.chg0 hX.out)
    replace hw_Certs := Lib.hid (hw_Certs.out.chg0 hX.out)
    replace hw_Leases := Lib.hid (hw_Leases.out.chg0 hX.out)
    replace hw_VerdictSites := Lib.hid (hw_VerdictSites.out.chg0 hX.out)
    replace hw_Log := Lib.hid (hw_Log.out.chg0 hX.out)
    replace hg_Done := Lib.hid (hg_Done.out.chg0 hX.out)
    replace hg_Certs := Lib.hid (hg_Certs.out.chg0 hX.out)
    replace hg_Leases := Lib.hid (hg_Leases.out.chg0 hX.out)
    replace hg_VerdictSites := Lib.hid (hg_VerdictSites.out.chg0 hX.out)
    replace hg_Log := Lib.hid (hg_Log.out.chg0 hX.out)
    replace Ow := Lib.hid (Ow.out.chg0 hX.out)
    replace Og := Lib.hid (Og.out.chg0 hX.out)
    have hK16 := Lib.hid ((hK15.out.trans0 hX.out))
    clear hX hK15
    go_wp2
    go_ret
    exact ⟨rfl, hK16.out.trans0 (by repeat (first | with_reducible exact Chg.refl _ _ | with_reducible refine Chg.alloc ?_ _ | with_reducible refine Chg.drewN ?_ _ | with_reducible refine Chg.drew ?_))⟩
end Go.Proofs.Ytaiinlhobcclcaa.Wk
