/- CrdFall's contracts in the form of the others. -/
import Derived.Test.YtaiinlhobcclcaaFall
namespace Go.Proofs.Ytaiinlhobcclcaa.Wk
open Go Go.RowKit Go.Deep Ow
open Rp (R sz)
abbrev fallen (x : CrdCoord) : CrdCoord := { Up := false, Epoch := 0, Seq := 0, Clock := 0, Done := [], Certs := [], Leases := [], Verdict := { Kind := 0, Line := 0, Sites := [] }, Log := x.Log }
def RetCoord (x : CrdCoord) (w : World) (e : Ending) (w' : World) : Prop := ∃ vDone GDone vCerts GCerts vLeases GLeases vSites GSites vLog GLog, e = .returned (.agg #[.bool x.Up, .int .i64 x.Epoch, .int .i64 x.Seq, .int .i64 x.Clock, vDone, vCerts, vLeases, .int .i64 x.Verdict.Kind, .int .i64 x.Verdict.Line, vSites, vLog]) ∧ Chg [] w w' ∧ RL w' x.Done vDone GDone ∧ RL w' x.Certs vCerts GCerts ∧ RL w' x.Leases vLeases GLeases ∧ RL w' x.Verdict.Sites vSites GSites ∧ RL w' x.Log vLog GLog ∧ Own w' (GDone ++ (GCerts ++ (GLeases ++ (GSites ++ (GLog))))) ∧ ∀ g ∈ GDone ++ (GCerts ++ (GLeases ++ (GSites ++ (GLog)))), w.heap.size ≤ g
theorem RetCoord.of_fell {x : CrdCoord} {w w' : World} {e : Ending} (h : Fell x.Log w e w') : RetCoord (fallen x) w e w' := by
  obtain ⟨v, G, rfl, hc, hr, ho, hg⟩ := h
  exact ⟨_, [], _, [], _, [], _, [], v, G, rfl, hc, RL.nil_, RL.nil_, RL.nil_, RL.nil_, hr, ho, hg⟩
theorem implFall_c (x : CrdCoord) (vDone : Value) (FDone : List Nat) (vCerts : Value) (FCerts : List Nat) (vLeases : Value) (FLeases : List Nat) (vSites : Value) (FSites : List Nat) (vLog : Value) (FLog : List Nat) (w : World)
    (_h1 : RL w x.Done vDone FDone) (_h2 : RL w x.Certs vCerts FCerts) (_h3 : RL w x.Leases vLeases FLeases) (_h4 : RL w x.Verdict.Sites vSites FSites) (h5 : RL w x.Log vLog FLog) (hl : (x.Log.length : Int) ≤ 1073741824) :
    Calls Try.prog 13 #[.agg #[.bool x.Up, .int .i64 x.Epoch, .int .i64 x.Seq, .int .i64 x.Clock, vDone, vCerts, vLeases, .int .i64 x.Verdict.Kind, .int .i64 x.Verdict.Line, vSites, vLog]] w (RetCoord (fallen x) w) :=
  (implCrdFall_c x vDone vCerts vLeases vSites vLog FLog w h5 hl).mono fun _ _ h => RetCoord.of_fell h
theorem specFall_c (x : CrdCoord) (vDone : Value) (FDone : List Nat) (vCerts : Value) (FCerts : List Nat) (vLeases : Value) (FLeases : List Nat) (vSites : Value) (FSites : List Nat) (vLog : Value) (FLog : List Nat) (w : World)
    (_h1 : RL w x.Done vDone FDone) (_h2 : RL w x.Certs vCerts FCerts) (_h3 : RL w x.Leases vLeases FLeases) (_h4 : RL w x.Verdict.Sites vSites FSites) (h5 : RL w x.Log vLog FLog) (hl : (x.Log.length : Int) ≤ 1073741824) :
    Calls Try.prog 11 #[.agg #[.bool x.Up, .int .i64 x.Epoch, .int .i64 x.Seq, .int .i64 x.Clock, vDone, vCerts, vLeases, .int .i64 x.Verdict.Kind, .int .i64 x.Verdict.Line, vSites, vLog]] w (RetCoord (fallen x) w) :=
  (specCrdFall_c x vDone vCerts vLeases vSites vLog FLog w h5 hl).mono fun _ _ h => RetCoord.of_fell h

/-! how many marks a reading takes, by its size -/
section
variable {α : Type} [Mk α] [Sz α]
theorem cntL_le (K : Nat) (h : ∀ x : α, Mk.cnt x ≤ K * (Sz.size x + 1)) : ∀ xs : List α, cntL xs ≤ K * szL xs
  | [] => by simp [cntL]
  | x :: r => by
    have h1 := h x
    have h2 := cntL_le K h r
    simp only [cntL, szL, szI, List.length_cons] at *
    have : K * (r.length + 1 + (Sz.size x + szI r)) = K * (Sz.size x + 1) + K * (r.length + szI r) := by rw [← Nat.mul_add]; congr 1; omega
    omega
end
theorem cnt_bool_le (x : Bool) : Mk.cnt x ≤ 16 * (Sz.size x + 1) := by show 1 ≤ 16 * (0 + 1); omega
theorem cnt_u8_le (x : UInt8) : Mk.cnt x ≤ 16 * (Sz.size x + 1) := by show 1 ≤ 16 * (0 + 1); omega
theorem cnt_int_le (x : Int) : Mk.cnt x ≤ 16 * (Sz.size x + 1) := by show 1 ≤ 16 * (0 + 1); omega
theorem cnt_Itv_le (x : ItvItv) : Mk.cnt x ≤ 16 * (Sz.size x + 1) := by rw [cnt_ItvItv]; omega
theorem cnt_Site_le (x : CrtSite) : Mk.cnt x ≤ 16 * (Sz.size x + 1) := by rw [cnt_CrtSite]; omega
theorem cnt_Lease_le (x : CrdLease) : Mk.cnt x ≤ 16 * (Sz.size x + 1) := by rw [cnt_CrdLease]; omega
theorem cnt_Sum_le (x : SumSum) : Mk.cnt x ≤ 16 * (Sz.size x + 1) := by rw [cnt_SumSum]; omega
theorem cnt_State_le (x : AbsState) : Mk.cnt x ≤ 16 * (Sz.size x + 1) := by
  have := cntL_le 16 cnt_Itv_le x.Vars
  rw [cnt_AbsState, size_AbsState]; omega
theorem cnt_States_le (x : List AbsState) : Mk.cnt x ≤ 16 * (Sz.size x + 1) := by
  have := cntL_le 16 cnt_State_le x
  show cntL x ≤ 16 * (szL x + 1); omega
theorem cnt_Cert_le (x : CrtCert) : Mk.cnt x ≤ 16 * (Sz.size x + 1) := by
  have := cntL_le 16 cnt_States_le x.States
  have := cntL_le 16 cnt_Sum_le x.Outs
  rw [cnt_CrtCert, size_CrtCert]; omega
theorem cv_le (x : CrdCoord) (h : Sz.size x ≤ 1048576) : cntL x.Done + cntL x.Certs + cntL x.Leases + cntL x.Verdict.Sites + cntL x.Log ≤ 16777216 := by
  have := cntL_le 16 cnt_bool_le x.Done
  have := cntL_le 16 cnt_Cert_le x.Certs
  have := cntL_le 16 cnt_Lease_le x.Leases
  have := cntL_le 16 cnt_Site_le x.Verdict.Sites
  have := cntL_le 16 cnt_u8_le x.Log
  simp only [size_CrdCoord, size_VrdVerdict] at h
  omega
end Go.Proofs.Ytaiinlhobcclcaa.Wk
