/-
  The program's data as Lean structures, and how each reads out of cells. Written by a program of mine (wip/gen).
-/
import Derived.Test.YtaiinlhobcclcaaMem
namespace Ow
open Go Go.RowKit Go.Deep
open Rp (R sz)

structure CrtSite where
  Proc : Int
  Pc : Int
  deriving DecidableEq
instance : Rp CrtSite := Rp.by_ (fun x => (x.Proc, x.Pc))
theorem R_CrtSite {w : World} {x : CrtSite} {cs : List Value} {F : List Nat} : R w x cs F ↔ (cs = [.int .i64 x.Proc, .int .i64 x.Pc] ∧ F = [] ∧ I64 x.Proc ∧ I64 x.Pc) := by
  constructor
  · intro h
    obtain ⟨_, _, _, _, rfl, rfl, h0, h0'⟩ := h
    obtain ⟨rfl, rfl, g0⟩ := h0
    obtain ⟨rfl, rfl, g1⟩ := h0'
    exact ⟨by simp, by simp, g0, g1⟩
  · rintro ⟨rfl, rfl, g0, g1⟩
    exact ⟨_, _, [], [], by first | rfl | simp, by first | rfl | simp, ⟨rfl, rfl, g0⟩, ⟨rfl, rfl, g1⟩⟩
theorem sz_CrtSite : sz CrtSite = 2 := rfl
structure VrdVerdict where
  Kind : Int
  Line : Int
  Sites : (List CrtSite)
  deriving DecidableEq
instance : Rp VrdVerdict := Rp.by_ (fun x => (x.Kind, x.Line, x.Sites))
theorem R_VrdVerdict {w : World} {x : VrdVerdict} {cs : List Value} {F : List Nat} : R w x cs F ↔ ∃ vSites FSites, (cs = [.int .i64 x.Kind, .int .i64 x.Line, vSites] ∧ F = FSites ∧ I64 x.Kind ∧ I64 x.Line ∧ RL w x.Sites vSites FSites) := by
  constructor
  · intro h
    obtain ⟨_, _, _, _, rfl, rfl, h0, h0'⟩ := h
    obtain ⟨rfl, rfl, g0⟩ := h0
    obtain ⟨_, _, _, _, rfl, rfl, h1, h1'⟩ := h0'
    obtain ⟨rfl, rfl, g1⟩ := h1
    obtain ⟨_, rfl, g2⟩ := h1'
    exact ⟨_, _, by simp, by simp, g0, g1, g2⟩
  · rintro ⟨vSites, FSites, rfl, rfl, g0, g1, g2⟩
    exact ⟨_, _, [], F, by first | rfl | simp, by first | rfl | simp, ⟨rfl, rfl, g0⟩, ⟨_, _, [], F, by first | rfl | simp, by first | rfl | simp, ⟨rfl, rfl, g1⟩, ⟨_, rfl, g2⟩⟩⟩
theorem sz_VrdVerdict : sz VrdVerdict = 3 := rfl
structure InsIns where
  Op : Int
  D : Int
  A : Int
  B : Int
  Rel : Int
  Lo : Int
  Hi : Int
  To : Int
  deriving DecidableEq
instance : Rp InsIns := Rp.by_ (fun x => (x.Op, x.D, x.A, x.B, x.Rel, x.Lo, x.Hi, x.To))
theorem R_InsIns {w : World} {x : InsIns} {cs : List Value} {F : List Nat} : R w x cs F ↔ (cs = [.int .i64 x.Op, .int .i64 x.D, .int .i64 x.A, .int .i64 x.B, .int .i64 x.Rel, .int .i64 x.Lo, .int .i64 x.Hi, .int .i64 x.To] ∧ F = [] ∧ I64 x.Op ∧ I64 x.D ∧ I64 x.A ∧ I64 x.B ∧ I64 x.Rel ∧ I64 x.Lo ∧ I64 x.Hi ∧ I64 x.To) := by
  constructor
  · intro h
    obtain ⟨_, _, _, _, rfl, rfl, h0, h0'⟩ := h
    obtain ⟨rfl, rfl, g0⟩ := h0
    obtain ⟨_, _, _, _, rfl, rfl, h1, h1'⟩ := h0'
    obtain ⟨rfl, rfl, g1⟩ := h1
    obtain ⟨_, _, _, _, rfl, rfl, h2, h2'⟩ := h1'
    obtain ⟨rfl, rfl, g2⟩ := h2
    obtain ⟨_, _, _, _, rfl, rfl, h3, h3'⟩ := h2'
    obtain ⟨rfl, rfl, g3⟩ := h3
    obtain ⟨_, _, _, _, rfl, rfl, h4, h4'⟩ := h3'
    obtain ⟨rfl, rfl, g4⟩ := h4
    obtain ⟨_, _, _, _, rfl, rfl, h5, h5'⟩ := h4'
    obtain ⟨rfl, rfl, g5⟩ := h5
    obtain ⟨_, _, _, _, rfl, rfl, h6, h6'⟩ := h5'
    obtain ⟨rfl, rfl, g6⟩ := h6
    obtain ⟨rfl, rfl, g7⟩ := h6'
    exact ⟨by simp, by simp, g0, g1, g2, g3, g4, g5, g6, g7⟩
  · rintro ⟨rfl, rfl, g0, g1, g2, g3, g4, g5, g6, g7⟩
    exact ⟨_, _, [], [], by first | rfl | simp, by first | rfl | simp, ⟨rfl, rfl, g0⟩, ⟨_, _, [], [], by first | rfl | simp, by first | rfl | simp, ⟨rfl, rfl, g1⟩, ⟨_, _, [], [], by first | rfl | simp, by first | rfl | simp, ⟨rfl, rfl, g2⟩, ⟨_, _, [], [], by first | rfl | simp, by first | rfl | simp, ⟨rfl, rfl, g3⟩, ⟨_, _, [], [], by first | rfl | simp, by first | rfl | simp, ⟨rfl, rfl, g4⟩, ⟨_, _, [], [], by first | rfl | simp, by first | rfl | simp, ⟨rfl, rfl, g5⟩, ⟨_, _, [], [], by first | rfl | simp, by first | rfl | simp, ⟨rfl, rfl, g6⟩, ⟨rfl, rfl, g7⟩⟩⟩⟩⟩⟩⟩⟩
theorem sz_InsIns : sz InsIns = 8 := rfl
structure PrcProc where
  Lo : Int
  Hi : Int
  Code : (List InsIns)
  deriving DecidableEq
instance : Rp PrcProc := Rp.by_ (fun x => (x.Lo, x.Hi, x.Code))
theorem R_PrcProc {w : World} {x : PrcProc} {cs : List Value} {F : List Nat} : R w x cs F ↔ ∃ vCode FCode, (cs = [.int .i64 x.Lo, .int .i64 x.Hi, vCode] ∧ F = FCode ∧ I64 x.Lo ∧ I64 x.Hi ∧ RL w x.Code vCode FCode) := by
  constructor
  · intro h
    obtain ⟨_, _, _, _, rfl, rfl, h0, h0'⟩ := h
    obtain ⟨rfl, rfl, g0⟩ := h0
    obtain ⟨_, _, _, _, rfl, rfl, h1, h1'⟩ := h0'
    obtain ⟨rfl, rfl, g1⟩ := h1
    obtain ⟨_, rfl, g2⟩ := h1'
    exact ⟨_, _, by simp, by simp, g0, g1, g2⟩
  · rintro ⟨vCode, FCode, rfl, rfl, g0, g1, g2⟩
    exact ⟨_, _, [], F, by first | rfl | simp, by first | rfl | simp, ⟨rfl, rfl, g0⟩, ⟨_, _, [], F, by first | rfl | simp, by first | rfl | simp, ⟨rfl, rfl, g1⟩, ⟨_, rfl, g2⟩⟩⟩
theorem sz_PrcProc : sz PrcProc = 3 := rfl
structure PrgProg where
  Procs : (List PrcProc)
  deriving DecidableEq
instance : Rp PrgProg := Rp.by_ (fun x => x.Procs)
theorem R_PrgProg {w : World} {x : PrgProg} {cs : List Value} {F : List Nat} : R w x cs F ↔ ∃ vProcs FProcs, (cs = [vProcs] ∧ F = FProcs ∧ RL w x.Procs vProcs FProcs) := by
  constructor
  · intro h
    obtain ⟨_, rfl, g0⟩ := h
    exact ⟨_, _, by simp, by simp, g0⟩
  · rintro ⟨vProcs, FProcs, rfl, rfl, g0⟩
    exact ⟨_, rfl, g0⟩
theorem sz_PrgProg : sz PrgProg = 1 := rfl
structure ItvItv where
  Lo : Int
  Hi : Int
  deriving DecidableEq
instance : Rp ItvItv := Rp.by_ (fun x => (x.Lo, x.Hi))
theorem R_ItvItv {w : World} {x : ItvItv} {cs : List Value} {F : List Nat} : R w x cs F ↔ (cs = [.int .i64 x.Lo, .int .i64 x.Hi] ∧ F = [] ∧ I64 x.Lo ∧ I64 x.Hi) := by
  constructor
  · intro h
    obtain ⟨_, _, _, _, rfl, rfl, h0, h0'⟩ := h
    obtain ⟨rfl, rfl, g0⟩ := h0
    obtain ⟨rfl, rfl, g1⟩ := h0'
    exact ⟨by simp, by simp, g0, g1⟩
  · rintro ⟨rfl, rfl, g0, g1⟩
    exact ⟨_, _, [], [], by first | rfl | simp, by first | rfl | simp, ⟨rfl, rfl, g0⟩, ⟨rfl, rfl, g1⟩⟩
theorem sz_ItvItv : sz ItvItv = 2 := rfl
structure AbsState where
  On : Bool
  Vars : (List ItvItv)
  Cells : ItvItv
  deriving DecidableEq
instance : Rp AbsState := Rp.by_ (fun x => (x.On, x.Vars, x.Cells))
theorem R_AbsState {w : World} {x : AbsState} {cs : List Value} {F : List Nat} : R w x cs F ↔ ∃ vVars FVars, (cs = [.bool x.On, vVars, .int .i64 x.Cells.Lo, .int .i64 x.Cells.Hi] ∧ F = FVars ∧ RL w x.Vars vVars FVars ∧ I64 x.Cells.Lo ∧ I64 x.Cells.Hi) := by
  constructor
  · intro h
    obtain ⟨_, _, _, _, rfl, rfl, h0, h0'⟩ := h
    obtain ⟨rfl, rfl⟩ := h0
    obtain ⟨_, _, _, _, rfl, rfl, h1, h1'⟩ := h0'
    obtain ⟨_, rfl, g1⟩ := h1
    obtain ⟨rfl, rfl, g2_0, g2_1⟩ := R_ItvItv.1 h1'
    exact ⟨_, _, by simp, by simp, g1, g2_0, g2_1⟩
  · rintro ⟨vVars, FVars, rfl, rfl, g0, g1, g2⟩
    exact ⟨_, _, [], F, by first | rfl | simp, by first | rfl | simp, ⟨rfl, rfl⟩, ⟨_, _, F, [], by first | rfl | simp, by first | rfl | simp, ⟨_, rfl, g0⟩, (R_ItvItv.2 ⟨rfl, rfl, g1, g2⟩)⟩⟩
theorem sz_AbsState : sz AbsState = 4 := rfl
structure SumSum where
  On : Bool
  Out : ItvItv
  deriving DecidableEq
instance : Rp SumSum := Rp.by_ (fun x => (x.On, x.Out))
theorem R_SumSum {w : World} {x : SumSum} {cs : List Value} {F : List Nat} : R w x cs F ↔ (cs = [.bool x.On, .int .i64 x.Out.Lo, .int .i64 x.Out.Hi] ∧ F = [] ∧ I64 x.Out.Lo ∧ I64 x.Out.Hi) := by
  constructor
  · intro h
    obtain ⟨_, _, _, _, rfl, rfl, h0, h0'⟩ := h
    obtain ⟨rfl, rfl⟩ := h0
    obtain ⟨rfl, rfl, g1_0, g1_1⟩ := R_ItvItv.1 h0'
    exact ⟨by simp, by simp, g1_0, g1_1⟩
  · rintro ⟨rfl, rfl, g0, g1⟩
    exact ⟨_, _, [], [], by first | rfl | simp, by first | rfl | simp, ⟨rfl, rfl⟩, (R_ItvItv.2 ⟨rfl, rfl, g0, g1⟩)⟩
theorem sz_SumSum : sz SumSum = 3 := rfl
structure CrtCert where
  States : (List (List AbsState))
  Outs : (List SumSum)
  deriving DecidableEq
instance : Rp CrtCert := Rp.by_ (fun x => (x.States, x.Outs))
theorem R_CrtCert {w : World} {x : CrtCert} {cs : List Value} {F : List Nat} : R w x cs F ↔ ∃ vStates FStates vOuts FOuts, (cs = [vStates, vOuts] ∧ F = FStates ++ (FOuts) ∧ RL w x.States vStates FStates ∧ RL w x.Outs vOuts FOuts) := by
  constructor
  · intro h
    obtain ⟨_, _, _, _, rfl, rfl, h0, h0'⟩ := h
    obtain ⟨_, rfl, g0⟩ := h0
    obtain ⟨_, rfl, g1⟩ := h0'
    exact ⟨_, _, _, _, by simp, by simp, g0, g1⟩
  · rintro ⟨vStates, FStates, vOuts, FOuts, rfl, rfl, g0, g1⟩
    exact ⟨_, _, FStates, FOuts, by first | rfl | simp, by first | rfl | simp, ⟨_, rfl, g0⟩, ⟨_, rfl, g1⟩⟩
theorem sz_CrtCert : sz CrtCert = 2 := rfl
structure MsgMsg where
  Kind : Int
  Who : Int
  Part : Int
  Epoch : Int
  Seq : Int
  Sums : (List SumSum)
  Cert : CrtCert
  deriving DecidableEq
instance : Rp MsgMsg := Rp.by_ (fun x => (x.Kind, x.Who, x.Part, x.Epoch, x.Seq, x.Sums, x.Cert))
theorem R_MsgMsg {w : World} {x : MsgMsg} {cs : List Value} {F : List Nat} : R w x cs F ↔ ∃ vSums FSums vCertStates FCertStates vCertOuts FCertOuts, (cs = [.int .i64 x.Kind, .int .i64 x.Who, .int .i64 x.Part, .int .i64 x.Epoch, .int .i64 x.Seq, vSums, vCertStates, vCertOuts] ∧ F = FSums ++ (FCertStates ++ (FCertOuts)) ∧ I64 x.Kind ∧ I64 x.Who ∧ I64 x.Part ∧ I64 x.Epoch ∧ I64 x.Seq ∧ RL w x.Sums vSums FSums ∧ RL w x.Cert.States vCertStates FCertStates ∧ RL w x.Cert.Outs vCertOuts FCertOuts) := by
  constructor
  · intro h
    obtain ⟨_, _, _, _, rfl, rfl, h0, h0'⟩ := h
    obtain ⟨rfl, rfl, g0⟩ := h0
    obtain ⟨_, _, _, _, rfl, rfl, h1, h1'⟩ := h0'
    obtain ⟨rfl, rfl, g1⟩ := h1
    obtain ⟨_, _, _, _, rfl, rfl, h2, h2'⟩ := h1'
    obtain ⟨rfl, rfl, g2⟩ := h2
    obtain ⟨_, _, _, _, rfl, rfl, h3, h3'⟩ := h2'
    obtain ⟨rfl, rfl, g3⟩ := h3
    obtain ⟨_, _, _, _, rfl, rfl, h4, h4'⟩ := h3'
    obtain ⟨rfl, rfl, g4⟩ := h4
    obtain ⟨_, _, _, _, rfl, rfl, h5, h5'⟩ := h4'
    obtain ⟨_, rfl, g5⟩ := h5
    obtain ⟨_, _, _, _, rfl, rfl, g6_0, g6_1⟩ := R_CrtCert.1 h5'
    exact ⟨_, _, _, _, _, _, by simp, by simp, g0, g1, g2, g3, g4, g5, g6_0, g6_1⟩
  · rintro ⟨vSums, FSums, vCertStates, FCertStates, vCertOuts, FCertOuts, rfl, rfl, g0, g1, g2, g3, g4, g5, g6, g7⟩
    exact ⟨_, _, [], FSums ++ (FCertStates ++ (FCertOuts)), by first | rfl | simp, by first | rfl | simp, ⟨rfl, rfl, g0⟩, ⟨_, _, [], FSums ++ (FCertStates ++ (FCertOuts)), by first | rfl | simp, by first | rfl | simp, ⟨rfl, rfl, g1⟩, ⟨_, _, [], FSums ++ (FCertStates ++ (FCertOuts)), by first | rfl | simp, by first | rfl | simp, ⟨rfl, rfl, g2⟩, ⟨_, _, [], FSums ++ (FCertStates ++ (FCertOuts)), by first | rfl | simp, by first | rfl | simp, ⟨rfl, rfl, g3⟩, ⟨_, _, [], FSums ++ (FCertStates ++ (FCertOuts)), by first | rfl | simp, by first | rfl | simp, ⟨rfl, rfl, g4⟩, ⟨_, _, FSums, FCertStates ++ (FCertOuts), by first | rfl | simp, by first | rfl | simp, ⟨_, rfl, g5⟩, (R_CrtCert.2 ⟨_, _, _, _, rfl, rfl, g6, g7⟩)⟩⟩⟩⟩⟩⟩
theorem sz_MsgMsg : sz MsgMsg = 8 := rfl
structure EngEng where
  Phase : Int
  Round : Int
  Cert : CrtCert
  deriving DecidableEq
instance : Rp EngEng := Rp.by_ (fun x => (x.Phase, x.Round, x.Cert))
theorem R_EngEng {w : World} {x : EngEng} {cs : List Value} {F : List Nat} : R w x cs F ↔ ∃ vCertStates FCertStates vCertOuts FCertOuts, (cs = [.int .i64 x.Phase, .int .i64 x.Round, vCertStates, vCertOuts] ∧ F = FCertStates ++ (FCertOuts) ∧ I64 x.Phase ∧ I64 x.Round ∧ RL w x.Cert.States vCertStates FCertStates ∧ RL w x.Cert.Outs vCertOuts FCertOuts) := by
  constructor
  · intro h
    obtain ⟨_, _, _, _, rfl, rfl, h0, h0'⟩ := h
    obtain ⟨rfl, rfl, g0⟩ := h0
    obtain ⟨_, _, _, _, rfl, rfl, h1, h1'⟩ := h0'
    obtain ⟨rfl, rfl, g1⟩ := h1
    obtain ⟨_, _, _, _, rfl, rfl, g2_0, g2_1⟩ := R_CrtCert.1 h1'
    exact ⟨_, _, _, _, by simp, by simp, g0, g1, g2_0, g2_1⟩
  · rintro ⟨vCertStates, FCertStates, vCertOuts, FCertOuts, rfl, rfl, g0, g1, g2, g3⟩
    exact ⟨_, _, [], FCertStates ++ (FCertOuts), by first | rfl | simp, by first | rfl | simp, ⟨rfl, rfl, g0⟩, ⟨_, _, [], FCertStates ++ (FCertOuts), by first | rfl | simp, by first | rfl | simp, ⟨rfl, rfl, g1⟩, (R_CrtCert.2 ⟨_, _, _, _, rfl, rfl, g2, g3⟩)⟩⟩
theorem sz_EngEng : sz EngEng = 4 := rfl
structure WrkWorker where
  Up : Bool
  Busy : Bool
  Part : Int
  Epoch : Int
  Seq : Int
  Sums : (List SumSum)
  Eng : EngEng
  deriving DecidableEq
instance : Rp WrkWorker := Rp.by_ (fun x => (x.Up, x.Busy, x.Part, x.Epoch, x.Seq, x.Sums, x.Eng))
theorem R_WrkWorker {w : World} {x : WrkWorker} {cs : List Value} {F : List Nat} : R w x cs F ↔ ∃ vSums FSums vEngCertStates FEngCertStates vEngCertOuts FEngCertOuts, (cs = [.bool x.Up, .bool x.Busy, .int .i64 x.Part, .int .i64 x.Epoch, .int .i64 x.Seq, vSums, .int .i64 x.Eng.Phase, .int .i64 x.Eng.Round, vEngCertStates, vEngCertOuts] ∧ F = FSums ++ (FEngCertStates ++ (FEngCertOuts)) ∧ I64 x.Part ∧ I64 x.Epoch ∧ I64 x.Seq ∧ RL w x.Sums vSums FSums ∧ I64 x.Eng.Phase ∧ I64 x.Eng.Round ∧ RL w x.Eng.Cert.States vEngCertStates FEngCertStates ∧ RL w x.Eng.Cert.Outs vEngCertOuts FEngCertOuts) := by
  constructor
  · intro h
    obtain ⟨_, _, _, _, rfl, rfl, h0, h0'⟩ := h
    obtain ⟨rfl, rfl⟩ := h0
    obtain ⟨_, _, _, _, rfl, rfl, h1, h1'⟩ := h0'
    obtain ⟨rfl, rfl⟩ := h1
    obtain ⟨_, _, _, _, rfl, rfl, h2, h2'⟩ := h1'
    obtain ⟨rfl, rfl, g2⟩ := h2
    obtain ⟨_, _, _, _, rfl, rfl, h3, h3'⟩ := h2'
    obtain ⟨rfl, rfl, g3⟩ := h3
    obtain ⟨_, _, _, _, rfl, rfl, h4, h4'⟩ := h3'
    obtain ⟨rfl, rfl, g4⟩ := h4
    obtain ⟨_, _, _, _, rfl, rfl, h5, h5'⟩ := h4'
    obtain ⟨_, rfl, g5⟩ := h5
    obtain ⟨_, _, _, _, rfl, rfl, g6_0, g6_1, g6_2, g6_3⟩ := R_EngEng.1 h5'
    exact ⟨_, _, _, _, _, _, by simp, by simp, g2, g3, g4, g5, g6_0, g6_1, g6_2, g6_3⟩
  · rintro ⟨vSums, FSums, vEngCertStates, FEngCertStates, vEngCertOuts, FEngCertOuts, rfl, rfl, g0, g1, g2, g3, g4, g5, g6, g7⟩
    exact ⟨_, _, [], FSums ++ (FEngCertStates ++ (FEngCertOuts)), by first | rfl | simp, by first | rfl | simp, ⟨rfl, rfl⟩, ⟨_, _, [], FSums ++ (FEngCertStates ++ (FEngCertOuts)), by first | rfl | simp, by first | rfl | simp, ⟨rfl, rfl⟩, ⟨_, _, [], FSums ++ (FEngCertStates ++ (FEngCertOuts)), by first | rfl | simp, by first | rfl | simp, ⟨rfl, rfl, g0⟩, ⟨_, _, [], FSums ++ (FEngCertStates ++ (FEngCertOuts)), by first | rfl | simp, by first | rfl | simp, ⟨rfl, rfl, g1⟩, ⟨_, _, [], FSums ++ (FEngCertStates ++ (FEngCertOuts)), by first | rfl | simp, by first | rfl | simp, ⟨rfl, rfl, g2⟩, ⟨_, _, FSums, FEngCertStates ++ (FEngCertOuts), by first | rfl | simp, by first | rfl | simp, ⟨_, rfl, g3⟩, (R_EngEng.2 ⟨_, _, _, _, rfl, rfl, g4, g5, g6, g7⟩)⟩⟩⟩⟩⟩⟩
theorem sz_WrkWorker : sz WrkWorker = 10 := rfl
structure JrnRec where
  Kind : Int
  N : Int
  Cert : CrtCert
  Verdict : VrdVerdict
  deriving DecidableEq
instance : Rp JrnRec := Rp.by_ (fun x => (x.Kind, x.N, x.Cert, x.Verdict))
theorem R_JrnRec {w : World} {x : JrnRec} {cs : List Value} {F : List Nat} : R w x cs F ↔ ∃ vCertStates FCertStates vCertOuts FCertOuts vVerdictSites FVerdictSites, (cs = [.int .i64 x.Kind, .int .i64 x.N, vCertStates, vCertOuts, .int .i64 x.Verdict.Kind, .int .i64 x.Verdict.Line, vVerdictSites] ∧ F = FCertStates ++ (FCertOuts ++ (FVerdictSites)) ∧ I64 x.Kind ∧ I64 x.N ∧ RL w x.Cert.States vCertStates FCertStates ∧ RL w x.Cert.Outs vCertOuts FCertOuts ∧ I64 x.Verdict.Kind ∧ I64 x.Verdict.Line ∧ RL w x.Verdict.Sites vVerdictSites FVerdictSites) := by
  constructor
  · intro h
    obtain ⟨_, _, _, _, rfl, rfl, h0, h0'⟩ := h
    obtain ⟨rfl, rfl, g0⟩ := h0
    obtain ⟨_, _, _, _, rfl, rfl, h1, h1'⟩ := h0'
    obtain ⟨rfl, rfl, g1⟩ := h1
    obtain ⟨_, _, _, _, rfl, rfl, h2, h2'⟩ := h1'
    obtain ⟨_, _, _, _, rfl, rfl, g2_0, g2_1⟩ := R_CrtCert.1 h2
    obtain ⟨_, _, rfl, rfl, g3_0, g3_1, g3_2⟩ := R_VrdVerdict.1 h2'
    exact ⟨_, _, _, _, _, _, by simp, by simp, g0, g1, g2_0, g2_1, g3_0, g3_1, g3_2⟩
  · rintro ⟨vCertStates, FCertStates, vCertOuts, FCertOuts, vVerdictSites, FVerdictSites, rfl, rfl, g0, g1, g2, g3, g4, g5, g6⟩
    exact ⟨_, _, [], FCertStates ++ (FCertOuts ++ (FVerdictSites)), by first | rfl | simp, by first | rfl | simp, ⟨rfl, rfl, g0⟩, ⟨_, _, [], FCertStates ++ (FCertOuts ++ (FVerdictSites)), by first | rfl | simp, by first | rfl | simp, ⟨rfl, rfl, g1⟩, ⟨_, _, FCertStates ++ (FCertOuts), FVerdictSites, by first | rfl | simp, by first | rfl | simp, (R_CrtCert.2 ⟨_, _, _, _, rfl, rfl, g2, g3⟩), (R_VrdVerdict.2 ⟨_, _, rfl, rfl, g4, g5, g6⟩)⟩⟩⟩
theorem sz_JrnRec : sz JrnRec = 7 := rfl
structure CrdLease where
  Part : Int
  Who : Int
  Seq : Int
  Due : Int
  deriving DecidableEq
instance : Rp CrdLease := Rp.by_ (fun x => (x.Part, x.Who, x.Seq, x.Due))
theorem R_CrdLease {w : World} {x : CrdLease} {cs : List Value} {F : List Nat} : R w x cs F ↔ (cs = [.int .i64 x.Part, .int .i64 x.Who, .int .i64 x.Seq, .int .i64 x.Due] ∧ F = [] ∧ I64 x.Part ∧ I64 x.Who ∧ I64 x.Seq ∧ I64 x.Due) := by
  constructor
  · intro h
    obtain ⟨_, _, _, _, rfl, rfl, h0, h0'⟩ := h
    obtain ⟨rfl, rfl, g0⟩ := h0
    obtain ⟨_, _, _, _, rfl, rfl, h1, h1'⟩ := h0'
    obtain ⟨rfl, rfl, g1⟩ := h1
    obtain ⟨_, _, _, _, rfl, rfl, h2, h2'⟩ := h1'
    obtain ⟨rfl, rfl, g2⟩ := h2
    obtain ⟨rfl, rfl, g3⟩ := h2'
    exact ⟨by simp, by simp, g0, g1, g2, g3⟩
  · rintro ⟨rfl, rfl, g0, g1, g2, g3⟩
    exact ⟨_, _, [], [], by first | rfl | simp, by first | rfl | simp, ⟨rfl, rfl, g0⟩, ⟨_, _, [], [], by first | rfl | simp, by first | rfl | simp, ⟨rfl, rfl, g1⟩, ⟨_, _, [], [], by first | rfl | simp, by first | rfl | simp, ⟨rfl, rfl, g2⟩, ⟨rfl, rfl, g3⟩⟩⟩⟩
theorem sz_CrdLease : sz CrdLease = 4 := rfl
structure CrdCoord where
  Up : Bool
  Epoch : Int
  Seq : Int
  Clock : Int
  Done : (List Bool)
  Certs : (List CrtCert)
  Leases : (List CrdLease)
  Verdict : VrdVerdict
  Log : (List UInt8)
  deriving DecidableEq
instance : Rp CrdCoord := Rp.by_ (fun x => (x.Up, x.Epoch, x.Seq, x.Clock, x.Done, x.Certs, x.Leases, x.Verdict, x.Log))
theorem R_CrdCoord {w : World} {x : CrdCoord} {cs : List Value} {F : List Nat} : R w x cs F ↔ ∃ vDone FDone vCerts FCerts vLeases FLeases vVerdictSites FVerdictSites vLog FLog, (cs = [.bool x.Up, .int .i64 x.Epoch, .int .i64 x.Seq, .int .i64 x.Clock, vDone, vCerts, vLeases, .int .i64 x.Verdict.Kind, .int .i64 x.Verdict.Line, vVerdictSites, vLog] ∧ F = FDone ++ (FCerts ++ (FLeases ++ (FVerdictSites ++ (FLog)))) ∧ I64 x.Epoch ∧ I64 x.Seq ∧ I64 x.Clock ∧ RL w x.Done vDone FDone ∧ RL w x.Certs vCerts FCerts ∧ RL w x.Leases vLeases FLeases ∧ I64 x.Verdict.Kind ∧ I64 x.Verdict.Line ∧ RL w x.Verdict.Sites vVerdictSites FVerdictSites ∧ RL w x.Log vLog FLog) := by
  constructor
  · intro h
    obtain ⟨_, _, _, _, rfl, rfl, h0, h0'⟩ := h
    obtain ⟨rfl, rfl⟩ := h0
    obtain ⟨_, _, _, _, rfl, rfl, h1, h1'⟩ := h0'
    obtain ⟨rfl, rfl, g1⟩ := h1
    obtain ⟨_, _, _, _, rfl, rfl, h2, h2'⟩ := h1'
    obtain ⟨rfl, rfl, g2⟩ := h2
    obtain ⟨_, _, _, _, rfl, rfl, h3, h3'⟩ := h2'
    obtain ⟨rfl, rfl, g3⟩ := h3
    obtain ⟨_, _, _, _, rfl, rfl, h4, h4'⟩ := h3'
    obtain ⟨_, rfl, g4⟩ := h4
    obtain ⟨_, _, _, _, rfl, rfl, h5, h5'⟩ := h4'
    obtain ⟨_, rfl, g5⟩ := h5
    obtain ⟨_, _, _, _, rfl, rfl, h6, h6'⟩ := h5'
    obtain ⟨_, rfl, g6⟩ := h6
    obtain ⟨_, _, _, _, rfl, rfl, h7, h7'⟩ := h6'
    obtain ⟨_, _, rfl, rfl, g7_0, g7_1, g7_2⟩ := R_VrdVerdict.1 h7
    obtain ⟨_, rfl, g8⟩ := h7'
    exact ⟨_, _, _, _, _, _, _, _, _, _, by simp, by simp, g1, g2, g3, g4, g5, g6, g7_0, g7_1, g7_2, g8⟩
  · rintro ⟨vDone, FDone, vCerts, FCerts, vLeases, FLeases, vVerdictSites, FVerdictSites, vLog, FLog, rfl, rfl, g0, g1, g2, g3, g4, g5, g6, g7, g8, g9⟩
    exact ⟨_, _, [], FDone ++ (FCerts ++ (FLeases ++ (FVerdictSites ++ (FLog)))), by first | rfl | simp, by first | rfl | simp, ⟨rfl, rfl⟩, ⟨_, _, [], FDone ++ (FCerts ++ (FLeases ++ (FVerdictSites ++ (FLog)))), by first | rfl | simp, by first | rfl | simp, ⟨rfl, rfl, g0⟩, ⟨_, _, [], FDone ++ (FCerts ++ (FLeases ++ (FVerdictSites ++ (FLog)))), by first | rfl | simp, by first | rfl | simp, ⟨rfl, rfl, g1⟩, ⟨_, _, [], FDone ++ (FCerts ++ (FLeases ++ (FVerdictSites ++ (FLog)))), by first | rfl | simp, by first | rfl | simp, ⟨rfl, rfl, g2⟩, ⟨_, _, FDone, FCerts ++ (FLeases ++ (FVerdictSites ++ (FLog))), by first | rfl | simp, by first | rfl | simp, ⟨_, rfl, g3⟩, ⟨_, _, FCerts, FLeases ++ (FVerdictSites ++ (FLog)), by first | rfl | simp, by first | rfl | simp, ⟨_, rfl, g4⟩, ⟨_, _, FLeases, FVerdictSites ++ (FLog), by first | rfl | simp, by first | rfl | simp, ⟨_, rfl, g5⟩, ⟨_, _, FVerdictSites, FLog, by first | rfl | simp, by first | rfl | simp, (R_VrdVerdict.2 ⟨_, _, rfl, rfl, g6, g7, g8⟩), ⟨_, rfl, g9⟩⟩⟩⟩⟩⟩⟩⟩⟩
theorem sz_CrdCoord : sz CrdCoord = 11 := rfl
structure NetMsg where
  To : Int
  Bent : Bool
  Bytes : (List UInt8)
  deriving DecidableEq
instance : Rp NetMsg := Rp.by_ (fun x => (x.To, x.Bent, x.Bytes))
theorem R_NetMsg {w : World} {x : NetMsg} {cs : List Value} {F : List Nat} : R w x cs F ↔ ∃ vBytes FBytes, (cs = [.int .i64 x.To, .bool x.Bent, vBytes] ∧ F = FBytes ∧ I64 x.To ∧ RL w x.Bytes vBytes FBytes) := by
  constructor
  · intro h
    obtain ⟨_, _, _, _, rfl, rfl, h0, h0'⟩ := h
    obtain ⟨rfl, rfl, g0⟩ := h0
    obtain ⟨_, _, _, _, rfl, rfl, h1, h1'⟩ := h0'
    obtain ⟨rfl, rfl⟩ := h1
    obtain ⟨_, rfl, g2⟩ := h1'
    exact ⟨_, _, by simp, by simp, g0, g2⟩
  · rintro ⟨vBytes, FBytes, rfl, rfl, g0, g1⟩
    exact ⟨_, _, [], F, by first | rfl | simp, by first | rfl | simp, ⟨rfl, rfl, g0⟩, ⟨_, _, [], F, by first | rfl | simp, by first | rfl | simp, ⟨rfl, rfl⟩, ⟨_, rfl, g1⟩⟩⟩
theorem sz_NetMsg : sz NetMsg = 3 := rfl
structure WldWorld where
  Lines : (List ByteArray)
  Coord : CrdCoord
  Workers : (List WrkWorker)
  Net : (List NetMsg)
  Told : (List VrdVerdict)
  deriving DecidableEq
instance : Rp WldWorld := Rp.by_ (fun x => (x.Lines, x.Coord, x.Workers, x.Net, x.Told))
theorem R_WldWorld {w : World} {x : WldWorld} {cs : List Value} {F : List Nat} : R w x cs F ↔ ∃ vLines FLines vCoordDone FCoordDone vCoordCerts FCoordCerts vCoordLeases FCoordLeases vCoordVerdictSites FCoordVerdictSites vCoordLog FCoordLog vWorkers FWorkers vNet FNet vTold FTold, (cs = [vLines, .bool x.Coord.Up, .int .i64 x.Coord.Epoch, .int .i64 x.Coord.Seq, .int .i64 x.Coord.Clock, vCoordDone, vCoordCerts, vCoordLeases, .int .i64 x.Coord.Verdict.Kind, .int .i64 x.Coord.Verdict.Line, vCoordVerdictSites, vCoordLog, vWorkers, vNet, vTold] ∧ F = FLines ++ (FCoordDone ++ (FCoordCerts ++ (FCoordLeases ++ (FCoordVerdictSites ++ (FCoordLog ++ (FWorkers ++ (FNet ++ (FTold)))))))) ∧ RL w x.Lines vLines FLines ∧ I64 x.Coord.Epoch ∧ I64 x.Coord.Seq ∧ I64 x.Coord.Clock ∧ RL w x.Coord.Done vCoordDone FCoordDone ∧ RL w x.Coord.Certs vCoordCerts FCoordCerts ∧ RL w x.Coord.Leases vCoordLeases FCoordLeases ∧ I64 x.Coord.Verdict.Kind ∧ I64 x.Coord.Verdict.Line ∧ RL w x.Coord.Verdict.Sites vCoordVerdictSites FCoordVerdictSites ∧ RL w x.Coord.Log vCoordLog FCoordLog ∧ RL w x.Workers vWorkers FWorkers ∧ RL w x.Net vNet FNet ∧ RL w x.Told vTold FTold) := by
  constructor
  · intro h
    obtain ⟨_, _, _, _, rfl, rfl, h0, h0'⟩ := h
    obtain ⟨_, rfl, g0⟩ := h0
    obtain ⟨_, _, _, _, rfl, rfl, h1, h1'⟩ := h0'
    obtain ⟨_, _, _, _, _, _, _, _, _, _, rfl, rfl, g1_1, g1_2, g1_3, g1_4, g1_5, g1_6, g1_7, g1_8, g1_9, g1_10⟩ := R_CrdCoord.1 h1
    obtain ⟨_, _, _, _, rfl, rfl, h2, h2'⟩ := h1'
    obtain ⟨_, rfl, g2⟩ := h2
    obtain ⟨_, _, _, _, rfl, rfl, h3, h3'⟩ := h2'
    obtain ⟨_, rfl, g3⟩ := h3
    obtain ⟨_, rfl, g4⟩ := h3'
    exact ⟨_, _, _, _, _, _, _, _, _, _, _, _, _, _, _, _, _, _, by simp, by simp, g0, g1_1, g1_2, g1_3, g1_4, g1_5, g1_6, g1_7, g1_8, g1_9, g1_10, g2, g3, g4⟩
  · rintro ⟨vLines, FLines, vCoordDone, FCoordDone, vCoordCerts, FCoordCerts, vCoordLeases, FCoordLeases, vCoordVerdictSites, FCoordVerdictSites, vCoordLog, FCoordLog, vWorkers, FWorkers, vNet, FNet, vTold, FTold, rfl, rfl, g0, g1, g2, g3, g4, g5, g6, g7, g8, g9, g10, g11, g12, g13⟩
    exact ⟨_, _, FLines, FCoordDone ++ (FCoordCerts ++ (FCoordLeases ++ (FCoordVerdictSites ++ (FCoordLog ++ (FWorkers ++ (FNet ++ (FTold))))))), by first | rfl | simp, by first | rfl | simp, ⟨_, rfl, g0⟩, ⟨_, _, FCoordDone ++ (FCoordCerts ++ (FCoordLeases ++ (FCoordVerdictSites ++ (FCoordLog)))), FWorkers ++ (FNet ++ (FTold)), by first | rfl | simp, by first | rfl | simp, (R_CrdCoord.2 ⟨_, _, _, _, _, _, _, _, _, _, rfl, rfl, g1, g2, g3, g4, g5, g6, g7, g8, g9, g10⟩), ⟨_, _, FWorkers, FNet ++ (FTold), by first | rfl | simp, by first | rfl | simp, ⟨_, rfl, g11⟩, ⟨_, _, FNet, FTold, by first | rfl | simp, by first | rfl | simp, ⟨_, rfl, g12⟩, ⟨_, rfl, g13⟩⟩⟩⟩⟩
theorem sz_WldWorld : sz WldWorld = 15 := rfl
structure EvEvent where
  Kind : Int
  At : Int
  Pos : Int
  V : Int
  Bytes : (List UInt8)
  deriving DecidableEq
instance : Rp EvEvent := Rp.by_ (fun x => (x.Kind, x.At, x.Pos, x.V, x.Bytes))
theorem R_EvEvent {w : World} {x : EvEvent} {cs : List Value} {F : List Nat} : R w x cs F ↔ ∃ vBytes FBytes, (cs = [.int .i64 x.Kind, .int .i64 x.At, .int .i64 x.Pos, .int .i64 x.V, vBytes] ∧ F = FBytes ∧ I64 x.Kind ∧ I64 x.At ∧ I64 x.Pos ∧ I64 x.V ∧ RL w x.Bytes vBytes FBytes) := by
  constructor
  · intro h
    obtain ⟨_, _, _, _, rfl, rfl, h0, h0'⟩ := h
    obtain ⟨rfl, rfl, g0⟩ := h0
    obtain ⟨_, _, _, _, rfl, rfl, h1, h1'⟩ := h0'
    obtain ⟨rfl, rfl, g1⟩ := h1
    obtain ⟨_, _, _, _, rfl, rfl, h2, h2'⟩ := h1'
    obtain ⟨rfl, rfl, g2⟩ := h2
    obtain ⟨_, _, _, _, rfl, rfl, h3, h3'⟩ := h2'
    obtain ⟨rfl, rfl, g3⟩ := h3
    obtain ⟨_, rfl, g4⟩ := h3'
    exact ⟨_, _, by simp, by simp, g0, g1, g2, g3, g4⟩
  · rintro ⟨vBytes, FBytes, rfl, rfl, g0, g1, g2, g3, g4⟩
    exact ⟨_, _, [], F, by first | rfl | simp, by first | rfl | simp, ⟨rfl, rfl, g0⟩, ⟨_, _, [], F, by first | rfl | simp, by first | rfl | simp, ⟨rfl, rfl, g1⟩, ⟨_, _, [], F, by first | rfl | simp, by first | rfl | simp, ⟨rfl, rfl, g2⟩, ⟨_, _, [], F, by first | rfl | simp, by first | rfl | simp, ⟨rfl, rfl, g3⟩, ⟨_, rfl, g4⟩⟩⟩⟩⟩
theorem sz_EvEvent : sz EvEvent = 5 := rfl
structure RunFrame where
  Proc : Int
  Pc : Int
  Vars : (List Int)
  Cells : (List Int)
  deriving DecidableEq
instance : Rp RunFrame := Rp.by_ (fun x => (x.Proc, x.Pc, x.Vars, x.Cells))
theorem R_RunFrame {w : World} {x : RunFrame} {cs : List Value} {F : List Nat} : R w x cs F ↔ ∃ vVars FVars vCells FCells, (cs = [.int .i64 x.Proc, .int .i64 x.Pc, vVars, vCells] ∧ F = FVars ++ (FCells) ∧ I64 x.Proc ∧ I64 x.Pc ∧ RL w x.Vars vVars FVars ∧ RL w x.Cells vCells FCells) := by
  constructor
  · intro h
    obtain ⟨_, _, _, _, rfl, rfl, h0, h0'⟩ := h
    obtain ⟨rfl, rfl, g0⟩ := h0
    obtain ⟨_, _, _, _, rfl, rfl, h1, h1'⟩ := h0'
    obtain ⟨rfl, rfl, g1⟩ := h1
    obtain ⟨_, _, _, _, rfl, rfl, h2, h2'⟩ := h1'
    obtain ⟨_, rfl, g2⟩ := h2
    obtain ⟨_, rfl, g3⟩ := h2'
    exact ⟨_, _, _, _, by simp, by simp, g0, g1, g2, g3⟩
  · rintro ⟨vVars, FVars, vCells, FCells, rfl, rfl, g0, g1, g2, g3⟩
    exact ⟨_, _, [], FVars ++ (FCells), by first | rfl | simp, by first | rfl | simp, ⟨rfl, rfl, g0⟩, ⟨_, _, [], FVars ++ (FCells), by first | rfl | simp, by first | rfl | simp, ⟨rfl, rfl, g1⟩, ⟨_, _, FVars, FCells, by first | rfl | simp, by first | rfl | simp, ⟨_, rfl, g2⟩, ⟨_, rfl, g3⟩⟩⟩⟩
theorem sz_RunFrame : sz RunFrame = 4 := rfl
structure RunRun where
  State : Int
  Frames : (List RunFrame)
  Out : Int
  Proc : Int
  Pc : Int
  deriving DecidableEq
instance : Rp RunRun := Rp.by_ (fun x => (x.State, x.Frames, x.Out, x.Proc, x.Pc))
theorem R_RunRun {w : World} {x : RunRun} {cs : List Value} {F : List Nat} : R w x cs F ↔ ∃ vFrames FFrames, (cs = [.int .i64 x.State, vFrames, .int .i64 x.Out, .int .i64 x.Proc, .int .i64 x.Pc] ∧ F = FFrames ∧ I64 x.State ∧ RL w x.Frames vFrames FFrames ∧ I64 x.Out ∧ I64 x.Proc ∧ I64 x.Pc) := by
  constructor
  · intro h
    obtain ⟨_, _, _, _, rfl, rfl, h0, h0'⟩ := h
    obtain ⟨rfl, rfl, g0⟩ := h0
    obtain ⟨_, _, _, _, rfl, rfl, h1, h1'⟩ := h0'
    obtain ⟨_, rfl, g1⟩ := h1
    obtain ⟨_, _, _, _, rfl, rfl, h2, h2'⟩ := h1'
    obtain ⟨rfl, rfl, g2⟩ := h2
    obtain ⟨_, _, _, _, rfl, rfl, h3, h3'⟩ := h2'
    obtain ⟨rfl, rfl, g3⟩ := h3
    obtain ⟨rfl, rfl, g4⟩ := h3'
    exact ⟨_, _, by simp, by simp, g0, g1, g2, g3, g4⟩
  · rintro ⟨vFrames, FFrames, rfl, rfl, g0, g1, g2, g3, g4⟩
    exact ⟨_, _, [], F, by first | rfl | simp, by first | rfl | simp, ⟨rfl, rfl, g0⟩, ⟨_, _, F, [], by first | rfl | simp, by first | rfl | simp, ⟨_, rfl, g1⟩, ⟨_, _, [], [], by first | rfl | simp, by first | rfl | simp, ⟨rfl, rfl, g2⟩, ⟨_, _, [], [], by first | rfl | simp, by first | rfl | simp, ⟨rfl, rfl, g3⟩, ⟨rfl, rfl, g4⟩⟩⟩⟩⟩
theorem sz_RunRun : sz RunRun = 5 := rfl
structure AbsEdge where
  To : Int
  State : AbsState
  deriving DecidableEq
instance : Rp AbsEdge := Rp.by_ (fun x => (x.To, x.State))
theorem R_AbsEdge {w : World} {x : AbsEdge} {cs : List Value} {F : List Nat} : R w x cs F ↔ ∃ vStateVars FStateVars, (cs = [.int .i64 x.To, .bool x.State.On, vStateVars, .int .i64 x.State.Cells.Lo, .int .i64 x.State.Cells.Hi] ∧ F = FStateVars ∧ I64 x.To ∧ RL w x.State.Vars vStateVars FStateVars ∧ I64 x.State.Cells.Lo ∧ I64 x.State.Cells.Hi) := by
  constructor
  · intro h
    obtain ⟨_, _, _, _, rfl, rfl, h0, h0'⟩ := h
    obtain ⟨rfl, rfl, g0⟩ := h0
    obtain ⟨_, _, rfl, rfl, g1_1, g1_2, g1_3⟩ := R_AbsState.1 h0'
    exact ⟨_, _, by simp, by simp, g0, g1_1, g1_2, g1_3⟩
  · rintro ⟨vStateVars, FStateVars, rfl, rfl, g0, g1, g2, g3⟩
    exact ⟨_, _, [], F, by first | rfl | simp, by first | rfl | simp, ⟨rfl, rfl, g0⟩, (R_AbsState.2 ⟨_, _, rfl, rfl, g1, g2, g3⟩)⟩
theorem sz_AbsEdge : sz AbsEdge = 5 := rfl
instance : Mk CrtSite := ⟨fun x k => { Proc := (k), Pc := (k + 1) }, fun x => 1 + 1⟩
theorem mark_CrtSite (x : CrtSite) (k : Int) : Mk.mark x k = { Proc := (k), Pc := (k + 1) } := rfl
theorem cnt_CrtSite (x : CrtSite) : Mk.cnt x = 1 + 1 := rfl
instance : Mk VrdVerdict := ⟨fun x k => { Kind := (k), Line := (k + 1), Sites := (mkL x.Sites (k + 1 + 1)) }, fun x => 1 + 1 + (cntL x.Sites)⟩
theorem mark_VrdVerdict (x : VrdVerdict) (k : Int) : Mk.mark x k = { Kind := (k), Line := (k + 1), Sites := (mkL x.Sites (k + 1 + 1)) } := rfl
theorem cnt_VrdVerdict (x : VrdVerdict) : Mk.cnt x = 1 + 1 + (cntL x.Sites) := rfl
/-- marked where it is handed over by value: its slices alone -/
def VrdVerdict.mv (x : VrdVerdict) (k : Int) : VrdVerdict := { Kind := x.Kind, Line := x.Line, Sites := (mkL x.Sites (k)) }
def VrdVerdict.cv (x : VrdVerdict) : Nat := (cntL x.Sites)
instance : Mk InsIns := ⟨fun x k => { Op := (k), D := (k + 1), A := (k + 1 + 1), B := (k + 1 + 1 + 1), Rel := (k + 1 + 1 + 1 + 1), Lo := (k + 1 + 1 + 1 + 1 + 1), Hi := (k + 1 + 1 + 1 + 1 + 1 + 1), To := (k + 1 + 1 + 1 + 1 + 1 + 1 + 1) }, fun x => 1 + 1 + 1 + 1 + 1 + 1 + 1 + 1⟩
theorem mark_InsIns (x : InsIns) (k : Int) : Mk.mark x k = { Op := (k), D := (k + 1), A := (k + 1 + 1), B := (k + 1 + 1 + 1), Rel := (k + 1 + 1 + 1 + 1), Lo := (k + 1 + 1 + 1 + 1 + 1), Hi := (k + 1 + 1 + 1 + 1 + 1 + 1), To := (k + 1 + 1 + 1 + 1 + 1 + 1 + 1) } := rfl
theorem cnt_InsIns (x : InsIns) : Mk.cnt x = 1 + 1 + 1 + 1 + 1 + 1 + 1 + 1 := rfl
instance : Mk PrcProc := ⟨fun x k => { Lo := (k), Hi := (k + 1), Code := (mkL x.Code (k + 1 + 1)) }, fun x => 1 + 1 + (cntL x.Code)⟩
theorem mark_PrcProc (x : PrcProc) (k : Int) : Mk.mark x k = { Lo := (k), Hi := (k + 1), Code := (mkL x.Code (k + 1 + 1)) } := rfl
theorem cnt_PrcProc (x : PrcProc) : Mk.cnt x = 1 + 1 + (cntL x.Code) := rfl
/-- marked where it is handed over by value: its slices alone -/
def PrcProc.mv (x : PrcProc) (k : Int) : PrcProc := { Lo := x.Lo, Hi := x.Hi, Code := (mkL x.Code (k)) }
def PrcProc.cv (x : PrcProc) : Nat := (cntL x.Code)
instance : Mk PrgProg := ⟨fun x k => { Procs := (mkL x.Procs (k)) }, fun x => (cntL x.Procs)⟩
theorem mark_PrgProg (x : PrgProg) (k : Int) : Mk.mark x k = { Procs := (mkL x.Procs (k)) } := rfl
theorem cnt_PrgProg (x : PrgProg) : Mk.cnt x = (cntL x.Procs) := rfl
/-- marked where it is handed over by value: its slices alone -/
def PrgProg.mv (x : PrgProg) (k : Int) : PrgProg := { Procs := (mkL x.Procs (k)) }
def PrgProg.cv (x : PrgProg) : Nat := (cntL x.Procs)
instance : Mk ItvItv := ⟨fun x k => { Lo := (k), Hi := (k + 1) }, fun x => 1 + 1⟩
theorem mark_ItvItv (x : ItvItv) (k : Int) : Mk.mark x k = { Lo := (k), Hi := (k + 1) } := rfl
theorem cnt_ItvItv (x : ItvItv) : Mk.cnt x = 1 + 1 := rfl
instance : Mk AbsState := ⟨fun x k => { On := ((k) % 3 == 0), Vars := (mkL x.Vars (k + 1)), Cells := { Lo := (k + 1 + (cntL x.Vars : Int)), Hi := (k + 1 + (cntL x.Vars : Int) + 1) } }, fun x => 1 + (cntL x.Vars) + 1 + 1⟩
theorem mark_AbsState (x : AbsState) (k : Int) : Mk.mark x k = { On := ((k) % 3 == 0), Vars := (mkL x.Vars (k + 1)), Cells := { Lo := (k + 1 + (cntL x.Vars : Int)), Hi := (k + 1 + (cntL x.Vars : Int) + 1) } } := rfl
theorem cnt_AbsState (x : AbsState) : Mk.cnt x = 1 + (cntL x.Vars) + 1 + 1 := rfl
/-- marked where it is handed over by value: its slices alone -/
def AbsState.mv (x : AbsState) (k : Int) : AbsState := { On := x.On, Vars := (mkL x.Vars (k)), Cells := { Lo := x.Cells.Lo, Hi := x.Cells.Hi } }
def AbsState.cv (x : AbsState) : Nat := (cntL x.Vars)
instance : Mk SumSum := ⟨fun x k => { On := ((k) % 3 == 0), Out := { Lo := (k + 1), Hi := (k + 1 + 1) } }, fun x => 1 + 1 + 1⟩
theorem mark_SumSum (x : SumSum) (k : Int) : Mk.mark x k = { On := ((k) % 3 == 0), Out := { Lo := (k + 1), Hi := (k + 1 + 1) } } := rfl
theorem cnt_SumSum (x : SumSum) : Mk.cnt x = 1 + 1 + 1 := rfl
instance : Mk CrtCert := ⟨fun x k => { States := (mkL x.States (k)), Outs := (mkL x.Outs (k + (cntL x.States : Int))) }, fun x => (cntL x.States) + (cntL x.Outs)⟩
theorem mark_CrtCert (x : CrtCert) (k : Int) : Mk.mark x k = { States := (mkL x.States (k)), Outs := (mkL x.Outs (k + (cntL x.States : Int))) } := rfl
theorem cnt_CrtCert (x : CrtCert) : Mk.cnt x = (cntL x.States) + (cntL x.Outs) := rfl
/-- marked where it is handed over by value: its slices alone -/
def CrtCert.mv (x : CrtCert) (k : Int) : CrtCert := { States := (mkL x.States (k)), Outs := (mkL x.Outs (k + (cntL x.States : Int))) }
def CrtCert.cv (x : CrtCert) : Nat := (cntL x.States) + (cntL x.Outs)
instance : Mk MsgMsg := ⟨fun x k => { Kind := (k), Who := (k + 1), Part := (k + 1 + 1), Epoch := (k + 1 + 1 + 1), Seq := (k + 1 + 1 + 1 + 1), Sums := (mkL x.Sums (k + 1 + 1 + 1 + 1 + 1)), Cert := { States := (mkL x.Cert.States (k + 1 + 1 + 1 + 1 + 1 + (cntL x.Sums : Int))), Outs := (mkL x.Cert.Outs (k + 1 + 1 + 1 + 1 + 1 + (cntL x.Sums : Int) + (cntL x.Cert.States : Int))) } }, fun x => 1 + 1 + 1 + 1 + 1 + (cntL x.Sums) + (cntL x.Cert.States) + (cntL x.Cert.Outs)⟩
theorem mark_MsgMsg (x : MsgMsg) (k : Int) : Mk.mark x k = { Kind := (k), Who := (k + 1), Part := (k + 1 + 1), Epoch := (k + 1 + 1 + 1), Seq := (k + 1 + 1 + 1 + 1), Sums := (mkL x.Sums (k + 1 + 1 + 1 + 1 + 1)), Cert := { States := (mkL x.Cert.States (k + 1 + 1 + 1 + 1 + 1 + (cntL x.Sums : Int))), Outs := (mkL x.Cert.Outs (k + 1 + 1 + 1 + 1 + 1 + (cntL x.Sums : Int) + (cntL x.Cert.States : Int))) } } := rfl
theorem cnt_MsgMsg (x : MsgMsg) : Mk.cnt x = 1 + 1 + 1 + 1 + 1 + (cntL x.Sums) + (cntL x.Cert.States) + (cntL x.Cert.Outs) := rfl
/-- marked where it is handed over by value: its slices alone -/
def MsgMsg.mv (x : MsgMsg) (k : Int) : MsgMsg := { Kind := x.Kind, Who := x.Who, Part := x.Part, Epoch := x.Epoch, Seq := x.Seq, Sums := (mkL x.Sums (k)), Cert := { States := (mkL x.Cert.States (k + (cntL x.Sums : Int))), Outs := (mkL x.Cert.Outs (k + (cntL x.Sums : Int) + (cntL x.Cert.States : Int))) } }
def MsgMsg.cv (x : MsgMsg) : Nat := (cntL x.Sums) + (cntL x.Cert.States) + (cntL x.Cert.Outs)
instance : Mk EngEng := ⟨fun x k => { Phase := (k), Round := (k + 1), Cert := { States := (mkL x.Cert.States (k + 1 + 1)), Outs := (mkL x.Cert.Outs (k + 1 + 1 + (cntL x.Cert.States : Int))) } }, fun x => 1 + 1 + (cntL x.Cert.States) + (cntL x.Cert.Outs)⟩
theorem mark_EngEng (x : EngEng) (k : Int) : Mk.mark x k = { Phase := (k), Round := (k + 1), Cert := { States := (mkL x.Cert.States (k + 1 + 1)), Outs := (mkL x.Cert.Outs (k + 1 + 1 + (cntL x.Cert.States : Int))) } } := rfl
theorem cnt_EngEng (x : EngEng) : Mk.cnt x = 1 + 1 + (cntL x.Cert.States) + (cntL x.Cert.Outs) := rfl
/-- marked where it is handed over by value: its slices alone -/
def EngEng.mv (x : EngEng) (k : Int) : EngEng := { Phase := x.Phase, Round := x.Round, Cert := { States := (mkL x.Cert.States (k)), Outs := (mkL x.Cert.Outs (k + (cntL x.Cert.States : Int))) } }
def EngEng.cv (x : EngEng) : Nat := (cntL x.Cert.States) + (cntL x.Cert.Outs)
instance : Mk WrkWorker := ⟨fun x k => { Up := ((k) % 3 == 0), Busy := ((k + 1) % 3 == 0), Part := (k + 1 + 1), Epoch := (k + 1 + 1 + 1), Seq := (k + 1 + 1 + 1 + 1), Sums := (mkL x.Sums (k + 1 + 1 + 1 + 1 + 1)), Eng := { Phase := (k + 1 + 1 + 1 + 1 + 1 + (cntL x.Sums : Int)), Round := (k + 1 + 1 + 1 + 1 + 1 + (cntL x.Sums : Int) + 1), Cert := { States := (mkL x.Eng.Cert.States (k + 1 + 1 + 1 + 1 + 1 + (cntL x.Sums : Int) + 1 + 1)), Outs := (mkL x.Eng.Cert.Outs (k + 1 + 1 + 1 + 1 + 1 + (cntL x.Sums : Int) + 1 + 1 + (cntL x.Eng.Cert.States : Int))) } } }, fun x => 1 + 1 + 1 + 1 + 1 + (cntL x.Sums) + 1 + 1 + (cntL x.Eng.Cert.States) + (cntL x.Eng.Cert.Outs)⟩
theorem mark_WrkWorker (x : WrkWorker) (k : Int) : Mk.mark x k = { Up := ((k) % 3 == 0), Busy := ((k + 1) % 3 == 0), Part := (k + 1 + 1), Epoch := (k + 1 + 1 + 1), Seq := (k + 1 + 1 + 1 + 1), Sums := (mkL x.Sums (k + 1 + 1 + 1 + 1 + 1)), Eng := { Phase := (k + 1 + 1 + 1 + 1 + 1 + (cntL x.Sums : Int)), Round := (k + 1 + 1 + 1 + 1 + 1 + (cntL x.Sums : Int) + 1), Cert := { States := (mkL x.Eng.Cert.States (k + 1 + 1 + 1 + 1 + 1 + (cntL x.Sums : Int) + 1 + 1)), Outs := (mkL x.Eng.Cert.Outs (k + 1 + 1 + 1 + 1 + 1 + (cntL x.Sums : Int) + 1 + 1 + (cntL x.Eng.Cert.States : Int))) } } } := rfl
theorem cnt_WrkWorker (x : WrkWorker) : Mk.cnt x = 1 + 1 + 1 + 1 + 1 + (cntL x.Sums) + 1 + 1 + (cntL x.Eng.Cert.States) + (cntL x.Eng.Cert.Outs) := rfl
/-- marked where it is handed over by value: its slices alone -/
def WrkWorker.mv (x : WrkWorker) (k : Int) : WrkWorker := { Up := x.Up, Busy := x.Busy, Part := x.Part, Epoch := x.Epoch, Seq := x.Seq, Sums := (mkL x.Sums (k)), Eng := { Phase := x.Eng.Phase, Round := x.Eng.Round, Cert := { States := (mkL x.Eng.Cert.States (k + (cntL x.Sums : Int))), Outs := (mkL x.Eng.Cert.Outs (k + (cntL x.Sums : Int) + (cntL x.Eng.Cert.States : Int))) } } }
def WrkWorker.cv (x : WrkWorker) : Nat := (cntL x.Sums) + (cntL x.Eng.Cert.States) + (cntL x.Eng.Cert.Outs)
instance : Mk JrnRec := ⟨fun x k => { Kind := (k), N := (k + 1), Cert := { States := (mkL x.Cert.States (k + 1 + 1)), Outs := (mkL x.Cert.Outs (k + 1 + 1 + (cntL x.Cert.States : Int))) }, Verdict := { Kind := (k + 1 + 1 + (cntL x.Cert.States : Int) + (cntL x.Cert.Outs : Int)), Line := (k + 1 + 1 + (cntL x.Cert.States : Int) + (cntL x.Cert.Outs : Int) + 1), Sites := (mkL x.Verdict.Sites (k + 1 + 1 + (cntL x.Cert.States : Int) + (cntL x.Cert.Outs : Int) + 1 + 1)) } }, fun x => 1 + 1 + (cntL x.Cert.States) + (cntL x.Cert.Outs) + 1 + 1 + (cntL x.Verdict.Sites)⟩
theorem mark_JrnRec (x : JrnRec) (k : Int) : Mk.mark x k = { Kind := (k), N := (k + 1), Cert := { States := (mkL x.Cert.States (k + 1 + 1)), Outs := (mkL x.Cert.Outs (k + 1 + 1 + (cntL x.Cert.States : Int))) }, Verdict := { Kind := (k + 1 + 1 + (cntL x.Cert.States : Int) + (cntL x.Cert.Outs : Int)), Line := (k + 1 + 1 + (cntL x.Cert.States : Int) + (cntL x.Cert.Outs : Int) + 1), Sites := (mkL x.Verdict.Sites (k + 1 + 1 + (cntL x.Cert.States : Int) + (cntL x.Cert.Outs : Int) + 1 + 1)) } } := rfl
theorem cnt_JrnRec (x : JrnRec) : Mk.cnt x = 1 + 1 + (cntL x.Cert.States) + (cntL x.Cert.Outs) + 1 + 1 + (cntL x.Verdict.Sites) := rfl
/-- marked where it is handed over by value: its slices alone -/
def JrnRec.mv (x : JrnRec) (k : Int) : JrnRec := { Kind := x.Kind, N := x.N, Cert := { States := (mkL x.Cert.States (k)), Outs := (mkL x.Cert.Outs (k + (cntL x.Cert.States : Int))) }, Verdict := { Kind := x.Verdict.Kind, Line := x.Verdict.Line, Sites := (mkL x.Verdict.Sites (k + (cntL x.Cert.States : Int) + (cntL x.Cert.Outs : Int))) } }
def JrnRec.cv (x : JrnRec) : Nat := (cntL x.Cert.States) + (cntL x.Cert.Outs) + (cntL x.Verdict.Sites)
instance : Mk CrdLease := ⟨fun x k => { Part := (k), Who := (k + 1), Seq := (k + 1 + 1), Due := (k + 1 + 1 + 1) }, fun x => 1 + 1 + 1 + 1⟩
theorem mark_CrdLease (x : CrdLease) (k : Int) : Mk.mark x k = { Part := (k), Who := (k + 1), Seq := (k + 1 + 1), Due := (k + 1 + 1 + 1) } := rfl
theorem cnt_CrdLease (x : CrdLease) : Mk.cnt x = 1 + 1 + 1 + 1 := rfl
instance : Mk CrdCoord := ⟨fun x k => { Up := ((k) % 3 == 0), Epoch := (k + 1), Seq := (k + 1 + 1), Clock := (k + 1 + 1 + 1), Done := (mkL x.Done (k + 1 + 1 + 1 + 1)), Certs := (mkL x.Certs (k + 1 + 1 + 1 + 1 + (cntL x.Done : Int))), Leases := (mkL x.Leases (k + 1 + 1 + 1 + 1 + (cntL x.Done : Int) + (cntL x.Certs : Int))), Verdict := { Kind := (k + 1 + 1 + 1 + 1 + (cntL x.Done : Int) + (cntL x.Certs : Int) + (cntL x.Leases : Int)), Line := (k + 1 + 1 + 1 + 1 + (cntL x.Done : Int) + (cntL x.Certs : Int) + (cntL x.Leases : Int) + 1), Sites := (mkL x.Verdict.Sites (k + 1 + 1 + 1 + 1 + (cntL x.Done : Int) + (cntL x.Certs : Int) + (cntL x.Leases : Int) + 1 + 1)) }, Log := (mkL x.Log (k + 1 + 1 + 1 + 1 + (cntL x.Done : Int) + (cntL x.Certs : Int) + (cntL x.Leases : Int) + 1 + 1 + (cntL x.Verdict.Sites : Int))) }, fun x => 1 + 1 + 1 + 1 + (cntL x.Done) + (cntL x.Certs) + (cntL x.Leases) + 1 + 1 + (cntL x.Verdict.Sites) + (cntL x.Log)⟩
theorem mark_CrdCoord (x : CrdCoord) (k : Int) : Mk.mark x k = { Up := ((k) % 3 == 0), Epoch := (k + 1), Seq := (k + 1 + 1), Clock := (k + 1 + 1 + 1), Done := (mkL x.Done (k + 1 + 1 + 1 + 1)), Certs := (mkL x.Certs (k + 1 + 1 + 1 + 1 + (cntL x.Done : Int))), Leases := (mkL x.Leases (k + 1 + 1 + 1 + 1 + (cntL x.Done : Int) + (cntL x.Certs : Int))), Verdict := { Kind := (k + 1 + 1 + 1 + 1 + (cntL x.Done : Int) + (cntL x.Certs : Int) + (cntL x.Leases : Int)), Line := (k + 1 + 1 + 1 + 1 + (cntL x.Done : Int) + (cntL x.Certs : Int) + (cntL x.Leases : Int) + 1), Sites := (mkL x.Verdict.Sites (k + 1 + 1 + 1 + 1 + (cntL x.Done : Int) + (cntL x.Certs : Int) + (cntL x.Leases : Int) + 1 + 1)) }, Log := (mkL x.Log (k + 1 + 1 + 1 + 1 + (cntL x.Done : Int) + (cntL x.Certs : Int) + (cntL x.Leases : Int) + 1 + 1 + (cntL x.Verdict.Sites : Int))) } := rfl
theorem cnt_CrdCoord (x : CrdCoord) : Mk.cnt x = 1 + 1 + 1 + 1 + (cntL x.Done) + (cntL x.Certs) + (cntL x.Leases) + 1 + 1 + (cntL x.Verdict.Sites) + (cntL x.Log) := rfl
/-- marked where it is handed over by value: its slices alone -/
def CrdCoord.mv (x : CrdCoord) (k : Int) : CrdCoord := { Up := x.Up, Epoch := x.Epoch, Seq := x.Seq, Clock := x.Clock, Done := (mkL x.Done (k)), Certs := (mkL x.Certs (k + (cntL x.Done : Int))), Leases := (mkL x.Leases (k + (cntL x.Done : Int) + (cntL x.Certs : Int))), Verdict := { Kind := x.Verdict.Kind, Line := x.Verdict.Line, Sites := (mkL x.Verdict.Sites (k + (cntL x.Done : Int) + (cntL x.Certs : Int) + (cntL x.Leases : Int))) }, Log := (mkL x.Log (k + (cntL x.Done : Int) + (cntL x.Certs : Int) + (cntL x.Leases : Int) + (cntL x.Verdict.Sites : Int))) }
def CrdCoord.cv (x : CrdCoord) : Nat := (cntL x.Done) + (cntL x.Certs) + (cntL x.Leases) + (cntL x.Verdict.Sites) + (cntL x.Log)
instance : Mk NetMsg := ⟨fun x k => { To := (k), Bent := ((k + 1) % 3 == 0), Bytes := (mkL x.Bytes (k + 1 + 1)) }, fun x => 1 + 1 + (cntL x.Bytes)⟩
theorem mark_NetMsg (x : NetMsg) (k : Int) : Mk.mark x k = { To := (k), Bent := ((k + 1) % 3 == 0), Bytes := (mkL x.Bytes (k + 1 + 1)) } := rfl
theorem cnt_NetMsg (x : NetMsg) : Mk.cnt x = 1 + 1 + (cntL x.Bytes) := rfl
/-- marked where it is handed over by value: its slices alone -/
def NetMsg.mv (x : NetMsg) (k : Int) : NetMsg := { To := x.To, Bent := x.Bent, Bytes := (mkL x.Bytes (k)) }
def NetMsg.cv (x : NetMsg) : Nat := (cntL x.Bytes)
instance : Mk WldWorld := ⟨fun x k => { Lines := (mkL x.Lines (k)), Coord := { Up := ((k + (cntL x.Lines : Int)) % 3 == 0), Epoch := (k + (cntL x.Lines : Int) + 1), Seq := (k + (cntL x.Lines : Int) + 1 + 1), Clock := (k + (cntL x.Lines : Int) + 1 + 1 + 1), Done := (mkL x.Coord.Done (k + (cntL x.Lines : Int) + 1 + 1 + 1 + 1)), Certs := (mkL x.Coord.Certs (k + (cntL x.Lines : Int) + 1 + 1 + 1 + 1 + (cntL x.Coord.Done : Int))), Leases := (mkL x.Coord.Leases (k + (cntL x.Lines : Int) + 1 + 1 + 1 + 1 + (cntL x.Coord.Done : Int) + (cntL x.Coord.Certs : Int))), Verdict := { Kind := (k + (cntL x.Lines : Int) + 1 + 1 + 1 + 1 + (cntL x.Coord.Done : Int) + (cntL x.Coord.Certs : Int) + (cntL x.Coord.Leases : Int)), Line := (k + (cntL x.Lines : Int) + 1 + 1 + 1 + 1 + (cntL x.Coord.Done : Int) + (cntL x.Coord.Certs : Int) + (cntL x.Coord.Leases : Int) + 1), Sites := (mkL x.Coord.Verdict.Sites (k + (cntL x.Lines : Int) + 1 + 1 + 1 + 1 + (cntL x.Coord.Done : Int) + (cntL x.Coord.Certs : Int) + (cntL x.Coord.Leases : Int) + 1 + 1)) }, Log := (mkL x.Coord.Log (k + (cntL x.Lines : Int) + 1 + 1 + 1 + 1 + (cntL x.Coord.Done : Int) + (cntL x.Coord.Certs : Int) + (cntL x.Coord.Leases : Int) + 1 + 1 + (cntL x.Coord.Verdict.Sites : Int))) }, Workers := (mkL x.Workers (k + (cntL x.Lines : Int) + 1 + 1 + 1 + 1 + (cntL x.Coord.Done : Int) + (cntL x.Coord.Certs : Int) + (cntL x.Coord.Leases : Int) + 1 + 1 + (cntL x.Coord.Verdict.Sites : Int) + (cntL x.Coord.Log : Int))), Net := (mkL x.Net (k + (cntL x.Lines : Int) + 1 + 1 + 1 + 1 + (cntL x.Coord.Done : Int) + (cntL x.Coord.Certs : Int) + (cntL x.Coord.Leases : Int) + 1 + 1 + (cntL x.Coord.Verdict.Sites : Int) + (cntL x.Coord.Log : Int) + (cntL x.Workers : Int))), Told := (mkL x.Told (k + (cntL x.Lines : Int) + 1 + 1 + 1 + 1 + (cntL x.Coord.Done : Int) + (cntL x.Coord.Certs : Int) + (cntL x.Coord.Leases : Int) + 1 + 1 + (cntL x.Coord.Verdict.Sites : Int) + (cntL x.Coord.Log : Int) + (cntL x.Workers : Int) + (cntL x.Net : Int))) }, fun x => (cntL x.Lines) + 1 + 1 + 1 + 1 + (cntL x.Coord.Done) + (cntL x.Coord.Certs) + (cntL x.Coord.Leases) + 1 + 1 + (cntL x.Coord.Verdict.Sites) + (cntL x.Coord.Log) + (cntL x.Workers) + (cntL x.Net) + (cntL x.Told)⟩
theorem mark_WldWorld (x : WldWorld) (k : Int) : Mk.mark x k = { Lines := (mkL x.Lines (k)), Coord := { Up := ((k + (cntL x.Lines : Int)) % 3 == 0), Epoch := (k + (cntL x.Lines : Int) + 1), Seq := (k + (cntL x.Lines : Int) + 1 + 1), Clock := (k + (cntL x.Lines : Int) + 1 + 1 + 1), Done := (mkL x.Coord.Done (k + (cntL x.Lines : Int) + 1 + 1 + 1 + 1)), Certs := (mkL x.Coord.Certs (k + (cntL x.Lines : Int) + 1 + 1 + 1 + 1 + (cntL x.Coord.Done : Int))), Leases := (mkL x.Coord.Leases (k + (cntL x.Lines : Int) + 1 + 1 + 1 + 1 + (cntL x.Coord.Done : Int) + (cntL x.Coord.Certs : Int))), Verdict := { Kind := (k + (cntL x.Lines : Int) + 1 + 1 + 1 + 1 + (cntL x.Coord.Done : Int) + (cntL x.Coord.Certs : Int) + (cntL x.Coord.Leases : Int)), Line := (k + (cntL x.Lines : Int) + 1 + 1 + 1 + 1 + (cntL x.Coord.Done : Int) + (cntL x.Coord.Certs : Int) + (cntL x.Coord.Leases : Int) + 1), Sites := (mkL x.Coord.Verdict.Sites (k + (cntL x.Lines : Int) + 1 + 1 + 1 + 1 + (cntL x.Coord.Done : Int) + (cntL x.Coord.Certs : Int) + (cntL x.Coord.Leases : Int) + 1 + 1)) }, Log := (mkL x.Coord.Log (k + (cntL x.Lines : Int) + 1 + 1 + 1 + 1 + (cntL x.Coord.Done : Int) + (cntL x.Coord.Certs : Int) + (cntL x.Coord.Leases : Int) + 1 + 1 + (cntL x.Coord.Verdict.Sites : Int))) }, Workers := (mkL x.Workers (k + (cntL x.Lines : Int) + 1 + 1 + 1 + 1 + (cntL x.Coord.Done : Int) + (cntL x.Coord.Certs : Int) + (cntL x.Coord.Leases : Int) + 1 + 1 + (cntL x.Coord.Verdict.Sites : Int) + (cntL x.Coord.Log : Int))), Net := (mkL x.Net (k + (cntL x.Lines : Int) + 1 + 1 + 1 + 1 + (cntL x.Coord.Done : Int) + (cntL x.Coord.Certs : Int) + (cntL x.Coord.Leases : Int) + 1 + 1 + (cntL x.Coord.Verdict.Sites : Int) + (cntL x.Coord.Log : Int) + (cntL x.Workers : Int))), Told := (mkL x.Told (k + (cntL x.Lines : Int) + 1 + 1 + 1 + 1 + (cntL x.Coord.Done : Int) + (cntL x.Coord.Certs : Int) + (cntL x.Coord.Leases : Int) + 1 + 1 + (cntL x.Coord.Verdict.Sites : Int) + (cntL x.Coord.Log : Int) + (cntL x.Workers : Int) + (cntL x.Net : Int))) } := rfl
theorem cnt_WldWorld (x : WldWorld) : Mk.cnt x = (cntL x.Lines) + 1 + 1 + 1 + 1 + (cntL x.Coord.Done) + (cntL x.Coord.Certs) + (cntL x.Coord.Leases) + 1 + 1 + (cntL x.Coord.Verdict.Sites) + (cntL x.Coord.Log) + (cntL x.Workers) + (cntL x.Net) + (cntL x.Told) := rfl
/-- marked where it is handed over by value: its slices alone -/
def WldWorld.mv (x : WldWorld) (k : Int) : WldWorld := { Lines := (mkL x.Lines (k)), Coord := { Up := x.Coord.Up, Epoch := x.Coord.Epoch, Seq := x.Coord.Seq, Clock := x.Coord.Clock, Done := (mkL x.Coord.Done (k + (cntL x.Lines : Int))), Certs := (mkL x.Coord.Certs (k + (cntL x.Lines : Int) + (cntL x.Coord.Done : Int))), Leases := (mkL x.Coord.Leases (k + (cntL x.Lines : Int) + (cntL x.Coord.Done : Int) + (cntL x.Coord.Certs : Int))), Verdict := { Kind := x.Coord.Verdict.Kind, Line := x.Coord.Verdict.Line, Sites := (mkL x.Coord.Verdict.Sites (k + (cntL x.Lines : Int) + (cntL x.Coord.Done : Int) + (cntL x.Coord.Certs : Int) + (cntL x.Coord.Leases : Int))) }, Log := (mkL x.Coord.Log (k + (cntL x.Lines : Int) + (cntL x.Coord.Done : Int) + (cntL x.Coord.Certs : Int) + (cntL x.Coord.Leases : Int) + (cntL x.Coord.Verdict.Sites : Int))) }, Workers := (mkL x.Workers (k + (cntL x.Lines : Int) + (cntL x.Coord.Done : Int) + (cntL x.Coord.Certs : Int) + (cntL x.Coord.Leases : Int) + (cntL x.Coord.Verdict.Sites : Int) + (cntL x.Coord.Log : Int))), Net := (mkL x.Net (k + (cntL x.Lines : Int) + (cntL x.Coord.Done : Int) + (cntL x.Coord.Certs : Int) + (cntL x.Coord.Leases : Int) + (cntL x.Coord.Verdict.Sites : Int) + (cntL x.Coord.Log : Int) + (cntL x.Workers : Int))), Told := (mkL x.Told (k + (cntL x.Lines : Int) + (cntL x.Coord.Done : Int) + (cntL x.Coord.Certs : Int) + (cntL x.Coord.Leases : Int) + (cntL x.Coord.Verdict.Sites : Int) + (cntL x.Coord.Log : Int) + (cntL x.Workers : Int) + (cntL x.Net : Int))) }
def WldWorld.cv (x : WldWorld) : Nat := (cntL x.Lines) + (cntL x.Coord.Done) + (cntL x.Coord.Certs) + (cntL x.Coord.Leases) + (cntL x.Coord.Verdict.Sites) + (cntL x.Coord.Log) + (cntL x.Workers) + (cntL x.Net) + (cntL x.Told)
instance : Mk EvEvent := ⟨fun x k => { Kind := (k), At := (k + 1), Pos := (k + 1 + 1), V := (k + 1 + 1 + 1), Bytes := (mkL x.Bytes (k + 1 + 1 + 1 + 1)) }, fun x => 1 + 1 + 1 + 1 + (cntL x.Bytes)⟩
theorem mark_EvEvent (x : EvEvent) (k : Int) : Mk.mark x k = { Kind := (k), At := (k + 1), Pos := (k + 1 + 1), V := (k + 1 + 1 + 1), Bytes := (mkL x.Bytes (k + 1 + 1 + 1 + 1)) } := rfl
theorem cnt_EvEvent (x : EvEvent) : Mk.cnt x = 1 + 1 + 1 + 1 + (cntL x.Bytes) := rfl
/-- marked where it is handed over by value: its slices alone -/
def EvEvent.mv (x : EvEvent) (k : Int) : EvEvent := { Kind := x.Kind, At := x.At, Pos := x.Pos, V := x.V, Bytes := (mkL x.Bytes (k)) }
def EvEvent.cv (x : EvEvent) : Nat := (cntL x.Bytes)
instance : Mk RunFrame := ⟨fun x k => { Proc := (k), Pc := (k + 1), Vars := (mkL x.Vars (k + 1 + 1)), Cells := (mkL x.Cells (k + 1 + 1 + (cntL x.Vars : Int))) }, fun x => 1 + 1 + (cntL x.Vars) + (cntL x.Cells)⟩
theorem mark_RunFrame (x : RunFrame) (k : Int) : Mk.mark x k = { Proc := (k), Pc := (k + 1), Vars := (mkL x.Vars (k + 1 + 1)), Cells := (mkL x.Cells (k + 1 + 1 + (cntL x.Vars : Int))) } := rfl
theorem cnt_RunFrame (x : RunFrame) : Mk.cnt x = 1 + 1 + (cntL x.Vars) + (cntL x.Cells) := rfl
/-- marked where it is handed over by value: its slices alone -/
def RunFrame.mv (x : RunFrame) (k : Int) : RunFrame := { Proc := x.Proc, Pc := x.Pc, Vars := (mkL x.Vars (k)), Cells := (mkL x.Cells (k + (cntL x.Vars : Int))) }
def RunFrame.cv (x : RunFrame) : Nat := (cntL x.Vars) + (cntL x.Cells)
instance : Mk RunRun := ⟨fun x k => { State := (k), Frames := (mkL x.Frames (k + 1)), Out := (k + 1 + (cntL x.Frames : Int)), Proc := (k + 1 + (cntL x.Frames : Int) + 1), Pc := (k + 1 + (cntL x.Frames : Int) + 1 + 1) }, fun x => 1 + (cntL x.Frames) + 1 + 1 + 1⟩
theorem mark_RunRun (x : RunRun) (k : Int) : Mk.mark x k = { State := (k), Frames := (mkL x.Frames (k + 1)), Out := (k + 1 + (cntL x.Frames : Int)), Proc := (k + 1 + (cntL x.Frames : Int) + 1), Pc := (k + 1 + (cntL x.Frames : Int) + 1 + 1) } := rfl
theorem cnt_RunRun (x : RunRun) : Mk.cnt x = 1 + (cntL x.Frames) + 1 + 1 + 1 := rfl
/-- marked where it is handed over by value: its slices alone -/
def RunRun.mv (x : RunRun) (k : Int) : RunRun := { State := x.State, Frames := (mkL x.Frames (k)), Out := x.Out, Proc := x.Proc, Pc := x.Pc }
def RunRun.cv (x : RunRun) : Nat := (cntL x.Frames)
instance : Mk AbsEdge := ⟨fun x k => { To := (k), State := { On := ((k + 1) % 3 == 0), Vars := (mkL x.State.Vars (k + 1 + 1)), Cells := { Lo := (k + 1 + 1 + (cntL x.State.Vars : Int)), Hi := (k + 1 + 1 + (cntL x.State.Vars : Int) + 1) } } }, fun x => 1 + 1 + (cntL x.State.Vars) + 1 + 1⟩
theorem mark_AbsEdge (x : AbsEdge) (k : Int) : Mk.mark x k = { To := (k), State := { On := ((k + 1) % 3 == 0), Vars := (mkL x.State.Vars (k + 1 + 1)), Cells := { Lo := (k + 1 + 1 + (cntL x.State.Vars : Int)), Hi := (k + 1 + 1 + (cntL x.State.Vars : Int) + 1) } } } := rfl
theorem cnt_AbsEdge (x : AbsEdge) : Mk.cnt x = 1 + 1 + (cntL x.State.Vars) + 1 + 1 := rfl
/-- marked where it is handed over by value: its slices alone -/
def AbsEdge.mv (x : AbsEdge) (k : Int) : AbsEdge := { To := x.To, State := { On := x.State.On, Vars := (mkL x.State.Vars (k)), Cells := { Lo := x.State.Cells.Lo, Hi := x.State.Cells.Hi } } }
def AbsEdge.cv (x : AbsEdge) : Nat := (cntL x.State.Vars)
instance : Zr CrtSite := ⟨{ Proc := 0, Pc := 0 }, [.int .i64 0, .int .i64 0], fun _ => R_CrtSite.2 ⟨rfl, by simp, I64_0, I64_0⟩⟩
instance : Zr VrdVerdict := ⟨{ Kind := 0, Line := 0, Sites := [] }, [.int .i64 0, .int .i64 0, .slice none 0 0], fun _ => R_VrdVerdict.2 ⟨_, [], rfl, by simp, I64_0, I64_0, RL.nil_⟩⟩
instance : Zr InsIns := ⟨{ Op := 0, D := 0, A := 0, B := 0, Rel := 0, Lo := 0, Hi := 0, To := 0 }, [.int .i64 0, .int .i64 0, .int .i64 0, .int .i64 0, .int .i64 0, .int .i64 0, .int .i64 0, .int .i64 0], fun _ => R_InsIns.2 ⟨rfl, by simp, I64_0, I64_0, I64_0, I64_0, I64_0, I64_0, I64_0, I64_0⟩⟩
instance : Zr PrcProc := ⟨{ Lo := 0, Hi := 0, Code := [] }, [.int .i64 0, .int .i64 0, .slice none 0 0], fun _ => R_PrcProc.2 ⟨_, [], rfl, by simp, I64_0, I64_0, RL.nil_⟩⟩
instance : Zr PrgProg := ⟨{ Procs := [] }, [.slice none 0 0], fun _ => R_PrgProg.2 ⟨_, [], rfl, by simp, RL.nil_⟩⟩
instance : Zr ItvItv := ⟨{ Lo := 0, Hi := 0 }, [.int .i64 0, .int .i64 0], fun _ => R_ItvItv.2 ⟨rfl, by simp, I64_0, I64_0⟩⟩
instance : Zr AbsState := ⟨{ On := false, Vars := [], Cells := { Lo := 0, Hi := 0 } }, [.bool false, .slice none 0 0, .int .i64 0, .int .i64 0], fun _ => R_AbsState.2 ⟨_, [], rfl, by simp, RL.nil_, I64_0, I64_0⟩⟩
instance : Zr SumSum := ⟨{ On := false, Out := { Lo := 0, Hi := 0 } }, [.bool false, .int .i64 0, .int .i64 0], fun _ => R_SumSum.2 ⟨rfl, by simp, I64_0, I64_0⟩⟩
instance : Zr CrtCert := ⟨{ States := [], Outs := [] }, [.slice none 0 0, .slice none 0 0], fun _ => R_CrtCert.2 ⟨_, [], _, [], rfl, by simp, RL.nil_, RL.nil_⟩⟩
instance : Zr MsgMsg := ⟨{ Kind := 0, Who := 0, Part := 0, Epoch := 0, Seq := 0, Sums := [], Cert := { States := [], Outs := [] } }, [.int .i64 0, .int .i64 0, .int .i64 0, .int .i64 0, .int .i64 0, .slice none 0 0, .slice none 0 0, .slice none 0 0], fun _ => R_MsgMsg.2 ⟨_, [], _, [], _, [], rfl, by simp, I64_0, I64_0, I64_0, I64_0, I64_0, RL.nil_, RL.nil_, RL.nil_⟩⟩
instance : Zr EngEng := ⟨{ Phase := 0, Round := 0, Cert := { States := [], Outs := [] } }, [.int .i64 0, .int .i64 0, .slice none 0 0, .slice none 0 0], fun _ => R_EngEng.2 ⟨_, [], _, [], rfl, by simp, I64_0, I64_0, RL.nil_, RL.nil_⟩⟩
instance : Zr WrkWorker := ⟨{ Up := false, Busy := false, Part := 0, Epoch := 0, Seq := 0, Sums := [], Eng := { Phase := 0, Round := 0, Cert := { States := [], Outs := [] } } }, [.bool false, .bool false, .int .i64 0, .int .i64 0, .int .i64 0, .slice none 0 0, .int .i64 0, .int .i64 0, .slice none 0 0, .slice none 0 0], fun _ => R_WrkWorker.2 ⟨_, [], _, [], _, [], rfl, by simp, I64_0, I64_0, I64_0, RL.nil_, I64_0, I64_0, RL.nil_, RL.nil_⟩⟩
instance : Zr JrnRec := ⟨{ Kind := 0, N := 0, Cert := { States := [], Outs := [] }, Verdict := { Kind := 0, Line := 0, Sites := [] } }, [.int .i64 0, .int .i64 0, .slice none 0 0, .slice none 0 0, .int .i64 0, .int .i64 0, .slice none 0 0], fun _ => R_JrnRec.2 ⟨_, [], _, [], _, [], rfl, by simp, I64_0, I64_0, RL.nil_, RL.nil_, I64_0, I64_0, RL.nil_⟩⟩
instance : Zr CrdLease := ⟨{ Part := 0, Who := 0, Seq := 0, Due := 0 }, [.int .i64 0, .int .i64 0, .int .i64 0, .int .i64 0], fun _ => R_CrdLease.2 ⟨rfl, by simp, I64_0, I64_0, I64_0, I64_0⟩⟩
instance : Zr CrdCoord := ⟨{ Up := false, Epoch := 0, Seq := 0, Clock := 0, Done := [], Certs := [], Leases := [], Verdict := { Kind := 0, Line := 0, Sites := [] }, Log := [] }, [.bool false, .int .i64 0, .int .i64 0, .int .i64 0, .slice none 0 0, .slice none 0 0, .slice none 0 0, .int .i64 0, .int .i64 0, .slice none 0 0, .slice none 0 0], fun _ => R_CrdCoord.2 ⟨_, [], _, [], _, [], _, [], _, [], rfl, by simp, I64_0, I64_0, I64_0, RL.nil_, RL.nil_, RL.nil_, I64_0, I64_0, RL.nil_, RL.nil_⟩⟩
instance : Zr NetMsg := ⟨{ To := 0, Bent := false, Bytes := [] }, [.int .i64 0, .bool false, .slice none 0 0], fun _ => R_NetMsg.2 ⟨_, [], rfl, by simp, I64_0, RL.nil_⟩⟩
instance : Zr WldWorld := ⟨{ Lines := [], Coord := { Up := false, Epoch := 0, Seq := 0, Clock := 0, Done := [], Certs := [], Leases := [], Verdict := { Kind := 0, Line := 0, Sites := [] }, Log := [] }, Workers := [], Net := [], Told := [] }, [.slice none 0 0, .bool false, .int .i64 0, .int .i64 0, .int .i64 0, .slice none 0 0, .slice none 0 0, .slice none 0 0, .int .i64 0, .int .i64 0, .slice none 0 0, .slice none 0 0, .slice none 0 0, .slice none 0 0, .slice none 0 0], fun _ => R_WldWorld.2 ⟨_, [], _, [], _, [], _, [], _, [], _, [], _, [], _, [], _, [], rfl, by simp, RL.nil_, I64_0, I64_0, I64_0, RL.nil_, RL.nil_, RL.nil_, I64_0, I64_0, RL.nil_, RL.nil_, RL.nil_, RL.nil_, RL.nil_⟩⟩
instance : Zr EvEvent := ⟨{ Kind := 0, At := 0, Pos := 0, V := 0, Bytes := [] }, [.int .i64 0, .int .i64 0, .int .i64 0, .int .i64 0, .slice none 0 0], fun _ => R_EvEvent.2 ⟨_, [], rfl, by simp, I64_0, I64_0, I64_0, I64_0, RL.nil_⟩⟩
instance : Zr RunFrame := ⟨{ Proc := 0, Pc := 0, Vars := [], Cells := [] }, [.int .i64 0, .int .i64 0, .slice none 0 0, .slice none 0 0], fun _ => R_RunFrame.2 ⟨_, [], _, [], rfl, by simp, I64_0, I64_0, RL.nil_, RL.nil_⟩⟩
instance : Zr RunRun := ⟨{ State := 0, Frames := [], Out := 0, Proc := 0, Pc := 0 }, [.int .i64 0, .slice none 0 0, .int .i64 0, .int .i64 0, .int .i64 0], fun _ => R_RunRun.2 ⟨_, [], rfl, by simp, I64_0, RL.nil_, I64_0, I64_0, I64_0⟩⟩
instance : Zr AbsEdge := ⟨{ To := 0, State := { On := false, Vars := [], Cells := { Lo := 0, Hi := 0 } } }, [.int .i64 0, .bool false, .slice none 0 0, .int .i64 0, .int .i64 0], fun _ => R_AbsEdge.2 ⟨_, [], rfl, by simp, I64_0, RL.nil_, I64_0, I64_0⟩⟩
instance : Sz CrtSite := ⟨fun x => 0⟩
theorem size_CrtSite (x : CrtSite) : Sz.size x = 0 := rfl
instance : Sz VrdVerdict := ⟨fun x => szL x.Sites⟩
theorem size_VrdVerdict (x : VrdVerdict) : Sz.size x = szL x.Sites := rfl
instance : Sz InsIns := ⟨fun x => 0⟩
theorem size_InsIns (x : InsIns) : Sz.size x = 0 := rfl
instance : Sz PrcProc := ⟨fun x => szL x.Code⟩
theorem size_PrcProc (x : PrcProc) : Sz.size x = szL x.Code := rfl
instance : Sz PrgProg := ⟨fun x => szL x.Procs⟩
theorem size_PrgProg (x : PrgProg) : Sz.size x = szL x.Procs := rfl
instance : Sz ItvItv := ⟨fun x => 0⟩
theorem size_ItvItv (x : ItvItv) : Sz.size x = 0 := rfl
instance : Sz AbsState := ⟨fun x => szL x.Vars⟩
theorem size_AbsState (x : AbsState) : Sz.size x = szL x.Vars := rfl
instance : Sz SumSum := ⟨fun x => 0⟩
theorem size_SumSum (x : SumSum) : Sz.size x = 0 := rfl
instance : Sz CrtCert := ⟨fun x => szL x.States + szL x.Outs⟩
theorem size_CrtCert (x : CrtCert) : Sz.size x = szL x.States + szL x.Outs := rfl
instance : Sz MsgMsg := ⟨fun x => szL x.Sums + szL x.Cert.States + szL x.Cert.Outs⟩
theorem size_MsgMsg (x : MsgMsg) : Sz.size x = szL x.Sums + szL x.Cert.States + szL x.Cert.Outs := rfl
instance : Sz EngEng := ⟨fun x => szL x.Cert.States + szL x.Cert.Outs⟩
theorem size_EngEng (x : EngEng) : Sz.size x = szL x.Cert.States + szL x.Cert.Outs := rfl
instance : Sz WrkWorker := ⟨fun x => szL x.Sums + szL x.Eng.Cert.States + szL x.Eng.Cert.Outs⟩
theorem size_WrkWorker (x : WrkWorker) : Sz.size x = szL x.Sums + szL x.Eng.Cert.States + szL x.Eng.Cert.Outs := rfl
instance : Sz JrnRec := ⟨fun x => szL x.Cert.States + szL x.Cert.Outs + szL x.Verdict.Sites⟩
theorem size_JrnRec (x : JrnRec) : Sz.size x = szL x.Cert.States + szL x.Cert.Outs + szL x.Verdict.Sites := rfl
instance : Sz CrdLease := ⟨fun x => 0⟩
theorem size_CrdLease (x : CrdLease) : Sz.size x = 0 := rfl
instance : Sz CrdCoord := ⟨fun x => szL x.Done + szL x.Certs + szL x.Leases + szL x.Verdict.Sites + szL x.Log⟩
theorem size_CrdCoord (x : CrdCoord) : Sz.size x = szL x.Done + szL x.Certs + szL x.Leases + szL x.Verdict.Sites + szL x.Log := rfl
instance : Sz NetMsg := ⟨fun x => szL x.Bytes⟩
theorem size_NetMsg (x : NetMsg) : Sz.size x = szL x.Bytes := rfl
instance : Sz WldWorld := ⟨fun x => szL x.Lines + szL x.Coord.Done + szL x.Coord.Certs + szL x.Coord.Leases + szL x.Coord.Verdict.Sites + szL x.Coord.Log + szL x.Workers + szL x.Net + szL x.Told⟩
theorem size_WldWorld (x : WldWorld) : Sz.size x = szL x.Lines + szL x.Coord.Done + szL x.Coord.Certs + szL x.Coord.Leases + szL x.Coord.Verdict.Sites + szL x.Coord.Log + szL x.Workers + szL x.Net + szL x.Told := rfl
instance : Sz EvEvent := ⟨fun x => szL x.Bytes⟩
theorem size_EvEvent (x : EvEvent) : Sz.size x = szL x.Bytes := rfl
instance : Sz RunFrame := ⟨fun x => szL x.Vars + szL x.Cells⟩
theorem size_RunFrame (x : RunFrame) : Sz.size x = szL x.Vars + szL x.Cells := rfl
instance : Sz RunRun := ⟨fun x => szL x.Frames⟩
theorem size_RunRun (x : RunRun) : Sz.size x = szL x.Frames := rfl
instance : Sz AbsEdge := ⟨fun x => szL x.State.Vars⟩
theorem size_AbsEdge (x : AbsEdge) : Sz.size x = szL x.State.Vars := rfl
end Ow
