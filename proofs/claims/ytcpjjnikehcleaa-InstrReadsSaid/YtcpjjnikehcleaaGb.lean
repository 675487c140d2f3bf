/- Check and Depths, as the printed texts call them. -/
import Derived.Test.YtcpjjnikehcleaaGa
namespace Go.Proofs.Ytcpjjnikehcleaa.PChk
open Go.RowKit Go.Proofs.YtcpjjnikehcleaaW.PrintWords Go.Proofs.YtcpjjnikehcleaaW.PrintLast Go.Proofs.YtcpjjnikehcleaaW.PrintMore
set_option linter.unusedVariables false
def instr_Check.f (l0 : List (S36)) (a1 : Int) : Option (Int × Int × Int × Int) := if Rt.bytesB l0 = true then some (Gw.checkP l0 a1) else none
theorem instr_Check.calls (A0 : Option Addr) (c0 : Nat) (l0 : List (S36)) (a1 : Int) (r1 : Int) (r2 : Int) (r3 : Int) (r4 : Int) (w : World) (hr0 : Kd.C k36 w A0 l0.length l0) (hc0 : l0.length ≤ c0) (h : instr_Check.f l0 a1 = some (r1, r2, r3, r4)) :
    Calls Try.prog 8 #[.slice A0 l0.length c0, .int .i64 a1] w fun e w' => e = .returned (.tuple #[.int .i64 r1, .int .i64 r2, .int .i64 r3, .int .i64 r4]) ∧ Below w.heap.size w w' := by
  unfold instr_Check.f at h
  split at h
  · next hb =>
    have := Gw.check_calls w A0 c0 l0 a1 hr0 (Rt.bytes_of hb)
    rw [Option.some.inj h] at this
    exact this
  · cases h
def instr_Depths.f (l0 : List (S36)) (a1 : Int) : Option (List Int × Int) := if Rt.bytesB l0 = true then some (Gw.depthsP l0 a1) else none
theorem instr_Depths.calls (A0 : Option Addr) (c0 : Nat) (l0 : List (S36)) (a1 : Int) (r1 : List Int) (r2 : Int) (w : World) (hr0 : Kd.C k36 w A0 l0.length l0) (hc0 : l0.length ≤ c0) (h : instr_Depths.f l0 a1 = some (r1, r2)) :
    Calls Try.prog 10 #[.slice A0 l0.length c0, .int .i64 a1] w fun e w' => ∃ v0_ : Value, e = .returned (.tuple #[v0_, .int .i64 r2]) ∧ Kd.R (Kd.int .i64) 3 w' w.heap.size (fun _ => True) v0_ r1 ∧ Below w.heap.size w w' := by
  unfold instr_Depths.f at h
  split at h
  · next hb =>
    have := Gw.depths_calls w A0 c0 l0 a1 hr0 (Rt.bytes_of hb)
    rw [Option.some.inj h] at this
    exact this
  · cases h
end Go.Proofs.Ytcpjjnikehcleaa.PChk
