/- Read, as the printed texts call it. -/
import Derived.Test.YtcpjjnikehcleaaS8
namespace Go.Proofs.Ytcpjjnikehcleaa.Sr
def u8B (bs : List Int) : Bool := bs.all (fun x => decide (0 ≤ x ∧ x < 256))
theorem u8_of {bs : List Int} (h : u8B bs = true) : U8 bs := fun x hx => by simpa using List.all_eq_true.1 h x hx
theorem u8B_of {bs : List Int} (h : U8 bs) : u8B bs = true := List.all_eq_true.2 (fun x hx => by simpa using h x hx)
end Go.Proofs.Ytcpjjnikehcleaa.Sr
namespace Go.Proofs.Ytcpjjnikehcleaa.PChk
open Go.RowKit Go.Proofs.YtcpjjnikehcleaaW.PrintWords Go.Proofs.YtcpjjnikehcleaaW.PrintLast Go.Proofs.YtcpjjnikehcleaaW.PrintMore
set_option linter.unusedVariables false
def instr_Read.f (l0 : List Int) : Option ((List (S36)) × Int × Int) := if Sr.u8B l0 = true then some (Sr.readP l0) else none
theorem instr_Read.calls (A0 : Option Addr) (c0 : Nat) (l0 : List Int) (r1 : List (S36)) (r2 : Int) (r3 : Int) (w : World) (hr0 : Kd.C (Kd.int .u8) w A0 l0.length l0) (hc0 : l0.length ≤ c0) (h : instr_Read.f l0 = some (r1, r2, r3)) :
    Calls Try.prog 15 #[.slice A0 l0.length c0] w fun e w' => ∃ v0_ : Value, e = .returned (.tuple #[v0_, .int .i64 r2, .int .i64 r3]) ∧ Kd.R k36 36 w' w.heap.size (fun _ => True) v0_ r1 ∧ Below w.heap.size w w' := by
  unfold instr_Read.f at h
  split at h
  · next hb =>
    have := Sr.read_calls w A0 c0 l0 hr0 hc0 (Sr.u8_of hb)
    rw [Option.some.inj h] at this
    exact this
  · cases h
end Go.Proofs.Ytcpjjnikehcleaa.PChk
