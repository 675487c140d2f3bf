/- InstrChecks: the law returns true of whatever code reads. -/
import Derived.Test.YtcpjjnikehcleaaPc
import Derived.Test.YtcpjjnikehcleaaOp
namespace Go.Proofs.Ytcpjjnikehcleaa.Op
open Go.ChangeShapes Go.WideShapes Go.RowKit Go.Deep PChk Go.Proofs.YtcpjjnikehcleaaW.PrintWords Go.Proofs.YtcpjjnikehcleaaW.PrintLast Go.Proofs.YtcpjjnikehcleaaW.PrintMore
set_option linter.unusedVariables false
set_option linter.unusedSimpArgs false
variable {H : Type} {enc : TypeId × Value → H}
/-- Code that reads, as the laws take it. -/
def Code (W : World) (A : Option Addr) (l : List S36) : Prop := Kd.C k36 W A l.length l ∧ Rt.bytesB l = true ∧ ∀ x ∈ l, Wf x
theorem open_code2 {W : World} {base : Nat} {spare : Nat → Bool} {held : Bool} {a : Option Addr} {n c : Nat} {d : DataW H} {p : List MemPlace} (h : DataW.Trod enc Try.prog W base spare held 22 (.slice a n c) d p) :
    ∃ (A : Option Addr) (c' : Nat) (l : List S36), Value.slice a n c = .slice A l.length c' ∧ l.length ≤ c' ∧ Code W A l := by
  obtain ⟨A, c', l, h1, h2, h3, h4, h5⟩ := open_code' h
  exact ⟨A, c', l, h1, h2, h3, h4, h5⟩
theorem checks_calls (W : World) (A : Option Addr) (c : Nat) (l : List S36) (p : Int) (h : Code W A l) (hc : l.length ≤ c) :
    Calls Try.prog 3 #[.slice A l.length c, .int .i64 p] W fun e w' => e = .returned (.bool true) ∧ Below W.heap.size W w' := by
  obtain ⟨k, hk⟩ := Rt.checks_true h.2.1 p
  exact prompterlaw14_InstrChecks.calls k A c l p true W h.1 hc hk
end Go.Proofs.Ytcpjjnikehcleaa.Op
