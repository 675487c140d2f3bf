/- InstrWays: the law returns true of whatever code reads. -/
import Derived.Test.YtcpjjnikehcleaaPw
import Derived.Test.YtcpjjnikehcleaaOp
import Derived.Deep.Grids
namespace Go.Proofs.Ytcpjjnikehcleaa.Op
open Go.ChangeShapes Go.WideShapes Go.RowKit Go.Deep PChk Go.Proofs.YtcpjjnikehcleaaW.PrintWords Go.Proofs.YtcpjjnikehcleaaW.PrintLast Go.Proofs.YtcpjjnikehcleaaW.PrintMore
set_option linter.unusedVariables false
set_option linter.unusedSimpArgs false
variable {H : Type} {enc : TypeId × Value → H}
/-- Code that reads, as the laws take it. -/
def Code (W : World) (A : Option Addr) (l : List S36) : Prop := Kd.C k36 W A l.length l ∧ Rt.bytesB l = true ∧ ∀ x ∈ l, Wf x
theorem open_code2 {W : World} {base : Nat} {spare : Nat → Bool} {held : Bool} {a : Option Addr} {n c : Nat} {d : DataW H} {p : List MemPlace} (h : DataW.Trod enc Try.prog W base spare held 22 (.slice a n c) d p) :
    ∃ (A : Option Addr) (c' : Nat) (l : List S36), Value.slice a n c = .slice A l.length c' ∧ l.length ≤ c' ∧ Code W A l := by
  obtain ⟨A, c', l, h1, h2, h3, h4, h5⟩ := open_code' h
  exact ⟨A, c', l, h1, h2, h3, h4, h5⟩
theorem open_turns {W : World} {base : Nat} {held : Bool} {a : Option Addr} {n c : Nat} {d : DataW H} {p : List MemPlace} (h : DataW.Trod enc Try.prog W base (fun _ => true) held 34 (.slice a n c) d p) :
    ∃ (A : Option Addr) (c' : Nat) (l : List Bool), Value.slice a n c = .slice A l.length c' ∧ l.length ≤ c' ∧ Kd.C Kd.bool W A l.length l := by
  obtain ⟨fuel, hf⟩ := h
  have hf2 : DataW.trod enc Try.prog W base (fun _ => true) held fuel 34 [.slice a n c] = some (d, p) := by simpa [Value.cells] using hf
  rcases open_bools Try.underlying34 Try.underlying4 (by kernel_rfl) hf2 with ⟨hcs, -⟩ | ⟨a', len, cap, B, hcs, -, hl, hm, -, hx⟩
  · simp at hcs
    obtain ⟨rfl, rfl, rfl⟩ := hcs
    exact ⟨none, 0, [], rfl, Nat.le_refl _, Kd.C_nil _ _⟩
  · simp at hcs
    obtain ⟨rfl, rfl, rfl⟩ := hcs
    refine ⟨some a', c, (List.range n).map B, by simp, by simpa using hl, ?_⟩
    refine Kd.C_of_reads (d := false) (h1 := fun _ => rfl) ⟨rfl, by simp; unfold maxLen at hm; omega, fun hp => ⟨a', rfl, fun j hj => ?_⟩⟩
    have hj' : j < n := by simpa using hj
    rw [hx j (by omega)]
    simp [List.getD_eq_getElem?_getD, hj']
theorem ways_calls (W : World) (A : Option Addr) (c : Nat) (l : List S36) (p : Int) (A2 : Option Addr) (c2 : Nat) (ts : List Bool) (h : Code W A l) (hc : l.length ≤ c) (h2 : Kd.C Kd.bool W A2 ts.length ts) (hc2 : ts.length ≤ c2) :
    Calls Try.prog 4 #[.slice A l.length c, .int .i64 p, .slice A2 ts.length c2] W fun e w' => e = .returned (.bool true) ∧ Below W.heap.size W w' := by
  obtain ⟨k, hk⟩ := Rt.ways_true h.2.1 p ts
  exact prompterlaw14_InstrWays.calls k A c l p A2 c2 ts true W h.1 hc h2 hc2 hk
end Go.Proofs.Ytcpjjnikehcleaa.Op
