/- How a policy that comes in reads: its six numbers, and its codes in a slice. -/
import Derived.Test.YtealggjnnihejaaPBasex0
import Derived.Test.YtealggjnnihejaaWSized
import Derived.Lib.SmallJoins
import Derived.WalkKit
import Derived.ProofKit
import Derived.OpenShut
import Derived.ShutString
import Derived.ChangeOld
import Derived.Below
import Derived.SizedLaws
namespace Go.Proofs.Ytealggjnnihejaa.Op
open Go.Joins Go.ChangeShapes Go.WideShapes Go.RowKit Go.Deep Go.Proofs.YtealggjnnihejaaW.PrintWords Go.Proofs.YtealggjnnihejaaW.PrintLast
set_option linter.unusedVariables false
set_option linter.unusedSimpArgs false
variable {H : Type} {enc : TypeId × Value → H}

/-- A slice of int64 that reads, and is no longer than its weight allows. -/
theorem open_codes {P : Program} {W : World} {base : Nat} {spare : Nat → Bool} {held : Bool} {t e : TypeId} {k : IntKind} {n : Nat} {v : Value} {y : DataW H × List MemPlace} {B : Nat}
    (hu : P.underlying t = some (.slice e)) (he : P.underlying e = some (.int k)) (hc : P.cellsOf e = 1) (hB : P.bytesOf e = B) (hr : ∀ m ∈ y.1.weights P t, m ≤ reachBytes)
    (h : DataW.trod enc P W base spare held n t [v] = some y) :
    ∃ (A : Option Addr) (c : Nat) (l : List Int), v = .slice A l.length c ∧ l.length ≤ c ∧ Kd.C (Kd.int k) W A l.length l ∧ l.length * B ≤ 140737488351232 ∧ (∀ x ∈ l, (Lit.int k x).wf = true) := by
  rcases open_ints hu he hc h with ⟨hcs, _⟩ | ⟨x, len, cap, zs, hcs, _, hl, hm, hz, hx, hcell, hwz⟩
  · simp at hcs
    subst hcs
    exact ⟨none, 0, [], rfl, Nat.le_refl _, Kd.C_nil _ _, by simp, by simp⟩
  · simp at hcs
    subst hcs
    have hx1 : y.1 = _ := congrArg Prod.fst hx
    have hl2 : len ≤ zs.length := by
      rw [hz]
      split
      · exact hl
      · exact Nat.le_refl _
    have hw : len * B ≤ reachBytes := by
      have h1 : (lits (H := H) k (zs.take len)).length + (lits (H := H) k (zs.drop len)).length = zs.length := by
        simp [lits]
        omega
      have := hr ((lits (H := H) k (zs.take len)).length * P.bytesOf e + (lits (H := H) k (zs.drop len)).length * P.bytesOf e) (by rw [hx1]; simp [DataW.weights, hu, Nat.add_mul])
      rw [← Nat.add_mul, h1, hB] at this
      exact Nat.le_trans (Nat.mul_le_mul_right _ hl2) this
    have e1 : (zs.take len).length = len := by rw [List.length_take]; omega
    refine ⟨some x, cap, zs.take len, by rw [e1], by rw [e1]; exact hl, ?_, by rw [e1]; exact hw, fun q hq => hwz q (List.mem_of_mem_take hq)⟩
    rw [e1]
    refine Kd.C_of_reads (d := (0 : Int)) (h1 := fun _ => rfl) ⟨e1, by unfold maxLen at hm; omega, fun hp => ⟨x, rfl, fun j hj => ?_⟩⟩
    rw [hcell j (by omega)]
    simp [List.getD_eq_getElem?_getD, hj]

/-- A policy by value. -/
theorem open_policy {W : World} {r : Reach} {b0 base : Nat} {spare : Nat → Bool} {held : Bool} {v : Value} {d : DataW H} {p : List MemPlace}
    (hv : Value.okWide Try.prog W r b0 24 v) (hr : ∀ m ∈ d.weights Try.prog 24, m ≤ reachBytes) (h : DataW.Trod enc Try.prog W base spare held 24 v d p) :
    ∃ (a0 a1 a2 a3 a4 a5 : Int) (A : Option Addr) (c : Nat) (l : List Int), v = .agg #[.int .i64 a0, .int .i64 a1, .int .i64 a2, .int .i64 a3, .int .i64 a4, .int .i64 a5, .slice A l.length c] ∧
      (Lit.int .i64 a0).wf = true ∧ (Lit.int .i64 a1).wf = true ∧ (Lit.int .i64 a2).wf = true ∧ (Lit.int .i64 a3).wf = true ∧ (Lit.int .i64 a4).wf = true ∧ (Lit.int .i64 a5).wf = true ∧
      l.length ≤ c ∧ Kd.C (Kd.int .i64) W A l.length l ∧ l.length * 8 ≤ 140737488351232 ∧ (∀ x ∈ l, (Lit.int .i64 x).wf = true) := by
  obtain ⟨cs, rfl, hsz⟩ := okWide_struct Try.underlying24 hv
  obtain ⟨l⟩ := cs
  match l, hsz.trans (show Try.prog.cellsOf 24 = 7 by kernel_rfl) with
  | [c0, c1, c2, c3, c4, c5, c6], _ =>
    obtain ⟨fuel, hf⟩ := h
    obtain ⟨xs, n, _, hx, _, hlen, hg⟩ := DataW.trod_struct Try.underlying24 hf
    match xs, hlen with
    | [y0, y1, y2, y3, y4, y5, y6], _ =>
      simp only [Prod.mk.injEq] at hx
      have k2 : Try.prog.cellsOf 2 = 1 := by kernel_rfl
      have k3 : Try.prog.cellsOf 3 = 1 := by kernel_rfl
      have k22 : Try.prog.cellsOf 22 = 1 := by kernel_rfl
      have g0 := hg 0 _ rfl
      have g1 := hg 1 _ rfl
      have g2 := hg 2 _ rfl
      have g3 := hg 3 _ rfl
      have g4 := hg 4 _ rfl
      have g5 := hg 5 _ rfl
      have g6 := hg 6 _ rfl
      simp [Value.cells, k2, k3, k22] at g0 g1 g2 g3 g4 g5 g6
      obtain ⟨a0, e0, _, w0⟩ := DataW.trod_int Try.underlying2 g0
      obtain ⟨a1, e1, _, w1⟩ := DataW.trod_int Try.underlying2 g1
      obtain ⟨a2, e2, _, w2⟩ := DataW.trod_int Try.underlying3 g2
      obtain ⟨a3, e3, _, w3⟩ := DataW.trod_int Try.underlying3 g3
      obtain ⟨a4, e4, _, w4⟩ := DataW.trod_int Try.underlying3 g4
      obtain ⟨a5, e5, _, w5⟩ := DataW.trod_int Try.underlying3 g5
      simp at e0 e1 e2 e3 e4 e5
      have hr6 : ∀ m ∈ y6.1.weights Try.prog 22, m ≤ reachBytes := fun m hm => hr m (by
        rw [hx.1]
        simp only [DataW.weights, Try.underlying24]
        simp [DataW.weightsEach, hm])
      obtain ⟨A, c, l, e6, q1, q2, q3, q4⟩ := open_codes Try.underlying22 Try.underlying2 k2 (by kernel_rfl) hr6 g6
      subst e0 e1 e2 e3 e4 e5 e6
      exact ⟨a0, a1, a2, a3, a4, a5, A, c, l, rfl, w0, w1, w2, w3, w4, w5, q1, q2, q3, q4⟩

end Go.Proofs.Ytealggjnnihejaa.Op
