/- The reference's next wait is the plain one, for a policy whose numbers are in range. -/
import Derived.Test.YtealggjnnihejaaPBasex0
namespace Go.Proofs.Ytealggjnnihejaa.PBase
open Go.RowKit Go.Proofs.YtealggjnnihejaaW.PrintWords Go.Proofs.YtealggjnnihejaaW.PrintLast Go.Proofs.YtealggjnnihejaaW.PrintMore
set_option linter.unusedVariables false
set_option linter.unusedSimpArgs false
theorem ret_is {k : IntKind} {a b : Int} (h : a = b) : Ending.returned (.int k a) = .returned (.int k b) := by rw [h]
def NextPost (p : Rt.Pol) (a1 : Int) (w : World) (e : Ending) (w' : World) : Prop := e = .returned (.int .i64 (Rt.nx p a1)) ∧ Below w.heap.size w w'
theorem nx_hi {p : Rt.Pol} {a : Int} (h1 : 1 ≤ p.num) (h : 9223372036854775807 / p.num < a) : Rt.nx p a = p.cap := by
  have : a * p.num > Rt.gr := by unfold Rt.gr; have := (Int.ediv_lt_iff_lt_mul (by omega)).1 h; omega
  simp [Rt.nx, this]
theorem nx_fits {p : Rt.Pol} {a : Int} (h1 : 1 ≤ p.num) (h : a ≤ 9223372036854775807 / p.num) : a * p.num ≤ 9223372036854775807 := (Int.le_ediv_iff_mul_le (by omega)).1 h
theorem nx_lo {p : Rt.Pol} {a : Int} (h : a * p.num ≤ 9223372036854775807) : Rt.nx p a = min (a * p.num / p.den) p.cap := by
  have : ¬ a * p.num > Rt.gr := by unfold Rt.gr; omega
  simp [Rt.nx, this]
set_option maxHeartbeats 1000000 in
set_option maxRecDepth 100000 in
theorem next_calls (a0_0 : Int) (a0_1 : Int) (a0_2 : Int) (a0_3 : Int) (a0_4 : Int) (a0_5 : Int) (n : Int) (v6 : Value) (a1 : Int) (w : World) (h1 : 1 ≤ a0_2) (h2 : a0_2 ≤ 1000) (h3 : 1 ≤ a0_3) (h3' : a0_3 ≤ 1000) (h4 : 0 ≤ a1) :
    Calls Try.prog 24 #[.agg #[.int .i64 a0_0, .int .i64 a0_1, .int .i64 a0_2, .int .i64 a0_3, .int .i64 a0_4, .int .i64 a0_5, v6], .int .i64 a1] w (NextPost ⟨a0_0, a0_1, a0_2, a0_3, a0_4, a0_5, n⟩ a1 w) := by
  have hu24 := Try.underlying24
  have hp := Aside0.mk (show ∀ p : Rt.Pol, p = ⟨a0_0, a0_1, a0_2, a0_3, a0_4, a0_5, n⟩ → p.num = a0_2 from fun p h => by rw [h])
  go_enter Try.func24, Try.ntmps24
  go_wp2
  · have hlt : 9223372036854775807 / a0_2 < a1 := by assumption
    go_ret
    exact ⟨ret_is (nx_hi (p := ⟨a0_0, a0_1, a0_2, a0_3, a0_4, a0_5, n⟩) h1 hlt).symm, (Below.refl _ _).alloc (Nat.le_refl _) _⟩
  · have hle : a1 ≤ 9223372036854775807 / a0_2 := by assumption
    have hb0 : 0 ≤ a1 * a0_2 := Int.mul_nonneg h4 (by omega)
    have hb1 : a1 * a0_2 ≤ 9223372036854775807 := nx_fits (p := ⟨a0_0, a0_1, a0_2, a0_3, a0_4, a0_5, n⟩) h1 hle
    go_quiet (fail)
    all_goals
      go_wp2
    all_goals
      go_ret
    · have hx : a0_1 < a1 * a0_2 / a0_3 := by assumption
      exact ⟨ret_is (by rw [nx_lo hb1]; exact (Int.min_eq_right (Int.le_of_lt hx)).symm), by repeat (first | exact (Below.refl _ _).alloc (Nat.le_refl _) _ | apply pw_below_drewN)⟩
    · have hx : a1 * a0_2 / a0_3 ≤ a0_1 := by omega
      exact ⟨ret_is (by rw [nx_lo hb1]; exact (Int.min_eq_left hx).symm), by repeat (first | exact (Below.refl _ _).alloc (Nat.le_refl _) _ | apply pw_below_drewN)⟩
end Go.Proofs.Ytealggjnnihejaa.PBase
