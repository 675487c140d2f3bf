/- Sums and products of numbers from 0 on are held at the greatest number. -/
import Derived.Test.YtealggjnnihejaaT6
import Derived.Test.YtealggjnnihejaaPBasex1
import Derived.Test.YtealggjnnihejaaPBasex1
namespace Go.Proofs.Ytealggjnnihejaa.PBase
open Go.RowKit Go.Shelf Go.Proofs.YtealggjnnihejaaW.PrintWords Go.Proofs.YtealggjnnihejaaW.PrintLast Go.Proofs.YtealggjnnihejaaW.PrintMore
set_option linter.unusedVariables false
set_option linter.unusedSimpArgs false
attribute [local go_sem] Oper.semAt_some

theorem add_is {a b : Int} (h0 : 0 ≤ a) (h1 : a ≤ Rt.gr) (h2 : 0 ≤ b) (h3 : b ≤ Rt.gr) : whole_Add.f 1 a b = some (Rt.sadd a b) := by
  unfold Rt.gr at h1 h3
  have hw : wrap64 (9223372036854775807 - b) = 9223372036854775807 - b := by unfold wrap64; omega
  have hs : ¬ a + b > 9223372036854775807 → wrap64 (a + b) = a + b := by intro h; unfold wrap64; omega
  unfold whole_Add.f Rt.sadd Rt.gr
  simp only [whole_Add.j0]
  rw [hw]
  by_cases c : b > 0
  · rw [if_pos c]
    by_cases d : a + b > 9223372036854775807
    · rw [if_pos (decide_eq_true (by omega)), if_pos d]
    · rw [if_neg (by rw [decide_eq_true_eq]; omega), if_neg (by omega), if_neg d, hs d]
  · rw [if_neg c, if_neg (by simp), if_neg (by omega), if_neg (by omega), hs (by omega)]
theorem mul_is {a b : Int} (h0 : 0 ≤ a) (h1 : a ≤ Rt.gr) (h2 : 0 ≤ b) (h3 : b ≤ 1000) : whole_Mul.f 2 a b = some (Rt.smul a b) := by
  unfold Rt.gr at h1
  have hp : 0 ≤ a * b := Int.mul_nonneg h0 h2
  unfold whole_Mul.f
  simp only [whole_Mul.j0, whole_Mul.j1]
  by_cases ca : a = 0
  · rw [if_pos ca, if_pos trivial]; subst ca; simp [Rt.smul, Rt.gr]
  by_cases cb : b = 0
  · subst cb; rw [if_neg ca, if_pos (by simp)]; simp [Rt.smul, Rt.gr]
  rw [if_neg ca, if_neg (by simpa using cb), if_neg (by omega), if_neg (by omega)]
  rw [if_neg (by simp), if_neg cb]
  by_cases hl : a * b ≤ 9223372036854775807
  · have e1 : wrap64 (a * b) = a * b := by unfold wrap64; omega
    have e2 : (a * b).tdiv b = a := Int.mul_tdiv_cancel a cb
    have e3 : wrap64 a = a := by unfold wrap64; omega
    rw [e1, e2, e3, if_pos rfl]
    refine congrArg some ?_
    unfold Rt.smul Rt.gr; rw [if_neg (by omega)]
  · have hc : wrap64 (a * b) ≤ 9223372036854775807 := by unfold wrap64; omega
    have hc' : -9223372036854775808 ≤ wrap64 (a * b) := by unfold wrap64; omega
    have hne : ¬ wrap64 ((wrap64 (a * b)).tdiv b) = a := by
      intro e
      generalize wrap64 (a * b) = c at *
      by_cases hn : 0 ≤ c
      · rw [Int.tdiv_eq_ediv_of_nonneg hn] at e
        have b1 : c / b ≤ c := Int.ediv_le_self _ hn
        have b2 : 0 ≤ c / b := Int.ediv_nonneg hn h2
        have e3 : wrap64 (c / b) = c / b := by unfold wrap64; omega
        rw [e3] at e
        have := Int.ediv_mul_le c cb
        rw [e] at this
        omega
      · have b2 : c.tdiv b ≤ 0 := by
          have h4 := Int.neg_tdiv c b
          have h5 : 0 ≤ (-c).tdiv b := by rw [Int.tdiv_eq_ediv_of_nonneg (by omega)]; exact Int.ediv_nonneg (by omega) h2
          omega
        have b3 : c ≤ c.tdiv b := by
          have h4 := Int.neg_tdiv c b
          have h5 : (-c).tdiv b ≤ -c := by rw [Int.tdiv_eq_ediv_of_nonneg (by omega)]; exact Int.ediv_le_self _ (by omega)
          omega
        have e3 : wrap64 (c.tdiv b) = c.tdiv b := by unfold wrap64; omega
        rw [e3] at e
        omega
    rw [if_neg hne]
    have ea : decide (a < 0) = false := decide_eq_false (by omega)
    have eb : decide (b < 0) = false := decide_eq_false (by omega)
    rw [ea, eb]
    simp [whole_end.f, Rt.smul, Rt.gr]
    omega
theorem add_calls {a b : Int} (w : World) (h0 : 0 ≤ a) (h1 : a ≤ Rt.gr) (h2 : 0 ≤ b) (h3 : b ≤ Rt.gr) : Calls Try.prog 22 #[.int .i64 a, .int .i64 b] w fun e w' => e = .returned (.int .i64 (Rt.sadd a b)) ∧ Drawn0 w w' :=
  whole_Add.calls 1 a b _ w (add_is h0 h1 h2 h3)
theorem mul2_calls {a b : Int} (w : World) (h0 : 0 ≤ a) (h1 : a ≤ Rt.gr) (h2 : 0 ≤ b) (h3 : b ≤ 1000) : Calls Try.prog 25 #[.int .i64 a, .int .i64 b] w fun e w' => e = .returned (.int .i64 (Rt.smul a b)) ∧ Drawn0 w w' :=
  whole_Mul.calls 2 a b _ w (mul_is h0 h1 h2 h3)

end Go.Proofs.Ytealggjnnihejaa.PBase
