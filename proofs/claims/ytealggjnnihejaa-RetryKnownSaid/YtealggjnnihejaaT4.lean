/- Two words of a product; the next wait of the program is the plain one. -/
import Derived.Test.YtealggjnnihejaaT1
import Derived.Test.YtealggjnnihejaaT3
namespace Go.Proofs.Ytealggjnnihejaa.PBase
open Go.RowKit Go.Proofs.YtealggjnnihejaaW.PrintWords Go.Proofs.YtealggjnnihejaaW.PrintLast Go.Proofs.YtealggjnnihejaaW.PrintMore
set_option linter.unusedVariables false
set_option linter.unusedSimpArgs false
/-- Two halves by two halves. -/
theorem mul_words (a b : Int) (h0 : 0 ≤ a) (h1 : a < 18446744073709551616) (h2 : 0 ≤ b) (h3 : b < 18446744073709551616) :
    IntKind.u64.wrap (IntKind.u64.wrap (IntKind.u64.wrap (a / 4294967296 * (b / 4294967296)) + IntKind.u64.wrap (IntKind.u64.wrap (a / 4294967296 * bits .and .u64 b 4294967295) + IntKind.u64.wrap (bits .and .u64 a 4294967295 * bits .and .u64 b 4294967295) / 4294967296) / 4294967296) +
      IntKind.u64.wrap (bits .and .u64 (IntKind.u64.wrap (IntKind.u64.wrap (a / 4294967296 * bits .and .u64 b 4294967295) + IntKind.u64.wrap (bits .and .u64 a 4294967295 * bits .and .u64 b 4294967295) / 4294967296)) 4294967295 + IntKind.u64.wrap (bits .and .u64 a 4294967295 * (b / 4294967296))) / 4294967296) = a * b / 18446744073709551616 := by
  rw [and32 a h0 h1, and32 b h2 h3]
  obtain ⟨x, hx⟩ : ∃ x, a / 4294967296 = x := ⟨_, rfl⟩
  obtain ⟨y, hy⟩ : ∃ y, a % 4294967296 = y := ⟨_, rfl⟩
  obtain ⟨u, hu⟩ : ∃ u, b / 4294967296 = u := ⟨_, rfl⟩
  obtain ⟨v, hv⟩ : ∃ v, b % 4294967296 = v := ⟨_, rfl⟩
  have ea : a = x * 4294967296 + y := by omega
  have eb : b = u * 4294967296 + v := by omega
  have x0 : 0 ≤ x ∧ x ≤ 4294967295 := by omega
  have y0 : 0 ≤ y ∧ y ≤ 4294967295 := by omega
  have u0 : 0 ≤ u ∧ u ≤ 4294967295 := by omega
  have v0 : 0 ≤ v ∧ v ≤ 4294967295 := by omega
  have bd : ∀ p q : Int, 0 ≤ p ∧ p ≤ 4294967295 → 0 ≤ q ∧ q ≤ 4294967295 → 0 ≤ p * q ∧ p * q ≤ 18446744065119617025 := fun p q hp hq =>
    ⟨Int.mul_nonneg hp.1 hq.1, by have := Int.mul_le_mul hp.2 hq.2 hq.1 (by omega); omega⟩
  have b1 := bd x u x0 u0
  have b2 := bd x v x0 v0
  have b3 := bd y u y0 u0
  have b4 := bd y v y0 v0
  have eab : a * b = x * u * 18446744073709551616 + (x * v + y * u) * 4294967296 + y * v := by
    rw [ea, eb, Int.add_mul, Int.mul_add, Int.mul_add]
    have m1 : x * 4294967296 * (u * 4294967296) = x * u * 18446744073709551616 := by
      rw [Int.mul_assoc, Int.mul_left_comm 4294967296 u, ← Int.mul_assoc]; rfl
    have m2 : x * 4294967296 * v = x * v * 4294967296 := by rw [Int.mul_right_comm]
    have m3 : y * (u * 4294967296) = y * u * 4294967296 := by rw [Int.mul_assoc]
    rw [m1, m2, m3]; omega
  rw [hx, hy, hu, hv, eab]
  generalize x * u = p at *
  generalize x * v = q at *
  generalize y * u = r at *
  generalize y * v = s at *
  clear ea eb hx hy hu hv eab bd x0 y0 u0 v0
  have w1 : IntKind.u64.wrap (IntKind.u64.wrap q + IntKind.u64.wrap s / 4294967296) = q + s / 4294967296 := by simp only [IntKind.wrap_u64]; omega
  rw [w1, and32 _ (by omega) (by omega)]
  simp only [IntKind.wrap_u64]; omega

def MulPost (a0 a1 : Int) (w : World) (e : Ending) (w' : World) : Prop := e = .returned (.tuple #[.int .u64 (a0 * a1 / 18446744073709551616), .int .u64 (a0 * a1 % 18446744073709551616)]) ∧ Drawn0 w w'
set_option maxHeartbeats 1000000 in
set_option maxRecDepth 100000 in
theorem mul_calls (a0 a1 : Int) (w : World) (h0 : 0 ≤ a0) (h1 : a0 < 18446744073709551616) (h2 : 0 ≤ a1) (h3 : a1 < 18446744073709551616) :
    Calls Try.prog 27 #[.int .u64 a0, .int .u64 a1] w (MulPost a0 a1 w) := by
  have HM := Aside0.mk (mul_words a0 a1 h0 h1 h2 h3)
  go_enter Try.func27, Try.ntmps27
  go_wp2
  go_ret2
  exact ⟨two_are HM.out (IntKind.wrap_u64 _), by repeat (first | exact Drawn0.refl _ | apply Drawn0.step)⟩

theorem nx_over {p : Rt.Pol} {a : Int} (h : 9223372036854775807 < a * p.num) : Rt.nx p a = p.cap := by
  have : a * p.num > Rt.gr := by unfold Rt.gr; omega
  simp [Rt.nx, this]
theorem wrap_pos {a : Int} (h0 : 0 ≤ a) (h : a ≤ 9223372036854775807) : IntKind.u64.wrap a = a := by rw [IntKind.wrap_u64]; omega
set_option maxHeartbeats 1000000 in
set_option maxRecDepth 100000 in
theorem grown_calls (a0_0 : Int) (a0_1 : Int) (a0_2 : Int) (a0_3 : Int) (a0_4 : Int) (a0_5 : Int) (n : Int) (v6 : Value) (a1 : Int) (w : World) (h1 : 1 ≤ a0_2) (h2 : a0_2 ≤ 1000) (h3 : 1 ≤ a0_3) (h3' : a0_3 ≤ 1000) (h4 : 0 ≤ a1) (h5 : a1 ≤ 9223372036854775807) :
    Calls Try.prog 31 #[.agg #[.int .i64 a0_0, .int .i64 a0_1, .int .i64 a0_2, .int .i64 a0_3, .int .i64 a0_4, .int .i64 a0_5, v6], .int .i64 a1] w (NextPost ⟨a0_0, a0_1, a0_2, a0_3, a0_4, a0_5, n⟩ a1 w) := by
  have hu24 := Try.underlying24
  have hb0 : 0 ≤ a1 * a0_2 := Int.mul_nonneg h4 (by omega)
  go_enter Try.func31, Try.ntmps31
  go_wp2_with (go_at_call 27; refine (mul_calls _ _ _ (by omega) (by omega) (by omega) (by omega)).mono ?_; rintro e w' ⟨rfl, ⟨nq, rfl⟩⟩)
  · have hx : 0 < a1 * a0_2 / 18446744073709551616 ∨ 0 < a1 * a0_2 % 18446744073709551616 / 9223372036854775808 := by assumption
    go_ret
    exact ⟨ret_is (nx_over (p := ⟨a0_0, a0_1, a0_2, a0_3, a0_4, a0_5, n⟩) (show 9223372036854775807 < a1 * a0_2 by omega)).symm, by repeat (first | exact (Below.refl _ _).alloc (Nat.le_refl _) _ | apply pw_below_drewN)⟩
  · have hx : a1 * a0_2 / 18446744073709551616 ≤ 0 ∧ a1 * a0_2 % 18446744073709551616 / 9223372036854775808 ≤ 0 := by assumption
    have hb1 : a1 * a0_2 ≤ 9223372036854775807 := by omega
    have hq : a1 * a0_2 % 18446744073709551616 = a1 * a0_2 := by omega
    have hb2 : a1 * a0_2 / a0_3 ≤ 9223372036854775807 := Int.le_trans (Int.ediv_le_self _ hb0) hb1
    clear hx
    go_quiet (fail)
    all_goals
      go_wp2
    all_goals
      go_ret
    · have hx : a1 * a0_2 / a0_3 < a0_1 := by assumption
      exact ⟨ret_is (by rw [nx_lo hb1]; exact (Int.min_eq_left (Int.le_of_lt hx)).symm), by repeat (first | exact (Below.refl _ _).alloc (Nat.le_refl _) _ | apply pw_below_drewN)⟩
    · have hx : a0_1 ≤ a1 * a0_2 / a0_3 := by omega
      exact ⟨ret_is (by rw [nx_lo hb1]; exact (Int.min_eq_right hx).symm), by repeat (first | exact (Below.refl _ _).alloc (Nat.le_refl _) _ | apply pw_below_drewN)⟩
  · have hx : 0 < a1 * a0_2 / 18446744073709551616 := by assumption
    go_ret
    exact ⟨ret_is (nx_over (p := ⟨a0_0, a0_1, a0_2, a0_3, a0_4, a0_5, n⟩) (show 9223372036854775807 < a1 * a0_2 by omega)).symm, by repeat (first | exact (Below.refl _ _).alloc (Nat.le_refl _) _ | apply pw_below_drewN)⟩
end Go.Proofs.Ytealggjnnihejaa.PBase
