/- A product of two words is divided by a hundred, for a high word below a hundred. -/
import Derived.Test.YtealggjnnihejaaPBasex0
namespace Go.Proofs.Ytealggjnnihejaa.PBase
open Go.RowKit Go.Proofs.YtealggjnnihejaaW.PrintWords Go.Proofs.YtealggjnnihejaaW.PrintLast Go.Proofs.YtealggjnnihejaaW.PrintMore
set_option linter.unusedVariables false
set_option linter.unusedSimpArgs false
set_option maxHeartbeats 1000000 in
set_option maxRecDepth 100000 in
theorem zeros_calls (w : World) :
    Calls Try.prog 36 #[.int .u64 100] w fun e w' => e = .returned (.int .i64 57) ∧ w = w' := by
  go_enter Try.func36, Try.ntmps36
  go_wp2
  go_ret
  exact ⟨by kernel_rfl, rfl⟩

theorem wraps_u64 (n : Int) (h0 : 0 ≤ n) (h1 : n < 2 ^ 64) : IntKind.u64.wrap n = n := by rw [IntKind.wrap_u64]; omega
theorem or57 (a b : Int) (h0 : 0 ≤ a) (h1 : a < 100) (h2 : 0 ≤ b) (h3 : b < 18446744073709551616) : bits .or .u64 (a * 144115188075855872) (b / 128) = a * 144115188075855872 + b / 128 :=
  bits_join .u64 64 (by decide) wraps_u64 57 _ _ (by omega) (by omega) (by omega) (by omega) (by omega) (by omega)
theorem and32 (a : Int) (h0 : 0 ≤ a) (h3 : a < 18446744073709551616) : bits .and .u64 a 4294967295 = a % 4294967296 :=
  bits_mask .u64 64 (by decide) wraps_u64 32 (by decide) a h0 (by omega)
theorem low57 (b : Int) : IntKind.u64.wrap (b * 144115188075855872) = b % 128 * 144115188075855872 := by
  rw [IntKind.wrap_u64]; omega
theorem step_low (U V : Int) (h0 : 0 ≤ U) (h1 : U < 14411518807585587200) (h2 : 0 ≤ V) (h3 : V < 4294967296) :
    IntKind.u64.wrap (IntKind.u64.wrap (IntKind.u64.wrap (U * 4294967296) + V) - IntKind.u64.wrap (U / 3355443200 * 14411518807585587200)) = U % 3355443200 * 4294967296 + V := by
  simp only [IntKind.wrap_u64]; omega
theorem step_low0 (X : Int) (h0 : 0 ≤ X) (h1 : X < 14411518807585587200) :
    IntKind.u64.wrap (IntKind.u64.wrap (IntKind.u64.wrap (X * 4294967296)) - IntKind.u64.wrap (X / 3355443200 * 14411518807585587200)) = X % 3355443200 * 4294967296 := by
  simp only [IntKind.wrap_u64]; omega
/-- The two digits of the quotient, and what is left. -/
theorem digits (a0 a1 : Int) (h0 : 0 ≤ a0) (h1 : a0 < 100) (h2 : 0 ≤ a1) (h3 : a1 < 18446744073709551616) (U V X : Int) (hU : U = a0 * 144115188075855872 + a1 / 128) (hV : V = a1 % 128 * 33554432) (hX : X = U % 3355443200 * 4294967296 + V) :
    U / 3355443200 * 4294967296 + X / 3355443200 = (a0 * 18446744073709551616 + a1) / 100 ∧ X % 3355443200 * 4294967296 / 144115188075855872 = (a0 * 18446744073709551616 + a1) % 100 := by
  have e : (a0 * 18446744073709551616 + a1) * 33554432 = U * 4294967296 + V := by omega
  have e2 : U * 4294967296 + V = U / 3355443200 * 4294967296 * 3355443200 + X := by omega
  have e3 : (a0 * 18446744073709551616 + a1) / 100 = (U * 4294967296 + V) / 3355443200 := by omega
  have e4 : (a0 * 18446744073709551616 + a1) % 100 = (U * 4294967296 + V) % 3355443200 / 33554432 := by omega
  rw [e3, e4, e2]
  constructor <;> omega
def DivPost (a0 a1 : Int) (w : World) (e : Ending) (w' : World) : Prop := e = .returned (.tuple #[.int .u64 ((a0 * 18446744073709551616 + a1) / 100), .int .u64 ((a0 * 18446744073709551616 + a1) % 100)]) ∧ Drawn0 w w'
theorem two_are {k l : IntKind} {a b c d : Int} (h : a = c) (h' : b = d) : Ending.returned (.tuple #[.int k a, .int l b]) = .returned (.tuple #[.int k c, .int l d]) := by rw [h, h']
set_option maxHeartbeats 1000000 in
set_option maxRecDepth 100000 in
theorem div_small (a1 : Int) (w : World) (h2 : 0 ≤ a1) (h3 : a1 < 18446744073709551616) :
    Calls Try.prog 28 #[.int .u64 0, .int .u64 a1, .int .u64 100] w (DivPost 0 a1 w) := by
  go_enter Try.func28, Try.ntmps28
  go_wp2_with (go_at_call 36; refine (zeros_calls _).mono ?_; rintro e w' ⟨rfl, rfl⟩)
  go_quiet (fail)
  go_wp2
  go_ret2
  exact ⟨two_are (by omega) (by omega), by repeat (first | exact Drawn0.refl _ | apply Drawn0.step)⟩
set_option maxHeartbeats 1000000 in
set_option maxRecDepth 100000 in
theorem div_great (a0 a1 : Int) (w : World) (h0 : 0 ≤ a0) (h1 : a0 < 100) (h2 : 0 ≤ a1) (h3 : a1 < 18446744073709551616) (hz : (a0 == 0) = false) :
    Calls Try.prog 28 #[.int .u64 a0, .int .u64 a1, .int .u64 100] w (DivPost a0 a1 w) := by
  have e1 := or57 a0 a1 h0 h1 h2 h3
  have e2 := low57 a1
  have e3 : bits .and .u64 14411518807585587200 4294967295 = 0 := and32 _ (by decide) (by decide)
  have e4 : bits .and .u64 (a1 % 128 * 144115188075855872) 4294967295 = 0 := by rw [and32 _ (by omega) (by omega)]; omega
  have e5 : 0 ≤ a0 * 144115188075855872 + a1 / 128 := by omega
  have e6 : a0 * 144115188075855872 + a1 / 128 < 14411518807585587200 := by omega
  have e7 : a1 % 128 * 144115188075855872 / 4294967296 = a1 % 128 * 33554432 := by omega
  obtain ⟨U, hU⟩ : ∃ U, a0 * 144115188075855872 + a1 / 128 = U := ⟨_, rfl⟩
  rw [hU] at e1 e5 e6
  obtain ⟨V, hV⟩ : ∃ V, a1 % 128 * 33554432 = V := ⟨_, rfl⟩
  rw [hV] at e7
  have v0 : 0 ≤ V := by omega
  have v1 : V < 4294967296 := by omega
  have e8 := step_low U V e5 e6 v0 v1
  obtain ⟨X, hX⟩ : ∃ X, U % 3355443200 * 4294967296 + V = X := ⟨_, rfl⟩
  rw [hX] at e8
  have x0 : 0 ≤ X := by omega
  have x1 : X < 14411518807585587200 := by omega
  have e9 := step_low0 X x0 x1
  have HD := Aside0.mk (digits a0 a1 h0 h1 h2 h3 U V X hU.symm hV.symm hX.symm)
  clear hU hV hX
  go_enter Try.func28, Try.ntmps28
  go_wp2_with (go_at_call 36; refine (zeros_calls _).mono ?_; rintro e w' ⟨rfl, rfl⟩)
  refine wp_loop_rounds 1 ?_
  rw [rounds_succ]
  go_wp2
  refine wp_loop_rounds 1 ?_
  rw [rounds_succ]
  go_wp2
  go_ret2
  exact ⟨two_are HD.out.1 HD.out.2, by repeat (first | exact Drawn0.refl _ | apply Drawn0.step)⟩
end Go.Proofs.Ytealggjnnihejaa.PBase
