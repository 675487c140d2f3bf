/- What the laws of retry come to: numbers and lists alone. -/
import Derived.Test.YtealggjnnihejaaPLawx1
namespace Go.Proofs.Ytealggjnnihejaa.PLaw
open Go.RowKit Go.Proofs.YtealggjnnihejaaW.PrintWords Go.Proofs.YtealggjnnihejaaW.PrintLast Go.Proofs.YtealggjnnihejaaW.PrintMore
set_option linter.unusedVariables false
set_option linter.unusedSimpArgs false

theorem awake_is : prompterlaw20_awake.f = some true := by
  have h : Rt.waitOf ⟨100, 1000, 2, 1, 5, 0, (([7] : List Int).length : Int)⟩ 4 = some (800, 0) := by
    unfold Rt.waitOf
    rw [if_pos (by decide), if_pos (by decide)]
    rfl
  unfold prompterlaw20_awake.f prompterlaw20_doubling.f retry_Wait.f
  simp only [Option.bind_some]
  rw [h]
  rfl

theorem may_is (a0 a1 a2 a3 a4 a5 : Int) (l : List Int) (hg : a1 ≤ Rt.gr) : prompterref20_May.f a0 a1 a2 a3 a4 a5 l = some (decide (Rt.okP ⟨a0, a1, a2, a3, a4, a5, (l.length : Int)⟩)) := by
  unfold prompterref20_May.f
  have hd : ∀ b : Bool, (b = true ↔ Rt.okP ⟨a0, a1, a2, a3, a4, a5, (l.length : Int)⟩) → some b = some (decide (Rt.okP ⟨a0, a1, a2, a3, a4, a5, (l.length : Int)⟩)) := fun b h => by
    refine congrArg some ?_
    by_cases hh : Rt.okP ⟨a0, a1, a2, a3, a4, a5, (l.length : Int)⟩
    · rw [decide_eq_true hh]; exact h.2 hh
    · rw [decide_eq_false hh]; cases b; rfl; exact absurd (h.1 rfl) hh
  unfold Rt.okP at hd
  dsimp only at hd
  repeat' split
  all_goals (refine hd _ ?_; simp; omega)

theorem refdrawn_is (a0 a1 a2 a3 a4 a5 : Int) (l : List Int) (x d : Int) (hg : a1 ≤ Rt.gr) (hx : x ≤ Rt.gr) (hd0 : 0 ≤ d) (hd1 : d < 4294967296) : prompterref20_Drawn.f a0 a1 a2 a3 a4 a5 l x d = Rt.drawnOf ⟨a0, a1, a2, a3, a4, a5, (l.length : Int)⟩ x d := by
  unfold Rt.drawnOf
  rw [if_pos (show a1 ≤ Rt.gr ∧ x ≤ Rt.gr ∧ 0 ≤ d ∧ d < 4294967296 from ⟨hg, hx, hd0, hd1⟩)]
  unfold prompterref20_Drawn.f
  rw [may_is _ _ _ _ _ _ _ hg, Option.bind_some]
  by_cases hok : Rt.okP ⟨a0, a1, a2, a3, a4, a5, (l.length : Int)⟩
  · rw [if_pos (decide_eq_true hok)]
    by_cases h0 : x < 0
    · rw [if_pos h0, if_neg (by omega)]
    · rw [if_neg h0, if_pos ⟨hok, by omega⟩]
      have h8 : 0 ≤ a5 := hok.2.2.2.2.2.2.2.1
      have h9 : a5 ≤ 100 := hok.2.2.2.2.2.2.2.2.1
      have hm := Rt.part_le (w := x) (by omega) h8 h9
      have hc := Rt.cut_bd (p := ⟨a0, a1, a2, a3, a4, a5, (l.length : Int)⟩) h8 h9 (w := x) (by omega) hd0 hd1
      unfold Rt.gr at hx
      refine congrArg some (Prod.ext ?_ rfl)
      show _ = x - x * a5 / 100 * d / 4294967296
      have q1 : Int.tdiv x 100 = x / 100 := Int.tdiv_eq_ediv_of_nonneg (by omega)
      have q2 : Int.tmod x 100 = x % 100 := Int.tmod_eq_emod_of_nonneg (by omega)
      have b1 : 0 ≤ x / 100 * a5 := Int.mul_nonneg (by omega) h8
      have b2 : x / 100 * a5 ≤ x / 100 * 100 := Int.mul_le_mul_of_nonneg_left h9 (by omega)
      have b3 : 0 ≤ x % 100 * a5 := Int.mul_nonneg (by omega) h8
      have b4 : x % 100 * a5 ≤ x % 100 * 100 := Int.mul_le_mul_of_nonneg_left h9 (by omega)
      have w1 : wrap64 (x / 100) = x / 100 := by unfold wrap64; omega
      have w2 : wrap64 (x / 100 * a5) = x / 100 * a5 := by unfold wrap64; omega
      have w3 : wrap64 (x % 100 * a5) = x % 100 * a5 := by unfold wrap64; omega
      have w4 : wrap64 (Int.tdiv (x % 100 * a5) 100) = x % 100 * a5 / 100 := by rw [Int.tdiv_eq_ediv_of_nonneg b3]; unfold wrap64; omega
      have w5 : wrap64 (x / 100 * a5 + x % 100 * a5 / 100) = x * a5 / 100 := by rw [Rt.hundreds x a5]; unfold wrap64; omega
      rw [q1, q2, w1, w2, w3, w4, w5]
      have hcut : x * a5 / 100 * d / 4294967296 = Rt.cutOf ⟨a0, a1, a2, a3, a4, a5, (l.length : Int)⟩ x d := rfl
      rw [hcut, ← hcut]
      obtain ⟨c0, c1⟩ := hc
      rw [← hcut] at c0 c1
      have hh := Rt.halves (x * a5 / 100) d
      generalize x * a5 / 100 = m at *
      have b5 : 0 ≤ m / 4294967296 * d := Int.mul_nonneg (by omega) hd0
      have b6 : 0 ≤ m % 4294967296 * d := Int.mul_nonneg (by omega) hd0
      have b7 : m % 4294967296 * d ≤ 4294967295 * 4294967295 := Int.mul_le_mul (by omega) (by omega) hd0 (by omega)
      have w6 : bits .and .i64 m 4294967295 = m % 4294967296 := by
        have := bits_mask .i64 63 (by decide) (fun n h0 h1 => by rw [IntKind.wrap_i64]; omega) 32 (by decide) m (by omega) (by omega)
        exact this
      have w7 : wrap64 d = d := by unfold wrap64; omega
      have w8 : IntKind.u64.wrap (m % 4294967296) = m % 4294967296 := by rw [IntKind.wrap_u64]; omega
      have w9 : IntKind.u64.wrap d = d := by rw [IntKind.wrap_u64]; omega
      have w10 : IntKind.u64.wrap (m % 4294967296 * d) = m % 4294967296 * d := by rw [IntKind.wrap_u64]; omega
      have w11 : wrap64 (m % 4294967296 * d / 4294967296) = m % 4294967296 * d / 4294967296 := by unfold wrap64; omega
      have w12 : wrap64 (m / 4294967296 * d) = m / 4294967296 * d := by unfold wrap64; omega
      have w13 : wrap64 (m / 4294967296 * d + m % 4294967296 * d / 4294967296) = m * d / 4294967296 := by rw [hh]; unfold wrap64; omega
      rw [w6, w7, w8, w9, w10, w11, w12, w13]
      unfold wrap64; omega
  · rw [if_neg (by simpa using hok), if_neg (fun h => hok h.1)]

theorem wf64 {x : Int} (h : (Lit.int .i64 x).wf = true) : -9223372036854775808 ≤ x ∧ x ≤ 9223372036854775807 := by
  simp [Lit.wf, IntKind.min, IntKind.max, IntKind.bits, IntKind.signed] at h; omega
theorem wfu32 {x : Int} (h : (Lit.int .u32 x).wf = true) : 0 ≤ x ∧ x < 4294967296 := by
  simp [Lit.wf, IntKind.min, IntKind.max, IntKind.bits, IntKind.signed] at h; omega
theorem drawn_some (p : Rt.Pol) (x d : Int) (hg : p.cap ≤ Rt.gr) (hx : x ≤ Rt.gr) (hd0 : 0 ≤ d) (hd1 : d < 4294967296) : ∃ a b, Rt.drawnOf p x d = some (a, b) := by
  unfold Rt.drawnOf
  rw [if_pos ⟨hg, hx, hd0, hd1⟩]
  split <;> exact ⟨_, _, rfl⟩
theorem policy_is (a0 a1 a2 a3 a4 a5 : Int) (l : List Int) (hl : l.length * 8 ≤ 140737488351232) : prompterlaw20_policy.f a0 a1 a2 a3 a4 a5 l = some (a0, a1, a2, a3, a4, a5, l) := if_pos (by omega)
theorem drawn_law (a0 a1 a2 a3 a4 a5 : Int) (A : Option Addr) (c : Nat) (l : List Int) (x d : Int) (W : World) (hk : Kd.C (Kd.int .i64) W A l.length l) (hc : l.length ≤ c) (w1 : (Lit.int .i64 a1).wf = true) (hl : l.length * 8 ≤ 140737488351232) (wx : (Lit.int .i64 x).wf = true) (wd : (Lit.int .u32 d).wf = true) :
    Calls Try.prog 4 #[.agg #[.int .i64 a0, .int .i64 a1, .int .i64 a2, .int .i64 a3, .int .i64 a4, .int .i64 a5, .slice A l.length c], .int .i64 x, .int .u32 d] W fun e W' => e = .returned (.bool true) ∧ Below W.heap.size W W' := by
  refine prompterlaw20_RetryDrawn.calls a0 a1 a2 a3 a4 a5 A c l x d true W hk hc ?_
  have hg : a1 ≤ Rt.gr := (wf64 w1).2
  have hx : x ≤ Rt.gr := (wf64 wx).2
  have hd := wfu32 wd
  obtain ⟨u, v, hu⟩ := drawn_some ⟨a0, a1, a2, a3, a4, a5, (l.length : Int)⟩ x d hg hx hd.1 hd.2
  unfold prompterlaw20_RetryDrawn.f
  rw [policy_is _ _ _ _ _ _ _ hl, Option.bind_some]
  unfold retry_Drawn.f
  rw [refdrawn_is _ _ _ _ _ _ _ _ _ hg hx hd.1 hd.2, awake_is]
  simp only [hu, Option.bind_some]
  simp

end Go.Proofs.Ytealggjnnihejaa.PLaw
