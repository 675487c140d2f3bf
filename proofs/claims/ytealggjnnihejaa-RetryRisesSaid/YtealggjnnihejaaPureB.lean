/- What RetryRises comes to: numbers and lists alone. -/
import Derived.Test.YtealggjnnihejaaPure
import Derived.Test.YtealggjnnihejaaPLawx2
namespace Go.Proofs.Ytealggjnnihejaa.PLaw
open Go.RowKit Go.Proofs.YtealggjnnihejaaW.PrintWords Go.Proofs.YtealggjnnihejaaW.PrintLast Go.Proofs.YtealggjnnihejaaW.PrintMore
set_option linter.unusedVariables false
set_option linter.unusedSimpArgs false

theorem hund_is (x s : Int) (h0 : 0 ≤ x) (hx : x ≤ 9223372036854775807) (h8 : 0 ≤ s) (h9 : s ≤ 100) :
    wrap64 ((wrap64 ((wrap64 (Int.tdiv x 100)) * s)) + (wrap64 (Int.tdiv (wrap64 ((Int.tmod x 100) * s)) 100))) = x * s / 100 := by
  have q1 : Int.tdiv x 100 = x / 100 := Int.tdiv_eq_ediv_of_nonneg (by omega)
  have q2 : Int.tmod x 100 = x % 100 := Int.tmod_eq_emod_of_nonneg (by omega)
  have b1 : 0 ≤ x / 100 * s := Int.mul_nonneg (by omega) h8
  have b2 : x / 100 * s ≤ x / 100 * 100 := Int.mul_le_mul_of_nonneg_left h9 (by omega)
  have b3 : 0 ≤ x % 100 * s := Int.mul_nonneg (by omega) h8
  have b4 : x % 100 * s ≤ x % 100 * 100 := Int.mul_le_mul_of_nonneg_left h9 (by omega)
  have w1 : wrap64 (x / 100) = x / 100 := by unfold wrap64; omega
  have w2 : wrap64 (x / 100 * s) = x / 100 * s := by unfold wrap64; omega
  have w3 : wrap64 (x % 100 * s) = x % 100 * s := by unfold wrap64; omega
  have w4 : wrap64 (Int.tdiv (x % 100 * s) 100) = x % 100 * s / 100 := by rw [Int.tdiv_eq_ediv_of_nonneg b3]; unfold wrap64; omega
  rw [q1, q2, w1, w2, w3, w4, Rt.hundreds x s]; unfold wrap64; omega

theorem wait_ok {p : Rt.Pol} {a : Int} (h : Rt.okP p ∧ 1 ≤ a) (hg : p.cap ≤ Rt.gr) (ha : a ≤ Rt.gr) : Rt.waitOf p a = some (Rt.it p (a - 1).toNat, 0) := by
  unfold Rt.waitOf; rw [if_pos ⟨hg, ha⟩, if_pos h]
theorem wait_bad {p : Rt.Pol} {a : Int} (h : ¬ (Rt.okP p ∧ 1 ≤ a)) (hg : p.cap ≤ Rt.gr) (ha : a ≤ Rt.gr) : Rt.waitOf p a = some (0, 1) := by
  unfold Rt.waitOf; rw [if_pos ⟨hg, ha⟩, if_neg h]
theorem drawn_ok {p : Rt.Pol} {x d : Int} (h : Rt.okP p ∧ 0 ≤ x) (hg : p.cap ≤ Rt.gr) (hx : x ≤ Rt.gr) (h0 : 0 ≤ d) (h1 : d < 4294967296) : Rt.drawnOf p x d = some (Rt.drawn p x d, 0) := by
  unfold Rt.drawnOf; rw [if_pos ⟨hg, hx, h0, h1⟩, if_pos h]

theorem rises_j1 (a0 a1 a2 a3 a4 a5 : Int) (l : List Int) (x d e : Int) (k : Nat) (hok : Rt.okP ⟨a0, a1, a2, a3, a4, a5, (l.length : Int)⟩) (hg : a1 ≤ Rt.gr) (hx0 : 0 ≤ x) (hx : x ≤ Rt.gr)
    (hd : 0 ≤ d ∧ d < 4294967296) (he : 0 ≤ e ∧ e < 4294967296) : prompterlaw20_RetryRises.j1 (k + 1) d e x a0 a1 a2 a3 a4 a5 l a0 a1 a2 a3 a4 a5 l = some true := by
  simp only [prompterlaw20_RetryRises.j1]
  unfold retry_Drawn.f
  rw [drawn_ok ⟨hok, hx0⟩ hg hx hd.1 hd.2, drawn_ok ⟨hok, hx0⟩ hg hx he.1 he.2, drawn_ok ⟨hok, hx0⟩ hg hx (by omega) (by omega), Rt.drawn_zero]
  simp only [Option.bind_some, if_true]
  have h8 : 0 ≤ a5 := hok.2.2.2.2.2.2.2.1
  have h9 : a5 ≤ 100 := hok.2.2.2.2.2.2.2.2.1
  have hb := Rt.drawn_bd (p := ⟨a0, a1, a2, a3, a4, a5, (l.length : Int)⟩) h8 h9 hx0 hd.1 hd.2
  have hc := Rt.cut_bd (p := ⟨a0, a1, a2, a3, a4, a5, (l.length : Int)⟩) h8 h9 hx0 hd.1 hd.2
  have hm := Rt.part_le hx0 h8 h9
  unfold Rt.gr at hx
  rw [hund_is x a5 hx0 hx h8 h9]
  have hw : wrap64 (x - Rt.drawn ⟨a0, a1, a2, a3, a4, a5, (l.length : Int)⟩ x d) = Rt.cutOf ⟨a0, a1, a2, a3, a4, a5, (l.length : Int)⟩ x d := by
    unfold Rt.drawn; unfold wrap64; dsimp only at hc; omega
  rw [hw, if_neg (by omega), if_neg (by dsimp only at hc; omega)]
  by_cases hde : d > e
  · rw [if_pos hde]
  · rw [if_neg hde]
    have := Rt.drawn_anti (p := ⟨a0, a1, a2, a3, a4, a5, (l.length : Int)⟩) h8 h9 hx0 (show d ≤ e by omega)
    rw [decide_eq_true this]

theorem rises_is (a0 a1 a2 a3 a4 a5 : Int) (l : List Int) (a d e : Int) (hl : l.length * 8 ≤ 140737488351232) (hg : a1 ≤ Rt.gr) (ha : a ≤ Rt.gr)
    (hd : 0 ≤ d ∧ d < 4294967296) (he : 0 ≤ e ∧ e < 4294967296) : prompterlaw20_RetryRises.f 2 a0 a1 a2 a3 a4 a5 l a d e = some true := by
  unfold prompterlaw20_RetryRises.f
  rw [awake_is, policy_is _ _ _ _ _ _ _ hl]
  simp only [Option.bind_some, if_true]
  unfold retry_Wait.f retry_Check.f
  by_cases hok : Rt.okP ⟨a0, a1, a2, a3, a4, a5, (l.length : Int)⟩ ∧ 1 ≤ a
  · have hb := Rt.it_bd hok.1 (a - 1).toNat
    have h0 := hok.1.1
    dsimp only at hb h0
    rw [wait_ok hok hg ha, wait_ok ⟨hok.1, by omega⟩ hg (by unfold Rt.gr; omega)]
    simp only [Option.bind_some, if_true]
    rw [show ((1 : Int) - 1).toNat = 0 from rfl, show Rt.it ⟨a0, a1, a2, a3, a4, a5, (l.length : Int)⟩ 0 = a0 from rfl, if_pos rfl, if_neg (by omega), decide_eq_false (by omega)]
    simp only [prompterlaw20_RetryRises.j0]
    rw [if_neg (by simp)]
    by_cases h1 : a > 1
    · have hw : wrap64 (a - 1) = a - 1 := by unfold Rt.gr at ha; unfold wrap64; omega
      rw [if_pos h1]
      unfold retry_Wait.f
      rw [hw, wait_ok ⟨hok.1, by omega⟩ hg (by omega)]
      simp only [Option.bind_some, if_true]
      have hmo := Rt.it_mono1 hok.1 (a - 1 - 1).toNat
      rw [show (a - 1 - 1).toNat + 1 = (a - 1).toNat from by omega] at hmo
      rw [if_neg (by omega)]
      exact rises_j1 a0 a1 a2 a3 a4 a5 l _ d e 0 hok.1 hg (by omega) (by omega) hd he
    · rw [if_neg h1]
      exact rises_j1 a0 a1 a2 a3 a4 a5 l _ d e 0 hok.1 hg (by omega) (by omega) hd he
  · rw [wait_bad hok hg ha]
    simp only [Option.bind_some, if_true]
    rw [if_neg (by omega), if_pos hg]
    simp only [Option.bind_some]
    by_cases hp : Rt.okP ⟨a0, a1, a2, a3, a4, a5, (l.length : Int)⟩
    · rw [if_pos (show PBase.chk ⟨a0, a1, a2, a3, a4, a5, (l.length : Int)⟩ = 0 from if_pos hp), decide_eq_true (by simp only [hp, true_and] at hok; omega)]
    · rw [if_neg (by rw [show PBase.chk ⟨a0, a1, a2, a3, a4, a5, (l.length : Int)⟩ = 1 from if_neg hp]; omega)]

theorem rises_law (a0 a1 a2 a3 a4 a5 : Int) (A : Option Addr) (c : Nat) (l : List Int) (a d e : Int) (W : World) (hk : Kd.C (Kd.int .i64) W A l.length l) (hc : l.length ≤ c) (w1 : (Lit.int .i64 a1).wf = true) (hl : l.length * 8 ≤ 140737488351232)
    (wa : (Lit.int .i64 a).wf = true) (wd : (Lit.int .u32 d).wf = true) (we : (Lit.int .u32 e).wf = true) :
    Calls Try.prog 5 #[.agg #[.int .i64 a0, .int .i64 a1, .int .i64 a2, .int .i64 a3, .int .i64 a4, .int .i64 a5, .slice A l.length c], .int .i64 a, .int .u32 d, .int .u32 e] W fun e W' => e = .returned (.bool true) ∧ Below W.heap.size W W' :=
  prompterlaw20_RetryRises.calls 2 a0 a1 a2 a3 a4 a5 A c l a d e true W hk hc (rises_is a0 a1 a2 a3 a4 a5 l a d e hl (wf64 w1).2 (wf64 wa).2 (wfu32 wd) (wfu32 we))
end Go.Proofs.Ytealggjnnihejaa.PLaw
