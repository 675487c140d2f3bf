/- What RetryWaits comes to: numbers and lists alone. -/
import Derived.Test.YtealggjnnihejaaPWLawx
namespace Go.Proofs.Ytealggjnnihejaa.PWLaw
open Go.RowKit Go.Proofs.YtealggjnnihejaaW.PrintWords Go.Proofs.YtealggjnnihejaaW.PrintLast Go.Proofs.YtealggjnnihejaaW.PrintMore
set_option linter.unusedVariables false
set_option linter.unusedSimpArgs false

theorem awake_is : prompterlaw20_awake.f = some true := by
  have h : Rt.waitOf ⟨100, 1000, 2, 1, 5, 0, (([7] : List Int).length : Int)⟩ 4 = some (800, 0) := by
    unfold Rt.waitOf
    rw [if_pos (by decide), if_pos (by decide)]
    rfl
  unfold prompterlaw20_awake.f prompterlaw20_doubling.f retry_Wait.f
  simp only [Option.bind_some]
  rw [h]
  rfl

theorem may_is (a0 a1 a2 a3 a4 a5 : Int) (l : List Int) (hg : a1 ≤ Rt.gr) : prompterref20_May.f a0 a1 a2 a3 a4 a5 l = some (decide (Rt.okP ⟨a0, a1, a2, a3, a4, a5, (l.length : Int)⟩)) := by
  unfold prompterref20_May.f
  have hd : ∀ b : Bool, (b = true ↔ Rt.okP ⟨a0, a1, a2, a3, a4, a5, (l.length : Int)⟩) → some b = some (decide (Rt.okP ⟨a0, a1, a2, a3, a4, a5, (l.length : Int)⟩)) := fun b h => by
    refine congrArg some ?_
    by_cases hh : Rt.okP ⟨a0, a1, a2, a3, a4, a5, (l.length : Int)⟩
    · rw [decide_eq_true hh]; exact h.2 hh
    · rw [decide_eq_false hh]; cases b; rfl; exact absurd (h.1 rfl) hh
  unfold Rt.okP at hd
  dsimp only at hd
  repeat' split
  all_goals (refine hd _ ?_; simp; omega)

theorem wf64 {x : Int} (h : (Lit.int .i64 x).wf = true) : -9223372036854775808 ≤ x ∧ x ≤ 9223372036854775807 := by
  simp [Lit.wf, IntKind.min, IntKind.max, IntKind.bits, IntKind.signed] at h; omega
theorem wfu32 {x : Int} (h : (Lit.int .u32 x).wf = true) : 0 ≤ x ∧ x < 4294967296 := by
  simp [Lit.wf, IntKind.min, IntKind.max, IntKind.bits, IntKind.signed] at h; omega
theorem policy_is (a0 a1 a2 a3 a4 a5 : Int) (l : List Int) (hl : l.length * 8 ≤ 140737488351232) : prompterlaw20_policy.f a0 a1 a2 a3 a4 a5 l = some (a0, a1, a2, a3, a4, a5, l) := if_pos (by omega)
theorem gap {cap x y : Int} {d : Nat} (h1 : x ≤ y) (h2 : ¬ y = x) (h3 : y ≤ cap) (h4 : (cap - x).toNat ≤ d + 1) : (cap - y).toNat ≤ d := by omega
theorem gap0 {cap x y : Int} (h1 : x ≤ y) (h3 : y ≤ cap) (h4 : (cap - x).toNat ≤ 0) : y = x := by omega
theorem ix_le {i : Nat} {a : Int} (h : (i : Int) + 1 < a) : ((i + 1 : Nat) : Int) + 1 ≤ a := by omega
theorem wr_ix {i : Nat} {a : Int} (h : (i : Int) + 1 < a) (ha : a ≤ 9223372036854775807) : wrap64 ((i : Int) + 1 + 1) = ((i + 1 : Nat) : Int) + 1 := by unfold wrap64; omega
theorem le2 {a b c : Int} (h1 : 0 ≤ a) (h2 : a ≤ b ∧ b ≤ c) : 0 ≤ b := by omega
/-- The reference's loop: from wait i on, with rounds enough. -/
theorem refwait_l0 (a0 a1 a2 a3 a4 a5 : Int) (l : List Int) (a : Int) (hok : Rt.okP ⟨a0, a1, a2, a3, a4, a5, (l.length : Int)⟩) (ha : a ≤ Rt.gr) (h1 : 1 ≤ a) (d : Nat) : ∀ (k i : Nat), (i : Int) + 1 ≤ a → (a1 - Rt.it ⟨a0, a1, a2, a3, a4, a5, (l.length : Int)⟩ i).toNat ≤ d → d + 1 < k →
    prompterref20_Wait.l0 k a (Rt.it ⟨a0, a1, a2, a3, a4, a5, (l.length : Int)⟩ i) ((i : Int) + 1) a0 a1 a2 a3 a4 a5 l = some (Rt.it ⟨a0, a1, a2, a3, a4, a5, (l.length : Int)⟩ (a - 1).toNat, 0) := by
  have hnum := hok
  obtain ⟨c0, c1, c2, c3, c4, _⟩ := hnum
  dsimp only at c0 c1 c2 c3 c4
  unfold Rt.gr at ha
  have c5 : 1 ≤ a2 := by omega
  have c6 : a3 ≤ 1000 := by omega
  induction d with
  | zero =>
    intro k i hi hd hk
    obtain ⟨k, rfl⟩ : ∃ m, k = m + 1 := ⟨k - 1, by omega⟩
    simp only [prompterref20_Wait.l0]
    by_cases hlt : (i : Int) + 1 < a
    · have hb := Rt.it_bd hok i
      have hb2 := Rt.it_bd hok (i + 1)
      have hm := Rt.it_mono1 hok i
      dsimp only at hb hb2
      have hs : Rt.it ⟨a0, a1, a2, a3, a4, a5, (l.length : Int)⟩ (i + 1) = Rt.it ⟨a0, a1, a2, a3, a4, a5, (l.length : Int)⟩ i := gap0 hm hb2.2 hd
      rw [if_pos hlt]
      unfold prompterref20_next.f
      rw [if_pos ⟨c5, c4, c2, c6, le2 c0 hb⟩, Option.bind_some, show Rt.nx ⟨a0, a1, a2, a3, a4, a5, (l.length : Int)⟩ (Rt.it ⟨a0, a1, a2, a3, a4, a5, (l.length : Int)⟩ i) = Rt.it ⟨a0, a1, a2, a3, a4, a5, (l.length : Int)⟩ (i + 1) from rfl, if_pos hs]
      obtain ⟨q, hq⟩ : ∃ q : Nat, (a - 1).toNat = i + q := ⟨(a - 1).toNat - i, by clear hs hm hb hb2 hd hok; omega⟩
      rw [hq, Rt.it_stays hs]
    · rw [if_neg hlt, show (a - 1).toNat = i from by clear hd hok; omega]
  | succ d ih =>
    intro k i hi hd hk
    obtain ⟨k, rfl⟩ : ∃ m, k = m + 1 := ⟨k - 1, by omega⟩
    simp only [prompterref20_Wait.l0]
    by_cases hlt : (i : Int) + 1 < a
    · have hb := Rt.it_bd hok i
      have hb2 := Rt.it_bd hok (i + 1)
      have hm := Rt.it_mono1 hok i
      dsimp only at hb hb2
      rw [if_pos hlt]
      unfold prompterref20_next.f
      rw [if_pos ⟨c5, c4, c2, c6, le2 c0 hb⟩, Option.bind_some, show Rt.nx ⟨a0, a1, a2, a3, a4, a5, (l.length : Int)⟩ (Rt.it ⟨a0, a1, a2, a3, a4, a5, (l.length : Int)⟩ i) = Rt.it ⟨a0, a1, a2, a3, a4, a5, (l.length : Int)⟩ (i + 1) from rfl]
      by_cases hs : Rt.it ⟨a0, a1, a2, a3, a4, a5, (l.length : Int)⟩ (i + 1) = Rt.it ⟨a0, a1, a2, a3, a4, a5, (l.length : Int)⟩ i
      · rw [if_pos hs]
        obtain ⟨q, hq⟩ : ∃ q : Nat, (a - 1).toNat = i + q := ⟨(a - 1).toNat - i, by clear hs hm hb hb2 hd hok ih; omega⟩
        rw [hq, Rt.it_stays hs]
      · rw [if_neg hs]
        rw [wr_ix hlt ha]
        exact ih k (i + 1) (ix_le hlt) (gap hm hs hb2.2 hd) (Nat.lt_of_succ_lt_succ hk)
    · rw [if_neg hlt, show (a - 1).toNat = i from by clear hd hok ih; omega]

/-- The reference's Wait tells what the program's tells. -/
theorem refwait_is (a0 a1 a2 a3 a4 a5 : Int) (l : List Int) (a : Int) (hg : a1 ≤ Rt.gr) (ha : a ≤ Rt.gr) (k : Nat) (hk : (a1 - a0).toNat + 3 < k) : prompterref20_Wait.f k a0 a1 a2 a3 a4 a5 l a = Rt.waitOf ⟨a0, a1, a2, a3, a4, a5, (l.length : Int)⟩ a := by
  unfold Rt.waitOf
  rw [if_pos (show a1 ≤ Rt.gr ∧ a ≤ Rt.gr from ⟨hg, ha⟩)]
  unfold prompterref20_Wait.f
  rw [may_is _ _ _ _ _ _ _ hg, Option.bind_some]
  obtain ⟨k, rfl⟩ : ∃ m, k = m + 1 := ⟨k - 1, by omega⟩
  simp only [prompterref20_Wait.j0]
  by_cases hok : Rt.okP ⟨a0, a1, a2, a3, a4, a5, (l.length : Int)⟩
  · rw [if_pos (decide_eq_true hok)]
    by_cases h1 : a < 1
    · rw [if_pos (decide_eq_true h1), if_neg (by omega)]
    · rw [if_neg (by simpa using h1), if_pos ⟨hok, by omega⟩]
      exact refwait_l0 a0 a1 a2 a3 a4 a5 l a hok ha (by omega) (a1 - a0).toNat k 0 (by omega) (Nat.le_refl _) (by omega)
  · rw [decide_eq_false hok, if_neg (by simp), if_pos trivial, if_neg (fun h => hok h.1)]


theorem refadd_is {a b : Int} (h0 : 0 ≤ a) (h1 : a ≤ 9223372036854775807) (h2 : 0 ≤ b) (h3 : b ≤ 9223372036854775807) (k : Nat) : prompterref01_Add.f k a b = some (Rt.sadd a b) := by
  have e1 : IntKind.u64.wrap a = a := by rw [IntKind.wrap_u64]; omega
  have e2 : IntKind.u64.wrap b = b := by rw [IntKind.wrap_u64]; omega
  have e3 : IntKind.u64.wrap (a + b) = a + b := by rw [IntKind.wrap_u64]; omega
  unfold prompterref01_Add.f prompterref01_of.f
  rw [if_neg (by omega), if_neg (by omega), e1, e2]
  simp only [Option.bind_some]
  unfold prompterref01_sum.f
  rw [if_pos (by simp), e3, if_neg (by omega)]
  simp only [Option.bind_some]
  unfold prompterref01_held.f
  rw [if_neg (by simp), if_neg (by omega)]
  unfold Rt.sadd Rt.gr
  by_cases h : a + b > 9223372036854775807
  · rw [if_pos (by omega), if_pos h]; rfl
  · have e4 : wrap64 (a + b) = a + b := by unfold wrap64; omega
    rw [if_neg (by omega), if_neg h, e4]; rfl

theorem reftot_l0 (a0 a1 a2 a3 a4 a5 : Int) (l : List Int) (hok : Rt.okP ⟨a0, a1, a2, a3, a4, a5, (l.length : Int)⟩) (d : Nat) : ∀ (k i : Nat), (i : Int) + 1 + d = a4 → d < k →
    prompterref20_Total.l0 k (Rt.tot ⟨a0, a1, a2, a3, a4, a5, (l.length : Int)⟩ i) (Rt.it ⟨a0, a1, a2, a3, a4, a5, (l.length : Int)⟩ i) ((i : Int) + 1) a0 a1 a2 a3 a4 a5 l = some (Rt.tot ⟨a0, a1, a2, a3, a4, a5, (l.length : Int)⟩ (a4 - 1).toNat, 0) := by
  have hnum := hok
  obtain ⟨c0, c1, c2, c3, c4, c7, c8, _, _, _, cg⟩ := hnum
  dsimp only at c0 c1 c2 c3 c4 c7 c8 cg
  unfold Rt.gr at cg
  have c5 : 1 ≤ a2 := by omega
  have c6 : a3 ≤ 1000 := by omega
  induction d with
  | zero =>
    intro k i hi hk
    obtain ⟨k, rfl⟩ : ∃ m, k = m + 1 := ⟨k - 1, by omega⟩
    simp only [prompterref20_Total.l0]
    rw [if_neg (by omega), show (a4 - 1).toNat = i from by omega]
  | succ d ih =>
    intro k i hi hk
    obtain ⟨k, rfl⟩ : ∃ m, k = m + 1 := ⟨k - 1, by omega⟩
    have hb := Rt.it_bd hok i
    have ht := Rt.tot_bd hok i
    unfold Rt.gr at ht
    dsimp only at hb
    have hlt : (i : Int) + 1 < a4 := by clear hb ht ih hok; omega
    simp only [prompterref20_Total.l0]
    rw [if_pos hlt, refadd_is ht.1 ht.2 (le2 c0 hb) (Int.le_trans hb.2 cg), Option.bind_some]
    unfold prompterref20_next.f
    rw [if_pos ⟨c5, c4, c2, c6, le2 c0 hb⟩, Option.bind_some, wr_ix hlt (Int.le_trans c8 (by omega))]
    exact ih k (i + 1) (by clear hb ht ih hok hlt; omega) (Nat.lt_of_succ_lt_succ hk)

theorem reftotal_is (a0 a1 a2 a3 a4 a5 : Int) (l : List Int) (hg : a1 ≤ Rt.gr) (k : Nat) (hk : 1000 < k) : prompterref20_Total.f k a0 a1 a2 a3 a4 a5 l = Rt.totalOf ⟨a0, a1, a2, a3, a4, a5, (l.length : Int)⟩ := by
  unfold Rt.totalOf
  rw [if_pos (show a1 ≤ Rt.gr from hg)]
  unfold prompterref20_Total.f
  rw [may_is _ _ _ _ _ _ _ hg, Option.bind_some]
  by_cases hok : Rt.okP ⟨a0, a1, a2, a3, a4, a5, (l.length : Int)⟩
  · have h7 : 1 ≤ a4 := hok.2.2.2.2.2.1
    have h8 : a4 ≤ 1000 := hok.2.2.2.2.2.2.1
    rw [if_pos (decide_eq_true hok), if_pos hok]
    exact reftot_l0 a0 a1 a2 a3 a4 a5 l hok (a4 - 1).toNat k 0 (by omega) (by omega)
  · rw [if_neg (by simpa using hok), if_neg hok]

theorem waits_law (a0 a1 a2 a3 a4 a5 : Int) (A : Option Addr) (c : Nat) (l : List Int) (a : Int) (W : World) (hk : Kd.C (Kd.int .i64) W A l.length l) (hc : l.length ≤ c) (w1 : (Lit.int .i64 a1).wf = true) (hl : l.length * 8 ≤ 140737488351232)
    (wa : (Lit.int .i64 a).wf = true) :
    Calls Try.prog 3 #[.agg #[.int .i64 a0, .int .i64 a1, .int .i64 a2, .int .i64 a3, .int .i64 a4, .int .i64 a5, .slice A l.length c], .int .i64 a] W fun e W' => e = .returned (.bool true) ∧ Below W.heap.size W W' := by
  refine prompterlaw20_RetryWaits.calls ((a1 - a0).toNat + 1004) a0 a1 a2 a3 a4 a5 A c l a true W hk hc ?_
  have hg : a1 ≤ Rt.gr := (wf64 w1).2
  have ha : a ≤ Rt.gr := (wf64 wa).2
  unfold prompterlaw20_RetryWaits.f
  rw [policy_is _ _ _ _ _ _ _ hl, Option.bind_some]
  unfold retry_Wait.f retry_Total.f retry_Check.f
  rw [refwait_is _ _ _ _ _ _ _ _ hg ha _ (by omega), reftotal_is _ _ _ _ _ _ _ hg _ (by omega), may_is _ _ _ _ _ _ _ hg, awake_is]
  obtain ⟨x, y, hu⟩ : ∃ x y, Rt.waitOf ⟨a0, a1, a2, a3, a4, a5, (l.length : Int)⟩ a = some (x, y) := by
    unfold Rt.waitOf
    rw [if_pos (show a1 ≤ Rt.gr ∧ a ≤ Rt.gr from ⟨hg, ha⟩)]
    split <;> exact ⟨_, _, rfl⟩
  obtain ⟨u, v, hv⟩ : ∃ x y, Rt.totalOf ⟨a0, a1, a2, a3, a4, a5, (l.length : Int)⟩ = some (x, y) := by
    unfold Rt.totalOf
    rw [if_pos (show a1 ≤ Rt.gr from hg)]
    split <;> exact ⟨_, _, rfl⟩
  simp only [hu, hv, Option.bind_some, if_true]
  rw [if_pos hg]
  simp only [Option.bind_some]
  unfold PBase.chk
  by_cases hok : Rt.okP ⟨a0, a1, a2, a3, a4, a5, (l.length : Int)⟩
  · simp [hok]
  · simp [hok]
end Go.Proofs.Ytealggjnnihejaa.PWLaw
