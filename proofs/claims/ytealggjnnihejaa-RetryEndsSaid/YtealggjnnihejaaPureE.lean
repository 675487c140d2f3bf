/- What RetryEnds comes to: numbers and lists alone. -/
import Derived.Test.YtealggjnnihejaaPELawx
namespace Go.Proofs.Ytealggjnnihejaa.PELaw
open Go.RowKit Go.Proofs.YtealggjnnihejaaW.PrintWords Go.Proofs.YtealggjnnihejaaW.PrintLast Go.Proofs.YtealggjnnihejaaW.PrintMore
set_option linter.unusedVariables false
set_option linter.unusedSimpArgs false

theorem awake_is : prompterlaw20_awake.f = some true := by
  have h : Rt.waitOf ⟨100, 1000, 2, 1, 5, 0, (([7] : List Int).length : Int)⟩ 4 = some (800, 0) := by
    unfold Rt.waitOf
    rw [if_pos (by decide), if_pos (by decide)]
    rfl
  unfold prompterlaw20_awake.f prompterlaw20_doubling.f retry_Wait.f
  simp only [Option.bind_some]
  rw [h]
  rfl

theorem wf64 {x : Int} (h : (Lit.int .i64 x).wf = true) : -9223372036854775808 ≤ x ∧ x ≤ 9223372036854775807 := by
  simp [Lit.wf, IntKind.min, IntKind.max, IntKind.bits, IntKind.signed] at h; omega
theorem policy_is (a0 a1 a2 a3 a4 a5 : Int) (l : List Int) (hl : l.length * 8 ≤ 140737488351232) : prompterlaw20_policy.f a0 a1 a2 a3 a4 a5 l = some (a0, a1, a2, a3, a4, a5, l) := if_pos (by omega)

theorem add_is {a b : Int} (h0 : 0 ≤ a) (h1 : a ≤ 9223372036854775807) (h2 : 0 ≤ b) (h3 : b ≤ 9223372036854775807) (k : Nat) : whole_Add.f (k + 1) a b = some (Rt.sadd a b) := by
  have e1 : wrap64 (9223372036854775807 - b) = 9223372036854775807 - b := by unfold wrap64; omega
  unfold whole_Add.f Rt.sadd Rt.gr
  by_cases hb : b > 0
  · rw [if_pos hb, e1]
    simp only [whole_Add.j0]
    by_cases hc : a > 9223372036854775807 - b
    · rw [if_pos (decide_eq_true hc), if_pos (show a + b > _ by omega)]
    · have e2 : wrap64 (a + b) = a + b := by unfold wrap64; omega
      rw [if_neg (show ¬ _ by rw [decide_eq_false hc]; simp), if_neg (show ¬ b < 0 by omega), if_neg (show ¬ a + b > _ by omega), e2]
  · rw [if_neg hb]
    simp only [whole_Add.j0]
    have e2 : wrap64 (a + b) = a + b := by unfold wrap64; omega
    rw [if_neg (show ¬ (false = true) by simp), if_neg (show ¬ b < 0 by omega), if_neg (show ¬ a + b > _ by omega), e2]

/-- The draw of a turn. -/
def dr (l : List Int) (n : Nat) : Int := if (n : Int) + 1 ≤ (l.length : Int) then rd l (n : Int) else 0

theorem total_ok {p : Rt.Pol} (h : Rt.okP p) (hg : p.cap ≤ Rt.gr) : Rt.totalOf p = some (Rt.tot p (p.most - 1).toNat, 0) := by
  unfold Rt.totalOf; rw [if_pos hg, if_pos h]
theorem next_ok {p : Rt.Pol} {l : List Int} {a c d : Int} (h : Rt.okP p) (hg : p.cap ≤ Rt.gr) (h1 : 1 ≤ a) (ha : a < p.most) (hc : c ∉ l) (h0 : 0 ≤ d) (hd : d < 4294967296) :
    Rt.nextOf p l a c d = some (Rt.drawn p (Rt.it p (a - 1).toNat) d, true, 0) := by
  have hm := h.2.2.2.2.2.2.1
  unfold Rt.nextOf
  rw [if_pos ⟨hg, by unfold Rt.gr; omega, h0, hd⟩, if_pos ⟨h, h1⟩, if_neg (by rintro (x | x); omega; exact hc x)]
theorem next_end {p : Rt.Pol} {l : List Int} {a c d : Int} (h : Rt.okP p) (hg : p.cap ≤ Rt.gr) (h1 : 1 ≤ a) (ha : a ≤ p.most) (hc : p.most ≤ a ∨ c ∈ l) (h0 : 0 ≤ d) (hd : d < 4294967296) :
    Rt.nextOf p l a c d = some (0, false, 0) := by
  have hm := h.2.2.2.2.2.2.1
  unfold Rt.nextOf
  rw [if_pos ⟨hg, by unfold Rt.gr; omega, h0, hd⟩, if_pos ⟨h, h1⟩, if_pos hc]

/-- The turn's own draw is what j3 is asked with. -/
theorem l1_j3 (a0 a1 a2 a3 a4 a5 : Int) (l l2 : List Int) (c T S : Int) (f : Bool) (n k : Nat) (h1 : (n : Int) + 1 ≤ a4) (h8 : a4 ≤ 1000) :
    prompterlaw20_RetryEnds.l1 (k + 1) c l2 f T S ((n : Int) + 1) a0 a1 a2 a3 a4 a5 l a0 a1 a2 a3 a4 a5 l =
      prompterlaw20_RetryEnds.j3 k c l2 f T S ((n : Int) + 1) (dr l2 n) a0 a1 a2 a3 a4 a5 l a0 a1 a2 a3 a4 a5 l := by
  have hw : wrap64 ((n : Int) + 1 - 1) = (n : Int) := by unfold wrap64; omega
  simp only [prompterlaw20_RetryEnds.l1]
  unfold dr
  rw [if_pos h1, hw]
  by_cases hl : (n : Int) + 1 ≤ (l2.length : Int)
  · rw [if_pos hl, if_pos (by omega), if_pos (by omega), if_pos hl]
  · rw [if_neg hl, if_neg hl]

theorem ends_l1 (a0 a1 a2 a3 a4 a5 : Int) (l l2 : List Int) (c : Int) (hok : Rt.okP ⟨a0, a1, a2, a3, a4, a5, (l.length : Int)⟩) (hc : c ∉ l) (hd : ∀ n, 0 ≤ dr l2 n ∧ dr l2 n < 4294967296) (d : Nat) :
    ∀ (k n : Nat), (n : Int) + 1 + d = a4 → 3 * d + 5 < k →
      prompterlaw20_RetryEnds.l1 k c l2 false (Rt.tot ⟨a0, a1, a2, a3, a4, a5, (l.length : Int)⟩ (a4 - 1).toNat) (Rt.dsum ⟨a0, a1, a2, a3, a4, a5, (l.length : Int)⟩ (dr l2) n) ((n : Int) + 1) a0 a1 a2 a3 a4 a5 l a0 a1 a2 a3 a4 a5 l = some true := by
  have h8 : a4 ≤ 1000 := hok.2.2.2.2.2.2.1
  have hg : a1 ≤ Rt.gr := hok.2.2.2.2.2.2.2.2.2.2
  induction d with
  | zero =>
    intro k n hn hk
    obtain ⟨k, rfl⟩ : ∃ m, k = m + 5 := ⟨k - 5, by omega⟩
    rw [l1_j3 _ _ _ _ _ _ _ _ _ _ _ _ _ _ (by omega) h8]
    simp only [prompterlaw20_RetryEnds.j3, retry_Next.f]
    rw [next_end hok hg (by omega) (by dsimp only; omega) (Or.inl (by dsimp only; omega)) (hd n).1 (hd n).2]
    have hs := Rt.dsum_le hok (dr l2) hd n
    have ht := Rt.tot_bd hok n
    have e : (a4 - 1).toNat = n := by omega
    unfold Rt.gr at ht
    simp only [Option.bind_some]
    rw [if_pos trivial, if_neg (by omega), if_neg (by simp), if_neg (by simp)]
    simp only [prompterlaw20_RetryEnds.j4]
    rw [if_neg (by simp), if_neg (by simp), add_is hs.1 (Int.le_trans hs.2 ht.2) (by omega) (by omega), Option.bind_some]
    have hw : wrap64 ((n : Int) + 1 + 1) = (n : Int) + 2 := by unfold wrap64; clear hs ht; omega
    rw [hw]
    simp only [prompterlaw20_RetryEnds.l1]
    rw [if_neg (by omega), e]
    refine congrArg some (decide_eq_true ?_)
    unfold Rt.sadd Rt.gr
    generalize Rt.dsum _ _ _ = x at *
    generalize Rt.tot _ _ = y at *
    rw [if_neg (by omega)]
    omega
  | succ d ih =>
    intro k n hn hk
    obtain ⟨k, rfl⟩ : ∃ m, k = m + 5 := ⟨k - 5, by omega⟩
    rw [l1_j3 _ _ _ _ _ _ _ _ _ _ _ _ _ _ (by omega) h8]
    simp only [prompterlaw20_RetryEnds.j3, retry_Next.f]
    rw [next_ok hok hg (by omega) (by dsimp only; omega) hc (hd n).1 (hd n).2]
    have hs := Rt.dsum_le hok (dr l2) hd n
    have ht := Rt.tot_bd hok n
    have hb := Rt.it_bd hok n
    have hq := hok.1
    have hdr := Rt.drawn_bd (p := ⟨a0, a1, a2, a3, a4, a5, (l.length : Int)⟩) hok.2.2.2.2.2.2.2.1 hok.2.2.2.2.2.2.2.2.1 (w := Rt.it ⟨a0, a1, a2, a3, a4, a5, (l.length : Int)⟩ n) (Int.le_trans hq hb.1) (hd n).1 (hd n).2
    have hgr : (Rt.gr : Int) = 9223372036854775807 := rfl
    have e : ((n : Int) + 1 - 1).toNat = n := by omega
    have hw : wrap64 ((n : Int) + 1 + 1) = ((n + 1 : Nat) : Int) + 1 := by unfold wrap64; clear hs ht hb hdr ih; omega
    simp only [Option.bind_some]
    rw [if_pos trivial, if_pos (by omega), if_neg (by simp), if_pos trivial, e]
    simp only [prompterlaw20_RetryEnds.j4]
    rw [if_neg (by simp), if_neg (by simp), add_is hs.1 (hgr ▸ Int.le_trans hs.2 ht.2) hdr.1 (hgr ▸ Int.le_trans hdr.2 (Int.le_trans hb.2 hg)), Option.bind_some, hw]
    exact ih _ (n + 1) (by omega) (by omega)

theorem ends_fatal (a0 a1 a2 a3 a4 a5 : Int) (l l2 : List Int) (c T : Int) (hok : Rt.okP ⟨a0, a1, a2, a3, a4, a5, (l.length : Int)⟩) (hc : c ∈ l) (hd : ∀ n, 0 ≤ dr l2 n ∧ dr l2 n < 4294967296) (k : Nat) :
      prompterlaw20_RetryEnds.l1 (k + 5) c l2 true T 0 1 a0 a1 a2 a3 a4 a5 l a0 a1 a2 a3 a4 a5 l = some true := by
  have h7 : 1 ≤ a4 := hok.2.2.2.2.2.1
  have h8 : a4 ≤ 1000 := hok.2.2.2.2.2.2.1
  have hg : a1 ≤ Rt.gr := hok.2.2.2.2.2.2.2.2.2.2
  have hj := l1_j3 a0 a1 a2 a3 a4 a5 l l2 c T 0 true 0 (k + 4) (by omega) h8
  rw [show ((0 : Nat) : Int) + 1 = 1 from rfl] at hj
  rw [hj]
  simp only [prompterlaw20_RetryEnds.j3, retry_Next.f]
  rw [next_end hok hg (by omega) (by dsimp only; omega) (Or.inr hc) (hd 0).1 (hd 0).2]
  simp only [Option.bind_some]
  rw [if_pos trivial]
  by_cases hlt : 1 < a4
  · rw [if_pos hlt, if_neg (by simp), if_neg (by simp)]
    simp only [prompterlaw20_RetryEnds.j4]
    rw [if_neg (by simp), if_pos trivial]
  · rw [if_neg hlt, if_neg (by simp), if_neg (by simp)]
    simp only [prompterlaw20_RetryEnds.j4]
    rw [if_neg (by simp), if_pos trivial]

theorem ends_l0 (a0 a1 a2 a3 a4 a5 : Int) (l l2 : List Int) (c : Int) (hok : Rt.okP ⟨a0, a1, a2, a3, a4, a5, (l.length : Int)⟩) (hd : ∀ n, 0 ≤ dr l2 n ∧ dr l2 n < 4294967296) (d : Nat) :
    ∀ (k n : Nat), n + d = l.length → d + 4000 < k →
      prompterlaw20_RetryEnds.l0 k c l2 (decide (c ∈ l.take n)) (n : Int) a0 a1 a2 a3 a4 a5 l a0 a1 a2 a3 a4 a5 l = some true := by
  have h7 : 1 ≤ a4 := hok.2.2.2.2.2.1
  have h8 : a4 ≤ 1000 := hok.2.2.2.2.2.2.1
  have hnf : (l.length : Int) ≤ 100 := hok.2.2.2.2.2.2.2.2.2.1
  have hg : a1 ≤ Rt.gr := hok.2.2.2.2.2.2.2.2.2.2
  induction d with
  | zero =>
    intro k n hn hk
    obtain ⟨k, rfl⟩ : ∃ m, k = m + 6 := ⟨k - 6, by omega⟩
    have e : l.take n = l := List.take_of_length_le (by omega)
    simp only [prompterlaw20_RetryEnds.l0, retry_Total.f]
    rw [if_neg (by omega), total_ok hok hg, e, Option.bind_some, if_pos rfl]
    by_cases hc : c ∈ l
    · rw [decide_eq_true hc]
      exact ends_fatal _ _ _ _ _ _ _ _ _ _ hok hc hd k
    · rw [decide_eq_false hc]
      exact ends_l1 _ _ _ _ _ _ _ _ _ hok hc hd (a4 - 1).toNat _ 0 (by omega) (by omega)
  | succ d ih =>
    intro k n hn hk
    obtain ⟨k, rfl⟩ : ∃ m, k = m + 1 := ⟨k - 1, by omega⟩
    have hlt : n < l.length := by omega
    have hw : wrap64 ((n : Int) + 1) = ((n + 1 : Nat) : Int) := by unfold wrap64; omega
    have et : l.take (n + 1) = l.take n ++ [l[n]] := by rw [List.take_succ_eq_append_getElem hlt]
    have er : rd l (n : Int) = l[n] := by simp [rd, hlt]
    have := ih k (n + 1) (by omega) (by omega)
    rw [et] at this
    simp only [prompterlaw20_RetryEnds.l0]
    rw [if_pos (by omega), hw]
    by_cases hc : c ∈ l.take n
    · rw [if_pos (decide_eq_true hc)]
      rw [decide_eq_true (List.mem_append_left _ hc)] at this
      exact this
    · rw [if_neg (by simpa using hc), if_pos (by omega), er]
      have eb : (l[n] == c) = decide (c ∈ l.take n ++ [l[n]]) := by
        by_cases hh : l[n] = c
        · rw [decide_eq_true (by simp [hh])]; simp [hh]
        · rw [decide_eq_false (by rw [List.mem_append]; rintro (x | x); exact hc x; exact hh (List.mem_singleton.mp x).symm)]; simpa using hh
      rw [eb]
      exact this

theorem ends_law (a0 a1 a2 a3 a4 a5 : Int) (A : Option Addr) (c : Nat) (l : List Int) (a : Int) (A2 : Option Addr) (c2 : Nat) (l2 : List Int) (W : World) (hk : Kd.C (Kd.int .i64) W A l.length l) (hc : l.length ≤ c) (w1 : (Lit.int .i64 a1).wf = true) (hl : l.length * 8 ≤ 140737488351232)
    (hk2 : Kd.C (Kd.int .u32) W A2 l2.length l2) (hc2 : l2.length ≤ c2) (hd : ∀ x ∈ l2, (Lit.int .u32 x).wf = true) :
    Calls Try.prog 8 #[.agg #[.int .i64 a0, .int .i64 a1, .int .i64 a2, .int .i64 a3, .int .i64 a4, .int .i64 a5, .slice A l.length c], .int .i64 a, .slice A2 l2.length c2] W fun e W' => e = .returned (.bool true) ∧ Below W.heap.size W W' := by
  refine prompterlaw20_RetryEnds.calls 4200 a0 a1 a2 a3 a4 a5 A c l a A2 c2 l2 true W hk hc hk2 hc2 ?_
  have hg : a1 ≤ Rt.gr := (wf64 w1).2
  have hdr : ∀ n, 0 ≤ dr l2 n ∧ dr l2 n < 4294967296 := fun n => by
    unfold dr
    split
    · have hlt : n < l2.length := by omega
      have er : rd l2 (n : Int) = l2[n] := by simp [rd, hlt]
      have h := hd _ (List.getElem_mem hlt)
      rw [er]
      simp [Lit.wf, IntKind.min, IntKind.max, IntKind.bits, IntKind.signed] at h; omega
    · omega
  unfold prompterlaw20_RetryEnds.f
  rw [awake_is, Option.bind_some, if_pos rfl, policy_is _ _ _ _ _ _ _ hl, Option.bind_some]
  unfold retry_Check.f
  dsimp only
  rw [if_pos hg, Option.bind_some]
  unfold PBase.chk
  by_cases hok : Rt.okP ⟨a0, a1, a2, a3, a4, a5, (l.length : Int)⟩
  · have hnf : (l.length : Int) ≤ 100 := hok.2.2.2.2.2.2.2.2.2.1
    rw [if_pos hok, if_pos rfl]
    simp only [prompterlaw20_RetryEnds.j0]
    by_cases hm : a4 > 200
    · rw [if_pos (decide_eq_true hm)]
    · rw [if_neg (by simpa using hm)]
      have := ends_l0 a0 a1 a2 a3 a4 a5 l l2 a hok hdr l.length 4199 0 (by omega) (by omega)
      simpa using this
  · rw [if_neg hok, if_neg (by decide)]
    simp only [prompterlaw20_RetryEnds.j0]
    rw [if_pos trivial]
end Go.Proofs.Ytealggjnnihejaa.PELaw
