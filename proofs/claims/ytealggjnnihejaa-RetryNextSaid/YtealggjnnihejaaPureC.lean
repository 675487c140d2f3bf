/- What RetryNext comes to: numbers and lists alone. -/
import Derived.Test.YtealggjnnihejaaPure
import Derived.Test.YtealggjnnihejaaPLawx3
import Derived.Test.YtealggjnnihejaaPLawx4
namespace Go.Proofs.Ytealggjnnihejaa.PLaw
open Go.RowKit Go.Proofs.YtealggjnnihejaaW.PrintWords Go.Proofs.YtealggjnnihejaaW.PrintLast Go.Proofs.YtealggjnnihejaaW.PrintMore
set_option linter.unusedVariables false
set_option linter.unusedSimpArgs false

theorem gap {cap x y : Int} {d : Nat} (h1 : x ≤ y) (h2 : ¬ y = x) (h3 : y ≤ cap) (h4 : (cap - x).toNat ≤ d + 1) : (cap - y).toNat ≤ d := by omega
theorem gap0 {cap x y : Int} (h1 : x ≤ y) (h3 : y ≤ cap) (h4 : (cap - x).toNat ≤ 0) : y = x := by omega
theorem ix_le {i : Nat} {a : Int} (h : (i : Int) + 1 < a) : ((i + 1 : Nat) : Int) + 1 ≤ a := by omega
theorem wr_ix {i : Nat} {a : Int} (h : (i : Int) + 1 < a) (ha : a ≤ 9223372036854775807) : wrap64 ((i : Int) + 1 + 1) = ((i + 1 : Nat) : Int) + 1 := by unfold wrap64; omega
theorem le2 {a b c : Int} (h1 : 0 ≤ a) (h2 : a ≤ b ∧ b ≤ c) : 0 ≤ b := by omega
/-- The reference's loop: from wait i on, with rounds enough. -/
theorem refwait_l0 (a0 a1 a2 a3 a4 a5 : Int) (l : List Int) (a : Int) (hok : Rt.okP ⟨a0, a1, a2, a3, a4, a5, (l.length : Int)⟩) (ha : a ≤ Rt.gr) (h1 : 1 ≤ a) (d : Nat) : ∀ (k i : Nat), (i : Int) + 1 ≤ a → (a1 - Rt.it ⟨a0, a1, a2, a3, a4, a5, (l.length : Int)⟩ i).toNat ≤ d → d + 1 < k →
    prompterref20_Wait.l0 k a (Rt.it ⟨a0, a1, a2, a3, a4, a5, (l.length : Int)⟩ i) ((i : Int) + 1) a0 a1 a2 a3 a4 a5 l = some (Rt.it ⟨a0, a1, a2, a3, a4, a5, (l.length : Int)⟩ (a - 1).toNat, 0) := by
  have hnum := hok
  obtain ⟨c0, c1, c2, c3, c4, _⟩ := hnum
  dsimp only at c0 c1 c2 c3 c4
  unfold Rt.gr at ha
  have c5 : 1 ≤ a2 := by omega
  have c6 : a3 ≤ 1000 := by omega
  induction d with
  | zero =>
    intro k i hi hd hk
    obtain ⟨k, rfl⟩ : ∃ m, k = m + 1 := ⟨k - 1, by omega⟩
    simp only [prompterref20_Wait.l0]
    by_cases hlt : (i : Int) + 1 < a
    · have hb := Rt.it_bd hok i
      have hb2 := Rt.it_bd hok (i + 1)
      have hm := Rt.it_mono1 hok i
      dsimp only at hb hb2
      have hs : Rt.it ⟨a0, a1, a2, a3, a4, a5, (l.length : Int)⟩ (i + 1) = Rt.it ⟨a0, a1, a2, a3, a4, a5, (l.length : Int)⟩ i := gap0 hm hb2.2 hd
      rw [if_pos hlt]
      unfold prompterref20_next.f
      rw [if_pos ⟨c5, c4, c2, c6, le2 c0 hb⟩, Option.bind_some, show Rt.nx ⟨a0, a1, a2, a3, a4, a5, (l.length : Int)⟩ (Rt.it ⟨a0, a1, a2, a3, a4, a5, (l.length : Int)⟩ i) = Rt.it ⟨a0, a1, a2, a3, a4, a5, (l.length : Int)⟩ (i + 1) from rfl, if_pos hs]
      obtain ⟨q, hq⟩ : ∃ q : Nat, (a - 1).toNat = i + q := ⟨(a - 1).toNat - i, by clear hs hm hb hb2 hd hok; omega⟩
      rw [hq, Rt.it_stays hs]
    · rw [if_neg hlt, show (a - 1).toNat = i from by clear hd hok; omega]
  | succ d ih =>
    intro k i hi hd hk
    obtain ⟨k, rfl⟩ : ∃ m, k = m + 1 := ⟨k - 1, by omega⟩
    simp only [prompterref20_Wait.l0]
    by_cases hlt : (i : Int) + 1 < a
    · have hb := Rt.it_bd hok i
      have hb2 := Rt.it_bd hok (i + 1)
      have hm := Rt.it_mono1 hok i
      dsimp only at hb hb2
      rw [if_pos hlt]
      unfold prompterref20_next.f
      rw [if_pos ⟨c5, c4, c2, c6, le2 c0 hb⟩, Option.bind_some, show Rt.nx ⟨a0, a1, a2, a3, a4, a5, (l.length : Int)⟩ (Rt.it ⟨a0, a1, a2, a3, a4, a5, (l.length : Int)⟩ i) = Rt.it ⟨a0, a1, a2, a3, a4, a5, (l.length : Int)⟩ (i + 1) from rfl]
      by_cases hs : Rt.it ⟨a0, a1, a2, a3, a4, a5, (l.length : Int)⟩ (i + 1) = Rt.it ⟨a0, a1, a2, a3, a4, a5, (l.length : Int)⟩ i
      · rw [if_pos hs]
        obtain ⟨q, hq⟩ : ∃ q : Nat, (a - 1).toNat = i + q := ⟨(a - 1).toNat - i, by clear hs hm hb hb2 hd hok ih; omega⟩
        rw [hq, Rt.it_stays hs]
      · rw [if_neg hs]
        rw [wr_ix hlt ha]
        exact ih k (i + 1) (ix_le hlt) (gap hm hs hb2.2 hd) (Nat.lt_of_succ_lt_succ hk)
    · rw [if_neg hlt, show (a - 1).toNat = i from by clear hd hok ih; omega]

/-- The reference's Wait tells what the program's tells. -/
theorem refwait_is (a0 a1 a2 a3 a4 a5 : Int) (l : List Int) (a : Int) (hg : a1 ≤ Rt.gr) (ha : a ≤ Rt.gr) (k : Nat) (hk : (a1 - a0).toNat + 3 < k) : prompterref20_Wait.f k a0 a1 a2 a3 a4 a5 l a = Rt.waitOf ⟨a0, a1, a2, a3, a4, a5, (l.length : Int)⟩ a := by
  unfold Rt.waitOf
  rw [if_pos (show a1 ≤ Rt.gr ∧ a ≤ Rt.gr from ⟨hg, ha⟩)]
  unfold prompterref20_Wait.f
  rw [may_is _ _ _ _ _ _ _ hg, Option.bind_some]
  obtain ⟨k, rfl⟩ : ∃ m, k = m + 1 := ⟨k - 1, by omega⟩
  simp only [prompterref20_Wait.j0]
  by_cases hok : Rt.okP ⟨a0, a1, a2, a3, a4, a5, (l.length : Int)⟩
  · rw [if_pos (decide_eq_true hok)]
    by_cases h1 : a < 1
    · rw [if_pos (decide_eq_true h1), if_neg (by omega)]
    · rw [if_neg (by simpa using h1), if_pos ⟨hok, by omega⟩]
      exact refwait_l0 a0 a1 a2 a3 a4 a5 l a hok ha (by omega) (a1 - a0).toNat k 0 (by omega) (Nat.le_refl _) (by omega)
  · rw [decide_eq_false hok, if_neg (by simp), if_pos trivial, if_neg (fun h => hok h.1)]

theorem refnext_l0 (a0 a1 a2 a3 a4 a5 : Int) (l : List Int) (code d w : Int) (hok : Rt.okP ⟨a0, a1, a2, a3, a4, a5, (l.length : Int)⟩) (hg : a1 ≤ Rt.gr) (hw0 : 0 ≤ w) (hw : w ≤ Rt.gr) (hd0 : 0 ≤ d) (hd1 : d < 4294967296) (n : Nat) : ∀ (k : Nat) (i : Int), 0 ≤ i → (l.length : Int) - i = n → n < k →
    prompterref20_Next.l0 k code d w i a0 a1 a2 a3 a4 a5 l = if code ∈ l.drop i.toNat then some (0, false, 0) else some (Rt.drawn ⟨a0, a1, a2, a3, a4, a5, (l.length : Int)⟩ w d, true, 0) := by
  have hlen : (l.length : Int) ≤ 100 := hok.2.2.2.2.2.2.2.2.2.1
  induction n with
  | zero =>
    intro k i h0 hd hk
    obtain ⟨k, rfl⟩ : ∃ m, k = m + 1 := ⟨k - 1, by omega⟩
    rw [List.drop_eq_nil_of_le (by omega), if_neg (by simp)]
    simp only [prompterref20_Next.l0]
    rw [if_neg (by omega), refdrawn_is _ _ _ _ _ _ _ _ _ hg hw hd0 hd1]
    unfold Rt.drawnOf
    rw [if_pos ⟨hg, hw, hd0, hd1⟩, if_pos ⟨hok, hw0⟩]
    rfl
  | succ n ih =>
    intro k i h0 hd hk
    obtain ⟨k, rfl⟩ : ∃ m, k = m + 1 := ⟨k - 1, by omega⟩
    have hlt : i.toNat < l.length := by omega
    have hrd : rd l i = l[i.toNat] := by simp [rd, List.getD, hlt]
    have hdr : l.drop i.toNat = l[i.toNat] :: l.drop (i.toNat + 1) := List.drop_eq_getElem_cons hlt
    simp only [prompterref20_Next.l0]
    rw [if_pos (by omega), if_pos h0]
    by_cases hc : rd l i = code
    · rw [if_pos hc, hdr, ← hrd, hc, if_pos (by simp)]
    · have hwr : wrap64 (i + 1) = i + 1 := by unfold wrap64; omega
      rw [if_neg hc, hwr, ih k (i + 1) (by omega) (by omega) (by omega), hdr, ← hrd, show (i + 1).toNat = i.toNat + 1 from by omega]
      have : code ∈ rd l i :: l.drop (i.toNat + 1) ↔ code ∈ l.drop (i.toNat + 1) := by simp [List.mem_cons, Ne.symm (a := rd l i) hc]
      simp only [this]

theorem refnext_is (a0 a1 a2 a3 a4 a5 : Int) (l : List Int) (a code d : Int) (hg : a1 ≤ Rt.gr) (ha : a ≤ Rt.gr) (hd0 : 0 ≤ d) (hd1 : d < 4294967296) (k : Nat) (hk : (a1 - a0).toNat + 3 < k) (hk2 : l.length < k) :
    prompterref20_Next.f k a0 a1 a2 a3 a4 a5 l a code d = Rt.nextOf ⟨a0, a1, a2, a3, a4, a5, (l.length : Int)⟩ l a code d := by
  unfold Rt.nextOf
  rw [if_pos (show a1 ≤ Rt.gr ∧ a ≤ Rt.gr ∧ 0 ≤ d ∧ d < 4294967296 from ⟨hg, ha, hd0, hd1⟩)]
  unfold prompterref20_Next.f
  rw [refwait_is _ _ _ _ _ _ _ _ hg ha k hk]
  unfold Rt.waitOf
  rw [if_pos (show a1 ≤ Rt.gr ∧ a ≤ Rt.gr from ⟨hg, ha⟩)]
  by_cases h : Rt.okP ⟨a0, a1, a2, a3, a4, a5, (l.length : Int)⟩ ∧ 1 ≤ a
  · rw [if_pos h, if_pos h, Option.bind_some]
    rw [if_pos rfl]
    by_cases hm : a ≥ a4
    · rw [if_pos hm, if_pos (.inl hm)]
    · have hb := Rt.it_bd h.1 (a - 1).toNat
      have h0 := h.1.1
      rw [if_neg hm, refnext_l0 a0 a1 a2 a3 a4 a5 l code d _ h.1 hg (Int.le_trans h0 hb.1) (Int.le_trans hb.2 hg) hd0 hd1 l.length k 0 (by omega) (by omega) hk2]
      rw [show (0 : Int).toNat = 0 from rfl, List.drop_zero]
      have e : (a4 ≤ a ∨ code ∈ l) ↔ code ∈ l := ⟨fun h => h.resolve_left (by omega), .inr⟩
      by_cases hc : code ∈ l
      · rw [if_pos hc, if_pos (e.2 hc)]
      · rw [if_neg hc, if_neg (fun h => hc (e.1 h))]
  · rw [if_neg h, if_neg h, Option.bind_some]
    rfl

theorem next_l0 (a0 a1 a2 a3 a4 a5 b0 b1 b2 b3 b4 b5 : Int) (l : List Int) (x : Int) (y : Bool) (z : Int) (hlen : l.length ≤ 17592186044416) (n : Nat) : ∀ (k : Nat) (i : Int), 0 ≤ i → (l.length : Int) - i = n → n < k →
    prompterlaw20_RetryNext.l0 k x y z x y z i a0 a1 a2 a3 a4 a5 l b0 b1 b2 b3 b4 b5 l = some true := by
  induction n with
  | zero =>
    intro k i h0 hd hk
    obtain ⟨k, rfl⟩ : ∃ m, k = m + 1 := ⟨k - 1, by omega⟩
    simp only [prompterlaw20_RetryNext.l0]
    rw [if_neg (by omega), awake_is]
    simp
  | succ n ih =>
    intro k i h0 hd hk
    obtain ⟨k, rfl⟩ : ∃ m, k = m + 1 := ⟨k - 1, by omega⟩
    have hwr : wrap64 (i + 1) = i + 1 := by unfold wrap64; omega
    simp only [prompterlaw20_RetryNext.l0]
    rw [if_pos (by omega), if_pos h0, if_pos (by omega), if_pos trivial, hwr]
    exact ih k (i + 1) (by omega) (by omega) (by omega)

theorem next_some (p : Rt.Pol) (l : List Int) (a code d : Int) (hg : p.cap ≤ Rt.gr) (ha : a ≤ Rt.gr) (hd0 : 0 ≤ d) (hd1 : d < 4294967296) : ∃ x y z, Rt.nextOf p l a code d = some (x, y, z) := by
  unfold Rt.nextOf
  rw [if_pos ⟨hg, ha, hd0, hd1⟩]
  split
  · split <;> exact ⟨_, _, _, rfl⟩
  · exact ⟨_, _, _, rfl⟩

theorem next_law (a0 a1 a2 a3 a4 a5 : Int) (A : Option Addr) (c : Nat) (l : List Int) (a code d : Int) (W : World) (hk : Kd.C (Kd.int .i64) W A l.length l) (hc : l.length ≤ c) (w1 : (Lit.int .i64 a1).wf = true) (hl : l.length * 8 ≤ 140737488351232)
    (wa : (Lit.int .i64 a).wf = true) (wd : (Lit.int .u32 d).wf = true) :
    Calls Try.prog 6 #[.agg #[.int .i64 a0, .int .i64 a1, .int .i64 a2, .int .i64 a3, .int .i64 a4, .int .i64 a5, .slice A l.length c], .int .i64 a, .int .i64 code, .int .u32 d] W fun e W' => e = .returned (.bool true) ∧ Below W.heap.size W W' := by
  refine prompterlaw20_RetryNext.calls ((a1 - a0).toNat + l.length + 4) a0 a1 a2 a3 a4 a5 A c l a code d true W hk hc ?_
  have hg : a1 ≤ Rt.gr := (wf64 w1).2
  have ha : a ≤ Rt.gr := (wf64 wa).2
  have hd := wfu32 wd
  obtain ⟨x, y, z, hu⟩ := next_some ⟨a0, a1, a2, a3, a4, a5, (l.length : Int)⟩ l a code d hg ha hd.1 hd.2
  unfold prompterlaw20_RetryNext.f
  rw [policy_is _ _ _ _ _ _ _ hl, Option.bind_some]
  unfold retry_Next.f
  rw [refnext_is _ _ _ _ _ _ _ _ _ _ hg ha hd.1 hd.2 _ (by omega) (by omega), hu, Option.bind_some, Option.bind_some]
  exact next_l0 _ _ _ _ _ _ _ _ _ _ _ _ l x y z (by omega) l.length _ 0 (by omega) (by omega) (by omega)
end Go.Proofs.Ytealggjnnihejaa.PLaw
