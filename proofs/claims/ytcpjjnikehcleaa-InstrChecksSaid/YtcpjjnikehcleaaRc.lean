/- The document's own way through code, in plain: Fits, Circle, Look. -/
import Derived.Test.YtcpjjnikehcleaaRb
import Derived.Test.YtcpjjnikehcleaaPChkx11
import Derived.Test.YtcpjjnikehcleaaPChkx12
namespace Go.Proofs.Ytcpjjnikehcleaa.Rt
open Go.RowKit PChk Hq Lk Gw Go.Proofs.YtcpjjnikehcleaaW.PrintWords Go.Proofs.YtcpjjnikehcleaaW.PrintLast Go.Proofs.YtcpjjnikehcleaaW.PrintMore
set_option linter.unusedVariables false
set_option linter.unusedSimpArgs false

def FitsTo (r : Sum (List Int) Nat) (y : List Int × Int) : Prop :=
  match r with
  | .inl d => y = (d, -1)
  | .inr i => y.2 = (i : Int)
theorem fits_run {xs : List S36} (hG : Good xs) (fuel : Nat) : ∀ (d : List Int) (g : List Bool), d.length = xs.length → g.length = xs.length → (∀ q, dp d q ≤ (g.count true : Nat)) → ∀ (m i : Nat), i + m = xs.length → (∀ q, q < i → wait d g q = false) →
    ∀ r, runL (nodN xs) xs.length fuel d g = some r → ∃ k y, prompterref14_Fits.l1 k xs d g (i : Int) = some y ∧ FitsTo r y := by
  have hn := hG.len
  induction fuel with
  | zero => intro d g _ _ _ m i _ _ r h; simp [runL] at h
  | succ fuel ih =>
    intro d g hd hg hB m
    induction m with
    | zero =>
      intro i hi hbe r h
      unfold runL at h
      rw [nxt_none.2 (fun j hj => hbe j (by omega))] at h
      cases h
      refine ⟨1, (d, -1), ?_, rfl⟩
      simp only [prompterref14_Fits.l1]
      rw [if_neg (by omega)]
    | succ m ihm =>
      intro i hi hbe r h
      cases hw : wait d g i with
      | false =>
        obtain ⟨k, y, h1, h2⟩ := ihm (i + 1) (by omega) (fun q hq => by
          by_cases e : q = i
          · subst e; exact hw
          · exact hbe q (by omega)) r h
        exact ⟨k + 2, y, by rw [l1_skip hd hg hn (by omega) hw]; exact h1, h2⟩
      | true =>
        have hF := hG.fit i (by omega)
        have hgc : g.count true ≤ xs.length := by rw [← hg]; exact List.count_le_length
        have hV := l1_visit hd hg hn (by omega) hw hF (by have := hB i; omega) hbe
        have hpos : 0 ≤ dp d i := by unfold wait at hw; simp at hw; exact hw.1
        have hgi : gn g i = false := by unfold wait at hw; simp at hw; exact hw.2
        unfold runL at h
        rw [nxt_some.2 ⟨by omega, hw, hbe⟩] at h
        simp only at h
        cases hgo : gotoL (nodN xs i) xs.length i d with
        | none =>
          rw [hgo] at h hV
          cases h
          obtain ⟨y, h1, h2⟩ := hV
          exact ⟨20, y, h1, h2⟩
        | some d' =>
          rw [hgo] at h hV
          simp only at h
          obtain ⟨j, hj, hq, hk⟩ := hV
          have hc := gone_count (g := g) (i := i) (by omega) hgi
          have hct : ((g.set i true).count true : Nat) = g.count true + 1 := by
            have h7 := count_tf g
            have h8 := count_tf (g.set i true)
            rw [List.length_set] at h8
            omega
          have hle := gotoL_le (m := (g.count true : Nat)) (nod_le hF).1 (nod_le hF).2 hpos hB hgo
          obtain ⟨k, y, h1, h2⟩ := ih d' (g.set i true) ((gotoL_length hgo).trans hd) (by simpa using hg) (fun q => by have := hle q; rw [hct]; omega) (xs.length - j) j (by omega) hq r h
          exact ⟨k + 20, y, hk k y h1, h2⟩
theorem fits_l0 {xs : List S36} (hn : xs.length ≤ 8192) (hp : 0 < xs.length) (g : List Bool) (k : Nat) (m : Nat) : ∀ i : Nat, i + m = xs.length →
    prompterref14_Fits.l0 (m + 1 + k) xs (List.replicate i (-1) ++ List.replicate m 0) g (i : Int) = prompterref14_Fits.l1 k xs (Lk.start xs.length) g 0 := by
  induction m with
  | zero =>
    intro i hi
    rw [show 0 + 1 + k = k + 1 from by omega]
    simp only [prompterref14_Fits.l0]
    have hl : (List.replicate i (-1 : Int) ++ List.replicate 0 0).length = xs.length := by simp; omega
    rw [if_neg (by rw [hl]; omega), if_pos (by rw [hl]; omega)]
    have : i = xs.length := by omega
    subst this
    simp [Lk.start]
  | succ m ih =>
    intro i hi
    rw [show m + 1 + 1 + k = (m + 1 + k) + 1 from by omega]
    simp only [prompterref14_Fits.l0]
    have hl : (List.replicate i (-1 : Int) ++ List.replicate (m + 1) 0).length = xs.length := by simp; omega
    rw [if_pos (by rw [hl]; omega), if_pos (by omega), Int.toNat_natCast, w64 i (by omega), ← ih (i + 1) (by omega)]
    congr 1
    rw [List.set_append_right _ _ (by simp), List.length_replicate, Nat.sub_self, List.replicate_succ (n := m), List.set_cons_zero, List.replicate_succ' (n := i), List.append_assoc]
    rfl
theorem fits_is {xs : List S36} (hG : Good xs) : ∃ k y, prompterref14_Fits.f k xs = some y ∧ ∀ r, allR xs = some r → FitsTo r y := by
  have hn := hG.len
  have hp := hG.pos
  obtain ⟨r, hr⟩ := runL_some (nodN xs) xs.length (xs.length + 1) (Lk.start xs.length) (noneGone xs.length) (by simp [noneGone]) (by simp [noneGone, List.count_replicate])
  obtain ⟨k, y, h1, h2⟩ := fits_run hG (xs.length + 1) (Lk.start xs.length) (noneGone xs.length) (by simp [Lk.start]) (by simp [noneGone]) (fun q => by rw [start_dp hp]; split <;> omega) xs.length 0 (by omega) (fun q hq => by omega) r hr
  refine ⟨xs.length + 1 + k, y, ?_, fun r' hr' => ?_⟩
  · unfold prompterref14_Fits.f
    rw [if_pos (by omega), if_pos (by omega), if_pos (by omega), Int.toNat_natCast]
    have := fits_l0 hn hp (noneGone xs.length) k xs.length 0 (by omega)
    simp only [List.replicate_zero, List.nil_append] at this
    exact this.trans h1
  · unfold allR at hr'
    rw [hr] at hr'
    cases hr'
    exact h2

/-! ### circles -/
theorem frN_hop {xs : List S36} (i : Nat) (k : Nat) : hop (frN xs) (k + 1) i = if (rd_T36 xs i).f0 = 1 then hop (frN xs) k (rd_T36 xs i).f1.toNat else if (rd_T36 xs i).f0 = 5 then hop (frN xs) k (i + 1) else false := by
  simp only [hop, frN]
  by_cases h1 : (rd_T36 xs i).f0 = 1
  · rw [if_pos h1, if_pos h1]
  · rw [if_neg h1, if_neg h1]
    by_cases h2 : (rd_T36 xs i).f0 = 5
    · rw [if_pos h2, if_pos h2]
    · rw [if_neg h2, if_neg h2]
theorem circle_l0 {xs : List S36} (hG : Good xs) {d : List Int} (hD : ∀ i, 0 ≤ dp d i → Done (nodN xs) xs.length d i) (m : Nat) : ∀ i q : Nat, i < xs.length → 0 ≤ dp d i → q + m = xs.length + 1 →
    prompterref14_Circle.l0 (m + 1) xs (i : Int) (q : Int) = some (hop (frN xs) m i) := by
  have hn := hG.len
  induction m with
  | zero =>
    intro i q hi hd hq
    simp only [prompterref14_Circle.l0]
    rw [if_neg (by omega)]; rfl
  | succ m ih =>
    intro i q hi hd hq
    rw [frN_hop]
    rw [prompterref14_Circle.l0]
    rw [if_pos (by omega), if_pos (by omega), if_pos (by omega), w64 q (by omega)]
    have hfm := fun j hj => fr_met (j := j) (hD i hd) (hG.fit i hi) hj
    by_cases h1 : (rd_T36 xs i).f0 = 1
    · rw [if_pos h1, if_pos h1]
      have := hfm _ (show frN xs i = some (rd_T36 xs i).f1.toNat from by unfold frN; rw [if_pos h1])
      have ha := (hG.fit i hi).a0
      rw [← ih _ (q + 1) this.1 this.2 (by omega), show (((rd_T36 xs i).f1.toNat : Nat) : Int) = (rd_T36 xs i).f1 from by omega]
    · rw [if_neg h1, if_neg h1]
      by_cases h2 : (rd_T36 xs i).f0 = 5
      · rw [if_pos h2, if_pos h2]
        have := hfm _ (show frN xs i = some (i + 1) from by unfold frN; rw [if_neg h1, if_pos h2])
        rw [← ih _ (q + 1) this.1 this.2 (by omega), w64 i (by omega)]
      · rw [if_neg h2, if_neg h2]
theorem circle_is {xs : List S36} (hG : Good xs) {d : List Int} (hD : ∀ i, 0 ≤ dp d i → Done (nodN xs) xs.length d i) {i : Nat} (hi : i < xs.length) (hd : 0 ≤ dp d i) {k : Nat} (hk : xs.length + 2 ≤ k) :
    prompterref14_Circle.f k xs (i : Int) = some (hop (frN xs) (xs.length + 1) i) := by
  have := circle_l0 hG hD (xs.length + 1) i 0 hi hd (by omega)
  exact up (f := fun k => prompterref14_Circle.f k xs (i : Int)) (fun k => prompterref14_Circle.mono xs _ k) hk this

/-! ### Look -/
def refP (xs : List S36) (p : Int) : Int × Int × Int × List Int × Int :=
  match lookP xs p with
  | .inl d => (slotsP xs p, stackP d, 0, d, 0)
  | .inr (i, e) => (0, 0, i, [], e)
theorem slot_is {x : S36} (h0 : 0 ≤ x.f0) (h1 : x.f0 < 256) : (ow x.f0).2.1 = 2 ↔ (kd x.f0).2.1 = 115 := by
  have T := tab h0 h1
  rw [T.a]
  unfold aOf
  rcases T.aa with e | e | e | e <;> rw [e] <;> decide
theorem look_l0_bad {xs : List S36} (hU : Bytes xs) (hn : xs.length ≤ 8192) {b : Nat} (hb : badAt xs = some b) (m : Nat) : ∀ (i : Nat) (s : Int), i + m = b → prompterref14_Look.l0 (m + 41) xs s (i : Int) = some (0, 0, (b : Int), [], 3) := by
  obtain ⟨b1, b2, b3⟩ := badAt_some.1 hb
  induction m with
  | zero =>
    intro i s hi
    obtain rfl : i = b := by omega
    rw [show 0 + 41 = 40 + 1 from rfl, prompterref14_Look.l0]
    rw [if_pos (by omega), if_pos (by omega), Right_is (hU i b1).1 (hU i b1).2 _ (by omega), Option.bind_some, b2, if_neg (by decide)]
  | succ m ih =>
    intro i s hi
    have u := hU i (by omega)
    have hF := okN_fit u.1 u.2 hn (b3 i (by omega))
    rw [show m + 1 + 41 = (m + 41) + 1 from by omega, prompterref14_Look.l0]
    rw [if_pos (by omega), if_pos (by omega), Right_is u.1 u.2 _ (by omega), Option.bind_some, b3 i (by omega), if_pos rfl, (tab u.1 u.2).some _ (by omega), Option.bind_some, w64 i (by omega), ih _ _ (by omega), ih _ _ (by omega)]
    split <;> rfl
theorem look_l0_ok {xs : List S36} (hU : Bytes xs) (hn : xs.length ≤ 8192) (hb : badAt xs = none) {k : Nat} (hk : 40 ≤ k) (m : Nat) : ∀ (i : Nat) (s : Int), i + m = xs.length →
    prompterref14_Look.l0 (m + 1 + k) xs s (i : Int) = (prompterref14_Fits.f k xs).bind fun bt => prompterref14_Look.l1 k xs ((xs.drop i).foldl slotStep s) bt.1 bt.2 0 := by
  have b3 := badAt_none.1 hb
  induction m with
  | zero =>
    intro i s hi
    rw [show 0 + 1 + k = k + 1 from by omega]
    simp only [prompterref14_Look.l0]
    rw [if_neg (by omega), List.drop_eq_nil_of_le (by omega)]
    rfl
  | succ m ih =>
    intro i s hi
    have u := hU i (by omega)
    have hF := okN_fit u.1 u.2 hn (b3 i (by omega))
    have ha := hF.a0
    have ha1 := hF.a1
    rw [show m + 1 + 1 + k = (m + 1 + k) + 1 from by omega]
    simp only [prompterref14_Look.l0]
    rw [if_pos (by omega), if_pos (by omega), Right_is u.1 u.2 _ (by omega), Option.bind_some, b3 i (by omega), if_pos rfl, (tab u.1 u.2).some _ (by omega), Option.bind_some, w64 i (by omega), ih _ _ (by omega), ih _ _ (by omega), drop_cons (show i < xs.length by omega), List.foldl_cons,
      show wrap64 ((rd_T36 xs (i : Int)).f1 + 1) = (rd_T36 xs (i : Int)).f1 + 1 from by unfold wrap64; omega]
    have hs := slot_is u.1 u.2
    by_cases e : (ow (rd_T36 xs (i : Int)).f0).2.1 = 2
    · rw [if_pos e, show slotStep s (rd_T36 xs (i : Int)) = mx s ((rd_T36 xs (i : Int)).f1 + 1) from if_pos (hs.1 e)]
    · rw [if_neg e, show slotStep s (rd_T36 xs (i : Int)) = s from if_neg (fun h => e (hs.2 h))]
theorem look_l2 {d : List Int} (hd : d.length ≤ 8192) (s : Int) (m : Nat) : ∀ (i : Nat) (t : Int), i + m = d.length → prompterref14_Look.l2 (m + 1) s d t (i : Int) = some (s, (d.drop i).foldl mx t, 0, d, 0) := by
  induction m with
  | zero =>
    intro i t hi
    simp only [prompterref14_Look.l2]
    rw [if_neg (by omega), List.drop_eq_nil_of_le (by omega)]
    rfl
  | succ m ih =>
    intro i t hi
    rw [prompterref14_Look.l2]
    rw [if_pos (by omega), if_pos (by omega), w64 i (by omega), rd_dp (by omega), ih _ _ (by omega), dropd_cons (show i < d.length by omega), List.foldl_cons]
theorem look_l1_bad {xs : List S36} (s : Int) (d : List Int) (b : Nat) (q : Int) (k : Nat) : prompterref14_Look.l1 (k + 2) xs s d (b : Int) q = some (0, 0, (b : Int), [], 140) := by
  have e : prompterref14_Look.j3 (k + 1) xs s d (b : Int) q false = some (0, 0, (b : Int), [], 140) := by
    simp only [prompterref14_Look.j3]
    rw [if_neg (by decide), if_pos (by omega)]
  simp only [prompterref14_Look.l1]
  rw [decide_eq_false (show ¬ (b : Int) < 0 by omega), e]
  split <;> rfl
theorem look_l1 {xs : List S36} (hG : Good xs) {d : List Int} (hl : d.length = xs.length) (hD : ∀ i, 0 ≤ dp d i → Done (nodN xs) xs.length d i) (s : Int) (m : Nat) : ∀ i : Nat, i + m = xs.length → (∀ j, j < i → ¬ (0 ≤ dp d j ∧ hop (frN xs) (xs.length + 1) j = true)) →
    prompterref14_Look.l1 (2 * m + 2 * xs.length + 10) xs s d (-1) (i : Int) = match circL (frN xs) xs.length d with
      | some b => some (0, 0, (b : Int), [], 140)
      | none => some (s, stackP d, 0, d, 0) := by
  have hn := hG.len
  induction m with
  | zero =>
    intro i hi hbe
    have hc : circL (frN xs) xs.length d = none := circL_none.2 (fun j hj h0 => by
      have := hbe j (by omega)
      cases h : hop (frN xs) (xs.length + 1) j with
      | false => rfl
      | true => exact absurd ⟨h0, h⟩ this)
    rw [hc]
    simp only
    rw [show 2 * 0 + 2 * xs.length + 10 = (2 * xs.length + 8) + 1 + 1 from by omega]
    simp only [prompterref14_Look.l1]
    rw [if_neg (by omega)]
    simp only [prompterref14_Look.j3]
    rw [if_neg (by decide), if_neg (by omega)]
    have := look_l2 (d := d) (by omega) s d.length 0 0 (by omega)
    exact up (f := fun k => prompterref14_Look.l2 k s d 0 0) (fun k => (prompterref14_Look.mono_l k).2.2.2.2 _ _ _ _) (show d.length + 1 ≤ 2 * xs.length + 8 by omega) this
  | succ m ih =>
    intro i hi hbe
    rw [show 2 * (m + 1) + 2 * xs.length + 10 = (2 * m + 2 * xs.length + 10) + 1 + 1 from by omega]
    simp only [prompterref14_Look.l1]
    rw [if_pos (by omega), decide_eq_true (show (-1 : Int) < 0 by decide)]
    simp only [prompterref14_Look.j3]
    rw [if_pos trivial, if_pos (by omega), if_pos (by omega), rd_dp (by omega), w64 i (by omega)]
    by_cases h0 : dp d i ≥ 0
    · rw [if_pos h0, circle_is hG hD (by omega) h0 (by omega), Option.bind_some]
      cases hh : hop (frN xs) (xs.length + 1) i with
      | true =>
        rw [if_pos rfl, show 2 * m + 2 * xs.length + 10 = (2 * m + 2 * xs.length + 8) + 2 from by omega, look_l1_bad, circL_some.2 ⟨show i < xs.length by omega, h0, hh, hbe⟩]
      | false =>
        rw [if_neg (by decide)]
        refine ih (i + 1) (by omega) (fun j hj => ?_)
        by_cases e : j = i
        · subst e; rw [hh]; simp
        · exact hbe j (by omega)
    · rw [if_neg h0]
      refine ih (i + 1) (by omega) (fun j hj => ?_)
      by_cases e : j = i
      · subst e; exact fun h => h0 h.1
      · exact hbe j (by omega)
theorem look_is {xs : List S36} (hU : Bytes xs) (p : Int) : ∃ k, prompterref14_Look.f k xs p = some (refP xs p) := by
  unfold refP lookP
  by_cases hp : p < 0 ∨ 100 < p
  · rw [if_pos hp]
    refine ⟨1, ?_⟩
    unfold prompterref14_Look.f
    by_cases h : p < 0
    · rw [if_pos h]; rfl
    · rw [if_neg h, decide_eq_true (by omega)]; rfl
  · rw [if_neg hp]
    have f0 : ∀ k, prompterref14_Look.f (k + 1) xs p = if (xs.length : Int) > 8192 then some (0, 0, 0, ([] : List Int), 2) else (if (xs.length : Int) = 0 then (some (0, 0, 0, ([] : List Int), 3)) else (prompterref14_Look.l0 k xs p 0)) := fun k => by
      unfold prompterref14_Look.f
      rw [if_neg (by omega), decide_eq_false (by omega)]
      simp only [prompterref14_Look.j0]
      rw [if_neg (by decide)]
    by_cases h1 : 8192 < xs.length
    · rw [if_pos h1]
      exact ⟨1, by rw [f0, if_pos (by omega)]⟩
    · rw [if_neg h1]
      by_cases h2 : xs.length = 0
      · rw [if_pos h2]
        exact ⟨1, by rw [f0, if_neg (by omega), if_pos (by omega)]⟩
      · rw [if_neg h2]
        have f1 : ∀ k, prompterref14_Look.f (k + 1) xs p = prompterref14_Look.l0 k xs p 0 := fun k => by rw [f0, if_neg (by omega), if_neg (by omega)]
        cases hb : badAt xs with
        | some b => exact ⟨b + 42, by rw [f1]; exact look_l0_bad hU (by omega) hb b 0 p (by omega)⟩
        | none =>
          have hG := good hU (by omega) h2 hb
          obtain ⟨r, hr⟩ := all_some xs
          obtain ⟨k, y, hf, hy⟩ := fits_is hG
          have hy := hy r hr
          simp only
          rw [lookL_is, hr]
          have h3 : ∀ q, k ≤ q → 40 ≤ q → prompterref14_Look.f (xs.length + 1 + q + 1) xs p = prompterref14_Look.l1 q xs (slotsP xs p) y.1 y.2 0 := fun q hq h40 => by
            rw [f1]
            have := look_l0_ok hU (by omega) hb h40 xs.length 0 p (by omega)
            simp only [List.drop_zero] at this
            refine this.trans ?_
            rw [up (f := fun k => prompterref14_Fits.f k xs) (fun k => prompterref14_Fits.mono xs k) hq hf, Option.bind_some]
            rfl
          cases r with
          | inr i =>
            have e : y.2 = (i : Int) := hy
            refine ⟨xs.length + 1 + (k + 40 + 2) + 1, ?_⟩
            rw [h3 _ (by omega) (by omega), e, look_l1_bad]
          | inl d =>
            have e : y = (d, -1) := hy
            obtain ⟨hl, -, hD⟩ := all_done hG hr
            have h4 := look_l1 hG hl hD (slotsP xs p) xs.length 0 (by omega) (fun j hj => by omega)
            refine ⟨xs.length + 1 + (k + 4 * xs.length + 50) + 1, ?_⟩
            rw [h3 _ (by omega) (by omega), e]
            have h5 : ∀ z, prompterref14_Look.l1 (2 * xs.length + 2 * xs.length + 10) xs (slotsP xs p) d (-1) 0 = some z → prompterref14_Look.l1 (k + 4 * xs.length + 50) xs (slotsP xs p) d (-1) 0 = some z := fun z hz =>
              up (f := fun k => prompterref14_Look.l1 k xs (slotsP xs p) d (-1) 0) (fun k => (prompterref14_Look.mono_l k).2.2.1 _ _ _ _ _) (by omega) hz
            have h6 : ((0 : Nat) : Int) = 0 := rfl
            rw [h6] at h4
            cases hc : circL (frN xs) xs.length d with
            | some b => simp only [hc] at h4 ⊢; exact h5 _ h4
            | none => simp only [hc] at h4 ⊢; exact h5 _ h4
end Go.Proofs.Ytcpjjnikehcleaa.Rt
