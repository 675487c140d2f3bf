/- Reading bytes: the document's own reading, in plain. -/
import Derived.Test.YtcpjjnikehcleaaS6
import Derived.Test.YtcpjjnikehcleaaPRdx3
namespace Go.Proofs.Ytcpjjnikehcleaa.Sr
open Go.RowKit PChk Hq Gw Rt Go.Proofs.YtcpjjnikehcleaaW.PrintWords Go.Proofs.YtcpjjnikehcleaaW.PrintLast Go.Proofs.YtcpjjnikehcleaaW.PrintMore
set_option linter.unusedVariables false
set_option linter.unusedSimpArgs false

theorem pow64 {i : Nat} (hi : i ≤ 8) : (2 : Int) ^ (7 * (i + 1)) ≤ 9223372036854775808 := by
  have h1 : (2 : Nat) ^ (7 * (i + 1)) ≤ 2 ^ 63 := Nat.pow_le_pow_right (by decide) (by omega)
  have h2 : (2 : Nat) ^ 63 = 9223372036854775808 := by decide
  have h3 : (2 : Int) ^ (7 * (i + 1)) = (((2 : Nat) ^ (7 * (i + 1)) : Nat) : Int) := by simp
  rw [h2] at h1
  rw [h3]
  generalize (2 : Nat) ^ (7 * (i + 1)) = z at *
  omega
theorem wu {n : Int} (h0 : 0 ≤ n) (h1 : n < 18446744073709551616) : IntKind.u64.wrap n = n := wraps_u64 n h0 h1
theorem ref_val {i : Nat} {x acc : Int} (hi : i ≤ 9) (h0 : 0 ≤ x) (h1 : x < 256) (h9 : i = 9 → x = 1) (ha : 0 ≤ acc) (hb : acc < 2 ^ (7 * i)) :
    IntKind.u64.wrap (acc + shl .u64 (IntKind.u64.wrap (Int.tmod x 128)) (IntKind.u64.wrap (wrap64 (7 * (i : Int))))) = acc + (x % 128) * 2 ^ (7 * i) := by
  have e1 : wrap64 (7 * (i : Int)) = 7 * (i : Int) := by unfold wrap64; omega
  have e2 : IntKind.u64.wrap (7 * (i : Int)) = 7 * (i : Int) := wu (by omega) (by omega)
  have e3 : Int.tmod x 128 = x % 128 := Int.tmod_eq_emod_of_nonneg h0
  have e4 : IntKind.u64.wrap (x % 128) = x % 128 := wu (by omega) (by omega)
  rw [e1, e2, e3, e4]
  unfold shl
  rw [show (7 * (i : Int)).toNat = 7 * i from by omega, Nat.min_eq_left (show 7 * i ≤ IntKind.u64.bits from by show 7 * i ≤ 64; omega)]
  have hl := num_lt (x := x) h0 ha hb
  have hp : (0 : Int) < 2 ^ (7 * i) := Int.pow_pos (by decide)
  have hy : 0 ≤ (x % 128) * 2 ^ (7 * i) := Int.mul_nonneg (by omega) (by omega)
  have hlim : acc + (x % 128) * 2 ^ (7 * i) < 18446744073709551616 := by
    by_cases e : i = 9
    · have hx := h9 e
      subst e
      subst hx
      have hb' : acc < 9223372036854775808 := hb
      show acc + 1 * 9223372036854775808 < 18446744073709551616
      omega
    · have := pow64 (i := i) (by omega)
      omega
  rw [wu hy (by omega), wu hl.1 (by omega)]
theorem wadd {a b : Nat} (h : a + b < 4611686018427387904) : wrap64 ((a : Int) + (b : Int)) = ((a + b : Nat) : Int) := by unfold wrap64; omega
theorem refuint_l0 {bs : List Int} (hb : U8 bs) (hl : bs.length < 1000000) (p : Nat) (hp : p ≤ bs.length) : ∀ (m i : Nat) (acc : Int), i + m = 10 → i ≤ 9 ∨ m = 0 → p + i ≤ bs.length → 0 ≤ acc → acc < 2 ^ (7 * i) → (i ≤ 9) →
    prompterref05_ReadUint.l0 (2 * m + 1) bs (p : Int) acc (i : Int) = some (told (numGo bs m i (p + i) acc)) := by
  intro m
  induction m with
  | zero => intro i acc hi _ _ _ _ h9; omega
  | succ m ih =>
    intro i acc hi _ hpl h0 h1 h9
    rw [show 2 * (m + 1) + 1 = (2 * m + 1) + 1 + 1 from by omega, prompterref05_ReadUint.l0, numGo]
    have q1 : (i : Int) < 10 := by omega
    have hw : wrap64 ((p : Int) + (i : Int)) = ((p + i : Nat) : Int) := wadd (by omega)
    rw [if_pos q1, hw]
    by_cases hend : bs.length ≤ p + i
    · have q2 : ((p + i : Nat) : Int) ≥ (bs.length : Int) := by omega
      rw [if_pos q2, if_pos hend]
      rfl
    · have q2 : ¬ ((p + i : Nat) : Int) ≥ (bs.length : Int) := by omega
      have q3 : (0 : Int) ≤ ((p + i : Nat) : Int) := by omega
      have q4 : ((p + i : Nat) : Int) < (bs.length : Int) := by omega
      rw [if_neg q2, if_neg hend, if_pos q3, if_pos q4]
      have e20 : (0 : Int) ≤ IntKind.u64.wrap (wrap64 (7 * (i : Int))) := by
        have hs : wrap64 (7 * (i : Int)) = 7 * (i : Int) := by unfold wrap64; omega
        rw [hs, wu (by omega) (by omega)]
        omega
      have hw2 : wrap64 (((p + i : Nat) : Int) + 1) = ((p + i + 1 : Nat) : Int) := wadd (a := p + i) (b := 1) (by omega)
      have hw3 : wrap64 ((i : Int) + 1) = ((i + 1 : Nat) : Int) := wadd (a := i) (b := 1) (by omega)
      have HW := Aside0.mk hw
      have HW2 := Aside0.mk hw2
      have HW3 := Aside0.mk hw3
      have HE := Aside0.mk e20
      clear hw hw2 hw3 e20
      have hx := hb.at (p + i)
      generalize hxx : rd bs ((p + i : Nat) : Int) = x at *
      have bad : prompterref05_ReadUint.j1 (2 * m + 1 + 1) bs (p : Int) acc (i : Int) x true = some (0, ((p + i : Nat) : Int), 3) := by
        rw [prompterref05_ReadUint.j1, if_pos rfl, HW.out]
      by_cases hbad : (x = 0 ∧ 0 < i) ∨ (i = 9 ∧ x ≠ 1)
      · rw [if_pos hbad]
        by_cases hi0 : (i : Int) > 0
        · rw [if_pos hi0]
          by_cases hx0 : x = 0
          · rw [if_pos hx0, bad]; rfl
          · have e9 : i = 9 ∧ x ≠ 1 := hbad.resolve_left (fun h => hx0 h.1)
            rw [if_neg hx0, if_pos (show (i : Int) = 9 by omega), bne_iff_ne.mpr e9.2, bad]; rfl
        · exfalso
          rcases hbad with h | h <;> omega
      · rw [if_neg hbad]
        have good : ∀ b, b = false → prompterref05_ReadUint.j1 (2 * m + 1 + 1) bs (p : Int) acc (i : Int) x b = some (told (if x < 128 then .inl (acc + x * 2 ^ (7 * i), p + i + 1) else numGo bs m (i + 1) (p + i + 1) (acc + (x - 128) * 2 ^ (7 * i)))) := fun b hbf => by
          subst hbf
          have hv := ref_val h9 hx.1 hx.2 (fun e => by
            apply Decidable.byContradiction
            intro h; exact hbad (Or.inr ⟨e, h⟩)) h0 h1
          rw [prompterref05_ReadUint.j1, if_neg (by decide), if_pos HE.out, hv, HW.out, HW2.out, HW3.out]
          clear hv
          by_cases hlt : x < 128
          · rw [if_pos hlt, if_pos hlt, Int.emod_eq_of_lt hx.1 hlt]
            rfl
          · rw [if_neg hlt, if_neg hlt, show x - 128 = x % 128 from by omega]
            have hn9 : i ≠ 9 := fun e => by
              have : x = 1 := by
                apply Decidable.byContradiction
                intro h; exact hbad (Or.inr ⟨e, h⟩)
              omega
            have hl2 := num_lt (x := x) hx.1 h0 h1
            exact ih (i + 1) _ (by omega) (Or.inl (by omega)) (by omega) hl2.1 hl2.2 (by omega)
        have hx0 : ¬ (x = 0 ∧ 0 < i) := fun h => hbad (Or.inl h)
        by_cases hi0 : (i : Int) > 0
        · rw [if_pos hi0, if_neg (fun h => hx0 ⟨h, by omega⟩)]
          by_cases e9 : (i : Int) = 9
          · have hx1 : x = 1 := by
              apply Decidable.byContradiction
              intro h; exact hbad (Or.inr ⟨by omega, h⟩)
            rw [if_pos e9]
            exact good _ (bne_eq_false_iff_eq.mpr hx1)
          · rw [if_neg e9]
            exact good _ rfl
        · rw [if_neg hi0, if_neg (show ¬ (i : Int) = 9 by omega)]
          exact good _ rfl
theorem refuint {bs : List Int} (hb : U8 bs) (hl : bs.length < 1000000) {p : Nat} (hp : p ≤ bs.length) {k : Nat} (hk : 21 ≤ k) : prompterref05_ReadUint.f k bs (p : Int) = some (told (numP bs p)) := by
  have := refuint_l0 hb hl p hp 10 0 0 rfl (Or.inl (by omega)) (by omega) (Int.le_refl _) (by decide) (by omega)
  exact up (f := fun k => prompterref05_ReadUint.f k bs (p : Int)) (fun k => prompterref05_ReadUint.mono bs _ k) hk this
theorem refint {bs : List Int} (hb : U8 bs) (hl : bs.length < 1000000) {p : Nat} (hp : p ≤ bs.length) {k : Nat} (hk : 21 ≤ k) : prompterref05_ReadInt.f k bs (p : Int) = some (told (intP bs p)) := by
  unfold prompterref05_ReadInt.f intP
  have hu := refuint hb hl hp hk
  cases h : numP bs p with
  | inr r =>
    obtain ⟨q, e⟩ := r
    have := (numP_err hp h).2
    rw [h] at hu
    replace hu : prompterref05_ReadUint.f k bs (p : Int) = some (0, (q : Int), e) := hu
    rw [hu, Option.bind_some]
    simp only
    rw [if_neg (show ¬ e = 0 by omega)]
    rfl
  | inl r =>
    obtain ⟨v, q⟩ := r
    have hbd := numP_bd hb h
    rw [h] at hu
    replace hu : prompterref05_ReadUint.f k bs (p : Int) = some (v, (q : Int), 0) := hu
    rw [hu, Option.bind_some]
    simp only
    rw [if_pos trivial]
    have e1 : Int.tmod v 2 = v % 2 := Int.tmod_eq_emod_of_nonneg hbd.1
    have e2 : Int.tdiv v 2 = v / 2 := Int.tdiv_eq_ediv_of_nonneg hbd.1
    have e3 : IntKind.u64.wrap (v / 2) = v / 2 := wu (by omega) (by omega)
    rw [e1, e2, e3]
    unfold zag
    by_cases hv : v % 2 = 1
    · rw [if_pos hv, if_neg (by omega)]
      have e4 : wrap64 (wrap64 (-wrap64 (v / 2)) - 1) = -(v / 2) - 1 := by unfold wrap64; omega
      rw [e4]
      rfl
    · rw [if_neg hv, if_pos (by omega)]
      have e4 : wrap64 (v / 2) = v / 2 := by unfold wrap64; omega
      rw [e4]
      rfl
theorem reftext {bs : List Int} (hb : U8 bs) (hl : bs.length < 1000000) {p : Nat} (hp : p ≤ bs.length) {k : Nat} (hk : 21 ≤ k) : prompterref05_ReadText.f k bs (p : Int) = some (toldT (textP bs p)) := by
  unfold prompterref05_ReadText.f textP
  have hu := refuint hb hl hp hk
  cases h : numP bs p with
  | inr r =>
    obtain ⟨q, e⟩ := r
    have := (numP_err hp h).2
    rw [h] at hu
    replace hu : prompterref05_ReadUint.f k bs (p : Int) = some (0, (q : Int), e) := hu
    rw [hu, Option.bind_some]
    simp only
    rw [if_neg (show ¬ e = 0 by omega)]
    rfl
  | inl r =>
    obtain ⟨v, q⟩ := r
    have hbd := numP_bd hb h
    rw [h] at hu
    replace hu : prompterref05_ReadUint.f k bs (p : Int) = some (v, (q : Int), 0) := hu
    rw [hu, Option.bind_some]
    simp only
    have e1 : wrap64 ((bs.length : Int) - (q : Int)) = (bs.length : Int) - (q : Int) := by unfold wrap64; omega
    have e2 : IntKind.u64.wrap ((bs.length : Int) - (q : Int)) = (bs.length : Int) - (q : Int) := wu (by omega) (by omega)
    rw [if_pos trivial, e1, e2]
    by_cases hv : v > (bs.length : Int) - (q : Int)
    · rw [if_pos hv, if_pos hv]
      rfl
    · rw [if_neg hv, if_neg hv]
      obtain ⟨n, rfl⟩ := Int.eq_ofNat_of_zero_le hbd.1
      have e3 : wrap64 (n : Int) = (n : Int) := by unfold wrap64; omega
      have e4 : wrap64 ((q : Int) + (n : Int)) = ((q + n : Nat) : Int) := wadd (by omega)
      rw [e3, e4, if_pos (by omega), if_pos (by omega), if_pos (by omega), Int.toNat_natCast, Int.toNat_natCast, Int.toNat_natCast]
      rfl
/-! ### an instruction -/
def OneRef (r : Sum (S36 × Nat) (Nat × Int)) (y : Option (Int × Int × Int × ByteArray × Int × Int)) : Prop :=
  match r with
  | .inl (x, t) => y = some (x.f0, x.f1, x.f2, x.f3, (t : Int), 0)
  | .inr (t, e) => ∃ a b c d, y = some (a, b, c, d, (t : Int), e)
theorem clamp_big {a : Int} (h : a > 1099511627776) : 8192 < clampA a := by unfold clampA; split <;> omega
theorem clamp_small {a : Int} (h : ¬ a > 1099511627776) : clampA a = a := by unfold clampA; rw [if_neg (by omega)]
theorem w_small {a : Int} (h0 : 0 ≤ a) (h : ¬ a > 1099511627776) : wrap64 a = a := by unfold wrap64; omega
theorem topN_le {nn : Int} (hn : nn ≤ 8192) (a : Int) : topN nn a ≤ 8192 := by unfold topN; split; exact hn; split; decide; split <;> decide
theorem okN_big {nn : Int} {x : S36} (hn : nn ≤ 8192) (h : 8192 < x.f1) : okN nn x = false := by
  have h2 := topN_le hn (kd x.f0).2.1
  unfold okN
  split
  · rfl
  · split
    · rfl
    · rw [if_pos (Or.inr (Int.le_trans h2 (Int.le_of_lt h)))]
theorem big0 : (0 : Int) < 18446744073709551616 := by decide
theorem e34 {e : Int} (h : e = 3 ∨ e = 4) : ¬ e = 0 := by rcases h with h | h <;> rw [h] <;> decide
def tailT (p : Nat) (nn op a m : Int) : Sum (ByteArray × Nat) (Nat × Int) → Sum (S36 × Nat) (Nat × Int)
  | .inr e => .inr e
  | .inl (s, t3) => if okN nn ⟨op, clampA a, m, s⟩ = true then .inl (⟨op, clampA a, m, s⟩, t3) else .inr (p, 3)
def tailI (bs : List Int) (ktext : Int) (p : Nat) (nn op a : Int) : Sum (Int × Nat) (Nat × Int) → Sum (S36 × Nat) (Nat × Int)
  | .inr e => .inr e
  | .inl (m, t2) => tailT p nn op a m (optText (ktext != 0) bs t2)
def tailN (bs : List Int) (knum : Bool) (ktext : Int) (p : Nat) (nn op : Int) : Sum (Int × Nat) (Nat × Int) → Sum (S36 × Nat) (Nat × Int)
  | .inr e => .inr e
  | .inl (a, t1) => tailI bs ktext p nn op a (optInt knum bs t1)
theorem oneP_tail (bs : List Int) (p : Nat) (nn : Int) : oneP bs p nn = if bs.length ≤ p then .inr (p, 4) else tailN bs (kd (rd bs (p : Int))).2.2.1 (kd (rd bs (p : Int))).2.2.2.1 p nn (rd bs (p : Int)) (optNum ((kd (rd bs (p : Int))).2.1 != 0) bs (p + 1)) := by
  unfold oneP
  split
  · rfl
  · cases h1 : optNum ((kd (rd bs (p : Int))).2.1 != 0) bs (p + 1) with
    | inr e => rfl
    | inl r =>
      obtain ⟨a, t1⟩ := r
      simp only [tailN]
      cases h2 : optInt (kd (rd bs (p : Int))).2.2.1 bs t1 with
      | inr e => rfl
      | inl r =>
        obtain ⟨m, t2⟩ := r
        simp only [tailI]
        cases h3 : optText ((kd (rd bs (p : Int))).2.2.2.1 != 0) bs t2 with
        | inr e => rfl
        | inl r => obtain ⟨s, t3⟩ := r; rfl
theorem ref_j3 {nn op : Int} (hn : nn ≤ 8192) (h0 : 0 ≤ op) (h1 : op < 256) {k : Nat} (hk : 45 ≤ k) (p : Nat) {a : Int} (m : Int) (s : ByteArray) (t3 : Nat) (ha : 0 ≤ a) :
    OneRef (tailT p nn op a m (.inl (s, t3))) (prompterref14_one.j3 (k + 1) (p : Int) nn (t3 : Int) a op 0 m s) := by
  rw [prompterref14_one.j3]
  show OneRef (if okN nn ⟨op, clampA a, m, s⟩ = true then .inl (⟨op, clampA a, m, s⟩, t3) else .inr (p, 3)) _
  by_cases hbig : a > 1099511627776
  · rw [if_pos hbig]
    have hno : okN nn ⟨op, clampA a, m, s⟩ = false := okN_big hn (clamp_big hbig)
    rw [hno, if_neg (by decide)]
    exact ⟨_, _, _, _, rfl⟩
  · rw [if_neg hbig, clamp_small hbig, w_small ha hbig]
    have hr := Right_is (x := ⟨op, a, m, s⟩) h0 h1 nn (k := k) (by omega)
    simp only at hr
    rw [hr, Option.bind_some]
    cases hok : okN nn ⟨op, a, m, s⟩ with
    | true => rw [if_pos rfl, if_pos rfl]; rfl
    | false => rw [if_neg (by decide), if_neg (by decide)]; exact ⟨_, _, _, _, rfl⟩
theorem ref_j2 {bs : List Int} (hb : U8 bs) (hl : bs.length < 1000000) {nn op : Int} (hn : nn ≤ 8192) (h0 : 0 ≤ op) (h1 : op < 256) {k : Nat} (hk : 45 ≤ k) (p : Nat) {a : Int} (m : Int) (t2 : Nat) (ht2 : t2 ≤ bs.length) (ha : 0 ≤ a) (b : Bool) :
    OneRef (tailT p nn op a m (optText b bs t2)) (prompterref14_one.j2 (k + 2) bs (p : Int) nn (t2 : Int) a b op 0 m ⟨#[]⟩) := by
  rw [prompterref14_one.j2]
  cases b with
  | false =>
    rw [if_neg (by decide)]
    exact ref_j3 hn h0 h1 hk p m ⟨#[]⟩ t2 ha
  | true =>
    rw [if_pos rfl]
    have ht := reftext hb hl ht2 (k := k + 1) (by omega)
    have hf := optText_fine (b := true) hb ht2
    rw [show optText true bs t2 = textP bs t2 from rfl] at hf ⊢
    cases h3 : textP bs t2 with
    | inr r =>
      obtain ⟨q, e⟩ := r
      have he := (hf.2 q e h3).2
      rw [h3] at ht
      replace ht : prompterref05_ReadText.f (k + 1) bs (t2 : Int) = some (⟨#[]⟩, (q : Int), e) := ht
      rw [ht, Option.bind_some]
      simp only
      rw [if_neg (e34 he)]
      exact ⟨_, _, _, _, rfl⟩
    | inl r =>
      obtain ⟨s, t3⟩ := r
      rw [h3] at ht
      replace ht : prompterref05_ReadText.f (k + 1) bs (t2 : Int) = some (s, (t3 : Int), 0) := ht
      rw [ht, Option.bind_some]
      simp only
      rw [if_pos trivial]
      exact ref_j3 hn h0 h1 hk p m s t3 ha
theorem ref_j1 {bs : List Int} (hb : U8 bs) (hl : bs.length < 1000000) {nn op : Int} (hn : nn ≤ 8192) (h0 : 0 ≤ op) (h1 : op < 256) {k : Nat} (hk : 45 ≤ k) (p : Nat) {a : Int} (m : Int) (t2 : Nat) (ht2 : t2 ≤ bs.length) (ha : 0 ≤ a)
    {ktext : Int} (t8 : ktext = 0 ∨ ktext = 120 ∨ ktext = 110) (word : ByteArray) (oa : Int) (on : Bool) (o1 o2 : Int) :
    OneRef (tailT p nn op a m (optText (ktext != 0) bs t2)) (prompterref14_one.j1 (k + 3) bs (p : Int) nn (t2 : Int) a op 0 m ⟨#[]⟩ word oa on (decide (ktext = 120)) (decide (ktext = 110)) o1 o2) := by
  rw [prompterref14_one.j1]
  rcases t8 with e | e | e
  · subst e
    rw [show decide ((0 : Int) = 120) = false from rfl, show decide ((0 : Int) = 110) = false from rfl, show ((0 : Int) != 0) = false from rfl, if_neg (by decide)]
    exact ref_j2 hb hl hn h0 h1 hk p m t2 ht2 ha false
  · subst e
    rw [show decide ((120 : Int) = 120) = true from rfl, show ((120 : Int) != 0) = true from rfl, if_pos rfl]
    exact ref_j2 hb hl hn h0 h1 hk p m t2 ht2 ha true
  · subst e
    rw [show decide ((110 : Int) = 120) = false from rfl, show decide ((110 : Int) = 110) = true from rfl, show ((110 : Int) != 0) = true from rfl, if_neg (by decide)]
    exact ref_j2 hb hl hn h0 h1 hk p m t2 ht2 ha true
theorem ref_j0 {bs : List Int} (hb : U8 bs) (hl : bs.length < 1000000) {nn op : Int} (hn : nn ≤ 8192) (h0 : 0 ≤ op) (h1 : op < 256) {k : Nat} (hk : 45 ≤ k) (p : Nat) {a : Int} (t1 : Nat) (ht1 : t1 ≤ bs.length) (ha : 0 ≤ a)
    {ktext : Int} (t8 : ktext = 0 ∨ ktext = 120 ∨ ktext = 110) (word : ByteArray) (oa : Int) (on : Bool) (o1 o2 : Int) :
    OneRef (tailI bs ktext p nn op a (optInt on bs t1)) (prompterref14_one.j0 (k + 4) bs (p : Int) nn (t1 : Int) a op 0 0 ⟨#[]⟩ word oa on (decide (ktext = 120)) (decide (ktext = 110)) o1 o2) := by
  rw [prompterref14_one.j0]
  cases on with
  | false =>
    rw [if_neg (by decide)]
    exact ref_j1 hb hl hn h0 h1 hk p 0 t1 ht1 ha t8 word oa false o1 o2
  | true =>
    rw [if_pos rfl]
    have ht := refint hb hl ht1 (k := k + 3) (by omega)
    have hf := optInt_fine (b := true) hb ht1
    rw [show optInt true bs t1 = intP bs t1 from rfl] at hf ⊢
    cases h3 : intP bs t1 with
    | inr r =>
      obtain ⟨q, e⟩ := r
      have he := (hf.2 q e h3).2
      rw [h3] at ht
      replace ht : prompterref05_ReadInt.f (k + 3) bs (t1 : Int) = some (0, (q : Int), e) := ht
      rw [ht, Option.bind_some]
      simp only
      rw [if_neg (e34 he)]
      exact ⟨_, _, _, _, rfl⟩
    | inl r =>
      obtain ⟨m, t2⟩ := r
      rw [h3] at ht
      replace ht : prompterref05_ReadInt.f (k + 3) bs (t1 : Int) = some (m, (t2 : Int), 0) := ht
      rw [ht, Option.bind_some]
      simp only
      rw [if_pos trivial]
      exact ref_j1 hb hl hn h0 h1 hk p m t2 (hf.1 m t2 h3).1 ha t8 word oa true o1 o2
theorem aOf0 {ka : Int} (t4 : ka = 0 ∨ ka = 116 ∨ ka = 115 ∨ ka = 99) : (aOf ka = 0) ↔ ((ka != 0) = false) := by
  rcases t4 with e | e | e | e <;> subst e <;> decide
theorem refone {bs : List Int} (hb : U8 bs) (hl : bs.length < 1000000) {p : Nat} (hp : p ≤ bs.length) {nn : Int} (hn : nn ≤ 8192) {k : Nat} (hk : 60 ≤ k) : OneRef (oneP bs p nn) (prompterref14_one.f k bs (p : Int) nn) := by
  rw [oneP_tail]
  unfold prompterref14_one.f
  by_cases h : bs.length ≤ p
  · rw [if_pos h, if_pos (show (p : Int) ≥ (bs.length : Int) by omega)]
    obtain rfl : p = bs.length := by omega
    exact ⟨_, _, _, _, rfl⟩
  · have q1 : ¬ (p : Int) ≥ (bs.length : Int) := by omega
    have q2 : (0 : Int) ≤ (p : Int) := by omega
    have q3 : (p : Int) < (bs.length : Int) := by omega
    have q4 : p + 1 ≤ bs.length := by omega
    have hw : wrap64 ((p : Int) + 1) = ((p + 1 : Nat) : Int) := wadd (a := p) (b := 1) (by omega)
    rw [if_neg h, if_neg q1, if_pos q2, if_pos q3, hw]
    clear hw
    have hx := hb.at p
    obtain ⟨op, hop⟩ : ∃ op, rd bs (p : Int) = op := ⟨_, rfl⟩
    rw [hop] at hx ⊢
    have T := tab hx.1 hx.2
    rw [T.some k (by omega), Option.bind_some]
    obtain ⟨k, rfl⟩ : ∃ m, k = m + 4 := ⟨k - 4, by omega⟩
    have t3 := T.a
    have t4 := T.aa
    have t5 := T.num
    have t6 := T.any
    have t7 := T.name
    have t8 := T.text
    clear T
    generalize kd op = K at *
    generalize ow op = O at *
    obtain ⟨word, ka, knum, ktext, ktakes, kleave, kmany, kends⟩ := K
    obtain ⟨oword, oa, onum, oany, oname, otakes, oleave⟩ := O
    simp only at t3 t4 t5 t6 t7 t8 ⊢
    subst t3 t5 t6 t7
    have hka := aOf0 t4
    have J := fun a t1 ht1 ha => ref_j0 hb hl hn hx.1 hx.2 (k := k) (by omega) p (a := a) t1 ht1 ha t8 oword (aOf ka) onum otakes oleave
    cases hk0 : (ka != 0) with
    | false =>
      rw [if_pos (hka.2 hk0)]
      exact J 0 (p + 1) q4 (Int.le_refl _)
    | true =>
      rw [if_neg (fun e => by rw [hka.1 e] at hk0; cases hk0)]
      have ht := refuint hb hl q4 (k := k + 4) (by omega)
      have hf := optNum_fine (b := true) hb q4
      rw [show optNum true bs (p + 1) = numP bs (p + 1) from rfl] at hf ⊢
      cases h3 : numP bs (p + 1) with
      | inr r =>
        obtain ⟨q, e⟩ := r
        have he := (hf.2 q e h3).2
        rw [h3] at ht
        replace ht : prompterref05_ReadUint.f (k + 4) bs ((p + 1 : Nat) : Int) = some (0, (q : Int), e) := ht
        rw [ht, Option.bind_some]
        simp only
        rw [if_neg (e34 he)]
        exact ⟨_, _, _, _, rfl⟩
      | inl r =>
        obtain ⟨a, t1⟩ := r
        have hbd := hf.1 a t1 h3
        rw [h3] at ht
        replace ht : prompterref05_ReadUint.f (k + 4) bs ((p + 1 : Nat) : Int) = some (a, (t1 : Int), 0) := ht
        rw [ht, Option.bind_some]
        simp only
        rw [if_pos trivial]
        exact J a t1 hbd.2.2.1 hbd.1
end Go.Proofs.Ytcpjjnikehcleaa.Sr
