/- Names by their last touch; fresh: in plain. -/
import Derived.Test.YtcfdldgekfacfaaQ4
namespace Go.Proofs.Ytcfdldgekfacfaa.Lr
open Go.RowKit Go.Proofs.YtcfdldgekfacfaaW.PrintWords Go.Proofs.YtcfdldgekfacfaaW.PrintLast Go.Proofs.YtcfdldgekfacfaaW.PrintMore
set_option linter.unusedVariables false
set_option linter.unusedSimpArgs false
theorem toList_loop (bs : ByteArray) (i : Nat) (r : List UInt8) : ByteArray.toList.loop bs i r = r.reverse ++ bs.data.toList.drop i := by
  by_cases h : i < bs.size
  · rw [ByteArray.toList.loop, if_pos h, toList_loop bs (i+1)]
    have h' : i < bs.data.toList.length := by simpa using h
    rw [List.drop_eq_getElem_cons h']
    have : bs.get! i = bs.data.toList[i] := by
      cases bs with | mk d =>
      show d[i]! = _
      have : i < d.size := h
      simp [this]
    rw [this]
    simp
  · rw [ByteArray.toList.loop, if_neg h, List.drop_eq_nil_of_le]
    · simp
    · have : bs.data.toList.length = bs.size := by rw [Array.length_toList]; rfl
      omega
termination_by bs.size - i
theorem toList_inj {a b : ByteArray} (h : a.toList = b.toList) : a = b := by
  unfold ByteArray.toList at h
  rw [toList_loop, toList_loop] at h
  simp at h
  cases a; cases b; simp_all

/-- Each name once, the one touched last first; of a row whose last is first. -/
def rc : List ByteArray → List ByteArray
  | [] => []
  | x :: r => x :: (rc r).filter (fun y => decide (y ≠ x))
theorem rc_mem : ∀ (h : List ByteArray) (z : ByteArray), z ∈ rc h ↔ z ∈ h
  | [], z => by simp [rc]
  | x :: r, z => by
    simp only [rc, List.mem_cons, List.mem_filter, rc_mem r z]
    by_cases e : z = x <;> simp [e]
theorem rc_nodup : ∀ (h : List ByteArray), (rc h).Nodup
  | [] => by simp [rc]
  | x :: r => by
    simp only [rc, List.nodup_cons]
    exact ⟨by simp, (rc_nodup r).sublist List.filter_sublist⟩
theorem filter_out {l : List ByteArray} {x : ByteArray} (h : x ∉ l) : l.filter (fun y => decide (y ≠ x)) = l :=
  List.filter_eq_self.2 fun a ha => by simp; rintro rfl; exact h ha
theorem filter_len {l : List ByteArray} {x : ByteArray} (hn : l.Nodup) (h : x ∈ l) : (l.filter (fun y => decide (y ≠ x))).length + 1 = l.length := by
  induction l with
  | nil => simp at h
  | cons a l ih =>
    rw [List.nodup_cons] at hn
    by_cases e : a = x
    · subst e
      rw [List.filter_cons_of_neg (by simp), filter_out hn.1]; rfl
    · rw [List.filter_cons_of_pos (by simp [e]), List.length_cons, List.length_cons, ih hn.2]
      rcases List.mem_cons.1 h with h | h
      · exact absurd h.symm e
      · exact h
theorem rc_split (P Q : List ByteArray) (x : ByteArray) (hx : x ∉ P) : ∃ Q', rc (P ++ x :: Q) = rc P ++ x :: Q' := by
  induction P with
  | nil => exact ⟨_, rfl⟩
  | cons y P ih =>
    rw [List.mem_cons, not_or] at hx
    obtain ⟨Q', h⟩ := ih hx.2
    refine ⟨Q'.filter (fun z => decide (z ≠ y)), ?_⟩
    simp only [List.cons_append, rc, h, List.filter_append]
    rw [List.filter_cons_of_pos (by simp [hx.1])]
open Classical in
theorem rc_len (y : ByteArray) (P : List ByteArray) : (rc (y :: P)).length = (rc P).length + (if y ∈ P then 0 else 1) := by
  simp only [rc, List.length_cons]
  by_cases h : y ∈ P
  · rw [if_pos h, filter_len (rc_nodup P) ((rc_mem P y).2 h)]; rfl
  · rw [if_neg h, filter_out (fun hm => h ((rc_mem P y).1 hm))]

/-! ### what a cache has -/
theorem filter_take {l : List ByteArray} {x : ByteArray} (hn : l.Nodup) {r : Nat} (h : x ∈ l.take (r + 1)) : (l.take (r + 1)).filter (fun y => decide (y ≠ x)) = (l.filter (fun y => decide (y ≠ x))).take r := by
  induction l generalizing r with
  | nil => simp at h
  | cons a l ih =>
    rw [List.nodup_cons] at hn
    rw [List.take_succ_cons] at h ⊢
    by_cases e : a = x
    · subst e
      rw [List.filter_cons_of_neg (by simp), List.filter_cons_of_neg (by simp), filter_out hn.1, filter_out (fun hm => hn.1 (List.mem_of_mem_take hm))]
    · rw [List.filter_cons_of_pos (by simp [e]), List.filter_cons_of_pos (by simp [e])]
      rcases List.mem_cons.1 h with h | h
      · exact absurd h.symm e
      · cases r with
        | zero => simp at h
        | succ r => rw [List.take_succ_cons, ih hn.2 h]
theorem keep_in {h : List ByteArray} {x : ByteArray} {r : Nat} (hx : x ∈ (rc h).take (r + 1)) : (rc (x :: h)).take (r + 1) = x :: ((rc h).take (r + 1)).filter (fun y => decide (y ≠ x)) := by
  simp only [rc, List.take_succ_cons]
  rw [filter_take (rc_nodup h) hx]
theorem keep_new {h : List ByteArray} {x : ByteArray} {r : Nat} (hx : x ∉ (rc h).take (r + 1)) (hl : ((rc h).take (r + 1)).length ≠ r + 1) : (rc (x :: h)).take (r + 1) = x :: (rc h).take (r + 1) := by
  rw [List.length_take] at hl
  have h1 : (rc h).take (r + 1) = rc h := List.take_of_length_le (by omega)
  rw [h1] at hx ⊢
  simp only [rc, List.take_succ_cons]
  rw [filter_out hx, List.take_of_length_le (by omega)]
theorem take_filter {l : List ByteArray} {x : ByteArray} {r : Nat} (hx : x ∉ l.take r) : (l.filter (fun y => decide (y ≠ x))).take r = l.take r := by
  induction l generalizing r with
  | nil => simp
  | cons a l ih =>
    cases r with
    | zero => simp
    | succ r =>
      rw [List.take_succ_cons, List.mem_cons, not_or] at hx
      rw [List.filter_cons_of_pos (by simp; exact fun e => hx.1 e.symm), List.take_succ_cons, List.take_succ_cons, ih hx.2]
theorem keep_full {h : List ByteArray} {x : ByteArray} {r : Nat} (hx : x ∉ (rc h).take (r + 1)) (hl : ((rc h).take (r + 1)).length = r + 1) : (rc (x :: h)).take (r + 1) = x :: ((rc h).take (r + 1)).dropLast := by
  simp only [rc, List.take_succ_cons]
  congr 1
  rw [List.dropLast_eq_take, hl, List.take_take]
  simp only [Nat.add_sub_cancel]
  rw [show min r (r+1) = r by omega]
  refine take_filter (fun hm => hx ?_)
  have : (rc h).take r = ((rc h).take (r+1)).take r := by rw [List.take_take]; congr 1; omega
  rw [this] at hm
  exact List.mem_of_mem_take hm
/-- The place of a name's last touch. -/
theorem at_place {P Q : List ByteArray} {x : ByteArray} (hx : x ∉ P) (r : Nat) : x ∈ (rc (P ++ x :: Q)).take r ↔ (rc P).length < r := by
  obtain ⟨Q', h⟩ := rc_split P Q x hx
  rw [h]
  have hxr : x ∉ rc P := fun hm => hx ((rc_mem P x).1 hm)
  rw [List.take_append]
  constructor
  · intro hm
    rcases List.mem_append.1 hm with h1 | h1
    · exact absurd (List.mem_of_mem_take h1) hxr
    · by_cases h2 : (rc P).length < r
      · exact h2
      · rw [show r - (rc P).length = 0 by omega] at h1; simp at h1
  · intro hlt
    obtain ⟨m, hm⟩ : ∃ m, r - (rc P).length = m + 1 := ⟨r - (rc P).length - 1, by omega⟩
    rw [hm, List.take_succ_cons]
    simp

/-! ### a name's last place -/
def lastIx (a : List ByteArray) (x : ByteArray) : Nat → Int
  | 0 => -1
  | k + 1 => if a[k]? = some x then (k : Int) else lastIx a x k
theorem lastIx_spec (a : List ByteArray) (x : ByteArray) : ∀ k, k ≤ a.length → (lastIx a x k = -1 ∧ x ∉ a.take k) ∨ ∃ q : Nat, lastIx a x k = (q : Int) ∧ q < k ∧ ∃ P Q, (a.take k).reverse = P ++ x :: Q ∧ x ∉ P ∧ P = ((a.take k).drop (q + 1)).reverse
  | 0, _ => .inl ⟨rfl, by simp⟩
  | k + 1, hk => by
    have hlt : k < a.length := by omega
    have htk : a.take (k + 1) = a.take k ++ [a[k]] := List.take_succ_eq_append_getElem hlt
    by_cases he : a[k]? = some x
    · refine .inr ⟨k, by simp [lastIx, he], by omega, [], (a.take k).reverse, ?_, by simp, ?_⟩
      · rw [htk, List.reverse_append]
        rw [List.getElem?_eq_getElem hlt] at he
        rw [Option.some.inj he]; rfl
      · rw [List.drop_eq_nil_of_le (by simp; omega)]; rfl
    · have hne : a[k] ≠ x := by rw [List.getElem?_eq_getElem hlt] at he; exact fun e => he (by rw [e])
      rcases lastIx_spec a x k (by omega) with ⟨h1, h2⟩ | ⟨q, h1, h2, P, Q, h3, h4, h5⟩
      · refine .inl ⟨by simp only [lastIx]; rw [if_neg he, h1], fun hm => ?_⟩
        rw [htk] at hm
        rcases List.mem_append.1 hm with hm | hm
        · exact h2 hm
        · exact hne ((List.mem_singleton.1 hm).symm)
      · refine .inr ⟨q, by simp only [lastIx]; rw [if_neg he, h1], by omega, a[k] :: P, Q, ?_, ?_, ?_⟩
        · rw [htk, List.reverse_append, h3]; rfl
        · rw [List.mem_cons, not_or]; exact ⟨fun e => hne e.symm, h4⟩
        · rw [htk, List.drop_append_of_le_length (by simp; omega), List.reverse_append, ← h5]; rfl

/-! ### fresh -/
def seg (a : List ByteArray) (q p : Nat) : List ByteArray := ((a.take p).drop (q + 1)).reverse
def cnt (a : List ByteArray) (q p : Nat) : Nat := (rc (seg a q p)).length
theorem seg_start (a : List ByteArray) (q : Nat) : seg a q (q + 1) = [] := by
  unfold seg; rw [List.drop_eq_nil_of_le (by simp; omega)]; rfl
theorem seg_next {a : List ByteArray} {q p : Nat} (hq : q + 1 ≤ p) (hp : p < a.length) : seg a q (p + 1) = a[p] :: seg a q p := by
  unfold seg
  rw [List.take_succ_eq_append_getElem hp, List.drop_append_of_le_length (by simp; omega), List.reverse_append]; rfl
theorem seg_mem {a : List ByteArray} {q p : Nat} (hp : p ≤ a.length) (x : ByteArray) : x ∈ seg a q p ↔ ∃ j, q < j ∧ j < p ∧ a[j]? = some x := by
  unfold seg
  rw [List.mem_reverse, List.mem_iff_getElem?]
  constructor
  · rintro ⟨i, hi⟩
    rw [List.getElem?_drop] at hi
    have hlt : q + 1 + i < p := by
      have := (List.getElem?_eq_some_iff.1 hi).1
      simp at this; omega
    rw [List.getElem?_take_of_lt hlt] at hi
    exact ⟨q + 1 + i, by omega, hlt, hi⟩
  · rintro ⟨j, h1, h2, h3⟩
    refine ⟨j - (q + 1), ?_⟩
    rw [List.getElem?_drop, show q + 1 + (j - (q + 1)) = j by omega, List.getElem?_take_of_lt h2, h3]
theorem cnt_le (a : List ByteArray) (q p : Nat) : cnt a q p ≤ p := by
  unfold cnt
  have h : ∀ l : List ByteArray, (rc l).length ≤ l.length := fun l => by
    induction l with
    | nil => simp [rc]
    | cons x l ih => simp only [rc, List.length_cons]; have := List.length_filter_le (fun y => decide (y ≠ x)) (rc l); omega
  have h1 := h (seg a q p)
  have h2 : (seg a q p).length ≤ p := by unfold seg; simp; omega
  exact Nat.le_trans h1 h2
theorem rd_eq {a : List ByteArray} {i : Nat} (h : i < a.length) : rdOf ByteArray.empty a (i : Int) = a[i] := by simp [rdOf, h]
theorem wr1 {p : Nat} (h : p < 1000000) : wrap64 ((p : Int) + 1) = ((p + 1 : Nat) : Int) := by unfold wrap64; omega
open Classical in
theorem fresh_l1 (a : List ByteArray) (q p n : Nat) (hq : q < p) (hp : p < a.length) (ha : a.length < 1000000) (k0 : Nat) (r : Option Int)
    (hr : r = PRef.prompterlaw19_fresh.l0 k0 a q (cnt a q (p + 1) : Nat) ((p + 1 : Nat) : Int)) (hne : a[p] ≠ a[q]) (d : Nat) :
    ∀ (j : Nat) (b : Bool), j + d = p → q < j → (b = true ↔ ∀ i, q < i → i < j → a[i]? ≠ some a[p]) → PRef.prompterlaw19_fresh.l1 (k0 + d + 1) a q (cnt a q p : Nat) p b j = r := by
  induction d with
  | zero =>
    intro j b hj hqj hb
    simp only [PRef.prompterlaw19_fresh.l1]
    have hjp : j = p := by omega
    subst hjp
    rw [if_neg (by omega)]
    have hlen : cnt a q (j + 1) = cnt a q j + (if a[j] ∈ seg a q j then 0 else 1) := by
      unfold cnt; rw [seg_next (by omega) hp, rc_len]
    have hcl := cnt_le a q j
    have hmem := seg_mem (a := a) (q := q) (Nat.le_of_lt hp) a[j]
    by_cases hbt : b = true
    · rw [if_pos hbt]
      rw [if_neg (fun hm => by obtain ⟨i, h1, h2, h3⟩ := hmem.1 hm; exact (hb.1 hbt) i h1 h2 h3)] at hlen
      rw [hr, hlen, wr1 (by omega), wr1 (by omega)]
    · rw [if_neg hbt]
      have : a[j] ∈ seg a q j := by
        apply Classical.byContradiction
        intro hm
        exact hbt (hb.2 (fun i h1 h2 h3 => hm (hmem.2 ⟨i, h1, h2, h3⟩)))
      rw [if_pos this] at hlen
      rw [hr, hlen, wr1 (by omega)]
      first | rfl | done
  | succ d ih =>
    intro j b hj hqj hb
    rw [show k0 + (d + 1) + 1 = (k0 + d + 1) + 1 from by omega]
    simp only [PRef.prompterlaw19_fresh.l1]
    have hja : j < a.length := by omega
    rw [if_pos (by omega)]
    by_cases hbt : b = true
    · rw [if_pos hbt, if_pos (by omega), if_pos (by omega), if_pos (by omega), if_pos (by omega), wr1 (by omega)]
      refine ih (j + 1) _ (by omega) (by omega) ?_
      rw [rd_eq hja, rd_eq hp]
      constructor
      · intro h i h1 h2
        by_cases hij : i = j
        · subst hij
          rw [List.getElem?_eq_getElem hja]
          intro he
          rw [Option.some.inj he] at h
          simp at h
        · exact hb.1 hbt i h1 (by omega)
      · intro h
        have := h j hqj (by omega)
        rw [List.getElem?_eq_getElem hja] at this
        simp only [bne_iff_ne, ne_eq]
        exact fun e => this (by rw [toList_inj e])
    · rw [if_neg hbt, wr1 (by omega)]
      refine ih (j + 1) _ (by omega) (by omega) ?_
      constructor
      · intro h; cases h
      · intro h; exact absurd (hb.2 (fun i h1 h2 => h i h1 (by omega))) hbt
theorem fresh_l0 (a : List ByteArray) (q : Nat) (ha : a.length < 1000000) (hqa : q < a.length) (hne : ∀ j, q < j → (h : j < a.length) → a[j] ≠ a[q]) (d : Nat) :
    ∀ (p : Nat), p + d = a.length → q < p → ∃ k, PRef.prompterlaw19_fresh.l0 k a q (cnt a q p : Nat) p = some (cnt a q a.length : Int) := by
  induction d with
  | zero =>
    intro p hp hq
    have : p = a.length := by omega
    subst this
    refine ⟨1, ?_⟩
    simp only [PRef.prompterlaw19_fresh.l0]
    rw [if_neg (by omega)]
  | succ d ih =>
    intro p hp hq
    have hpa : p < a.length := by omega
    obtain ⟨k0, h0⟩ := ih (p + 1) (by omega) (by omega)
    refine ⟨k0 + (p - (q + 1)) + 1 + 1, ?_⟩
    simp only [PRef.prompterlaw19_fresh.l0]
    rw [if_pos (by omega), if_pos (by omega), if_pos (by omega), if_pos (by omega), wr1 (by omega)]
    have hnp := hne p hq hpa
    refine fresh_l1 a q p 0 hq hpa ha k0 _ h0.symm hnp (p - (q + 1)) (q + 1) _ (by omega) (by omega) ?_
    rw [rd_eq hpa, rd_eq hqa]
    constructor
    · intro h i h1 h2; omega
    · intro h
      simp only [bne_iff_ne, ne_eq]
      exact fun e => hnp (toList_inj e)
theorem fresh_is (a : List ByteArray) (q : Nat) (ha : a.length < 1000000) (hqa : q < a.length) (hne : ∀ j, q < j → (h : j < a.length) → a[j] ≠ a[q]) : ∃ k, PRef.prompterlaw19_fresh.f k a q = some (cnt a q a.length : Int) := by
  obtain ⟨k, hk⟩ := fresh_l0 a q ha hqa hne (a.length - (q + 1)) (q + 1) (by omega) (by omega)
  refine ⟨k, ?_⟩
  unfold PRef.prompterlaw19_fresh.f
  rw [wr1 (by omega)]
  have : cnt a q (q + 1) = 0 := by unfold cnt; rw [seg_start]; rfl
  rw [this] at hk
  exact hk
end Go.Proofs.Ytcfdldgekfacfaa.Lr
