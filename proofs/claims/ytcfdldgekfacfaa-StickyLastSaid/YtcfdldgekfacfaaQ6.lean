/- What a cache of a room has, of names touched one by one. -/
import Derived.Test.YtcfdldgekfacfaaQ5
namespace Go.Proofs.Ytcfdldgekfacfaa.Lr
open Go.RowKit Sk
set_option linter.unusedVariables false
set_option linter.unusedSimpArgs false

structure Lru (l : List ByteArray) (r i : Nat) (c : Cs) : Prop where
  room : c.room = (r + 1 : Nat)
  nms : c.l.map (·.1) = (rc (l.take i).reverse).take (r + 1)
  vals : ∀ p, p ∈ c.l → p.2 < i
theorem Lru.start (l : List ByteArray) (r : Nat) : Lru l r 0 ⟨(r + 1 : Nat), 0, 0, []⟩ := ⟨rfl, by simp [rc], by simp⟩
theorem Lru.nd {l : List ByteArray} {r i : Nat} {c : Cs} (h : Lru l r i c) : Nd c.l := by
  unfold Nd; rw [h.nms]; exact (rc_nodup _).sublist (List.take_sublist _ _)
theorem Lru.in_iff {l : List ByteArray} {r i : Nat} {c : Cs} (h : Lru l r i c) (x : ByteArray) : inB c.l x = true ↔ x ∈ (rc (l.take i).reverse).take (r + 1) := by
  rw [inB_iff, isIn_mem, h.nms]
theorem wo_names (l : Things) (x : ByteArray) : (wo l x).map (·.1) = (l.map (·.1)).filter (fun y => decide (y ≠ x)) := by
  unfold wo
  rw [List.filter_map]
  rfl
theorem val_in {l : Things} {x : ByteArray} (h : isIn l x) : (x, val l x) ∈ l := by
  obtain ⟨v, hv⟩ := h
  unfold val
  have h1 : (l.find? (fun p => decide (p.1 = x))).isSome := by rw [List.find?_isSome]; exact ⟨_, hv, by simp⟩
  obtain ⟨p, hp⟩ := Option.isSome_iff_exists.1 h1
  rw [hp]
  have h2 := List.mem_of_find?_eq_some hp
  have h3 : decide (p.1 = x) = true := List.find?_some (p := fun p : ByteArray × Int => decide (p.1 = x)) hp
  replace h3 := of_decide_eq_true h3
  obtain ⟨p1, p2⟩ := p
  simp at h3
  subst h3
  exact h2
theorem take_rev {l : List ByteArray} {i : Nat} (hi : i < l.length) : (l.take (i + 1)).reverse = l[i] :: (l.take i).reverse := by
  rw [List.take_succ_eq_append_getElem hi, List.reverse_append]; rfl
theorem Lru.hit {l : List ByteArray} {r i : Nat} {c : Cs} (h : Lru l r i c) (hi : i < l.length) (hb : inB c.l l[i] = true) : Lru l r (i + 1) (c.get l[i]) ∧ val c.l l[i] < i := by
  have hin := inB_iff.1 hb
  refine ⟨⟨h.room, ?_, ?_⟩, h.vals _ (val_in hin)⟩
  · show (getL c.l l[i]).map (·.1) = _
    rw [get_in hin, List.map_cons, wo_names, h.nms, take_rev hi, keep_in ((h.in_iff _).1 hb)]
  · intro p hp
    have hp' : p ∈ getL c.l l[i] := hp
    rw [get_in hin] at hp'
    rcases List.mem_cons.1 hp' with rfl | hp'
    · have := h.vals _ (val_in hin)
      show val c.l l[i] < _
      omega
    · have := h.vals _ ((wo_sub _ _).subset hp'); omega
theorem Lru.miss {l : List ByteArray} {r i : Nat} {c : Cs} (h : Lru l r i c) (hi : i < l.length) (hb : inB c.l l[i] = false) : Lru l r (i + 1) ((c.get l[i]).put l[i] i) := by
  have hno : ¬ isIn c.l l[i] := fun hin => by rw [inB_iff.2 hin] at hb; cases hb
  have hnm : l[i] ∉ (rc (l.take i).reverse).take (r + 1) := fun hm => by rw [(h.in_iff _).2 hm] at hb; cases hb
  have hg : (c.get l[i]).l = c.l := get_out hno
  have hl : c.l.length = ((rc (l.take i).reverse).take (r + 1)).length := by rw [← h.nms, List.length_map]
  have hroom : (c.get l[i]).room = (r + 1 : Nat) := h.room
  have hall : ∀ p, p ∈ ((c.get l[i]).put l[i] i).l → p.2 < (i + 1 : Nat) := by
    intro p hp
    have hp' : p ∈ putL (c.get l[i]).room (c.get l[i]).l l[i] i := hp
    rw [hg] at hp'
    by_cases hf : (c.l.length : Int) = (c.get l[i]).room
    · rw [put_full' hno hf] at hp'
      rcases List.mem_cons.1 hp' with rfl | hp'
      · show (i : Int) < _; omega
      · have := h.vals _ ((List.dropLast_sublist _).subset hp'); omega
    · rw [put_room hno hf] at hp'
      rcases List.mem_cons.1 hp' with rfl | hp'
      · show (i : Int) < _; omega
      · have := h.vals _ hp'; omega
  refine ⟨h.room, ?_, hall⟩
  show (putL (c.get l[i]).room (c.get l[i]).l l[i] i).map (·.1) = _
  rw [hg, take_rev hi]
  by_cases hf : (c.l.length : Int) = (c.get l[i]).room
  · rw [put_full' hno hf, List.map_cons, List.map_dropLast, h.nms, keep_full hnm (by rw [← hl]; rw [hroom] at hf; omega)]
  · rw [put_room hno hf, List.map_cons, h.nms, keep_new hnm (by rw [← hl]; rw [hroom] at hf; omega)]
/-- What is asked, and what is so. -/
theorem Lru.want {l : List ByteArray} {r i : Nat} {c : Cs} (h : Lru l r i c) (hi : i < l.length) (hl : l.length < 1000000) :
    (lastIx l l[i] i = -1 ∧ inB c.l l[i] = false) ∨ ∃ q n k : Nat, lastIx l l[i] i = (q : Int) ∧ PRef.prompterlaw19_fresh.f k (l.take i) q = some (n : Int) ∧ inB c.l l[i] = decide ((n : Int) < (r + 1 : Nat)) := by
  rcases lastIx_spec l l[i] i (Nat.le_of_lt hi) with ⟨h1, h2⟩ | ⟨q, h1, h2, P, Q, h3, h4, h5⟩
  · refine .inl ⟨h1, ?_⟩
    cases hb : inB c.l l[i]
    · rfl
    · have := List.mem_of_mem_take ((h.in_iff _).1 hb)
      rw [rc_mem, List.mem_reverse] at this
      exact absurd this h2
  · have hlen : (l.take i).length = i := by simp; omega
    have hPs : P = seg (l.take i) q i := by
      rw [h5]; unfold seg; rw [List.take_of_length_le (Nat.le_of_eq hlen)]
    have hq : (l.take i)[q]'(by omega) = l[i] := by
      have hPl : P.length = i - (q + 1) := by rw [h5]; simp; omega
      have e1 : (l.take i).reverse[P.length]? = some l[i] := by rw [h3, List.getElem?_append_right (Nat.le_refl _)]; simp
      rw [List.getElem?_reverse (by omega)] at e1
      rw [show (l.take i).length - 1 - P.length = q by omega] at e1
      rw [List.getElem?_eq_getElem (by omega)] at e1
      exact Option.some.inj e1
    obtain ⟨k, hk⟩ := fresh_is (l.take i) q (by omega) (by omega) (fun j hj hlt he => by
      apply h4
      rw [hPs, seg_mem (Nat.le_of_eq hlen.symm)]
      exact ⟨j, hj, by omega, by rw [List.getElem?_eq_getElem hlt, he, hq]⟩)
    refine .inr ⟨q, cnt (l.take i) q i, k, h1, by rw [hk, hlen], ?_⟩
    have hiff := h.in_iff l[i]
    rw [h3, at_place h4] at hiff
    have : cnt (l.take i) q i = (rc P).length := by unfold cnt; rw [hPs]
    rw [this]
    cases hb : inB c.l l[i]
    · symm; apply decide_eq_false
      intro hlt
      have := hiff.2 (by omega)
      rw [hb] at this; cases this
    · symm; apply decide_eq_true
      have := hiff.1 hb
      omega
/-- What is there at the end. -/
theorem Lru.ends {l : List ByteArray} {r : Nat} {c : Cs} (h : Lru l r l.length c) : (c.l.map (·.1)).Nodup ∧ (c.l.length : Int) ≤ (r + 1 : Nat) ∧ (0 < l.length → 0 < c.l.length ∧ (c.l.map (·.1))[0]? = l[l.length - 1]?) := by
  have hl : c.l.length = ((rc l.reverse).take (r + 1)).length := by have := h.nms; rw [List.take_length] at this; rw [← this, List.length_map]
  refine ⟨h.nd, ?_, fun hp => ?_⟩
  · rw [hl, List.length_take]; omega
  · have hn := h.nms
    rw [List.take_length] at hn
    obtain ⟨i, hi⟩ : ∃ i, l.length = i + 1 := ⟨l.length - 1, by omega⟩
    have hr := take_rev (l := l) (i := i) (by omega)
    rw [← hi, List.take_length] at hr
    rw [hr] at hn hl
    simp only [rc, List.take_succ_cons] at hn hl
    refine ⟨by rw [hl]; simp, ?_⟩
    have e : l.length - 1 = i := by omega
    rw [hn, e, List.getElem?_cons_zero, List.getElem?_eq_getElem (by omega)]
end Go.Proofs.Ytcfdldgekfacfaa.Lr
