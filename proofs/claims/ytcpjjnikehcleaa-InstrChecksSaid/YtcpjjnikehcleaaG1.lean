/- The heap of a walk holds what was met and is not gone through: in plain. -/
import Derived.Test.YtcpjjnikehcleaaG0
namespace Go.Proofs.Ytcpjjnikehcleaa.Gw
open Go.RowKit PChk Hq Lk
set_option linter.unusedVariables false
set_option linter.unusedSimpArgs false

def metN (d : List Int) : Nat := d.countP (fun x => decide (0 ≤ x))
structure Rel (n : Nat) (d : List Int) (g : List Bool) (s : HS) : Prop where
  inv : HInv s
  dlen : d.length = n
  glen : g.length = n
  cnt : s.l.length + g.count true = metN d
  nx : s.next = metN d
  fwd : ∀ x ∈ s.l, ∃ i : Nat, i < n ∧ x.key = i ∧ x.v = dp d i ∧ wait d g i = true
  bwd : ∀ i, i < n → wait d g i = true → ∃ x ∈ s.l, x.key = (i : Int)
  keys : (s.l.map Th.key).Nodup
  gone : ∀ i, gn g i = true → 0 ≤ dp d i
theorem metN_set {d : List Int} {t : Nat} {x : Int} (ht : t < d.length) (hd : dp d t < 0) (hx : 0 ≤ x) : metN (d.set t x) = metN d + 1 := by
  induction d generalizing t with
  | nil => simp at ht
  | cons a d ih =>
    cases t with
    | zero =>
      have ha : ¬ 0 ≤ a := by simp [dp] at hd; omega
      simp [metN, hx, ha]
    | succ t =>
      have := ih (t := t) (by simpa using ht) (by simpa [dp] using hd)
      simp only [metN, List.set_cons_succ, List.countP_cons] at this ⊢
      omega
theorem metN_le (d : List Int) : metN d ≤ d.length := List.countP_le_length
theorem Rel.small {n : Nat} {d : List Int} {g : List Bool} {s : HS} (h : Rel n d g s) : s.l.length ≤ n ∧ 0 ≤ s.next ∧ s.next ≤ n := by
  have h1 := h.cnt
  have h2 := metN_le d
  have h3 := h.nx
  have h4 := h.dlen
  omega
theorem wait_set {d : List Int} {g : List Bool} {t i : Nat} {x : Int} (ht : t < d.length) : wait (d.set t x) g i = if t = i then decide (0 ≤ x) && !gn g i else wait d g i := by
  unfold wait
  rw [dp_set ht]
  split <;> rfl
theorem Rel.push {n : Nat} {d : List Int} {g : List Bool} {s : HS} (h : Rel n d g s) {t : Nat} {x : Int} (ht : t < n) (hd : dp d t < 0) (hx : 0 ≤ x) : Rel n (d.set t x) g (pushS s t x) := by
  obtain ⟨h1, h2, h3⟩ := h.inv.push t x
  have htd : t < d.length := by rw [h.dlen]; exact ht
  have hg : gn g t = false := by
    cases hc : gn g t with
    | false => rfl
    | true => have := h.gone t hc; omega
  have hw : ∀ i, wait (d.set t x) g i = if t = i then true else wait d g i := fun i => by
    rw [wait_set htd]
    split
    · next e => subst e; simp [hx, hg]
    · rfl
  have hwt : wait d g t = false := by unfold wait; rw [decide_eq_false (by omega)]; rfl
  have hfw : ∀ y ∈ s.l, y.key ≠ (t : Int) := fun y hy e => by
    obtain ⟨i, hi, hk, hv, hwi⟩ := h.fwd y hy
    have : i = t := by omega
    subst this
    rw [hwt] at hwi; cases hwi
  refine ⟨h1, by simpa using h.dlen, h.glen, ?_, ?_, fun y hy => ?_, fun i hi hwi => ?_, ?_, fun i hi => ?_⟩
  · rw [h2.length_eq, metN_set htd hd hx, List.length_append, ← h.cnt]; simp; omega
  · rw [h3, h.nx, metN_set htd hd hx]; omega
  · have := h2.mem_iff.1 hy
    rw [List.mem_append, List.mem_singleton] at this
    rcases this with hy | rfl
    · obtain ⟨i, hi, hk, hv, hwi⟩ := h.fwd y hy
      have hne : ¬ t = i := fun e => hfw y hy (by rw [hk, e])
      exact ⟨i, hi, hk, by rw [dp_set htd, if_neg hne]; exact hv, by rw [hw, if_neg hne]; exact hwi⟩
    · exact ⟨t, ht, rfl, by rw [dp_set htd, if_pos rfl]; rfl, by rw [hw, if_pos rfl]⟩
  · rw [hw] at hwi
    by_cases e : t = i
    · subst e
      exact ⟨_, h2.mem_iff.2 (List.mem_append.2 (.inr (List.mem_singleton.2 rfl))), rfl⟩
    · rw [if_neg e] at hwi
      obtain ⟨y, hy, hk⟩ := h.bwd i hi hwi
      exact ⟨y, h2.mem_iff.2 (List.mem_append.2 (.inl hy)), hk⟩
  · refine (h2.map Th.key).nodup_iff.2 ?_
    rw [List.map_append, List.nodup_append]
    refine ⟨h.keys, by simp, ?_⟩
    intro a ha b hb e
    obtain ⟨y, hy, rfl⟩ := List.mem_map.1 ha
    simp only [List.map_cons, List.map_nil, List.mem_singleton] at hb
    exact hfw y hy (by rw [e, hb]; rfl)
  · rw [dp_set htd]
    split
    · exact hx
    · exact h.gone i hi
/-- Nothing waits: the heap is empty. -/
theorem Rel.empty {n : Nat} {d : List Int} {g : List Bool} {s : HS} (h : Rel n d g s) (he : s.l = []) : nxt n d g = none := by
  rw [nxt_none]
  intro j hj
  cases hc : wait d g j with
  | false => rfl
  | true =>
    obtain ⟨y, hy, _⟩ := h.bwd j hj hc
    rw [he] at hy; simp at hy
/-- The first is the next place. -/
theorem Rel.first {n : Nat} {d : List Int} {g : List Bool} {s : HS} {x : Th} {l : List Th} (h : Rel n d g s) (he : s.l = x :: l) : ∃ i : Nat, nxt n d g = some i ∧ i < n ∧ x.key = i ∧ x.v = dp d i ∧ 0 ≤ dp d i ∧ Rel n d (g.set i true) (popS s) := by
  obtain ⟨i, hi, hk, hv, hw⟩ := h.fwd x (by rw [he]; simp)
  have hx0 : at_ s.l 0 = x := by rw [he]; rfl
  have hleast : ∀ j, j < i → wait d g j = false := fun j hj => by
    cases hc : wait d g j with
    | false => rfl
    | true =>
      obtain ⟨y, hy, hky⟩ := h.bwd j (by omega) hc
      obtain ⟨p, hp, rfl⟩ := List.getElem_of_mem hy
      have e : at_ s.l p = s.l[p] := by simp [at_, hp]
      have := h.inv.hp.least p hp
      rw [hx0, e] at this
      exact absurd (.inl (by omega)) this
  have hwi := hw
  unfold wait at hwi
  simp only [Bool.and_eq_true, decide_eq_true_eq, Bool.not_eq_true'] at hwi
  obtain ⟨h1, h2, h3⟩ := h.inv.pop (by rw [he]; simp)
  rw [hx0] at h2
  have hgl : i < g.length := by rw [h.glen]; exact hi
  have hkn : (x.key :: (popS s).l.map Th.key).Nodup := (h2.map Th.key).nodup_iff.2 h.keys
  rw [List.nodup_cons] at hkn
  have hws : ∀ j, wait d (g.set i true) j = if i = j then false else wait d g j := fun j => by
    unfold wait
    rw [gn_set hgl]
    split
    · simp
    · rfl
  have hcnt : (g.set i true).count true = g.count true + 1 := by
    have h5 := gone_count hgl hwi.2
    have h6 : ∀ l : List Bool, l.count true + l.count false = l.length := fun l => by
      induction l with
      | nil => rfl
      | cons b l ih => cases b <;> simp [List.count_cons] <;> omega
    have h7 := h6 g
    have h8 := h6 (g.set i true)
    rw [List.length_set] at h8
    omega
  refine ⟨i, nxt_some.2 ⟨hi, hw, hleast⟩, hi, hk, hv, hwi.1, h1, h.dlen, by simpa using h.glen, ?_, by rw [h3]; exact h.nx, fun y hy => ?_, fun j hj hwj => ?_, hkn.2, fun j hj => ?_⟩
  · have := h2.length_eq
    rw [List.length_cons] at this
    have := h.cnt
    omega
  · obtain ⟨j, hj, hkj, hvj, hwj⟩ := h.fwd y (h2.mem_iff.1 (List.mem_cons_of_mem _ hy))
    have hne : ¬ i = j := fun e => hkn.1 (List.mem_map.2 ⟨y, hy, by rw [hkj, hk, e]⟩)
    exact ⟨j, hj, hkj, hvj, by rw [hws, if_neg hne]; exact hwj⟩
  · rw [hws] at hwj
    by_cases e : i = j
    · rw [if_pos e] at hwj; cases hwj
    · rw [if_neg e] at hwj
      obtain ⟨y, hy, hky⟩ := h.bwd j hj hwj
      rcases List.mem_cons.1 (h2.mem_iff.2 hy) with rfl | hy'
      · exact absurd (by omega) e
      · exact ⟨y, hy', hky⟩
  · rw [gn_set hgl] at hj
    by_cases e : i = j
    · subst e; exact hwi.1
    · rw [if_neg e] at hj; exact h.gone j hj
end Go.Proofs.Ytcpjjnikehcleaa.Gw
