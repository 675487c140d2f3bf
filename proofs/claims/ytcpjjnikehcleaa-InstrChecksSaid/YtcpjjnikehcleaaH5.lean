/- The heap in plain: what rise, sink, Push and Pop leave. -/
import Derived.Test.YtcpjjnikehcleaaH4
namespace Go.Proofs.Ytcpjjnikehcleaa.Hq
open Go.RowKit
open Go.Maps (Keyed)
set_option linter.unusedVariables false
set_option linter.unusedSimpArgs false

def zl : DataW Nat := .lit (.int .i64 0)
theorem ik_ne {a b : Int} (h : a ≠ b) : ik a ≠ ik b := by intro e; simp [ik] at e; exact h e
theorem mem_at {l : List Th} {n : Int} : n ∈ l.map Th.num ↔ ∃ j, j < l.length ∧ (at_ l j).num = n := by
  rw [List.mem_map]
  constructor
  · rintro ⟨x, hx, rfl⟩
    obtain ⟨j, hj, rfl⟩ := List.getElem_of_mem hx
    exact ⟨j, hj, by simp [at_, hj]⟩
  · rintro ⟨j, hj, rfl⟩
    exact ⟨l[j], List.getElem_mem hj, by simp [at_, hj]⟩
theorem nod_at {l : List Th} (h : (l.map Th.num).Nodup) {i j : Nat} (hi : i < l.length) (hj : j < l.length) (e : (at_ l i).num = (at_ l j).num) : i = j := by
  have h' := List.pairwise_iff_getElem.1 h
  have e' : (l[i]).num = (l[j]).num := by simpa [at_, hi, hj] using e
  rcases Nat.lt_trichotomy i j with hlt | rfl | hlt
  · exact absurd (by rw [List.getElem_map, List.getElem_map]; exact e') (h' i j (by simpa using hi) (by simpa using hj) hlt)
  · rfl
  · exact absurd (by rw [List.getElem_map, List.getElem_map]; exact e'.symm) (h' j i (by simpa using hj) (by simpa using hi) hlt)
theorem at_mem {l : List Th} {j : Nat} (hj : j < l.length) : at_ l j ∈ l := by
  have : at_ l j = l[j] := by simp [at_, hj]
  rw [this]; exact List.getElem_mem hj
theorem set_at {l : List Th} (i : Nat) : l.set i (at_ l i) = l := by
  by_cases h : i < l.length
  · have : at_ l i = l[i] := by simp [at_, h]
    rw [this, List.set_getElem_self]
  · exact List.set_eq_of_length_le (by omega)

/-- While one thing is on its way to a place. -/
structure Mid (s : HS) (x : Th) (i : Nat) : Prop where
  lt : i < s.l.length
  nod : ((s.l.set i x).map Th.num).Nodup
  tidy : Maps.Tidy s.D
  ix : ∀ j, j < s.l.length → j ≠ i → s.D.atKey (ik (at_ s.l j).num) zl = .lit (.int .i64 (j : Int))
  has : ∀ n, n ≠ x.num → (Maps.has s.D (ik n) = true ↔ n ∈ (s.l.set i x).map Th.num)
  size : Maps.size s.D + (if Maps.has s.D (ik x.num) = true then 0 else 1) = s.l.length
/-- Each number's place is known. -/
structure Known (s : HS) : Prop where
  nod : (s.l.map Th.num).Nodup
  tidy : Maps.Tidy s.D
  ix : ∀ j, j < s.l.length → s.D.atKey (ik (at_ s.l j).num) zl = .lit (.int .i64 (j : Int))
  has : ∀ n, Maps.has s.D (ik n) = true ↔ n ∈ s.l.map Th.num
  size : Maps.size s.D = s.l.length
theorem Mid.step {s : HS} {x : Th} {i p : Nat} (h : Mid s x i) (hp : p < s.l.length) (hne : i ≠ p) : Mid (layS s i (at_ s.l p)) x p := by
  have hperm := (swap_perm h.lt hp hne x).map Th.num
  have a1 : at_ (s.l.set i x) p = at_ s.l p := by rw [at_set h.lt, if_neg hne]
  have a2 : at_ (s.l.set i x) i = x := by rw [at_set h.lt, if_pos rfl]
  have hlen : (s.l.set i x).length = s.l.length := by simp
  have htx : (at_ s.l p).num ≠ x.num := fun e => by
    rw [← a1] at e
    exact hne (nod_at h.nod (by have := h.lt; omega) (by omega) (by rw [a2]; exact e.symm))
  have hmem : (at_ s.l p).num ∈ (s.l.set i x).map Th.num := mem_at.2 ⟨p, by omega, by rw [a1]⟩
  have hht : Maps.has s.D (ik (at_ s.l p).num) = true := (h.has _ htx).2 hmem
  refine ⟨by simpa [layS] using hp, ?_, h.tidy.put (ik_key _) _, fun j hj hjp => ?_, fun n hn => ?_, ?_⟩
  · exact hperm.nodup_iff.2 h.nod
  · simp only [layS, List.length_set] at hj ⊢
    by_cases e : i = j
    · subst e
      rw [at_set h.lt, if_pos rfl, Maps.atKey_put_same h.tidy.isMap (ik_key _)]
    · rw [at_set h.lt, if_neg e, Maps.atKey_put_other (ik_ne ?_), h.ix j hj (fun e' => e e'.symm)]
      intro e2
      have a3 : at_ (s.l.set i x) j = at_ s.l j := by rw [at_set h.lt, if_neg e]
      rw [← a3, ← a1] at e2
      exact hjp (nod_at h.nod (by omega) (by omega) e2)
  · show Maps.has (s.D.put (ik (at_ s.l p).num) _) (ik n) = true ↔ n ∈ (((s.l.set i (at_ s.l p)).set p x).map Th.num)
    rw [hperm.mem_iff]
    by_cases e : n = (at_ s.l p).num
    · subst e
      rw [Maps.has_put_same h.tidy.isMap (ik_key _)]
      simp only [hmem]
    · rw [Maps.has_put_other (ik_ne e), h.has n hn]
  · show Maps.size (s.D.put (ik (at_ s.l p).num) _) + (if Maps.has (s.D.put (ik (at_ s.l p).num) _) (ik x.num) = true then 0 else 1) = (s.l.set i (at_ s.l p)).length
    rw [Maps.size_put h.tidy, hht, Maps.has_put_other (ik_ne (fun e => htx e.symm)), List.length_set]
    exact h.size
theorem Mid.last {s : HS} {x : Th} {i : Nat} (h : Mid s x i) : Known (layS s i x) := by
  have a2 : at_ (s.l.set i x) i = x := by rw [at_set h.lt, if_pos rfl]
  have hlen : (s.l.set i x).length = s.l.length := by simp
  refine ⟨h.nod, h.tidy.put (ik_key _) _, fun j hj => ?_, fun n => ?_, ?_⟩
  · simp only [layS, List.length_set] at hj ⊢
    by_cases e : i = j
    · subst e
      rw [a2, Maps.atKey_put_same h.tidy.isMap (ik_key _)]
    · rw [Maps.atKey_put_other (ik_ne ?_), at_set h.lt, if_neg e, h.ix j hj (fun e' => e e'.symm)]
      intro e2
      exact e (nod_at h.nod (by have := h.lt; omega) (by omega) (by rw [a2]; exact e2.symm))
  · show Maps.has (s.D.put (ik x.num) _) (ik n) = true ↔ n ∈ (s.l.set i x).map Th.num
    by_cases e : n = x.num
    · subst e
      rw [Maps.has_put_same h.tidy.isMap (ik_key _)]
      have : x.num ∈ (s.l.set i x).map Th.num := mem_at.2 ⟨i, by have := h.lt; omega, by rw [a2]⟩
      simp only [this]
    · rw [Maps.has_put_other (ik_ne e), h.has n e]
  · show Maps.size (s.D.put (ik x.num) _) = (s.l.set i x).length
    have := h.size
    rw [Maps.size_put h.tidy, List.length_set]
    split at this <;> simp_all
theorem Known.mid {s : HS} (h : Known s) {i : Nat} (hi : i < s.l.length) : Mid s (at_ s.l i) i := by
  refine ⟨hi, by rw [set_at]; exact h.nod, h.tidy, fun j hj _ => h.ix j hj, fun n _ => by rw [set_at]; exact h.has n, ?_⟩
  rw [if_pos ((h.has _).2 (mem_at.2 ⟨i, hi, rfl⟩)), h.size]; rfl
theorem Mid.rise {s : HS} {x : Th} {i : Nat} (h : Mid s x i) : Known (riseS s x i) := by
  induction i using Nat.strongRecOn generalizing s with
  | _ i ih =>
    rw [riseS]
    split
    · next hc =>
      have hp : par i < i := by unfold par; omega
      exact ih (par i) hp (h.step (by have := h.lt; omega) (by omega))
    · exact h.last
theorem Mid.sink {s : HS} {x : Th} {i : Nat} (h : Mid s x i) : Known (sinkS s x i) := by
  rw [sinkS]
  split
  · next hc =>
    have h1 := low_ge s.l (2 * i + 1)
    have h2 := low_lt s.l (2 * i + 1) hc
    split
    · exact h.last
    · exact (h.step h2 (by omega)).sink
  · exact h.last
termination_by s.l.length - i
decreasing_by simp only [layS, List.length_set]; omega
theorem riseS_next (s : HS) (x : Th) (i : Nat) : (riseS s x i).next = s.next := by
  induction i using Nat.strongRecOn generalizing s with
  | _ i ih =>
    rw [riseS]
    split
    · next h => rw [ih (par i) (by unfold par; omega)]; rfl
    · rfl
theorem sinkS_next (s : HS) (x : Th) (i : Nat) : (sinkS s x i).next = s.next := by
  rw [sinkS]
  split
  · next hc =>
    split
    · rfl
    · have h1 := low_ge s.l (2 * i + 1)
      have h2 := low_lt s.l (2 * i + 1) hc
      rw [sinkS_next]; rfl
  · rfl
termination_by s.l.length - i
decreasing_by simp only [layS, List.length_set]; omega

/-- A heap as it should be. -/
structure HInv (s : HS) : Prop where
  kn : Known s
  hp : Hp s.l
  nums : ∀ x ∈ s.l, 0 ≤ x.num ∧ x.num < s.next
  next : 0 ≤ s.next
theorem HInv.new : HInv newS := by
  refine ⟨⟨List.Pairwise.nil, Maps.tidy_empty, fun j hj => by simp [newS] at hj, fun n => ?_, rfl⟩, fun j h0 hj => by simp [newS] at hj, fun x hx => by simp [newS] at hx, by simp [newS]⟩
  simp [newS, Maps.has_eq]
theorem HInv.w64 {s : HS} (h : HInv s) (hx : s.next < 1000000000) (j : Nat) : W64 (at_ s.l j).num := by
  by_cases hj : j < s.l.length
  · have := h.nums _ (at_mem hj)
    simp [W64, Lit.wf, IntKind.min, IntKind.max, IntKind.bits, IntKind.signed]; omega
  · have e : at_ s.l j = zt := by simp [at_]; rw [List.getElem?_eq_none (by omega)]; rfl
    rw [e]; exact w64_nat (n := 0) (by omega)
theorem at_app {l : List Th} {x : Th} {j : Nat} (hj : j < l.length) : at_ (l ++ [x]) j = at_ l j := by simp [at_, List.getElem?_append_left hj]
theorem at_end {l : List Th} {x : Th} : at_ (l ++ [x]) l.length = x := by simp [at_]
theorem HInv.push {s : HS} (h : HInv s) (key v : Int) : HInv (pushS s key v) ∧ (pushS s key v).l.Perm (s.l ++ [pushX s key v]) ∧ (pushS s key v).next = s.next + 1 := by
  have hlt : s.l.length < (s.l ++ [pushX s key v]).length := by simp
  have hset : (s.l ++ [pushX s key v]).set s.l.length (pushX s key v) = s.l ++ [pushX s key v] := by
    have := set_at (l := s.l ++ [pushX s key v]) s.l.length
    rw [at_end] at this; exact this
  have hno : s.next ∉ s.l.map Th.num := fun hm => by
    obtain ⟨x, hx, e⟩ := List.mem_map.1 hm
    have := h.nums x hx
    omega
  have hM : Mid { s with l := s.l ++ [pushX s key v], next := s.next + 1 } (pushX s key v) s.l.length := by
    refine ⟨hlt, ?_, h.kn.tidy, fun j hj hne => ?_, fun n hn => ?_, ?_⟩
    · show (((s.l ++ [pushX s key v]).set s.l.length (pushX s key v)).map Th.num).Nodup
      rw [hset, List.map_append]
      rw [List.nodup_append]
      refine ⟨h.kn.nod, by simp, ?_⟩
      intro a ha b hb e
      simp only [List.map_cons, List.map_nil, List.mem_singleton] at hb
      subst hb
      exact hno (by have e' : a = s.next := e; rw [← e']; exact ha)
    · have hj' : j < s.l.length := by simp at hj; omega
      show s.D.atKey (ik (at_ (s.l ++ [pushX s key v]) j).num) zl = _
      rw [at_app hj']
      exact h.kn.ix j hj'
    · show Maps.has s.D (ik n) = true ↔ n ∈ ((s.l ++ [pushX s key v]).set s.l.length (pushX s key v)).map Th.num
      rw [hset, h.kn.has]
      simp [hn]
    · show Maps.size s.D + (if Maps.has s.D (ik s.next) = true then 0 else 1) = (s.l ++ [pushX s key v]).length
      rw [if_neg (fun e => hno ((h.kn.has _).1 e)), h.kn.size]; simp
  have hperm : (pushS s key v).l.Perm (s.l ++ [pushX s key v]) := by
    unfold pushS
    rw [riseS_l]
    have := rise_perm (l := s.l ++ [pushX s key v]) (pushX s key v) hlt
    rw [hset] at this
    exact this
  have hnext : (pushS s key v).next = s.next + 1 := by unfold pushS; rw [riseS_next]
  refine ⟨⟨hM.rise, ?_, fun x hx => ?_, by have := h.next; omega⟩, hperm, hnext⟩
  · unfold pushS
    rw [riseS_l]
    refine rise_hp hlt ⟨fun j h0 hj hne hpar => ?_, fun h0 j j0 hj hpar => ?_⟩ (fun j h0 hj hpar => ?_)
    · have hj' : j < s.l.length := by simp at hj; omega
      have hp' : par j < s.l.length := by unfold par; omega
      rw [at_app hj', at_app hp']
      exact h.hp j h0 hj'
    · exfalso; simp at hj; unfold par at hpar; omega
    · exfalso; simp at hj; unfold par at hpar; omega
  · rw [hnext]
    have := hperm.mem_iff.1 hx
    rw [List.mem_append, List.mem_singleton] at this
    rcases this with hx | rfl
    · have := h.nums x hx; omega
    · have := h.next; show 0 ≤ s.next ∧ s.next < s.next + 1; omega
def ixN (D : DataW Nat) (n : Int) : Nat := match D.atKey (ik n) zl with | .lit (.int .i64 c) => c.toNat | _ => 0
def pop1 (s : HS) : HS := { s with l := s.l.take (s.l.length - 1), D := s.D.del (ik (at_ s.l 0).num) }
def pop3 (s : HS) : HS := sinkS (layS (pop1 s) 0 (at_ s.l (s.l.length - 1))) (at_ s.l (s.l.length - 1)) 0
def popJ (s : HS) : Nat := ixN (pop3 s).D (at_ s.l (s.l.length - 1)).num
def popS (s : HS) : HS := if s.l.length - 1 = 0 then pop1 s else riseS (pop3 s) (at_ (pop3 s).l (popJ s)) (popJ s)
theorem at_take {l : List Th} {n j : Nat} (hj : j < n) : at_ (l.take n) j = at_ l j := by simp [at_, List.getElem?_take, hj]
theorem take_perm {l : List Th} {n : Nat} (hn : l.length = n + 1) (h0 : 0 < n) : (at_ l 0 :: (l.take n).set 0 (at_ l n)).Perm l := by
  cases l with
  | nil => simp at hn
  | cons a l =>
    obtain ⟨m, rfl⟩ : ∃ m, n = m + 1 := ⟨n - 1, by omega⟩
    have e1 : at_ (a :: l) 0 = a := rfl
    have e2 : at_ (a :: l) (m + 1) = at_ l m := rfl
    rw [e1, e2]
    simp only [List.take_succ_cons, List.set_cons_zero]
    refine List.Perm.cons a ?_
    have hm : m < l.length := by simp at hn; omega
    have e3 : at_ l m = l[m] := by simp [at_, hm]
    have e4 : l = l.take m ++ [l[m]] := by
      have := List.take_append_getElem hm
      rw [this, List.take_of_length_le (by simp at hn; omega)]
    rw [e3]
    conv => rhs; rw [e4]
    exact (List.perm_append_comm (l₁ := l.take m) (l₂ := [l[m]])).symm
theorem pop_mid {s : HS} (h : HInv s) {n : Nat} (hn : s.l.length = n + 1) (h0 : 0 < n) : Mid (layS (pop1 s) 0 (at_ s.l n)) (at_ s.l n) 0 := by
  have e1 : s.l.length - 1 = n := by omega
  have hl : (pop1 s).l = s.l.take n := by unfold pop1; rw [e1]
  have hlen : (s.l.take n).length = n := by rw [List.length_take]; omega
  have hp := take_perm hn h0
  have hnod : (((s.l.take n).set 0 (at_ s.l n)).map Th.num).Nodup ∧ (at_ s.l 0).num ∉ (((s.l.take n).set 0 (at_ s.l n)).map Th.num) := by
    have := (hp.map Th.num).nodup_iff.2 h.kn.nod
    rw [List.map_cons, List.nodup_cons] at this
    exact ⟨this.2, this.1⟩
  have hne : (at_ s.l n).num ≠ (at_ s.l 0).num := fun e => by
    have := nod_at h.kn.nod (by omega) (by omega) e
    omega
  have hD : Maps.Tidy (pop1 s).D := h.kn.tidy.del _
  have hss : ((s.l.take n).set 0 (at_ s.l n)).set 0 (at_ s.l n) = (s.l.take n).set 0 (at_ s.l n) := by rw [List.set_set]
  have hhas : ∀ m, Maps.has (pop1 s).D (ik m) = true ↔ m ∈ s.l.map Th.num ∧ m ≠ (at_ s.l 0).num := fun m => by
    show Maps.has (s.D.del (ik (at_ s.l 0).num)) (ik m) = true ↔ _
    by_cases e : m = (at_ s.l 0).num
    · subst e
      rw [Maps.has_del_same]; simp
    · rw [Maps.has_del_other (ik_ne e), h.kn.has]; simp [e]
  have hmem : ∀ m, m ∈ ((s.l.take n).set 0 (at_ s.l n)).map Th.num ↔ m ∈ s.l.map Th.num ∧ m ≠ (at_ s.l 0).num := fun m => by
    have := (hp.map Th.num).mem_iff (a := m)
    rw [List.map_cons, List.mem_cons] at this
    rw [← this]
    constructor
    · intro hm
      exact ⟨.inr hm, fun e => hnod.2 (e ▸ hm)⟩
    · rintro ⟨h1 | h1, h2⟩
      · exact absurd h1 h2
      · exact h1
  have hh : Maps.has (pop1 s).D (ik (at_ s.l n).num) = true := (hhas _).2 ⟨mem_at.2 ⟨n, by omega, rfl⟩, hne⟩
  have hsz : Maps.size (pop1 s).D = n := by
    have := Maps.size_del (k := ik (at_ s.l 0).num) h.kn.tidy
    rw [if_pos ((h.kn.has _).2 (mem_at.2 ⟨0, by omega, rfl⟩)), h.kn.size, hn] at this
    show Maps.size (s.D.del _) = n
    omega
  refine ⟨?_, ?_, hD.put (ik_key _) _, fun j hj hj0 => ?_, fun m hm => ?_, ?_⟩
  · show 0 < ((pop1 s).l.set 0 _).length
    rw [hl, List.length_set, hlen]; exact h0
  · show ((((pop1 s).l.set 0 _).set 0 _).map Th.num).Nodup
    rw [hl, hss]; exact hnod.1
  · have hj' : j < n := by
      have : j < ((pop1 s).l.set 0 (at_ s.l n)).length := hj
      rw [hl, List.length_set, hlen] at this; exact this
    show ((pop1 s).D.put (ik (at_ s.l n).num) _).atKey (ik (at_ ((pop1 s).l.set 0 (at_ s.l n)) j).num) zl = _
    rw [hl, at_set (by rw [hlen]; exact h0), if_neg (fun e => hj0 e.symm), at_take hj']
    rw [Maps.atKey_put_other (ik_ne (fun e => by have := nod_at h.kn.nod (by omega) (by omega) e; omega))]
    show (s.D.del _).atKey _ _ = _
    rw [Maps.atKey_del_other (ik_ne (fun e => by have := nod_at h.kn.nod (by omega) (by omega) e; omega))]
    exact h.kn.ix j (by omega)
  · show Maps.has ((pop1 s).D.put (ik (at_ s.l n).num) _) (ik m) = true ↔ m ∈ (((pop1 s).l.set 0 (at_ s.l n)).set 0 (at_ s.l n)).map Th.num
    rw [hl, hss, Maps.has_put_other (ik_ne hm), hhas, hmem]
  · show Maps.size ((pop1 s).D.put (ik (at_ s.l n).num) _) + (if Maps.has ((pop1 s).D.put (ik (at_ s.l n).num) _) (ik (at_ s.l n).num) = true then 0 else 1) = ((pop1 s).l.set 0 _).length
    rw [Maps.size_put hD, if_pos hh, Maps.has_put_same hD.isMap (ik_key _), hl, List.length_set, hlen, hsz]; rfl
theorem ixN_of {D : DataW Nat} {n : Int} {j : Nat} (h : D.atKey (ik n) zl = .lit (.int .i64 (j : Int))) : ixN D n = j := by unfold ixN; rw [h]; rfl
/-- What Pop finds before it brings the last one up. -/
structure Popped (s : HS) (n : Nat) : Prop where
  kn : Known (pop3 s)
  hp : Hp (pop3 s).l
  perm : (at_ s.l 0 :: (pop3 s).l).Perm s.l
  j : popJ s < (pop3 s).l.length
  at_ : at_ (pop3 s).l (popJ s) = at_ s.l n
  ix : (pop3 s).D.atKey (ik (Hq.at_ s.l n).num) zl = .lit (.int .i64 (popJ s : Int))
theorem HInv.popped {s : HS} (h : HInv s) {n : Nat} (hn : s.l.length = n + 1) (h0 : 0 < n) : Popped s n := by
  have e1 : s.l.length - 1 = n := by omega
  have hl : (pop1 s).l = s.l.take n := by unfold pop1; rw [e1]
  have hlen : (s.l.take n).length = n := by rw [List.length_take]; omega
  have hM := pop_mid h hn h0
  have e3 : pop3 s = sinkS (layS (pop1 s) 0 (at_ s.l n)) (at_ s.l n) 0 := by unfold pop3; rw [e1]
  have hK : Known (pop3 s) := by rw [e3]; exact hM.sink
  have hl2 : (layS (pop1 s) 0 (at_ s.l n)).l = (s.l.take n).set 0 (at_ s.l n) := by show (pop1 s).l.set 0 _ = _; rw [hl]
  have hl3 : (pop3 s).l = sinkL ((s.l.take n).set 0 (at_ s.l n)) (at_ s.l n) 0 := by rw [e3, sinkS_l, hl2]
  have hp3 : (pop3 s).l.Perm ((s.l.take n).set 0 (at_ s.l n)) := by
    rw [hl3]
    have := sink_perm ((s.l.take n).set 0 (at_ s.l n)) 0 (at_ s.l n) (by rw [List.length_set, hlen]; exact h0)
    rw [List.set_set] at this; exact this
  have hhp : Hp (pop3 s).l := by
    rw [hl3]
    refine sink_hp _ 0 _ (by rw [List.length_set, hlen]; exact h0) ⟨fun j j0 hj hne hpar => ?_, fun h => absurd h (by omega)⟩ (fun h => absurd h (by omega))
    rw [List.length_set, hlen] at hj
    have hpn : par j < n := by unfold par; omega
    rw [at_set (by rw [hlen]; exact h0), at_set (by rw [hlen]; exact h0), if_neg (fun e => hne e.symm), if_neg (fun e => hpar e.symm), at_take hj, at_take hpn]
    exact h.hp j j0 (by omega)
  have hmem : at_ s.l n ∈ (pop3 s).l := hp3.mem_iff.2 (by
    have : at_ ((s.l.take n).set 0 (at_ s.l n)) 0 = at_ s.l n := by rw [at_set (by rw [hlen]; exact h0), if_pos rfl]
    have h2 := at_mem (l := (s.l.take n).set 0 (at_ s.l n)) (j := 0) (by rw [List.length_set, hlen]; exact h0)
    rw [this] at h2; exact h2)
  obtain ⟨j, hj, ej⟩ := List.getElem_of_mem hmem
  have ej' : at_ (pop3 s).l j = at_ s.l n := by rw [← ej]; simp [at_, hj]
  have hix := hK.ix j hj
  rw [ej'] at hix
  have hJ : popJ s = j := by unfold popJ; rw [e1]; exact ixN_of hix
  exact ⟨hK, hhp, (List.Perm.cons _ hp3).trans (take_perm hn h0), by rw [hJ]; exact hj, by rw [hJ]; exact ej', by rw [hJ]; exact hix⟩
theorem HInv.pop {s : HS} (h : HInv s) (hl : 0 < s.l.length) : HInv (popS s) ∧ (at_ s.l 0 :: (popS s).l).Perm s.l ∧ (popS s).next = s.next := by
  obtain ⟨n, hn⟩ : ∃ n, s.l.length = n + 1 := ⟨s.l.length - 1, by omega⟩
  have e1 : s.l.length - 1 = n := by omega
  by_cases h0 : n = 0
  · subst h0
    have hS : popS s = pop1 s := by unfold popS; rw [if_pos e1]
    obtain ⟨a, ha⟩ : ∃ a, s.l = [a] := by
      cases hs : s.l with
      | nil => rw [hs] at hn; simp at hn
      | cons a l => cases l with
        | nil => exact ⟨a, rfl⟩
        | cons b l => rw [hs] at hn; simp at hn
    have hl1 : (pop1 s).l = [] := by unfold pop1; rw [e1]; simp
    have a0 : at_ s.l 0 = a := by rw [ha]; rfl
    have hno : ∀ m, Maps.has (pop1 s).D (ik m) = false := fun m => by
      show Maps.has (s.D.del (ik (at_ s.l 0).num)) (ik m) = false
      by_cases e : m = (at_ s.l 0).num
      · subst e; exact Maps.has_del_same
      · rw [Maps.has_del_other (ik_ne e)]
        cases hc : Maps.has s.D (ik m) with
        | false => rfl
        | true =>
          have := (h.kn.has m).1 hc
          rw [ha, List.map_cons, List.map_nil, List.mem_singleton] at this
          rw [a0] at e
          exact absurd this e
    rw [hS]
    refine ⟨⟨⟨by rw [hl1]; exact List.Pairwise.nil, h.kn.tidy.del _, fun j hj => by rw [hl1] at hj; simp at hj, fun m => by rw [hno, hl1]; simp, ?_⟩, fun j h0 hj => by rw [hl1] at hj; simp at hj, fun x hx => by rw [hl1] at hx; simp at hx, h.next⟩, by rw [hl1, a0, ha], rfl⟩
    have := Maps.size_del (k := ik (at_ s.l 0).num) h.kn.tidy
    rw [if_pos ((h.kn.has _).2 (mem_at.2 ⟨0, by omega, rfl⟩)), h.kn.size, hn] at this
    rw [hl1]
    show Maps.size (s.D.del _) = 0
    omega
  · have hP := h.popped hn (by omega)
    have hS : popS s = riseS (pop3 s) (at_ (pop3 s).l (popJ s)) (popJ s) := by unfold popS; rw [if_neg (by omega)]
    have hM := hP.kn.mid hP.j
    have hl4 : (popS s).l = riseL (pop3 s).l (at_ (pop3 s).l (popJ s)) (popJ s) := by rw [hS, riseS_l]
    have hp4 : (popS s).l.Perm (pop3 s).l := by
      rw [hl4]
      have := rise_perm (l := (pop3 s).l) (i := popJ s) (at_ (pop3 s).l (popJ s)) hP.j
      rw [set_at] at this; exact this
    have hperm : (at_ s.l 0 :: (popS s).l).Perm s.l := (List.Perm.cons _ hp4).trans hP.perm
    have hnext : (popS s).next = s.next := by rw [hS, riseS_next]; unfold pop3; rw [sinkS_next]; rfl
    refine ⟨⟨by rw [hS]; exact hM.rise, ?_, fun x hx => ?_, by rw [hnext]; exact h.next⟩, hperm, hnext⟩
    · rw [hl4]
      refine rise_hp hP.j (hP.hp.hole _ hP.j) (fun j j0 hj hpar => ?_)
      rw [← hpar]
      exact hP.hp j j0 hj
    · rw [hnext]
      exact h.nums x (hperm.mem_iff.1 (List.mem_cons_of_mem _ hx))
end Go.Proofs.Ytcpjjnikehcleaa.Hq
