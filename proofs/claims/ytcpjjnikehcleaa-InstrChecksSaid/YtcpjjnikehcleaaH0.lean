/- What a call may change; a heap of things, in plain and in memory. -/
import Derived.Test.YtcpjjnikehcleaaProg
import Derived.Below
import Derived.Deep.Draws
import Derived.Deep.AppendLies
import Derived.Maps.AppendAt
import Derived.OwnWalk
import Derived.Laws.BytesArg
import Derived.Laws.MakeOwn
import Derived.Laws.OwnMore
import Derived.Deep.OwnRows
import Derived.Tactics
import Derived.Lib.ConvBytes
import Derived.Laws.Slices
import Derived.WalkKit
import Derived.KernelRfl
import Derived.RowKit3
import Derived.Deep.LoopGhost
import Derived.Deep.QuietTactic
import Derived.BigQuiet
import Derived.WideLaws
import Derived.Deep.DeepCutAuto
import Derived.Deep.CutBlock
import Derived.Deep.RegionHeld3
import Derived.Laws.Rows
import Derived.Lib.AppendStr
import Derived.ArgAppend
import Derived.Laws.IdiomCopy
import Derived.OrdersHeld
import Derived.Laws.BitsLemmas
import Derived.RowKit
import Derived.Test.YtcpjjnikehcleaaMo
import Derived.Maps.OwnOps
import Derived.Maps.OwnSet
import Derived.Maps.Views
import Derived.StillTailTactics
import Derived.Deep.RegionWith
namespace Go.Proofs.Ytcpjjnikehcleaa.Hq
open Go.RowKit Go.Proofs.YtcpjjnikehcleaaW.PrintWords Go.Proofs.YtcpjjnikehcleaaW.PrintLast Go.Proofs.YtcpjjnikehcleaaW.PrintMore
open Go.Maps (Keyed)
set_option linter.unusedVariables false
set_option linter.unusedSimpArgs false

/-- From w to W at most the blocks of S have changed; new ones may have come. -/
structure Ch (S : Nat → Prop) (w W : World) : Prop where
  os : W.os = w.os
  tape : W.tape = w.tape
  output : W.output = w.output
  size : w.heap.size ≤ W.heap.size
  block : ∀ k, k < w.heap.size → ¬ S k → W.heap[k]? = w.heap[k]?

theorem Ch.refl (S : Nat → Prop) (w : World) : Ch S w w := ⟨rfl, rfl, rfl, Nat.le_refl _, fun _ _ _ => rfl⟩
theorem Ch.trans {S T : Nat → Prop} {a b c : World} (h : Ch S a b) (k : Ch T b c) (hs : ∀ i, i < a.heap.size → T i → S i) : Ch S a c :=
  ⟨k.os.trans h.os, k.tape.trans h.tape, k.output.trans h.output, Nat.le_trans h.size k.size,
    fun i hi hn => (k.block i (Nat.lt_of_lt_of_le hi h.size) (fun ht => hn (hs i hi ht))).trans (h.block i hi hn)⟩
theorem Ch.mono {S T : Nat → Prop} {a b : World} (h : Ch S a b) (hs : ∀ i, i < a.heap.size → S i → T i) : Ch T a b :=
  ⟨h.os, h.tape, h.output, h.size, fun i hi hn => h.block i hi (fun hk => hn (hs i hi hk))⟩
theorem Ch.of_below {S : Nat → Prop} {a b : World} {B : Nat} (h : Below B a b) (hB : ∀ k, k < a.heap.size → B ≤ k → S k) : Ch S a b :=
  ⟨h.os, h.tape, h.output, h.size, fun i hi hn => h.block i (Nat.lt_of_not_le fun hle => hn (hB i hi hle))⟩
theorem Ch.below {S : Nat → Prop} {a b : World} (h : Ch S a b) {B : Nat} (hB : B ≤ a.heap.size) (hs : ∀ k, S k → B ≤ k) : Below B a b :=
  ⟨h.os, h.tape, h.output, h.size, fun i hi => h.block i (by omega) (fun hk => by have := hs i hk; omega)⟩
theorem Ch.alloc {S : Nat → Prop} {a b : World} (h : Ch S a b) (o : Obj) : Ch S a (b.alloc o) :=
  h.trans (Ch.of_below (S := fun _ => False) (below_alloc (Below.refl b.heap.size b) o) (fun k hk hle => by omega)) (fun _ _ hk => hk.elim)
theorem Ch.drew {S : Nat → Prop} {a b : World} (h : Ch S a b) : Ch S a b.drew := ⟨h.os, h.tape, h.output, h.size, h.block⟩
theorem Ch.drewN {S : Nat → Prop} {a b : World} (h : Ch S a b) (n : Nat) : Ch S a (b.drewN n) := ⟨h.os, h.tape, h.output, h.size, h.block⟩
theorem Ch.set {S : Nat → Prop} {a b : World} (h : Ch S a b) {p : Addr} (hp : S p.block ∨ a.heap.size ≤ p.block) (u : Value) : Ch S a (b.setCell p u) :=
  ⟨h.os, h.tape, h.output, by simpa [World.setCell] using h.size,
    fun i hi hn => (Below.heap_setCell b p u i (fun e => by subst e; rcases hp with h1 | h1; exact hn h1; omega)).trans (h.block i hi hn)⟩
theorem Ch.grown {S : Nat → Prop} {a b c : World} (h : Ch S a b) {row : Option Nat} (hg : b.grownBy c row) (hr : ∀ k, row = some k → S k ∨ a.heap.size ≤ k) : Ch S a c :=
  ⟨hg.os.trans h.os, hg.tape.trans h.tape, hg.output.trans h.output, Nat.le_trans h.size hg.size,
    fun i hi hn => (hg.block i (Nat.lt_of_lt_of_le hi h.size) (fun e => by rcases hr i e.symm with h1 | h1; exact hn h1; omega)).trans (h.block i hi hn)⟩
theorem Ch.keep {S : Nat → Prop} {a b : World} (h : Ch S a b) {k : Nat} {o : Obj} (hk : a.heap[k]? = some o) (hn : ¬ S k) : b.heap[k]? = some o := (h.block k (blk_lt hk) hn).trans hk

structure Th where
  key : Int
  num : Int
  v : Int
deriving DecidableEq
def zt : Th := ⟨0, 0, 0⟩
def lt (a b : Th) : Prop := a.key < b.key ∨ (a.key = b.key ∧ a.num < b.num)
instance (a b : Th) : Decidable (lt a b) := inferInstanceAs (Decidable (_ ∨ _))
theorem lt_irr (a : Th) : ¬ lt a a := by unfold lt; omega
theorem lt_asym {a b : Th} (h : lt a b) : ¬ lt b a := by unfold lt at *; omega
theorem le_trans' {a b c : Th} (h1 : ¬ lt b a) (h2 : ¬ lt c b) : ¬ lt c a := by unfold lt at *; omega
def at_ (l : List Th) (i : Nat) : Th := l.getD i zt
theorem at_set {l : List Th} {i j : Nat} {x : Th} (h : i < l.length) : at_ (l.set i x) j = if i = j then x else at_ l j := by
  unfold at_
  by_cases e : i = j
  · subst e; simp [h]
  · rw [if_neg e]; simp [List.getElem?_set, e]
def par (j : Nat) : Nat := (j - 1) / 2
/-- Brought up from a hole. -/
def riseL (l : List Th) (x : Th) (i : Nat) : List Th :=
  if h : 0 < i ∧ lt x (at_ l (par i)) then riseL (l.set i (at_ l (par i))) x (par i) else l.set i x
termination_by i
decreasing_by unfold par; omega
/-- The lesser of two below. -/
def low (l : List Th) (k : Nat) : Nat := if k + 1 < l.length ∧ lt (at_ l (k + 1)) (at_ l k) then k + 1 else k
theorem low_ge (l : List Th) (k : Nat) : k ≤ low l k := by unfold low; split <;> omega
theorem low_lt (l : List Th) (k : Nat) (h : k < l.length) : low l k < l.length := by unfold low; split <;> omega
/-- Brought down from a hole. -/
def sinkL (l : List Th) (x : Th) (i : Nat) : List Th :=
  if h : 2 * i + 1 < l.length then
    if lt x (at_ l (low l (2 * i + 1))) then l.set i x
    else sinkL (l.set i (at_ l (low l (2 * i + 1)))) x (low l (2 * i + 1))
  else l.set i x
termination_by l.length - i
decreasing_by
  have h1 := low_ge l (2 * i + 1)
  have h2 := low_lt l (2 * i + 1) h
  simp only [List.length_set]
  omega
theorem riseL_length (l : List Th) (x : Th) (i : Nat) : (riseL l x i).length = l.length := by
  induction i using Nat.strongRecOn generalizing l with
  | _ i ih =>
    rw [riseL]
    split
    · next h => rw [ih (par i) (by unfold par; omega)]; simp
    · simp
/-- The things, in whatever order: as counts. -/
theorem count_set {l : List Th} {i : Nat} (h : i < l.length) (x a : Th) : (l.set i x).count a + (if at_ l i = a then 1 else 0) = l.count a + (if x = a then 1 else 0) := by
  induction l generalizing i with
  | nil => simp at h
  | cons b l ih =>
    cases i with
    | zero =>
      simp only [List.set_cons_zero, List.count_cons, at_, List.getD_cons_zero, beq_iff_eq]
      omega
    | succ i =>
      have := ih (i := i) (by simpa using h)
      have e : at_ (b :: l) (i + 1) = at_ l i := rfl
      rw [e]
      simp only [List.set_cons_succ, List.count_cons]
      omega
theorem swap_perm {l : List Th} {i p : Nat} (hi : i < l.length) (hp : p < l.length) (hne : i ≠ p) (x : Th) : ((l.set i (at_ l p)).set p x).Perm (l.set i x) := by
  rw [List.perm_iff_count]
  intro a
  have h1 := count_set (l := l.set i (at_ l p)) (i := p) (by simpa using hp) x a
  have h2 := count_set (l := l) (i := i) hi (at_ l p) a
  have h3 := count_set (l := l) (i := i) hi x a
  rw [at_set hi, if_neg hne] at h1
  omega
theorem rise_perm {l : List Th} {i : Nat} (x : Th) (hi : i < l.length) : (riseL l x i).Perm (l.set i x) := by
  induction i using Nat.strongRecOn generalizing l with
  | _ i ih =>
    rw [riseL]
    split
    · next h =>
      have hp : par i < i := by unfold par; omega
      refine (ih (par i) hp (l := l.set i (at_ l (par i))) (by simp; omega)).trans ?_
      exact swap_perm hi (by omega) (by omega) x
    · exact List.Perm.refl _
theorem sink_perm (l : List Th) (i : Nat) (x : Th) (hi : i < l.length) : (sinkL l x i).Perm (l.set i x) := by
  rw [sinkL]
  split
  · next h =>
    split
    · exact List.Perm.refl _
    · have h1 := low_ge l (2 * i + 1)
      have h2 := low_lt l (2 * i + 1) h
      refine (sink_perm (l.set i (at_ l (low l (2 * i + 1)))) (low l (2 * i + 1)) x (by simp; omega)).trans ?_
      exact swap_perm hi h2 (by omega) x
  · exact List.Perm.refl _
termination_by l.length - i
decreasing_by simp only [List.length_set]; omega

/-- Each one stands ahead of both below it. -/
def Hp (l : List Th) : Prop := ∀ j, 0 < j → j < l.length → ¬ lt (at_ l j) (at_ l (par j))
/-- .. but for a hole. -/
structure Hole (l : List Th) (i : Nat) : Prop where
  far : ∀ j, 0 < j → j < l.length → j ≠ i → par j ≠ i → ¬ lt (at_ l j) (at_ l (par j))
  grand : 0 < i → ∀ j, 0 < j → j < l.length → par j = i → ¬ lt (at_ l j) (at_ l (par i))
theorem Hp.hole {l : List Th} (h : Hp l) (i : Nat) (hi : i < l.length) : Hole l i := by
  refine ⟨fun j h0 h1 _ _ => h j h0 h1, fun h0 j hj0 hj hp => ?_⟩
  have h1 := h j hj0 hj
  have h2 := h i h0 hi
  rw [hp] at h1
  exact le_trans' h2 h1
theorem rise_hp {l : List Th} {i : Nat} {x : Th} (hi : i < l.length) (h : Hole l i) (hx : ∀ j, 0 < j → j < l.length → par j = i → ¬ lt (at_ l j) x) : Hp (riseL l x i) := by
  induction i using Nat.strongRecOn generalizing l with
  | _ i ih =>
    rw [riseL]
    split
    · next hc =>
      obtain ⟨h0, hlt⟩ := hc
      have hp : par i < i := by unfold par; omega
      refine ih (par i) hp (l := l.set i (at_ l (par i))) (by simp; omega) ⟨fun j j0 jl jne jp => ?_, fun p0 j j0 jl jp => ?_⟩ (fun j j0 jl jp => ?_)
      · simp only [List.length_set] at jl
        rw [at_set hi, at_set hi]
        by_cases e : i = j
        · subst e; exact absurd rfl jp
        · rw [if_neg e]
          by_cases e2 : i = par j
          · rw [if_pos e2]
            exact h.grand h0 j j0 jl e2.symm
          · rw [if_neg e2]
            exact h.far j j0 jl (fun e' => e e'.symm) (fun e' => e2 e'.symm)
      · simp only [List.length_set] at jl
        have hpp : par (par i) ≠ i := by unfold par at *; omega
        rw [at_set hi, at_set hi, if_neg (show ¬ i = par (par i) from fun e => hpp e.symm)]
        by_cases e : i = j
        · rw [if_pos e]
          exact h.far (par i) p0 (by omega) (by omega) hpp
        · rw [if_neg e]
          have h1 := h.far j j0 jl (fun e' => e e'.symm) (by omega)
          rw [jp] at h1
          exact le_trans' (h.far (par i) p0 (by omega) (by omega) hpp) h1
      · simp only [List.length_set] at jl
        rw [at_set hi]
        by_cases e : i = j
        · rw [if_pos e]; exact lt_asym hlt
        · rw [if_neg e]
          have h1 := h.far j j0 jl (fun e' => e e'.symm) (by omega)
          rw [jp] at h1
          exact le_trans' (lt_asym hlt) h1
    · next hc =>
      intro j j0 jl
      simp only [List.length_set] at jl
      rw [at_set hi, at_set hi]
      by_cases e : i = j
      · rw [if_pos e]
        subst e
        have hpi : par i ≠ i := by unfold par; omega
        rw [if_neg (fun e => hpi e.symm)]
        exact fun hlt => hc ⟨j0, hlt⟩
      · rw [if_neg e]
        by_cases e2 : i = par j
        · rw [if_pos e2]; exact hx j j0 jl e2.symm
        · rw [if_neg e2]; exact h.far j j0 jl (fun e' => e e'.symm) (fun e' => e2 e'.symm)
theorem sink_hp (l : List Th) (i : Nat) (x : Th) (hi : i < l.length) (h : Hole l i) (hx : 0 < i → ¬ lt x (at_ l (par i))) : Hp (sinkL l x i) := by
  rw [sinkL]
  split
  · next hk =>
    have h1 := low_ge l (2 * i + 1)
    have h2 := low_lt l (2 * i + 1) hk
    have hpar : par (low l (2 * i + 1)) = i := by unfold low par; split <;> omega
    have hoth : ∀ j, 0 < j → j < l.length → par j = i → ¬ lt (at_ l j) (at_ l (low l (2 * i + 1))) := by
      intro j j0 jl jp
      have hj : j = 2 * i + 1 ∨ j = 2 * i + 2 := by unfold par at jp; omega
      unfold low
      split
      · next hc =>
        rcases hj with rfl | rfl
        · exact lt_asym hc.2
        · exact lt_irr _
      · next hc =>
        rcases hj with rfl | rfl
        · exact lt_irr _
        · exact fun hlt => hc ⟨jl, hlt⟩
    split
    · next hlt =>
      intro j j0 jl
      simp only [List.length_set] at jl
      rw [at_set hi, at_set hi]
      by_cases e : i = j
      · rw [if_pos e]
        subst e
        have hpi : par i ≠ i := by unfold par; omega
        rw [if_neg (fun e => hpi e.symm)]
        exact hx j0
      · rw [if_neg e]
        by_cases e2 : i = par j
        · rw [if_pos e2]
          exact le_trans' (lt_asym hlt) (hoth j j0 jl e2.symm)
        · rw [if_neg e2]; exact h.far j j0 jl (fun e' => e e'.symm) (fun e' => e2 e'.symm)
    · next hlt =>
      have hlo : low l (2 * i + 1) ≠ i := by omega
      refine sink_hp (l.set i (at_ l (low l (2 * i + 1)))) (low l (2 * i + 1)) x (by simp; omega) ⟨fun j j0 jl jne jp => ?_, fun p0 j j0 jl jp => ?_⟩ (fun _ => ?_)
      · simp only [List.length_set] at jl
        rw [at_set hi, at_set hi]
        by_cases e : i = j
        · rw [if_pos e]
          subst e
          have hpi : par i ≠ i := by unfold par; omega
          rw [if_neg (fun e => hpi e.symm)]
          exact h.grand j0 _ (by omega) h2 hpar
        · rw [if_neg e]
          by_cases e2 : i = par j
          · rw [if_pos e2]; exact hoth j j0 jl e2.symm
          · rw [if_neg e2]; exact h.far j j0 jl (fun e' => e e'.symm) (fun e' => e2 e'.symm)
      · simp only [List.length_set] at jl
        rw [hpar, at_set hi, at_set hi, if_pos rfl]
        have e : i ≠ j := by unfold par at jp; omega
        rw [if_neg e]
        have h3 := h.far j j0 jl (fun e' => e e'.symm) (by rw [jp]; exact hlo)
        rw [jp] at h3
        exact h3
      · rw [hpar, at_set hi, if_pos rfl]; exact hlt
  · next hk =>
    intro j j0 jl
    simp only [List.length_set] at jl
    rw [at_set hi, at_set hi]
    by_cases e : i = j
    · rw [if_pos e]
      subst e
      have hpi : par i ≠ i := by unfold par; omega
      rw [if_neg (fun e => hpi e.symm)]
      exact hx j0
    · rw [if_neg e]
      by_cases e2 : i = par j
      · exfalso; unfold par at e2; omega
      · rw [if_neg e2]; exact h.far j j0 jl (fun e' => e e'.symm) (fun e' => e2 e'.symm)
termination_by l.length - i
decreasing_by simp only [List.length_set]; omega
/-- The first is the least. -/
theorem Hp.least {l : List Th} (h : Hp l) (j : Nat) (hj : j < l.length) : ¬ lt (at_ l j) (at_ l 0) := by
  induction j using Nat.strongRecOn with
  | _ j ih =>
    by_cases h0 : 0 < j
    · have hp : par j < j := by unfold par; omega
      exact le_trans' (ih (par j) hp (by omega)) (h j h0 hj)
    · have : j = 0 := by omega
      subst this; exact lt_irr _

/-! ### in memory -/
def Th.cells (x : Th) : List Value := [.int .i64 x.key, .int .i64 x.num, .int .i64 x.v]
def flat : List Th → List Value
  | [] => []
  | x :: l => x.cells ++ flat l
theorem flat_length : ∀ l : List Th, (flat l).length = l.length * 3
  | [] => rfl
  | x :: l => by simp [flat, Th.cells, flat_length l]; omega
theorem flat_get : ∀ (l : List Th) (i j : Nat), i < l.length → j < 3 → (flat l)[i * 3 + j]? = (at_ l i).cells[j]?
  | [], i, j, h, _ => by simp at h
  | x :: l, 0, j, _, hj => by
    simp only [flat, at_, List.getD_cons_zero, Nat.zero_mul, Nat.zero_add]
    rw [List.getElem?_append_left (by simpa [Th.cells] using hj)]
  | x :: l, i + 1, j, h, hj => by
    simp only [flat, at_, List.getD_cons_succ]
    rw [List.getElem?_append_right (by simp [Th.cells]; omega)]
    have := flat_get l i j (by simpa using h) hj
    rw [show (i + 1) * 3 + j - x.cells.length = i * 3 + j from by simp [Th.cells]; omega]
    exact this
theorem flat_set : ∀ (l : List Th) (i j : Nat) (u : Value) (x' : Th), i < l.length → j < 3 → (at_ l i).cells.set j u = x'.cells → (flat l).set (i * 3 + j) u = flat (l.set i x')
  | [], i, j, u, x', h, _, _ => by simp at h
  | x :: l, 0, j, u, x', _, hj, he => by
    simp only [flat, Nat.zero_mul, Nat.zero_add, List.set_cons_zero]
    rw [List.set_append_left _ _ (by simpa [Th.cells] using hj)]
    simp only [at_, List.getD_cons_zero] at he
    rw [he]
  | x :: l, i + 1, j, u, x', h, hj, he => by
    simp only [flat, List.set_cons_succ]
    rw [List.set_append_right _ _ (by simp [Th.cells]; omega)]
    have := flat_set l i j u x' (by simpa using h) hj (by simpa [at_] using he)
    rw [show (i + 1) * 3 + j - x.cells.length = i * 3 + j from by simp [Th.cells]; omega, this]
theorem flat_append (a b : List Th) : flat (a ++ b) = flat a ++ flat b := by
  induction a with
  | nil => rfl
  | cons c a ih => simp [flat, ih]
theorem ownsRow_ch {W V : World} {B e size n : Nat} {v : Value} {xs : List Value} {S : Nat → Prop} (h : W.ownsRow B e size v n xs) (hc : Ch S W V) (hn : ∀ k, v.ownBlock = some k → ¬ S k) : V.ownsRow B e size v n xs := by
  refine ⟨h.1, h.2.imp id ?_⟩
  rintro ⟨g, cap, cur, rfl, h1, h2, h3⟩
  exact ⟨g, cap, cur, rfl, h1, hc.keep h2 (hn g rfl), h3⟩
theorem ownsMap_ch {W V : World} {b n : Nat} {D : DataW Nat} {S : Nat → Prop} (h : W.ownsMap Try.prog 3 (plainElem Try.prog 3) b n D) (hc : Ch S W V) (hn : ¬ S b) : V.ownsMap Try.prog 3 (plainElem Try.prog 3) b n D := by
  have hlt := h.lt
  obtain ⟨es, clock, hb, F, hs, hD⟩ := h
  exact ⟨es, clock, (hc.block b hlt hn).trans hb, F, hs, hD⟩
theorem ownsMap_tight {W : World} {b n : Nat} {D : DataW Nat} (h : W.ownsMap Try.prog 3 (plainElem Try.prog 3) b n D) : W.ownsMap Try.prog 3 (plainElem Try.prog 3) b (Maps.size D) D := by
  obtain ⟨es, clock, hb, F, _, rfl⟩ := h
  refine ⟨es, clock, hb, F, ?_, rfl⟩
  have e1 : Maps.size (DataW.map ((es.toList.map (Go.WideElems.rg Try.prog 3 (plainElem (H := Nat) Try.prog 3))).foldr DataW.insert [])) = es.size := by simp [Maps.size, length_sorted]
  rw [e1]
  exact Nat.le_refl _
theorem ch_turned {W V : World} {b : Nat} (h : W.mapTurned V b) : Ch (fun k => k = b) W V := by
  obtain ⟨es, c, es', c', hb, rfl⟩ := h
  exact ⟨rfl, rfl, rfl, by simp [ChangeMaps.setBlock], fun k hk hn => ChangeMaps.heap_setBlock_other hb _ (fun e => hn e)⟩
/-- Where a heap lies. -/
structure Lay where
  g : Nat
  gm : Nat
  v : Value
def Lay.own (y : Lay) (k : Nat) : Prop := k = y.g ∨ k = y.gm ∨ y.v.ownBlock = some k
/-- What a heap holds. -/
structure HS where
  l : List Th
  next : Int
  D : DataW Nat
structure HAt (B : Nat) (W : World) (y : Lay) (s : HS) : Prop where
  blk : W.heap[y.g]? = some (.cells #[.bool true, y.v, .map (some y.gm), .int .i64 s.next] 94 (0, 0))
  map : W.ownsMap Try.prog 3 (plainElem Try.prog 3) y.gm (Maps.size s.D) s.D
  row : W.ownsRow B 115 3 y.v s.l.length (flat s.l)
  bg : B ≤ y.g
  bm : B ≤ y.gm
/-- Behind a call that changes nothing. -/
def Same (v : Value) (w : World) (e : Ending) (w' : World) : Prop := e = .returned v ∧ Ch (fun _ => False) w w'
/-- Behind a call the heap has other contents in the same place. -/
def Stay (B : Nat) (y : Lay) (s' : HS) (v : Value) (w : World) (e : Ending) (w' : World) : Prop := e = .returned v ∧ HAt B w' y s' ∧ Ch y.own w w'
theorem HAt.apart {B : Nat} {W : World} {y : Lay} {s : HS} (h : HAt B W y s) : y.g ≠ y.gm ∧ (∀ k, y.v.ownBlock = some k → k ≠ y.g ∧ k ≠ y.gm) := by
  obtain ⟨es, clock, hb, -⟩ := h.map
  refine ⟨fun e => ?_, fun k hk => ?_⟩
  · have := h.blk; rw [e, hb] at this; simp at this
  · rcases h.row.2 with ⟨e, _⟩ | ⟨g, cap, cur, e, _, h2, _⟩
    · rw [e] at hk; simp [Value.ownBlock] at hk
    · rw [e] at hk
      simp [Value.ownBlock] at hk
      subst hk
      refine ⟨blk_ne h2 h.blk (by decide), fun e => ?_⟩
      rw [e, hb] at h2; simp at h2
theorem HAt.ch {B : Nat} {W V : World} {y : Lay} {s : HS} (h : HAt B W y s) {S : Nat → Prop} (hc : Ch S W V) (hn : ∀ k, y.own k → ¬ S k) : HAt B V y s :=
  ⟨hc.keep h.blk (hn _ (.inl rfl)), ownsMap_ch h.map hc (hn _ (.inr (.inl rfl))), ownsRow_ch h.row hc (fun k hk => hn k (.inr (.inr hk))), h.bg, h.bm⟩
theorem HAt.same {B : Nat} {W V : World} {y : Lay} {s : HS} (h : HAt B W y s) (hc : Ch (fun _ => False) W V) : HAt B V y s := h.ch hc (fun _ _ h => h)
theorem HAt.lt {B : Nat} {W : World} {y : Lay} {s : HS} (h : HAt B W y s) {k : Nat} (hk : y.own k) : B ≤ k ∧ k < W.heap.size := by
  rcases hk with rfl | rfl | hk
  · exact ⟨h.bg, blk_lt h.blk⟩
  · exact ⟨h.bm, h.map.lt⟩
  · exact h.row.lt k hk
theorem own_shape {W : World} {B e size n : Nat} {v : Value} {xs : List Value} (h : W.ownsRow B e size v n xs) (hn : 0 < n) : ∃ g cap, v = .slice (some ⟨g, 0, none⟩) n cap := by
  rcases h.2 with ⟨_, h0⟩ | ⟨g, cap, cur, e1, _⟩
  · omega
  · exact ⟨g, cap, e1⟩
/-- The cells of a thing. -/
theorem HAt.at_ {B : Nat} {W : World} {y : Lay} {s : HS} (h : HAt B W y s) {i : Nat} (hi : i < s.l.length) :
    ∃ g cap, y.v = .slice (some ⟨g, 0, none⟩) s.l.length cap ∧ W.cell? ⟨g, i * 3, none⟩ = some (.int .i64 (Hq.at_ s.l i).key) ∧ W.cell? ⟨g, i * 3 + 1, none⟩ = some (.int .i64 (Hq.at_ s.l i).num) ∧ W.cell? ⟨g, i * 3 + 2, none⟩ = some (.int .i64 (Hq.at_ s.l i).v) ∧
      (∀ k, W.frozen? ⟨g, k, none⟩ = false) ∧ g ≠ y.g ∧ g ≠ y.gm ∧ g < W.heap.size := by
  obtain ⟨g, cap, hv⟩ := own_shape h.row (by omega)
  have ho := h.row
  rw [hv] at ho
  have hl := flat_length s.l
  have hc : ∀ j, j < 3 → W.cell? ⟨g, i * 3 + j, none⟩ = (Hq.at_ s.l i).cells[j]? := fun j hj => by
    rw [← flat_get s.l i j hi hj, ho.cellAt (i * 3 + j) (by omega)]
  have ha := h.apart.2 g (by rw [hv]; rfl)
  have hb := h.row.lt g (by rw [hv]; rfl)
  refine ⟨g, cap, hv, hc 0 (by omega), hc 1 (by omega), hc 2 (by omega), fun k => ?_, ha.1, ha.2, hb.2⟩
  rcases ho.2 with ⟨e, _⟩ | ⟨g', cap', cur, e, _, h2, _⟩
  · cases e
  · simp only [Value.slice.injEq, Option.some.injEq, Addr.mk.injEq] at e
    obtain ⟨⟨rfl, -⟩, -⟩ := e
    exact blk_frozen h2 k
theorem row_set {W : World} {B g n cap : Nat} {l : List Th} (h : W.ownsRow B 115 3 (.slice (some ⟨g, 0, none⟩) n cap) n (flat l)) (hn : n = l.length) {i : Nat} (hi : i < l.length) (x : Th) :
    (((W.setCell ⟨g, i * 3, none⟩ (.int .i64 x.key)).setCell ⟨g, i * 3 + 1, none⟩ (.int .i64 x.num)).setCell ⟨g, i * 3 + 2, none⟩ (.int .i64 x.v)).ownsRow B 115 3 (.slice (some ⟨g, 0, none⟩) n cap) n (flat (l.set i x)) := by
  have h0 := (h.stored (i * 3 + 0) (.int .i64 x.key)).1
  rw [flat_set l i 0 _ { at_ l i with key := x.key } hi (by omega) rfl] at h0
  have h1 := (h0.stored (i * 3 + 1) (.int .i64 x.num)).1
  rw [flat_set _ i 1 _ { x with v := (at_ l i).v } (by simpa using hi) (by omega) (by rw [at_set hi, if_pos rfl]; rfl)] at h1
  have h2 := (h1.stored (i * 3 + 2) (.int .i64 x.v)).1
  rw [flat_set _ i 2 _ x (by simpa using hi) (by omega) (by rw [at_set (by simpa using hi), if_pos rfl]; rfl), List.set_set, List.set_set] at h2
  exact h2
end Go.Proofs.Ytcpjjnikehcleaa.Hq
