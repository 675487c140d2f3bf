/- What a call may change; a heap of things, in plain and in memory. -/
import Derived.Test.YtcpjjnikehcleaaProg
import Derived.Below
import Derived.Deep.Draws
import Derived.Deep.AppendLies
import Derived.Maps.AppendAt
import Derived.OwnWalk
import Derived.Laws.BytesArg
import Derived.Laws.MakeOwn
import Derived.Laws.OwnMore
import Derived.Deep.OwnRows
import Derived.Tactics
import Derived.Lib.ConvBytes
import Derived.Laws.Slices
import Derived.WalkKit
import Derived.KernelRfl
import Derived.RowKit3
import Derived.Deep.LoopGhost
import Derived.Deep.QuietTactic
import Derived.BigQuiet
import Derived.WideLaws
import Derived.Deep.DeepCutAuto
import Derived.Deep.CutBlock
import Derived.Deep.RegionHeld3
import Derived.Laws.Rows
import Derived.Lib.AppendStr
import Derived.ArgAppend
import Derived.Laws.IdiomCopy
import Derived.OrdersHeld
import Derived.Laws.BitsLemmas
import Derived.RowKit
import Derived.Test.YtcpjjnikehcleaaMo
import Derived.Maps.OwnOps
import Derived.Maps.OwnSet
import Derived.Maps.Views
import Derived.StillTailTactics
import Derived.Deep.RegionWith
import Derived.Test.YtcpjjnikehcleaaPChkx14
/- What a call may change; a heap of things, in plain and in memory. -/
namespace Go.Proofs.Ytcpjjnikehcleaa.Hq
open Go.RowKit Go.Proofs.YtcpjjnikehcleaaW.PrintWords Go.Proofs.YtcpjjnikehcleaaW.PrintLast Go.Proofs.YtcpjjnikehcleaaW.PrintMore
open Go.Maps (Keyed)
set_option linter.unusedVariables false
set_option linter.unusedSimpArgs false

/-- From w to W at most the blocks of S have changed; new ones may have come. -/
structure Ch (S : Nat → Prop) (w W : World) : Prop where
  os : W.os = w.os
  tape : W.tape = w.tape
  output : W.output = w.output
  size : w.heap.size ≤ W.heap.size
  block : ∀ k, k < w.heap.size → ¬ S k → W.heap[k]? = w.heap[k]?

theorem Ch.refl (S : Nat → Prop) (w : World) : Ch S w w := ⟨rfl, rfl, rfl, Nat.le_refl _, fun _ _ _ => rfl⟩
theorem Ch.trans {S T : Nat → Prop} {a b c : World} (h : Ch S a b) (k : Ch T b c) (hs : ∀ i, i < a.heap.size → T i → S i) : Ch S a c :=
  ⟨k.os.trans h.os, k.tape.trans h.tape, k.output.trans h.output, Nat.le_trans h.size k.size,
    fun i hi hn => (k.block i (Nat.lt_of_lt_of_le hi h.size) (fun ht => hn (hs i hi ht))).trans (h.block i hi hn)⟩
theorem Ch.mono {S T : Nat → Prop} {a b : World} (h : Ch S a b) (hs : ∀ i, i < a.heap.size → S i → T i) : Ch T a b :=
  ⟨h.os, h.tape, h.output, h.size, fun i hi hn => h.block i hi (fun hk => hn (hs i hi hk))⟩
theorem Ch.of_below {S : Nat → Prop} {a b : World} {B : Nat} (h : Below B a b) (hB : ∀ k, k < a.heap.size → B ≤ k → S k) : Ch S a b :=
  ⟨h.os, h.tape, h.output, h.size, fun i hi hn => h.block i (Nat.lt_of_not_le fun hle => hn (hB i hi hle))⟩
theorem Ch.below {S : Nat → Prop} {a b : World} (h : Ch S a b) {B : Nat} (hB : B ≤ a.heap.size) (hs : ∀ k, S k → B ≤ k) : Below B a b :=
  ⟨h.os, h.tape, h.output, h.size, fun i hi => h.block i (by omega) (fun hk => by have := hs i hk; omega)⟩
theorem Ch.alloc {S : Nat → Prop} {a b : World} (h : Ch S a b) (o : Obj) : Ch S a (b.alloc o) :=
  h.trans (Ch.of_below (S := fun _ => False) (below_alloc (Below.refl b.heap.size b) o) (fun k hk hle => by omega)) (fun _ _ hk => hk.elim)
theorem Ch.drew {S : Nat → Prop} {a b : World} (h : Ch S a b) : Ch S a b.drew := ⟨h.os, h.tape, h.output, h.size, h.block⟩
theorem Ch.drewN {S : Nat → Prop} {a b : World} (h : Ch S a b) (n : Nat) : Ch S a (b.drewN n) := ⟨h.os, h.tape, h.output, h.size, h.block⟩
theorem Ch.set {S : Nat → Prop} {a b : World} (h : Ch S a b) {p : Addr} (hp : S p.block ∨ a.heap.size ≤ p.block) (u : Value) : Ch S a (b.setCell p u) :=
  ⟨h.os, h.tape, h.output, by simpa [World.setCell] using h.size,
    fun i hi hn => (Below.heap_setCell b p u i (fun e => by subst e; rcases hp with h1 | h1; exact hn h1; omega)).trans (h.block i hi hn)⟩
theorem Ch.grown {S : Nat → Prop} {a b c : World} (h : Ch S a b) {row : Option Nat} (hg : b.grownBy c row) (hr : ∀ k, row = some k → S k ∨ a.heap.size ≤ k) : Ch S a c :=
  ⟨hg.os.trans h.os, hg.tape.trans h.tape, hg.output.trans h.output, Nat.le_trans h.size hg.size,
    fun i hi hn => (hg.block i (Nat.lt_of_lt_of_le hi h.size) (fun e => by rcases hr i e.symm with h1 | h1; exact hn h1; omega)).trans (h.block i hi hn)⟩
theorem Ch.keep {S : Nat → Prop} {a b : World} (h : Ch S a b) {k : Nat} {o : Obj} (hk : a.heap[k]? = some o) (hn : ¬ S k) : b.heap[k]? = some o := (h.block k (blk_lt hk) hn).trans hk

structure Th where
  key : Int
  num : Int
  v : Int
deriving DecidableEq
def zt : Th := ⟨0, 0, 0⟩
def lt (a b : Th) : Prop := a.key < b.key ∨ (a.key = b.key ∧ a.num < b.num)
instance (a b : Th) : Decidable (lt a b) := inferInstanceAs (Decidable (_ ∨ _))
theorem lt_irr (a : Th) : ¬ lt a a := by unfold lt; omega
theorem lt_asym {a b : Th} (h : lt a b) : ¬ lt b a := by unfold lt at *; omega
theorem le_trans' {a b c : Th} (h1 : ¬ lt b a) (h2 : ¬ lt c b) : ¬ lt c a := by unfold lt at *; omega
def at_ (l : List Th) (i : Nat) : Th := l.getD i zt
theorem at_set {l : List Th} {i j : Nat} {x : Th} (h : i < l.length) : at_ (l.set i x) j = if i = j then x else at_ l j := by
  unfold at_
  by_cases e : i = j
  · subst e; simp [h]
  · rw [if_neg e]; simp [List.getElem?_set, e]
def par (j : Nat) : Nat := (j - 1) / 2
/-- Brought up from a hole. -/
def riseL (l : List Th) (x : Th) (i : Nat) : List Th :=
  if h : 0 < i ∧ lt x (at_ l (par i)) then riseL (l.set i (at_ l (par i))) x (par i) else l.set i x
termination_by i
decreasing_by unfold par; omega
/-- The lesser of two below. -/
def low (l : List Th) (k : Nat) : Nat := if k + 1 < l.length ∧ lt (at_ l (k + 1)) (at_ l k) then k + 1 else k
theorem low_ge (l : List Th) (k : Nat) : k ≤ low l k := by unfold low; split <;> omega
theorem low_lt (l : List Th) (k : Nat) (h : k < l.length) : low l k < l.length := by unfold low; split <;> omega
/-- Brought down from a hole. -/
def sinkL (l : List Th) (x : Th) (i : Nat) : List Th :=
  if h : 2 * i + 1 < l.length then
    if lt x (at_ l (low l (2 * i + 1))) then l.set i x
    else sinkL (l.set i (at_ l (low l (2 * i + 1)))) x (low l (2 * i + 1))
  else l.set i x
termination_by l.length - i
decreasing_by
  have h1 := low_ge l (2 * i + 1)
  have h2 := low_lt l (2 * i + 1) h
  simp only [List.length_set]
  omega
theorem riseL_length (l : List Th) (x : Th) (i : Nat) : (riseL l x i).length = l.length := by
  induction i using Nat.strongRecOn generalizing l with
  | _ i ih =>
    rw [riseL]
    split
    · next h => rw [ih (par i) (by unfold par; omega)]; simp
    · simp
/-- The things, in whatever order: as counts. -/
theorem count_set {l : List Th} {i : Nat} (h : i < l.length) (x a : Th) : (l.set i x).count a + (if at_ l i = a then 1 else 0) = l.count a + (if x = a then 1 else 0) := by
  induction l generalizing i with
  | nil => simp at h
  | cons b l ih =>
    cases i with
    | zero =>
      simp only [List.set_cons_zero, List.count_cons, at_, List.getD_cons_zero, beq_iff_eq]
      omega
    | succ i =>
      have := ih (i := i) (by simpa using h)
      have e : at_ (b :: l) (i + 1) = at_ l i := rfl
      rw [e]
      simp only [List.set_cons_succ, List.count_cons]
      omega
theorem swap_perm {l : List Th} {i p : Nat} (hi : i < l.length) (hp : p < l.length) (hne : i ≠ p) (x : Th) : ((l.set i (at_ l p)).set p x).Perm (l.set i x) := by
  rw [List.perm_iff_count]
  intro a
  have h1 := count_set (l := l.set i (at_ l p)) (i := p) (by simpa using hp) x a
  have h2 := count_set (l := l) (i := i) hi (at_ l p) a
  have h3 := count_set (l := l) (i := i) hi x a
  rw [at_set hi, if_neg hne] at h1
  omega
theorem rise_perm {l : List Th} {i : Nat} (x : Th) (hi : i < l.length) : (riseL l x i).Perm (l.set i x) := by
  induction i using Nat.strongRecOn generalizing l with
  | _ i ih =>
    rw [riseL]
    split
    · next h =>
      have hp : par i < i := by unfold par; omega
      refine (ih (par i) hp (l := l.set i (at_ l (par i))) (by simp; omega)).trans ?_
      exact swap_perm hi (by omega) (by omega) x
    · exact List.Perm.refl _
theorem sink_perm (l : List Th) (i : Nat) (x : Th) (hi : i < l.length) : (sinkL l x i).Perm (l.set i x) := by
  rw [sinkL]
  split
  · next h =>
    split
    · exact List.Perm.refl _
    · have h1 := low_ge l (2 * i + 1)
      have h2 := low_lt l (2 * i + 1) h
      refine (sink_perm (l.set i (at_ l (low l (2 * i + 1)))) (low l (2 * i + 1)) x (by simp; omega)).trans ?_
      exact swap_perm hi h2 (by omega) x
  · exact List.Perm.refl _
termination_by l.length - i
decreasing_by simp only [List.length_set]; omega

/-- Each one stands ahead of both below it. -/
def Hp (l : List Th) : Prop := ∀ j, 0 < j → j < l.length → ¬ lt (at_ l j) (at_ l (par j))
/-- .. but for a hole. -/
structure Hole (l : List Th) (i : Nat) : Prop where
  far : ∀ j, 0 < j → j < l.length → j ≠ i → par j ≠ i → ¬ lt (at_ l j) (at_ l (par j))
  grand : 0 < i → ∀ j, 0 < j → j < l.length → par j = i → ¬ lt (at_ l j) (at_ l (par i))
theorem Hp.hole {l : List Th} (h : Hp l) (i : Nat) (hi : i < l.length) : Hole l i := by
  refine ⟨fun j h0 h1 _ _ => h j h0 h1, fun h0 j hj0 hj hp => ?_⟩
  have h1 := h j hj0 hj
  have h2 := h i h0 hi
  rw [hp] at h1
  exact le_trans' h2 h1
theorem rise_hp {l : List Th} {i : Nat} {x : Th} (hi : i < l.length) (h : Hole l i) (hx : ∀ j, 0 < j → j < l.length → par j = i → ¬ lt (at_ l j) x) : Hp (riseL l x i) := by
  induction i using Nat.strongRecOn generalizing l with
  | _ i ih =>
    rw [riseL]
    split
    · next hc =>
      obtain ⟨h0, hlt⟩ := hc
      have hp : par i < i := by unfold par; omega
      refine ih (par i) hp (l := l.set i (at_ l (par i))) (by simp; omega) ⟨fun j j0 jl jne jp => ?_, fun p0 j j0 jl jp => ?_⟩ (fun j j0 jl jp => ?_)
      · simp only [List.length_set] at jl
        rw [at_set hi, at_set hi]
        by_cases e : i = j
        · subst e; exact absurd rfl jp
        · rw [if_neg e]
          by_cases e2 : i = par j
          · rw [if_pos e2]
            exact h.grand h0 j j0 jl e2.symm
          · rw [if_neg e2]
            exact h.far j j0 jl (fun e' => e e'.symm) (fun e' => e2 e'.symm)
      · simp only [List.length_set] at jl
        have hpp : par (par i) ≠ i := by unfold par at *; omega
        rw [at_set hi, at_set hi, if_neg (show ¬ i = par (par i) from fun e => hpp e.symm)]
        by_cases e : i = j
        · rw [if_pos e]
          exact h.far (par i) p0 (by omega) (by omega) hpp
        · rw [if_neg e]
          have h1 := h.far j j0 jl (fun e' => e e'.symm) (by omega)
          rw [jp] at h1
          exact le_trans' (h.far (par i) p0 (by omega) (by omega) hpp) h1
      · simp only [List.length_set] at jl
        rw [at_set hi]
        by_cases e : i = j
        · rw [if_pos e]; exact lt_asym hlt
        · rw [if_neg e]
          have h1 := h.far j j0 jl (fun e' => e e'.symm) (by omega)
          rw [jp] at h1
          exact le_trans' (lt_asym hlt) h1
    · next hc =>
      intro j j0 jl
      simp only [List.length_set] at jl
      rw [at_set hi, at_set hi]
      by_cases e : i = j
      · rw [if_pos e]
        subst e
        have hpi : par i ≠ i := by unfold par; omega
        rw [if_neg (fun e => hpi e.symm)]
        exact fun hlt => hc ⟨j0, hlt⟩
      · rw [if_neg e]
        by_cases e2 : i = par j
        · rw [if_pos e2]; exact hx j j0 jl e2.symm
        · rw [if_neg e2]; exact h.far j j0 jl (fun e' => e e'.symm) (fun e' => e2 e'.symm)
theorem sink_hp (l : List Th) (i : Nat) (x : Th) (hi : i < l.length) (h : Hole l i) (hx : 0 < i → ¬ lt x (at_ l (par i))) : Hp (sinkL l x i) := by
  rw [sinkL]
  split
  · next hk =>
    have h1 := low_ge l (2 * i + 1)
    have h2 := low_lt l (2 * i + 1) hk
    have hpar : par (low l (2 * i + 1)) = i := by unfold low par; split <;> omega
    have hoth : ∀ j, 0 < j → j < l.length → par j = i → ¬ lt (at_ l j) (at_ l (low l (2 * i + 1))) := by
      intro j j0 jl jp
      have hj : j = 2 * i + 1 ∨ j = 2 * i + 2 := by unfold par at jp; omega
      unfold low
      split
      · next hc =>
        rcases hj with rfl | rfl
        · exact lt_asym hc.2
        · exact lt_irr _
      · next hc =>
        rcases hj with rfl | rfl
        · exact lt_irr _
        · exact fun hlt => hc ⟨jl, hlt⟩
    split
    · next hlt =>
      intro j j0 jl
      simp only [List.length_set] at jl
      rw [at_set hi, at_set hi]
      by_cases e : i = j
      · rw [if_pos e]
        subst e
        have hpi : par i ≠ i := by unfold par; omega
        rw [if_neg (fun e => hpi e.symm)]
        exact hx j0
      · rw [if_neg e]
        by_cases e2 : i = par j
        · rw [if_pos e2]
          exact le_trans' (lt_asym hlt) (hoth j j0 jl e2.symm)
        · rw [if_neg e2]; exact h.far j j0 jl (fun e' => e e'.symm) (fun e' => e2 e'.symm)
    · next hlt =>
      have hlo : low l (2 * i + 1) ≠ i := by omega
      refine sink_hp (l.set i (at_ l (low l (2 * i + 1)))) (low l (2 * i + 1)) x (by simp; omega) ⟨fun j j0 jl jne jp => ?_, fun p0 j j0 jl jp => ?_⟩ (fun _ => ?_)
      · simp only [List.length_set] at jl
        rw [at_set hi, at_set hi]
        by_cases e : i = j
        · rw [if_pos e]
          subst e
          have hpi : par i ≠ i := by unfold par; omega
          rw [if_neg (fun e => hpi e.symm)]
          exact h.grand j0 _ (by omega) h2 hpar
        · rw [if_neg e]
          by_cases e2 : i = par j
          · rw [if_pos e2]; exact hoth j j0 jl e2.symm
          · rw [if_neg e2]; exact h.far j j0 jl (fun e' => e e'.symm) (fun e' => e2 e'.symm)
      · simp only [List.length_set] at jl
        rw [hpar, at_set hi, at_set hi, if_pos rfl]
        have e : i ≠ j := by unfold par at jp; omega
        rw [if_neg e]
        have h3 := h.far j j0 jl (fun e' => e e'.symm) (by rw [jp]; exact hlo)
        rw [jp] at h3
        exact h3
      · rw [hpar, at_set hi, if_pos rfl]; exact hlt
  · next hk =>
    intro j j0 jl
    simp only [List.length_set] at jl
    rw [at_set hi, at_set hi]
    by_cases e : i = j
    · rw [if_pos e]
      subst e
      have hpi : par i ≠ i := by unfold par; omega
      rw [if_neg (fun e => hpi e.symm)]
      exact hx j0
    · rw [if_neg e]
      by_cases e2 : i = par j
      · exfalso; unfold par at e2; omega
      · rw [if_neg e2]; exact h.far j j0 jl (fun e' => e e'.symm) (fun e' => e2 e'.symm)
termination_by l.length - i
decreasing_by simp only [List.length_set]; omega
/-- The first is the least. -/
theorem Hp.least {l : List Th} (h : Hp l) (j : Nat) (hj : j < l.length) : ¬ lt (at_ l j) (at_ l 0) := by
  induction j using Nat.strongRecOn with
  | _ j ih =>
    by_cases h0 : 0 < j
    · have hp : par j < j := by unfold par; omega
      exact le_trans' (ih (par j) hp (by omega)) (h j h0 hj)
    · have : j = 0 := by omega
      subst this; exact lt_irr _

/-! ### in memory -/
def Th.cells (x : Th) : List Value := [.int .i64 x.key, .int .i64 x.num, .int .i64 x.v]
def flat : List Th → List Value
  | [] => []
  | x :: l => x.cells ++ flat l
theorem flat_length : ∀ l : List Th, (flat l).length = l.length * 3
  | [] => rfl
  | x :: l => by simp [flat, Th.cells, flat_length l]; omega
theorem flat_get : ∀ (l : List Th) (i j : Nat), i < l.length → j < 3 → (flat l)[i * 3 + j]? = (at_ l i).cells[j]?
  | [], i, j, h, _ => by simp at h
  | x :: l, 0, j, _, hj => by
    simp only [flat, at_, List.getD_cons_zero, Nat.zero_mul, Nat.zero_add]
    rw [List.getElem?_append_left (by simpa [Th.cells] using hj)]
  | x :: l, i + 1, j, h, hj => by
    simp only [flat, at_, List.getD_cons_succ]
    rw [List.getElem?_append_right (by simp [Th.cells]; omega)]
    have := flat_get l i j (by simpa using h) hj
    rw [show (i + 1) * 3 + j - x.cells.length = i * 3 + j from by simp [Th.cells]; omega]
    exact this
theorem flat_set : ∀ (l : List Th) (i j : Nat) (u : Value) (x' : Th), i < l.length → j < 3 → (at_ l i).cells.set j u = x'.cells → (flat l).set (i * 3 + j) u = flat (l.set i x')
  | [], i, j, u, x', h, _, _ => by simp at h
  | x :: l, 0, j, u, x', _, hj, he => by
    simp only [flat, Nat.zero_mul, Nat.zero_add, List.set_cons_zero]
    rw [List.set_append_left _ _ (by simpa [Th.cells] using hj)]
    simp only [at_, List.getD_cons_zero] at he
    rw [he]
  | x :: l, i + 1, j, u, x', h, hj, he => by
    simp only [flat, List.set_cons_succ]
    rw [List.set_append_right _ _ (by simp [Th.cells]; omega)]
    have := flat_set l i j u x' (by simpa using h) hj (by simpa [at_] using he)
    rw [show (i + 1) * 3 + j - x.cells.length = i * 3 + j from by simp [Th.cells]; omega, this]
theorem flat_append (a b : List Th) : flat (a ++ b) = flat a ++ flat b := by
  induction a with
  | nil => rfl
  | cons c a ih => simp [flat, ih]
theorem ownsRow_ch {W V : World} {B e size n : Nat} {v : Value} {xs : List Value} {S : Nat → Prop} (h : W.ownsRow B e size v n xs) (hc : Ch S W V) (hn : ∀ k, v.ownBlock = some k → ¬ S k) : V.ownsRow B e size v n xs := by
  refine ⟨h.1, h.2.imp id ?_⟩
  rintro ⟨g, cap, cur, rfl, h1, h2, h3⟩
  exact ⟨g, cap, cur, rfl, h1, hc.keep h2 (hn g rfl), h3⟩
theorem ownsMap_ch {W V : World} {b n : Nat} {D : DataW Nat} {S : Nat → Prop} (h : W.ownsMap Try.prog 3 (plainElem Try.prog 3) b n D) (hc : Ch S W V) (hn : ¬ S b) : V.ownsMap Try.prog 3 (plainElem Try.prog 3) b n D := by
  have hlt := h.lt
  obtain ⟨es, clock, hb, F, hs, hD⟩ := h
  exact ⟨es, clock, (hc.block b hlt hn).trans hb, F, hs, hD⟩
theorem ownsMap_tight {W : World} {b n : Nat} {D : DataW Nat} (h : W.ownsMap Try.prog 3 (plainElem Try.prog 3) b n D) : W.ownsMap Try.prog 3 (plainElem Try.prog 3) b (Maps.size D) D := by
  obtain ⟨es, clock, hb, F, _, rfl⟩ := h
  refine ⟨es, clock, hb, F, ?_, rfl⟩
  have e1 : Maps.size (DataW.map ((es.toList.map (Go.WideElems.rg Try.prog 3 (plainElem (H := Nat) Try.prog 3))).foldr DataW.insert [])) = es.size := by simp [Maps.size, length_sorted]
  rw [e1]
  exact Nat.le_refl _
theorem ch_turned {W V : World} {b : Nat} (h : W.mapTurned V b) : Ch (fun k => k = b) W V := by
  obtain ⟨es, c, es', c', hb, rfl⟩ := h
  exact ⟨rfl, rfl, rfl, by simp [ChangeMaps.setBlock], fun k hk hn => ChangeMaps.heap_setBlock_other hb _ (fun e => hn e)⟩
/-- Where a heap lies. -/
structure Lay where
  g : Nat
  gm : Nat
  v : Value
def Lay.own (y : Lay) (k : Nat) : Prop := k = y.g ∨ k = y.gm ∨ y.v.ownBlock = some k
/-- What a heap holds. -/
structure HS where
  l : List Th
  next : Int
  D : DataW Nat
structure HAt (B : Nat) (W : World) (y : Lay) (s : HS) : Prop where
  blk : W.heap[y.g]? = some (.cells #[.bool true, y.v, .map (some y.gm), .int .i64 s.next] 94 (0, 0))
  map : W.ownsMap Try.prog 3 (plainElem Try.prog 3) y.gm (Maps.size s.D) s.D
  row : W.ownsRow B 115 3 y.v s.l.length (flat s.l)
  bg : B ≤ y.g
  bm : B ≤ y.gm
/-- Behind a call that changes nothing. -/
def Same (v : Value) (w : World) (e : Ending) (w' : World) : Prop := e = .returned v ∧ Ch (fun _ => False) w w'
/-- Behind a call the heap has other contents in the same place. -/
def Stay (B : Nat) (y : Lay) (s' : HS) (v : Value) (w : World) (e : Ending) (w' : World) : Prop := e = .returned v ∧ HAt B w' y s' ∧ Ch y.own w w'
theorem HAt.apart {B : Nat} {W : World} {y : Lay} {s : HS} (h : HAt B W y s) : y.g ≠ y.gm ∧ (∀ k, y.v.ownBlock = some k → k ≠ y.g ∧ k ≠ y.gm) := by
  obtain ⟨es, clock, hb, -⟩ := h.map
  refine ⟨fun e => ?_, fun k hk => ?_⟩
  · have := h.blk; rw [e, hb] at this; simp at this
  · rcases h.row.2 with ⟨e, _⟩ | ⟨g, cap, cur, e, _, h2, _⟩
    · rw [e] at hk; simp [Value.ownBlock] at hk
    · rw [e] at hk
      simp [Value.ownBlock] at hk
      subst hk
      refine ⟨blk_ne h2 h.blk (by decide), fun e => ?_⟩
      rw [e, hb] at h2; simp at h2
theorem HAt.ch {B : Nat} {W V : World} {y : Lay} {s : HS} (h : HAt B W y s) {S : Nat → Prop} (hc : Ch S W V) (hn : ∀ k, y.own k → ¬ S k) : HAt B V y s :=
  ⟨hc.keep h.blk (hn _ (.inl rfl)), ownsMap_ch h.map hc (hn _ (.inr (.inl rfl))), ownsRow_ch h.row hc (fun k hk => hn k (.inr (.inr hk))), h.bg, h.bm⟩
theorem HAt.same {B : Nat} {W V : World} {y : Lay} {s : HS} (h : HAt B W y s) (hc : Ch (fun _ => False) W V) : HAt B V y s := h.ch hc (fun _ _ h => h)
theorem HAt.lt {B : Nat} {W : World} {y : Lay} {s : HS} (h : HAt B W y s) {k : Nat} (hk : y.own k) : B ≤ k ∧ k < W.heap.size := by
  rcases hk with rfl | rfl | hk
  · exact ⟨h.bg, blk_lt h.blk⟩
  · exact ⟨h.bm, h.map.lt⟩
  · exact h.row.lt k hk
theorem own_shape {W : World} {B e size n : Nat} {v : Value} {xs : List Value} (h : W.ownsRow B e size v n xs) (hn : 0 < n) : ∃ g cap, v = .slice (some ⟨g, 0, none⟩) n cap := by
  rcases h.2 with ⟨_, h0⟩ | ⟨g, cap, cur, e1, _⟩
  · omega
  · exact ⟨g, cap, e1⟩
/-- The cells of a thing. -/
theorem HAt.at_ {B : Nat} {W : World} {y : Lay} {s : HS} (h : HAt B W y s) {i : Nat} (hi : i < s.l.length) :
    ∃ g cap, y.v = .slice (some ⟨g, 0, none⟩) s.l.length cap ∧ W.cell? ⟨g, i * 3, none⟩ = some (.int .i64 (Hq.at_ s.l i).key) ∧ W.cell? ⟨g, i * 3 + 1, none⟩ = some (.int .i64 (Hq.at_ s.l i).num) ∧ W.cell? ⟨g, i * 3 + 2, none⟩ = some (.int .i64 (Hq.at_ s.l i).v) ∧
      (∀ k, W.frozen? ⟨g, k, none⟩ = false) ∧ g ≠ y.g ∧ g ≠ y.gm ∧ g < W.heap.size := by
  obtain ⟨g, cap, hv⟩ := own_shape h.row (by omega)
  have ho := h.row
  rw [hv] at ho
  have hl := flat_length s.l
  have hc : ∀ j, j < 3 → W.cell? ⟨g, i * 3 + j, none⟩ = (Hq.at_ s.l i).cells[j]? := fun j hj => by
    rw [← flat_get s.l i j hi hj, ho.cellAt (i * 3 + j) (by omega)]
  have ha := h.apart.2 g (by rw [hv]; rfl)
  have hb := h.row.lt g (by rw [hv]; rfl)
  refine ⟨g, cap, hv, hc 0 (by omega), hc 1 (by omega), hc 2 (by omega), fun k => ?_, ha.1, ha.2, hb.2⟩
  rcases ho.2 with ⟨e, _⟩ | ⟨g', cap', cur, e, _, h2, _⟩
  · cases e
  · simp only [Value.slice.injEq, Option.some.injEq, Addr.mk.injEq] at e
    obtain ⟨⟨rfl, -⟩, -⟩ := e
    exact blk_frozen h2 k
theorem row_set {W : World} {B g n cap : Nat} {l : List Th} (h : W.ownsRow B 115 3 (.slice (some ⟨g, 0, none⟩) n cap) n (flat l)) (hn : n = l.length) {i : Nat} (hi : i < l.length) (x : Th) :
    (((W.setCell ⟨g, i * 3, none⟩ (.int .i64 x.key)).setCell ⟨g, i * 3 + 1, none⟩ (.int .i64 x.num)).setCell ⟨g, i * 3 + 2, none⟩ (.int .i64 x.v)).ownsRow B 115 3 (.slice (some ⟨g, 0, none⟩) n cap) n (flat (l.set i x)) := by
  have h0 := (h.stored (i * 3 + 0) (.int .i64 x.key)).1
  rw [flat_set l i 0 _ { at_ l i with key := x.key } hi (by omega) rfl] at h0
  have h1 := (h0.stored (i * 3 + 1) (.int .i64 x.num)).1
  rw [flat_set _ i 1 _ { x with v := (at_ l i).v } (by simpa using hi) (by omega) (by rw [at_set hi, if_pos rfl]; rfl)] at h1
  have h2 := (h1.stored (i * 3 + 2) (.int .i64 x.v)).1
  rw [flat_set _ i 2 _ x (by simpa using hi) (by omega) (by rw [at_set (by simpa using hi), if_pos rfl]; rfl), List.set_set, List.set_set] at h2
  exact h2
end Go.Proofs.Ytcpjjnikehcleaa.Hq
/- The heap's steps, walked: lay. -/
namespace Go.Proofs.Ytcpjjnikehcleaa.Hq
open Go.RowKit Go.Proofs.YtcpjjnikehcleaaW.PrintWords Go.Proofs.YtcpjjnikehcleaaW.PrintLast Go.Proofs.YtcpjjnikehcleaaW.PrintMore
open Go.Maps (Keyed)
set_option linter.unusedVariables false
set_option linter.unusedSimpArgs false

def ik (n : Int) : Lit := .int .i64 n
def W64 (n : Int) : Prop := (Lit.int .i64 n).wf = true
theorem w64_nat {n : Nat} (h : n < 1000000) : W64 (n : Int) := by simp [W64, Lit.wf, IntKind.min, IntKind.max, IntKind.bits, IntKind.signed]; omega
/-- A thing is laid at a place. -/
def layS (s : HS) (i : Nat) (x : Th) : HS := { s with l := s.l.set i x, D := s.D.put (ik x.num) (.lit (.int .i64 (i : Int))) }
theorem HAt.rowed {B : Nat} {W V : World} {y : Lay} {s : HS} (h : HAt B W y s) {l : List Th} (hl : l.length = s.l.length) (hc : Ch (fun k => y.v.ownBlock = some k) W V) (hr : V.ownsRow B 115 3 y.v s.l.length (flat l)) : HAt B V y { s with l := l } := by
  have ha := h.apart
  refine ⟨hc.keep h.blk (fun e => (ha.2 _ e).1 rfl), ownsMap_ch h.map hc (fun e => (ha.2 _ e).2 rfl), ?_, h.bg, h.bm⟩
  show V.ownsRow B 115 3 y.v l.length (flat l)
  rw [hl]; exact hr
theorem HAt.mapped {B : Nat} {W V : World} {y : Lay} {s : HS} (h : HAt B W y s) {n : Nat} {D : DataW Nat} (hc : Ch (fun k => k = y.gm) W V) (hm : V.ownsMap Try.prog 3 (plainElem Try.prog 3) y.gm n D) : HAt B V y { s with D := D } := by
  have ha := h.apart
  exact ⟨hc.keep h.blk ha.1, ownsMap_tight hm, ownsRow_ch h.row hc (fun k hk => (ha.2 k hk).2), h.bg, h.bm⟩
set_option maxHeartbeats 2000000 in
set_option maxRecDepth 100000 in
theorem lay_calls (B : Nat) (w : World) (y : Lay) (s : HS) (i : Nat) (x : Th) (h : HAt B w y s) (hi : i < s.l.length) (hx : W64 x.num) (hl : s.l.length < 1000000) (hD : Maps.size s.D < 1000000) :
    Calls Try.prog 64 #[.pointer (some ⟨y.g, 0, none⟩), .int .i64 (i : Int), .agg #[.int .i64 x.key, .int .i64 x.num, .int .i64 x.v]] w (Stay B y (layS s i x) (.tuple #[]) w) := by
  have hu94 := Try.underlying94
  have hu92 := Try.underlying92
  have hu115 := Try.underlying115
  obtain ⟨g, cap, hv, a0, a1, a2, fz, hgy, hgm, hgl⟩ := h.at_ hi
  have g1 := (blk_cell h.blk 1).trans rfl
  rw [hv] at g1
  have hblt := blk_lt h.blk
  have p1 : (0 ≤ (i : Int)) = True := eq_true (by omega)
  have p2 : ((i : Int) < (s.l.length : Int)) = True := eq_true (by omega)
  have H := Aside0.mk h
  have HX := Aside0.mk hx
  have HV := Aside0.mk hv
  have HI := Aside0.mk hi
  have HL := Aside0.mk hl
  have HD := Aside0.mk hD
  clear h hx hv hi hl hD
  go_enter Try.func64, Try.ntmps64
  go_wp2
  go_region
  go_wp2
  have hs3 : Ch (fun k => y.v.ownBlock = some k) w (((w.setCell ⟨g, i * 3, none⟩ (.int .i64 x.key)).setCell ⟨g, i * 3 + 1, none⟩ (.int .i64 x.num)).setCell ⟨g, i * 3 + 2, none⟩ (.int .i64 x.v)) := by
    have hb : y.v.ownBlock = some g := by rw [HV.out]; rfl
    exact (((Ch.refl _ w).set (.inl hb) _).set (.inl hb) _).set (.inl hb) _
  have hr3 := row_set (by have := H.out.row; rw [HV.out] at this; exact this) rfl HI.out x
  rw [← HV.out] at hr3
  have H1 := H.out.rowed (l := s.l.set i x) (by simp) hs3 hr3
  have hz : (((w.setCell ⟨g, i * 3, none⟩ (.int .i64 x.key)).setCell ⟨g, i * 3 + 1, none⟩ (.int .i64 x.num)).setCell ⟨g, i * 3 + 2, none⟩ (.int .i64 x.v)).heap.size = w.heap.size := by simp [World.setCell]
  have hb2 := blk_new (((w.setCell ⟨g, i * 3, none⟩ (.int .i64 x.key)).setCell ⟨g, i * 3 + 1, none⟩ (.int .i64 x.num)).setCell ⟨g, i * 3 + 2, none⟩ (.int .i64 x.v)) (.cells #[.int .i64 x.key, .int .i64 x.num, .int .i64 x.v] 115)
  rw [hz] at hb2
  have n1 := (blk_cell hb2 1).trans rfl
  have H2 := Aside0.mk (H1.same (((Ch.refl (fun _ => False) _).alloc (.cells #[.int .i64 x.key, .int .i64 x.num, .int .i64 x.v] 115)).drew))
  have C2 := Aside0.mk ((hs3.mono (T := y.own) (fun k _ hk => .inr (.inr hk))).alloc (.cells #[.int .i64 x.key, .int .i64 x.num, .int .i64 x.v] 115)).drew
  have g2 := (blk_cell H2.out.blk 2).trans rfl
  have n1' : ((((w.setCell ⟨g, i * 3, none⟩ (.int .i64 x.key)).setCell ⟨g, i * 3 + 1, none⟩ (.int .i64 x.num)).setCell ⟨g, i * 3 + 2, none⟩ (.int .i64 x.v)).alloc (.cells #[.int .i64 x.key, .int .i64 x.num, .int .i64 x.v] 115)).drew.cell? ⟨w.heap.size, 1, none⟩ = some (.int .i64 x.num) := n1
  clear n1 hb2 hz H1 hr3 hs3 a0 a1 a2 fz hgy hgm hgl g1 hblt
  generalize ((((w.setCell ⟨g, i * 3, none⟩ (.int .i64 x.key)).setCell ⟨g, i * 3 + 1, none⟩ (.int .i64 x.num)).setCell ⟨g, i * 3 + 2, none⟩ (.int .i64 x.v)).alloc (.cells #[.int .i64 x.key, .int .i64 x.num, .int .i64 x.v] 115)).drew = W2 at *
  generalize w.heap.size = b at *
  go_still_tail 7, (by kernel_rfl)
  go_wp2_with (at_mapUpdate; go_loud (refine wpList_mapUpdate_own _ rfl _ _ _ 91 rfl 3 3 (Maps.int_keyed Try.underlying3) Try.underlying91 (plainElem Try.prog 3) y.gm _ s.D rfl (H2.out.map.drew) ?hn _ _ (ik x.num) rfl rfl (Maps.keyOf_int_mk Try.underlying3 HX.out) (.lit (.int .i64 (i : Int))) [] (plainElem_int Try.underlying3 (w64_nat (by have := HI.out; have := HL.out; omega))) ?_); (case hn => show Maps.size s.D < maxLen; have := HD.out; unfold maxLen; omega); intro w4 hown4 hgrow4; have hch4 := (Ch.refl (fun k => k = y.gm) _).grown hgrow4 (fun k hk => .inl (Option.some.inj hk).symm); have H4 := Aside0.mk ((H2.out.same (Ch.refl (fun _ => False) W2).drew).mapped hch4 hown4); have C4 := Aside0.mk (C2.out.drew.trans (hch4.mono (T := y.own) (fun k _ hk => .inr (.inl hk))) (fun _ _ hk => hk)); clear hown4 hgrow4 hch4)
  go_end0
  exact ⟨rfl, H4.out, C4.out⟩
end Go.Proofs.Ytcpjjnikehcleaa.Hq
/- The heap's steps, walked: rise. -/
namespace Go.Proofs.Ytcpjjnikehcleaa.Hq
open Go.RowKit PChk Go.Proofs.YtcpjjnikehcleaaW.PrintWords Go.Proofs.YtcpjjnikehcleaaW.PrintLast Go.Proofs.YtcpjjnikehcleaaW.PrintMore
open Go.Maps (Keyed)
set_option linter.unusedVariables false
set_option linter.unusedSimpArgs false

theorem isNaN64 (a : Int) : cmp_isNaN_int64.f a = some false := by unfold cmp_isNaN_int64.f; simp
theorem isNaN (a : Int) : cmp_isNaN_int.f a = some false := by unfold cmp_isNaN_int.f; simp
theorem or_two (a b : Int) : cmp_Or_int.f 5 [a, b] = some (if a = 0 then b else a) := by
  unfold cmp_Or_int.f
  have e1 : wrap64 1 = 1 := by kernel_rfl
  have e2 : wrap64 2 = 2 := by kernel_rfl
  by_cases ha : a = 0
  · subst ha
    by_cases hb : b = 0
    · subst hb
      simp [cmp_Or_int.l0, rd, e1, e2]
    · simp [cmp_Or_int.l0, rd, e1, e2, hb]
  · simp [cmp_Or_int.l0, rd, ha]
theorem ahead_lt (x y : Th) : ∃ r k, heap_ahead_int.f k x.key x.num x.v y.key y.num y.v = some r ∧ decide (r < 0) = decide (lt x y) := by
  have e1 : cmp_Compare_int64.f x.key y.key = some (if x.key < y.key then -1 else if x.key > y.key then 1 else 0) := by
    unfold cmp_Compare_int64.f; rw [isNaN64, isNaN64]; simp only [Option.bind_some]; rw [if_neg (by simp), if_neg (by simp)]
    by_cases h1 : x.key < y.key
    · simp [h1]
    · by_cases h2 : x.key > y.key <;> simp [h1, h2]
  have e2 : cmp_Compare_int.f x.num y.num = some (if x.num < y.num then -1 else if x.num > y.num then 1 else 0) := by
    unfold cmp_Compare_int.f; rw [isNaN, isNaN]; simp only [Option.bind_some]; rw [if_neg (by simp), if_neg (by simp)]
    by_cases h1 : x.num < y.num
    · simp [h1]
    · by_cases h2 : x.num > y.num <;> simp [h1, h2]
  refine ⟨_, 5, by unfold heap_ahead_int.f; rw [e1, e2]; simp only [Option.bind_some]; rw [or_two]; rfl, ?_⟩
  unfold lt
  by_cases h1 : x.key < y.key
  · simp [h1]
  · by_cases h2 : x.key > y.key
    · simp [h1, h2]; omega
    · have : x.key = y.key := by omega
      simp [this]
      by_cases h3 : x.num < y.num
      · simp [h3]
      · by_cases h4 : x.num > y.num
        · simp [h3, h4]
        · simp [h3, h4]
theorem ahead_calls (x y : Th) (w : World) : Calls Try.prog 66 #[.agg #[.int .i64 x.key, .int .i64 x.num, .int .i64 x.v], .agg #[.int .i64 y.key, .int .i64 y.num, .int .i64 y.v]] w fun e w' => ∃ r, e = .returned (.int .i64 r) ∧ decide (r < 0) = decide (lt x y) ∧ Ch (fun _ => False) w w' := by
  obtain ⟨r, k, h1, h2⟩ := ahead_lt x y
  refine (heap_ahead_int.calls k _ _ _ _ _ _ r w h1).mono ?_
  rintro e w' ⟨rfl, hb⟩
  exact ⟨r, rfl, h2, Ch.of_below hb (fun k hk hle => by omega)⟩
theorem size_put' {D : DataW Nat} (h : Maps.Tidy D) (k : Lit) (v : DataW Nat) : Maps.size (D.put k v) ≤ Maps.size D + 1 := by
  rw [Maps.size_put h]; split <;> omega
theorem ik_key (n : Int) : WideAt.IsKeyLit (ik n) := by first | trivial | simp [WideAt.IsKeyLit, ik]
def riseS (s : HS) (x : Th) (i : Nat) : HS :=
  if h : 0 < i ∧ lt x (at_ s.l (par i)) then riseS (layS s i (at_ s.l (par i))) x (par i) else layS s i x
termination_by i
decreasing_by unfold par; omega
theorem riseS_l (s : HS) (x : Th) (i : Nat) : (riseS s x i).l = riseL s.l x i := by
  induction i using Nat.strongRecOn generalizing s with
  | _ i ih =>
    rw [riseS, riseL]
    by_cases h : 0 < i ∧ lt x (at_ s.l (par i))
    · rw [dif_pos h, dif_pos h, ih (par i) (by unfold par; omega)]; rfl
    · rw [dif_neg h, dif_neg h]; rfl
theorem HAt.atv {B : Nat} {W : World} {y : Lay} {s : HS} (h : HAt B W y s) {g n cap : Nat} (hv : y.v = .slice (some ⟨g, 0, none⟩) n cap) {i : Nat} (hi : i < s.l.length) :
    W.cell? ⟨y.g, 1, none⟩ = some (.slice (some ⟨g, 0, none⟩) n cap) ∧ W.cell? ⟨g, i * 3, none⟩ = some (.int .i64 (Hq.at_ s.l i).key) ∧ W.cell? ⟨g, i * 3 + 1, none⟩ = some (.int .i64 (Hq.at_ s.l i).num) ∧ W.cell? ⟨g, i * 3 + 2, none⟩ = some (.int .i64 (Hq.at_ s.l i).v) ∧
      (∀ k, W.frozen? ⟨g, k, none⟩ = false) := by
  obtain ⟨g', cap', hv', a0, a1, a2, fz, -⟩ := h.at_ hi
  rw [hv] at hv'
  simp only [Value.slice.injEq, Option.some.injEq, Addr.mk.injEq] at hv'
  obtain ⟨⟨rfl, -⟩, -, -⟩ := hv'
  refine ⟨?_, a0, a1, a2, fz⟩
  rw [← hv]; exact (blk_cell h.blk 1).trans rfl
/-- Before each round of rise. -/
structure RInv (B : Nat) (w : World) (y : Lay) (s : HS) (x : Th) (i0 b i : Nat) (W : World) (s' : HS) : Prop where
  cat : HAt B W y s'
  eq : riseS s x i0 = riseS s' x i
  lt : i < s'.l.length
  len : s'.l.length = s.l.length
  size : Maps.size s'.D + i < 900000
  nums : ∀ j, W64 (at_ s'.l j).num
  tidy : Maps.Tidy s'.D
  blk : W.heap[b]? = some (.cells #[.int .i64 x.key, .int .i64 x.num, .int .i64 x.v] 115 (0, 0))
  ch : Ch y.own w W
set_option maxHeartbeats 2000000 in
set_option maxRecDepth 100000 in
theorem rise_calls (B : Nat) (w : World) (y : Lay) (s : HS) (i : Nat) (h : HAt B w y s) (hi : i < s.l.length) (hl : s.l.length < 900000) (hD : Maps.size s.D + i < 900000) (hn : ∀ j, W64 (at_ s.l j).num) (ht : Maps.Tidy s.D) :
    Calls Try.prog 62 #[.pointer (some ⟨y.g, 0, none⟩), .int .i64 (i : Int)] w (Stay B y (riseS s (at_ s.l i) i) (.tuple #[]) w) := by
  have hu94 := Try.underlying94
  have hu92 := Try.underlying92
  have hu115 := Try.underlying115
  obtain ⟨g, cap, hv, a0, a1, a2, fz, hgy, hgm, hgl⟩ := h.at_ hi
  have g1 := (blk_cell h.blk 1).trans rfl
  rw [hv] at g1
  have hblt := blk_lt h.blk
  have p1 : (0 ≤ (i : Int)) = True := eq_true (by omega)
  have p2 : ((i : Int) < (s.l.length : Int)) = True := eq_true (by omega)
  have H := Aside0.mk h
  have HI := Aside0.mk hi
  have HL := Aside0.mk hl
  have HD := Aside0.mk hD
  have HN := Aside0.mk hn
  have HT := Aside0.mk ht
  have hx := Aside0.mk (hn i)
  clear h hi hl hD hn ht
  generalize hxe : at_ s.l i = x at *
  have HXE := Aside0.mk hxe
  clear hxe
  go_enter Try.func62, Try.ntmps62
  go_wp2
  have hb2 := Aside0.mk (blk_new w (.cells #[.int .i64 x.key, .int .i64 x.num, .int .i64 x.v] 115))
  have C1 := Aside0.mk ((Ch.refl (fun _ => False) w).alloc (.cells #[.int .i64 x.key, .int .i64 x.num, .int .i64 x.v] 115))
  have H1 := Aside0.mk (H.out.same C1.out)
  have HB := Aside0.mk (show ∀ k, y.own k → k ≠ w.heap.size from fun k hk => by have := (H.out.lt hk).2; omega)
  clear g1 a0 a1 a2 fz hgy hgm hgl hblt p1 p2
  generalize hW1 : w.alloc (.cells #[.int .i64 x.key, .int .i64 x.num, .int .i64 x.v] 115) = W1 at *
  generalize hbb : w.heap.size = b at *
  go_loopg [1] i (fun kq v1 w' => ∃ s', v1 = .int .i64 (kq : Int) ∧ Aside0 (RInv B w y s x i b kq w' s'))
  case atStart =>
    exact ⟨s, rfl, ⟨⟨H1.out, rfl, HI.out, rfl, HD.out, HN.out, HT.out, hb2.out, C1.out.mono (fun _ _ hk => hk.elim)⟩⟩⟩
  case round =>
    obtain ⟨s', rfl, HV⟩ := hrel
    have x0 := (blk_cell HV.out.blk 0).trans rfl
    have x1 := (blk_cell HV.out.blk 1).trans rfl
    have x2 := (blk_cell HV.out.blk 2).trans rfl
    by_cases h0 : gk = 0
    · subst h0
      have E0 := Aside0.mk (show riseS s x i = layS s' 0 x from by rw [HV.out.eq, riseS, dif_neg (by omega)])
      have Z1 := HI.out
      have LL := Aside0.mk (show s'.l.length < 1000000 by have := HV.out.len; have := HL.out; omega)
      have LD := Aside0.mk (show Maps.size s'.D < 1000000 by have := HV.out.size; omega)
      have LC := Aside0.mk (show ∀ n, Calls Try.prog 64 #[.pointer (some ⟨y.g, 0, none⟩), .int .i64 0, .agg #[.int .i64 x.key, .int .i64 x.num, .int .i64 x.v]] (wr.drewN n) (Stay B y (layS s' 0 x) (.tuple #[]) (wr.drewN n)) from fun n => lay_calls B _ y s' 0 x (HV.out.cat.same ((Ch.refl _ wr).drewN _)) HV.out.lt hx.out LL.out LD.out)
      go_wp2
      go_quiet (fail)
      go_wp2_with (go_at_call 64; go_loud (refine (LC.out _).mono ?_); rintro e w2 ⟨rfl, h2, c2⟩; have H2 := Aside0.mk h2; have C2 := Aside0.mk ((HV.out.ch.drewN _).trans c2 (fun _ _ hk => hk)); clear h2 c2)
      go_end0
      refine ⟨rfl, ?_, C2.out⟩
      rw [E0.out]; exact H2.out
    · obtain ⟨m, rfl⟩ : ∃ m, gk = m + 1 := ⟨gk - 1, by omega⟩
      have ⟨q, hq⟩ : ∃ q, m / 2 = q := ⟨_, rfl⟩
      have hqp : par (m + 1) = q := hq
      have hm2 : q < s'.l.length := by have := HV.out.lt; omega
      obtain ⟨g, cap, hv', a0, a1, a2, fz, hgy, hgm, hgl⟩ := HV.out.cat.at_ hm2
      have g1 := (blk_cell HV.out.cat.blk 1).trans rfl
      rw [hv'] at g1
      have p1 : (0 ≤ (q : Int)) = True := eq_true (by omega)
      have p2 : ((q : Int) < (s'.l.length : Int)) = True := eq_true (by omega)
      have hmm : m < 900000 := by have := HV.out.size; omega
      have w1 : IntKind.i64.wrap (m : Int) = m := by rw [IntKind.wrap_i64]; omega
      have w2 : IntKind.i64.wrap ((m : Int) / 2) = q := by rw [IntKind.wrap_i64]; omega
      have HM := Aside0.mk hmm
      have HQ := Aside0.mk hq
      have HQP := Aside0.mk hqp
      have HM2 := Aside0.mk hm2
      clear hmm hq hqp hm2
      generalize hye : at_ s'.l q = t at *
      have HYE := Aside0.mk hye
      clear hye
      have LL := Aside0.mk (show s'.l.length < 1000000 by have := HV.out.len; have := HL.out; omega)
      have LD := Aside0.mk (show Maps.size s'.D < 1000000 by have := HV.out.size; omega)
      have TN := Aside0.mk (show W64 t.num by rw [← HYE.out]; exact HV.out.nums q)
      by_cases hlt : lt x t
      · have E0 := Aside0.mk (show riseS s x i = riseS (layS s' (m + 1) t) x q from by rw [HV.out.eq, riseS, HQP.out, HYE.out, dif_pos ⟨by omega, hlt⟩])
        go_wp2
        go_still_tail 13, (by kernel_rfl)
        go_wp2_with (first
          | (go_at_call 66; go_loud (refine (ahead_calls x t _).mono ?_); rintro e w3 ⟨r, rfl, hr, c3⟩; replace hr : decide (r < 0) = true := hr.trans (decide_eq_true hlt); have C3 := Aside0.mk (((Ch.refl (fun _ => False) wr).drewN 1).trans c3 (fun _ _ hk => hk)); have H3 := Aside0.mk (HV.out.cat.same C3.out); have L3 := Aside0.mk (lay_calls B w3 y s' (m + 1) t H3.out HV.out.lt TN.out LL.out LD.out); obtain ⟨g3, b0, b1, b2, fz3⟩ := H3.out.atv hv' HM2.out; rw [HYE.out] at b0 b1 b2; clear c3)
          | (go_at_call 64; go_loud (refine L3.out.mono ?_); rintro e w4 ⟨rfl, h4, c4⟩; have H4 := Aside0.mk h4; have C4 := Aside0.mk ((HV.out.ch.trans (C3.out.mono (T := y.own) (fun _ _ hk => hk.elim)) (fun _ _ hk => hk)).trans c4 (fun _ _ hk => hk)); have B4 := Aside0.mk (c4.keep (C3.out.keep HV.out.blk (fun h => h)) (fun hk => HB.out _ hk rfl)); clear h4 c4))
        go_roundg q
        case measure => have := HQ.out; omega
        case rel => exact ⟨_, rfl, ⟨⟨H4.out, E0.out, by simpa [layS] using HM2.out, by simpa [layS] using HV.out.len, by have := size_put' HV.out.tidy (ik t.num) (.lit (.int .i64 ((m + 1 : Nat) : Int))); have := HV.out.size; have := HQ.out; simp only [layS]; omega,
          fun j => by
            show W64 (at_ (s'.l.set (m + 1) t) j).num
            rw [at_set HV.out.lt]; split; exact TN.out; exact HV.out.nums j, HV.out.tidy.put (ik_key _) _, B4.out, C4.out⟩⟩⟩
      · have E0 := Aside0.mk (show riseS s x i = layS s' (m + 1) x from by rw [HV.out.eq, riseS, HQP.out, HYE.out, dif_neg (fun h => hlt h.2)])
        go_wp2
        go_still_tail 13, (by kernel_rfl)
        go_wp2_with (first
          | (go_at_call 66; go_loud (refine (ahead_calls x t _).mono ?_); rintro e w3 ⟨r, rfl, hr, c3⟩; replace hr : decide (r < 0) = false := hr.trans (decide_eq_false hlt); have C3 := Aside0.mk (((Ch.refl (fun _ => False) wr).drewN 1).trans c3 (fun _ _ hk => hk)); have H3 := Aside0.mk (HV.out.cat.same C3.out); have L3 := Aside0.mk (lay_calls B w3 y s' (m + 1) x H3.out HV.out.lt hx.out LL.out LD.out); have hb3 := C3.out.keep HV.out.blk (fun h => h); have y0 := (blk_cell hb3 0).trans rfl; have y1 := (blk_cell hb3 1).trans rfl; have y2 := (blk_cell hb3 2).trans rfl; clear c3 hb3)
          | (go_at_call 64; go_loud (refine L3.out.mono ?_); rintro e w4 ⟨rfl, h4, c4⟩; have H4 := Aside0.mk h4; have C4 := Aside0.mk ((HV.out.ch.trans (C3.out.mono (T := y.own) (fun _ _ hk => hk.elim)) (fun _ _ hk => hk)).trans c4 (fun _ _ hk => hk)); clear h4 c4))
        go_end0
        refine ⟨rfl, ?_, C4.out⟩
        rw [E0.out]; exact H4.out
end Go.Proofs.Ytcpjjnikehcleaa.Hq
