/- What a call may change; a ring's cells as a list. -/
import Derived.Test.YtcfdldgekfacfaaPRefx
namespace Go.Proofs.Ytcfdldgekfacfaa.Sk
open Go.RowKit Go.Proofs.YtcfdldgekfacfaaW.PrintWords Go.Proofs.YtcfdldgekfacfaaW.PrintLast Go.Proofs.YtcfdldgekfacfaaW.PrintMore
set_option linter.unusedVariables false
set_option linter.unusedSimpArgs false

/-- From w to W at most the blocks of S have changed; new ones may have come. -/
structure Ch (S : Nat → Prop) (w W : World) : Prop where
  os : W.os = w.os
  tape : W.tape = w.tape
  output : W.output = w.output
  size : w.heap.size ≤ W.heap.size
  block : ∀ k, k < w.heap.size → ¬ S k → W.heap[k]? = w.heap[k]?

theorem Ch.refl (S : Nat → Prop) (w : World) : Ch S w w := ⟨rfl, rfl, rfl, Nat.le_refl _, fun _ _ _ => rfl⟩
theorem Ch.trans {S T : Nat → Prop} {a b c : World} (h : Ch S a b) (k : Ch T b c) (hs : ∀ i, i < a.heap.size → T i → S i) : Ch S a c :=
  ⟨k.os.trans h.os, k.tape.trans h.tape, k.output.trans h.output, Nat.le_trans h.size k.size,
    fun i hi hn => (k.block i (Nat.lt_of_lt_of_le hi h.size) (fun ht => hn (hs i hi ht))).trans (h.block i hi hn)⟩
theorem Ch.mono {S T : Nat → Prop} {a b : World} (h : Ch S a b) (hs : ∀ i, i < a.heap.size → S i → T i) : Ch T a b :=
  ⟨h.os, h.tape, h.output, h.size, fun i hi hn => h.block i hi (fun hk => hn (hs i hi hk))⟩
theorem Ch.of_below {S : Nat → Prop} {a b : World} {B : Nat} (h : Below B a b) (hB : ∀ k, k < a.heap.size → B ≤ k → S k) : Ch S a b :=
  ⟨h.os, h.tape, h.output, h.size, fun i hi hn => h.block i (Nat.lt_of_not_le fun hle => hn (hB i hi hle))⟩
theorem Ch.below {S : Nat → Prop} {a b : World} (h : Ch S a b) {B : Nat} (hB : B ≤ a.heap.size) (hs : ∀ k, S k → B ≤ k) : Below B a b :=
  ⟨h.os, h.tape, h.output, h.size, fun i hi => h.block i (by omega) (fun hk => by have := hs i hk; omega)⟩
theorem Ch.alloc {S : Nat → Prop} {a b : World} (h : Ch S a b) (o : Obj) : Ch S a (b.alloc o) :=
  h.trans (Ch.of_below (S := fun _ => False) (below_alloc (Below.refl b.heap.size b) o) (fun k hk hle => by omega)) (fun _ _ hk => hk.elim)
theorem Ch.drew {S : Nat → Prop} {a b : World} (h : Ch S a b) : Ch S a b.drew := ⟨h.os, h.tape, h.output, h.size, h.block⟩
theorem Ch.drewN {S : Nat → Prop} {a b : World} (h : Ch S a b) (n : Nat) : Ch S a (b.drewN n) := ⟨h.os, h.tape, h.output, h.size, h.block⟩
theorem Ch.set {S : Nat → Prop} {a b : World} (h : Ch S a b) {p : Addr} (hp : S p.block ∨ a.heap.size ≤ p.block) (u : Value) : Ch S a (b.setCell p u) :=
  ⟨h.os, h.tape, h.output, by simpa [World.setCell] using h.size,
    fun i hi hn => (Below.heap_setCell b p u i (fun e => by subst e; rcases hp with h1 | h1; exact hn h1; omega)).trans (h.block i hi hn)⟩
theorem Ch.grown {S : Nat → Prop} {a b c : World} (h : Ch S a b) {row : Option Nat} (hg : b.grownBy c row) (hr : ∀ k, row = some k → S k ∨ a.heap.size ≤ k) : Ch S a c :=
  ⟨hg.os.trans h.os, hg.tape.trans h.tape, hg.output.trans h.output, Nat.le_trans h.size hg.size,
    fun i hi hn => (hg.block i (Nat.lt_of_lt_of_le hi h.size) (fun e => by rcases hr i e.symm with h1 | h1; exact hn h1; omega)).trans (h.block i hi hn)⟩
theorem Ch.keep {S : Nat → Prop} {a b : World} (h : Ch S a b) {k : Nat} {o : Obj} (hk : a.heap[k]? = some o) (hn : ¬ S k) : b.heap[k]? = some o := (h.block k (blk_lt hk) hn).trans hk

/-- A cell of the ring. -/
structure Cel where
  nm : ByteArray
  v : Int
  ah : Nat
  nx : Nat
def Cel.cells (c : Cel) : List Value := [.string c.nm, .int .i64 c.v, .int .i64 (c.ah : Int), .int .i64 (c.nx : Int)]
def flat : List Cel → List Value
  | [] => []
  | c :: cs => c.cells ++ flat cs
def zc : Cel := ⟨⟨#[]⟩, 0, 0, 0⟩
def ce (cs : List Cel) (i : Nat) : Cel := cs.getD i zc
theorem flat_length : ∀ cs : List Cel, (flat cs).length = cs.length * 4
  | [] => rfl
  | c :: cs => by simp [flat, Cel.cells, flat_length cs]; omega
theorem flat_get : ∀ (cs : List Cel) (i j : Nat), i < cs.length → j < 4 → (flat cs)[i * 4 + j]? = (ce cs i).cells[j]?
  | [], i, j, h, _ => by simp at h
  | c :: cs, 0, j, _, hj => by
    simp only [flat, ce, List.getD_cons_zero, Nat.zero_mul, Nat.zero_add]
    rw [List.getElem?_append_left (by simpa [Cel.cells] using hj)]
  | c :: cs, i + 1, j, h, hj => by
    simp only [flat, ce, List.getD_cons_succ]
    rw [List.getElem?_append_right (by simp [Cel.cells]; omega)]
    have := flat_get cs i j (by simpa using h) hj
    rw [show (i + 1) * 4 + j - c.cells.length = i * 4 + j from by simp [Cel.cells]; omega]
    exact this
theorem flat_set : ∀ (cs : List Cel) (i j : Nat) (u : Value) (c' : Cel), i < cs.length → j < 4 → (ce cs i).cells.set j u = c'.cells → (flat cs).set (i * 4 + j) u = flat (cs.set i c')
  | [], i, j, u, c', h, _, _ => by simp at h
  | c :: cs, 0, j, u, c', _, hj, he => by
    simp only [flat, Nat.zero_mul, Nat.zero_add, List.set_cons_zero]
    rw [List.set_append_left _ _ (by simpa [Cel.cells] using hj)]
    simp only [ce, List.getD_cons_zero] at he
    rw [he]
  | c :: cs, i + 1, j, u, c', h, hj, he => by
    simp only [flat, List.set_cons_succ]
    rw [List.set_append_right _ _ (by simp [Cel.cells]; omega)]
    have := flat_set cs i j u c' (by simpa using h) hj (by simpa [ce] using he)
    rw [show (i + 1) * 4 + j - c.cells.length = i * 4 + j from by simp [Cel.cells]; omega, this]

/-- Block gc holds the cells cs, and room behind them. -/
structure Ring (W : World) (gc cap : Nat) (cs : List Cel) (tail : List Value) : Prop where
  blk : W.heap[gc]? = some (.cells (flat cs ++ tail).toArray 66 (0, 0))
  len : cs.length * 4 + tail.length = cap * 4
  max : cap ≤ maxLen
theorem Ring.cell {W : World} {gc cap : Nat} {cs : List Cel} {tail : List Value} (h : Ring W gc cap cs tail) {i : Nat} (hi : i < cs.length) :
    W.cell? ⟨gc, i * 4, none⟩ = some (.string (ce cs i).nm) ∧ W.cell? ⟨gc, i * 4 + 1, none⟩ = some (.int .i64 (ce cs i).v) ∧ W.cell? ⟨gc, i * 4 + 2, none⟩ = some (.int .i64 ((ce cs i).ah : Int)) ∧ W.cell? ⟨gc, i * 4 + 3, none⟩ = some (.int .i64 ((ce cs i).nx : Int)) := by
  have hl := flat_length cs
  have g : ∀ j, j < 4 → W.cell? ⟨gc, i * 4 + j, none⟩ = (ce cs i).cells[j]? := fun j hj => by
    rw [blk_cell h.blk]
    simp only [List.getElem?_toArray]
    rw [List.getElem?_append_left (by omega), flat_get cs i j hi hj]
  exact ⟨g 0 (by omega), g 1 (by omega), g 2 (by omega), g 3 (by omega)⟩
theorem Ring.frozen {W : World} {gc cap : Nat} {cs : List Cel} {tail : List Value} (h : Ring W gc cap cs tail) (k : Nat) : W.frozen? ⟨gc, k, none⟩ = false := blk_frozen h.blk k
theorem Ring.set {W : World} {gc cap : Nat} {cs : List Cel} {tail : List Value} (h : Ring W gc cap cs tail) {i j : Nat} {u : Value} (c' : Cel) (hi : i < cs.length) (hj : j < 4) (he : (ce cs i).cells.set j u = c'.cells) :
    Ring (W.setCell ⟨gc, i * 4 + j, none⟩ u) gc cap (cs.set i c') tail := by
  have hl := flat_length cs
  refine ⟨blk_put h.blk (i * 4 + j) u ?_, by simpa using h.len, h.max⟩
  rw [List.setIfInBounds_toArray, List.set_append_left _ _ (by omega), flat_set cs i j u c' hi hj he]
theorem Ring.ch {W V : World} {gc cap : Nat} {cs : List Cel} {tail : List Value} (h : Ring W gc cap cs tail) {S : Nat → Prop} (hc : Ch S W V) (hn : ¬ S gc) : Ring V gc cap cs tail :=
  ⟨hc.keep h.blk hn, h.len, h.max⟩
theorem Ring.lt {W : World} {gc cap : Nat} {cs : List Cel} {tail : List Value} (h : Ring W gc cap cs tail) : gc < W.heap.size := blk_lt h.blk
theorem Ring.alloc {W : World} {gc cap : Nat} {cs : List Cel} {tail : List Value} (h : Ring W gc cap cs tail) (o : Obj) : Ring (W.alloc o) gc cap cs tail := ⟨blk_alloc h.blk o, h.len, h.max⟩
theorem Ring.drew {W : World} {gc cap : Nat} {cs : List Cel} {tail : List Value} (h : Ring W gc cap cs tail) : Ring W.drew gc cap cs tail := ⟨h.blk, h.len, h.max⟩
theorem Ring.drewN {W : World} {gc cap : Nat} {cs : List Cel} {tail : List Value} (h : Ring W gc cap cs tail) (n : Nat) : Ring (W.drewN n) gc cap cs tail := ⟨h.blk, h.len, h.max⟩
theorem ce_set {cs : List Cel} {i j : Nat} {c : Cel} (hi : i < cs.length) : ce (cs.set i c) j = if i = j then c else ce cs j := by
  unfold ce
  by_cases h : i = j
  · subst h; simp [hi]
  · rw [if_neg h]; simp [List.getElem?_set, h]

/-! ### the ring's two steps, on the list -/
def setAh (cs : List Cel) (i a : Nat) : List Cel := cs.set i { ce cs i with ah := a }
def setNx (cs : List Cel) (i a : Nat) : List Cel := cs.set i { ce cs i with nx := a }
@[simp] theorem setAh_length (cs : List Cel) (i a : Nat) : (setAh cs i a).length = cs.length := by simp [setAh]
@[simp] theorem setNx_length (cs : List Cel) (i a : Nat) : (setNx cs i a).length = cs.length := by simp [setNx]
theorem Ring.setAh {W : World} {gc cap : Nat} {cs : List Cel} {tail : List Value} (h : Ring W gc cap cs tail) {i a : Nat} (hi : i < cs.length) : Ring (W.setCell ⟨gc, i * 4 + 2, none⟩ (.int .i64 (a : Int))) gc cap (setAh cs i a) tail :=
  h.set _ hi (by omega) rfl
theorem Ring.setNx {W : World} {gc cap : Nat} {cs : List Cel} {tail : List Value} (h : Ring W gc cap cs tail) {i a : Nat} (hi : i < cs.length) : Ring (W.setCell ⟨gc, i * 4 + 3, none⟩ (.int .i64 (a : Int))) gc cap (Sk.setNx cs i a) tail :=
  h.set _ hi (by omega) rfl
def cutL (cs : List Cel) (i : Nat) : List Cel := setAh (setNx cs (ce cs i).ah (ce cs i).nx) (ce cs i).nx (ce cs i).ah
def firstL (cs : List Cel) (i : Nat) : List Cel := setNx (setAh (setNx (setAh cs i 0) i (ce cs 0).nx) (ce cs 0).nx i) 0 i
end Go.Proofs.Ytcfdldgekfacfaa.Sk
