/- What a range over a bound method value does, for any program: the record of the loop, its rounds, its end. -/
import Derived.RangeFuncRecord
import Derived.RangeFuncSeq
import Derived.Below
import Derived.Deep.Draws
namespace Go.Proofs.Ytealggjnnihejaa.Rg
open Go Go.RowKit

/-- From block B on all that was there lies as it lay. -/
structure Keeps (B : Nat) (w w' : World) : Prop where
  size : w.heap.size ≤ w'.heap.size
  block : ∀ k, B ≤ k → k < w.heap.size → w'.heap[k]? = w.heap[k]?

theorem Keeps.refl (B : Nat) (w : World) : Keeps B w w := ⟨Nat.le_refl _, fun _ _ _ => rfl⟩
theorem Keeps.trans {B : Nat} {a b c : World} (h : Keeps B a b) (k : Keeps B b c) : Keeps B a c :=
  ⟨Nat.le_trans h.size k.size, fun i h1 h2 => (k.block i h1 (Nat.lt_of_lt_of_le h2 h.size)).trans (h.block i h1 h2)⟩
theorem Keeps.mono {B B' : Nat} {a b : World} (h : Keeps B a b) (hB : B ≤ B') : Keeps B' a b := ⟨h.size, fun k h1 h2 => h.block k (Nat.le_trans hB h1) h2⟩
theorem Keeps.alloc {B : Nat} {a w : World} (h : Keeps B a w) (o : Obj) : Keeps B a (w.alloc o) :=
  h.trans ⟨by simp, fun k _ h2 => Below.heap_alloc _ _ _ h2⟩
theorem Keeps.drew {B : Nat} {a w : World} (h : Keeps B a w) : Keeps B a w.drew := ⟨h.size, h.block⟩
theorem Keeps.drewN {B : Nat} {a w : World} (h : Keeps B a w) (n : Nat) : Keeps B a (w.drewN n) := ⟨h.size, h.block⟩
theorem Keeps.setCell {B : Nat} {a w : World} (h : Keeps B a w) {p : Addr} (hp : p.block < B) (u : Value) : Keeps B a (w.setCell p u) :=
  h.trans ⟨by simp [World.setCell], fun k h1 _ => Below.heap_setCell _ _ _ _ (by omega)⟩
theorem Keeps.below {B : Nat} {a w w' : World} (h : Keeps B a w) (hb : Below w.heap.size w w') : Keeps B a w' :=
  h.trans ⟨hb.size, fun k _ h2 => hb.block k h2⟩
theorem Keeps.putObj {B l : Nat} {w : World} {o : Obj} (hl : l < B) : Keeps B w (w.putObj l o) :=
  ⟨by simp, fun k h1 _ => World.putObj_heap_other (by omega)⟩
theorem below_putObj {B l : Nat} {w : World} {o : Obj} (hl : B ≤ l) : Below B w (w.putObj l o) :=
  ⟨rfl, rfl, rfl, by simp, fun k hk => World.putObj_heap_other (by omega)⟩

variable {P : Program} {n : Nat}

/-- What an iterator gives, one whole number a round: what may come behind what has come (Ok), what has come when it ends by itself (Fin). -/
def Gives (n : Nat) (P : Program) (g : Nat) (bnd : Array Value) (Ok : List Int → Int → Prop) (Fin : List Int → Prop) : Prop :=
  ∀ (l : Nat) (J Jx : List Int → World → Prop) (W : World),
    (∀ pre A B, J pre A → Below A.heap.size A B → J pre B) → (∀ pre A B, Jx pre A → Below A.heap.size A B → Jx pre B) →
    (∀ pre x W1, J pre W1 → Ok pre x → YieldAt Fence.wide (n - 1) P l #[.int .i64 x] W1 fun e W' =>
      (e = .returned (.bool true) ∧ J (pre ++ [x]) W' ∧ Keeps W.heap.size W1 W') ∨ (e = .returned (.bool false) ∧ Jx (pre ++ [x]) W')) →
    J [] W →
    CallsIn Fence.wide n P g (bnd ++ #[.func (.yield l) #[] #[]]) W fun e W' => (∃ v, e = .returned v) ∧ ((∃ xs, Fin xs ∧ J xs W') ∨ (∃ pre, Jx pre W'))

/-- How the body of a round may be left. -/
def post (B : Nat) (I : List Int → World → Prop) (Ix : Code → List Int → World → Prop) (xs : List Int) (W : World) : Exit → Act → World → Prop
  | .normal, _, W' => Keeps B W W' ∧ I xs W'
  | .ret, _, W' => Keeps B W W' ∧ Ix .ret xs W'
  | .exit id, _, W' => Keeps B W W' ∧ Ix (.exit id) xs W'
  | .goto t, _, W' => Keeps B W W' ∧ Ix (.goto t) xs W'
  | .panic _, _, _ => False
  | .outgrown, _, _ => False

theorem range_bound {g : Operand} {p : Tmp} {assign body : Code} {Q : Exit → Act → World → Prop} {a : Act} {w : World}
    {gf : Nat} {bnd : Array Value} (hg : a.eval g = .func (.func gf) bnd #[]) (eg : ∀ args w, (callFunc gf args).run P w = .ok (.enter gf args) w)
    {Ok : List Int → Int → Prop} {Fin : List Int → Prop} (hseq : Gives (n - 1) P gf bnd Ok Fin)
    (I : List Int → World → Prop) (Ix : Code → List Int → World → Prop)
    (hI : ∀ pre A B, I pre A → Below w.heap.size A B → I pre B) (hIx : ∀ c pre A B, Ix c pre A → Below w.heap.size A B → Ix c pre B)
    (h0 : I [] w) (a₁ : Int → Act)
    (hassign : ∀ (l : Nat) (x : Int) (W : World) (K : Act → World → Prop), K (a₁ x) W →
      assign.wpIn (Fence.wide.inRound l) (n - 1 - 1) P (Exit.then K (fun _ _ _ => False)) { tmps := a.tmps.setIfInBounds p (.int .i64 x), defers := [] } W)
    (hbody : ∀ (l : Nat) (pre : List Int) (x : Int) (W : World), w.heap.size ≤ W.heap.size → I pre W → Ok pre x → body.wpIn (Fence.wide.inRound l) (n - 1 - 1) P (post w.heap.size I Ix (pre ++ [x]) W) (a₁ x) W)
    (hdone : ∀ (D : Nat) (xs : List Int) (W : World), w.heap.size ≤ D → Fin xs → I xs W → W.heap[D]? = some (.deferred (some [])) → Q .normal { a with defers := { target := .collected D, args := #[] } :: a.defers } W)
    (hstop : ∀ (D : Nat) (c : Code) (pre : List Int) (W : World), w.heap.size ≤ D → Ix c pre W → W.heap[D]? = some (.deferred (some [])) → c.wpIn Fence.wide n P Q { a with defers := { target := .collected D, args := #[] } :: a.defers } W) :
    (Code.rangeFunc g #[p] assign body).wpIn Fence.wide n P Q a w := by
  refine wpIn_rangeFunc ?_
  intro fn hfn
  obtain ⟨rec, hrec⟩ : ∃ rec : LoopState → Option Code → Loop, rec = fun st pe => { state := st, pending := pe, fn, tmps := a.tmps, params := #[p], assign, body, defers := w.heap.size } := ⟨_, rfl⟩
  obtain ⟨W1, hW1⟩ : ∃ W1, (w.alloc (.deferred (some []))).alloc (.loop (rec .ready none)) = W1 := ⟨_, rfl⟩
  have hz1 : W1.heap.size = w.heap.size + 2 := by rw [← hW1]; simp
  have hb1 : Below w.heap.size w W1 := by
    rw [← hW1]; exact ((Below.refl _ w).alloc (Nat.le_refl _) _).alloc (by simp) _
  have hL1 : W1.heap[w.heap.size + 1]? = some (.loop (rec .ready none)) := by
    rw [← hW1]; have := World.alloc_heap_new (w.alloc (.deferred (some []))) (.loop (rec .ready none)); rwa [World.size_alloc] at this
  have hK1 : W1.heap[w.heap.size]? = some (.deferred (some [])) := by
    rw [← hW1]; exact (Below.heap_alloc _ _ _ (by simp)).trans (World.alloc_heap_new w _)
  refine ⟨w.heap.size + 1, [{ target := .collected w.heap.size, args := #[] }], W1, { target := .fn (.func gf) #[], args := bnd ++ #[.func (.yield (w.heap.size + 1)) #[] #[]] }, W1, gf,
    bnd ++ #[.func (.yield (w.heap.size + 1)) #[] #[]], W1, ?_, ?_, ?_, ?_, (fun h => by cases h), ?_⟩
  · rw [← hW1, hrec]; exact run_enterLoop_outer _ _ _ _ _
  · simp only [resolve, hg]
    simp [go_sem]
  · intro f' hf'; trivial
  · simp [invoke, go_sem, eg]
  · refine (hseq (w.heap.size + 1)
      (fun pre W => I pre W ∧ w.heap.size + 2 ≤ W.heap.size ∧ W.heap[w.heap.size + 1]? = some (.loop (rec .ready none)) ∧ W.heap[w.heap.size]? = some (.deferred (some [])))
      (fun pre W => ∃ c, Ix c pre W ∧ w.heap.size + 2 ≤ W.heap.size ∧ W.heap[w.heap.size + 1]? = some (.loop (rec .done (some c))) ∧ W.heap[w.heap.size]? = some (.deferred (some [])))
      W1 (fun pre A B hs hb => ⟨hI pre A B hs.1 (hb.mono (by have := hs.2.1; omega)), Nat.le_trans hs.2.1 hb.size, (hb.block _ (by have := hs.2.1; omega)).trans hs.2.2.1, (hb.block _ (by have := hs.2.1; omega)).trans hs.2.2.2⟩)
      (fun pre A B hs hb => by
        obtain ⟨c, hc, hz, hl, hk⟩ := hs
        exact ⟨c, hIx c pre A B hc (hb.mono (by omega)), Nat.le_trans hz hb.size, (hb.block _ (by omega)).trans hl, (hb.block _ (by omega)).trans hk⟩)
      ?_ ⟨hI [] w W1 h0 hb1, by omega, hL1, hK1⟩).mono ?_
    · rintro pre x W ⟨hi, hz, hl, hk⟩ hok
      have hy := run_yield (P := P) (args := #[.int .i64 x]) hl (by rw [hrec]; rfl)
      rw [hrec] at hy
      have hz0 : (#[p].zip #[Value.int .i64 x]).foldl (fun tmps ((t, a) : Nat × Value) => tmps.setIfInBounds t a) a.tmps = a.tmps.setIfInBounds p (.int .i64 x) := by simp
      simp only [hz0] at hy
      refine ⟨fn, _, assign, body, hy, roundIn_of_wpIn hfn (hassign _ x W _ ⟨_, run_beginRound hl (by rw [hrec]), ?_⟩)⟩
      clear hy
      have hl2 : (W.putObj (w.heap.size + 1) (.loop { rec .ready none with state := .busy })).heap[w.heap.size + 1]? = some (.loop { rec .ready none with state := .busy }) := World.putObj_heap_same (by omega)
      have hk2 : (W.putObj (w.heap.size + 1) (.loop { rec .ready none with state := .busy })).heap[w.heap.size]? = some (.deferred (some [])) := (World.putObj_heap_other (by omega)).trans hk
      have hz2 : (W.putObj (w.heap.size + 1) (.loop { rec .ready none with state := .busy })).heap.size = W.heap.size := by simp
      have hw2 : Keeps W1.heap.size W (W.putObj (w.heap.size + 1) (.loop { rec .ready none with state := .busy })) := Keeps.putObj (by omega)
      refine wpIn_mono (hbody _ pre x _ (by rw [World.putObj_size]; omega) (hI pre _ _ hi (below_putObj (by omega))) hok) ?_
      have fin : ∀ (jump : Option Code) (W3 : World), Keeps w.heap.size (W.putObj (w.heap.size + 1) (.loop { rec .ready none with state := .busy })) W3 →
          (Instr.endRound (w.heap.size + 1) jump).run P W3 = .ok (.bool jump.isNone) (W3.putObj (w.heap.size + 1) (.loop (rec (if jump.isNone then .ready else .done) jump))) ∧
          w.heap.size + 2 ≤ W3.heap.size ∧
          (W3.putObj (w.heap.size + 1) (.loop (rec (if jump.isNone then .ready else .done) jump))).heap[w.heap.size + 1]? = some (.loop (rec (if jump.isNone then .ready else .done) jump)) ∧
          (W3.putObj (w.heap.size + 1) (.loop (rec (if jump.isNone then .ready else .done) jump))).heap[w.heap.size]? = some (.deferred (some [])) := fun jump W3 hk3 => by
        have hz3 := hk3.size
        have hl3 := (hk3.block (w.heap.size + 1) (by omega) (by omega)).trans hl2
        have := run_endRound (P := P) jump hl3
        rw [hrec] at this ⊢
        exact ⟨this, by omega, World.putObj_heap_same (by omega), (World.putObj_heap_other (by omega)).trans ((hk3.block _ (Nat.le_refl _) (by omega)).trans hk2)⟩
      rintro e a3 W3 hp
      cases e with
      | normal =>
        obtain ⟨hk3, hi3⟩ := hp
        obtain ⟨hr, hz3, hl4, hk4⟩ := fin none W3 hk3
        exact ⟨_, _, hr, .inl ⟨rfl, ⟨hI _ _ _ hi3 (below_putObj (by omega)), by simpa using hz3, hl4, hk4⟩, (hw2.trans (hk3.mono (by omega))).trans (Keeps.putObj (by omega))⟩⟩
      | ret =>
        obtain ⟨hk3, hi3⟩ := hp
        obtain ⟨hr, hz3, hl4, hk4⟩ := fin (some .ret) W3 hk3
        exact ⟨_, _, hr, .inr ⟨rfl, .ret, hIx _ _ _ _ hi3 (below_putObj (by omega)), by simpa using hz3, hl4, hk4⟩⟩
      | exit id =>
        obtain ⟨hk3, hi3⟩ := hp
        obtain ⟨hr, hz3, hl4, hk4⟩ := fin (some (.exit id)) W3 hk3
        exact ⟨_, _, hr, .inr ⟨rfl, .exit id, hIx _ _ _ _ hi3 (below_putObj (by omega)), by simpa using hz3, hl4, hk4⟩⟩
      | goto t =>
        obtain ⟨hk3, hi3⟩ := hp
        obtain ⟨hr, hz3, hl4, hk4⟩ := fin (some (.goto t)) W3 hk3
        exact ⟨_, _, hr, .inr ⟨rfl, .goto t, hIx _ _ _ _ hi3 (below_putObj (by omega)), by simpa using hz3, hl4, hk4⟩⟩
      | panic ch => exact hp.elim
      | outgrown => exact hp.elim
    · rintro e W2 ⟨⟨v, rfl⟩, (⟨xs, hS, hi, hz, hl, hk⟩ | ⟨pre, c, hi, hz, hl, hk⟩)⟩
      · exact ⟨none, _, by have := run_endLoop (P := P) hl (by rw [hrec]; simp); rw [hrec] at this; exact this, hdone _ xs _ (Nat.le_refl _) hS (hI _ _ _ hi (below_putObj (by omega))) ((World.putObj_heap_other (by omega)).trans hk)⟩
      · exact ⟨some c, _, by have := run_endLoop (P := P) hl (by rw [hrec]; simp); rw [hrec] at this; exact this, hstop _ c pre _ (Nat.le_refl _) (hIx _ _ _ _ hi (below_putObj (by omega))) ((World.putObj_heap_other (by omega)).trans hk)⟩

end Go.Proofs.Ytealggjnnihejaa.Rg
