/- The law's copy of a policy has the same numbers and the same codes, in memory of its own. -/
import Derived.Test.YtealggjnnihejaaPBasex0
import Derived.Test.YtealggjnnihejaaRg
namespace Go.Proofs.Ytealggjnnihejaa.PBase
open Go.RowKit Go.Proofs.YtealggjnnihejaaW.PrintWords Go.Proofs.YtealggjnnihejaaW.PrintLast Go.Proofs.YtealggjnnihejaaW.PrintMore
set_option linter.unusedVariables false
set_option linter.unusedSimpArgs false

theorem info2 : (Try.prog.info? 2).map (fun i => (i.zero, i.size, i.bytes)) = some (some (.int .i64 0), 1, 8) := by kernel_rfl
/-- The blocks that the call lays ahead of its append. -/
theorem three_blocks (w : World) (a b c : Obj) : Below w.heap.size w (((w.alloc a).alloc b).alloc c) ∧ (((w.alloc a).alloc b).alloc c).heap[w.heap.size + 1]? = some b ∧ (((w.alloc a).alloc b).alloc c).heap[w.heap.size + 1 + 1]? = some c := by
  refine ⟨(((Below.refl _ w).alloc (Nat.le_refl _) _).alloc (by simp) _).alloc (by simp; omega) _, ?_, ?_⟩
  · have h := World.alloc_heap_new (w.alloc a) b
    rw [World.size_alloc] at h
    exact (Below.heap_alloc _ _ _ (by simp)).trans h
  · have h := World.alloc_heap_new ((w.alloc a).alloc b) c
    rw [World.size_alloc, World.size_alloc] at h
    exact h

theorem seven {w : World} {g t : Nat} {c0 c1 c2 c3 c4 c5 c6 : Value} (h : w.heap[g]? = some (.cells #[c0, c1, c2, c3, c4, c5, c6] t (0, 0))) :
    w.cell? ⟨g, 0, none⟩ = some c0 ∧ w.cell? ⟨g, 1, none⟩ = some c1 ∧ w.cell? ⟨g, 2, none⟩ = some c2 ∧ w.cell? ⟨g, 3, none⟩ = some c3 ∧ w.cell? ⟨g, 4, none⟩ = some c4 ∧ w.cell? ⟨g, 5, none⟩ = some c5 ∧ w.cell? ⟨g, 6, none⟩ = some c6 ∧
    w.frozen? ⟨g, 0, none⟩ = false ∧ w.frozen? ⟨g, 1, none⟩ = false ∧ w.frozen? ⟨g, 2, none⟩ = false ∧ w.frozen? ⟨g, 3, none⟩ = false ∧ w.frozen? ⟨g, 4, none⟩ = false ∧ w.frozen? ⟨g, 5, none⟩ = false ∧ w.frozen? ⟨g, 6, none⟩ = false :=
  ⟨blk_cell h 0, blk_cell h 1, blk_cell h 2, blk_cell h 3, blk_cell h 4, blk_cell h 5, blk_cell h 6, blk_frozen h 0, blk_frozen h 1, blk_frozen h 2, blk_frozen h 3, blk_frozen h 4, blk_frozen h 5, blk_frozen h 6⟩

/-- Block g is a policy's, in the call's own memory, and the row stays what it is. -/
structure Mine (w W : World) (g : Nat) (c : Array Value) (v : Value) (xs : List Int) : Prop where
  blk : W.heap[g]? = some (.cells c 24 (0, 0))
  row : Kd.R (Kd.int .i64) 2 W w.heap.size (fun _ => True) v xs
  bel : Below w.heap.size w W
theorem Mine.set {w W : World} {g : Nat} {c : Array Value} {v : Value} {xs : List Int} (h : Mine w W g c v xs) (hg : w.heap.size ≤ g) (i : Nat) (u : Value) (c' : Array Value) (e : c.setIfInBounds i u = c') : Mine w (W.setCell ⟨g, i, none⟩ u) g c' v xs :=
  ⟨blk_put h.blk i u e, Kd.R_mono (Kd.R_far (p := ⟨g, i, none⟩) (Kd.R_types h.row h.blk (by decide)) (fun _ hk => hk.2) u) (fun _ _ => trivial), h.bel.setCell hg u⟩
theorem Mine.far {w W : World} {g g' : Nat} {c c' : Array Value} {v : Value} {xs : List Int} (h : Mine w W g c v xs) (hb : W.heap[g']? = some (.cells c' 24 (0, 0))) (hg : w.heap.size ≤ g') (hne : g ≠ g') (i : Nat) (u : Value) : Mine w (W.setCell ⟨g', i, none⟩ u) g c v xs :=
  ⟨blk_far h.blk hne u, Kd.R_mono (Kd.R_far (p := ⟨g', i, none⟩) (Kd.R_types h.row hb (by decide)) (fun _ hk => hk.2) u) (fun _ _ => trivial), h.bel.setCell hg u⟩
theorem Mine.ret {w W : World} {g : Nat} {z0 z1 z2 z3 z4 z5 z6 : Value} {v : Value} {xs : List Int} (h : Mine w W g #[z0, z1, z2, z3, z4, z5, z6] v xs) (hg : w.heap.size ≤ g) (c0 c1 c2 c3 c4 c5 : Value) :
    Mine w (((((((W.setCell ⟨g, 0, none⟩ c0).setCell ⟨g, 1, none⟩ c1).setCell ⟨g, 2, none⟩ c2).setCell ⟨g, 3, none⟩ c3).setCell ⟨g, 4, none⟩ c4).setCell ⟨g, 5, none⟩ c5).setCell ⟨g, 6, none⟩ v) g #[c0, c1, c2, c3, c4, c5, v] v xs :=
  by
  have h0 := h.set hg 0 c0 #[c0, z1, z2, z3, z4, z5, z6] rfl
  have h1 := h0.set hg 1 c1 #[c0, c1, z2, z3, z4, z5, z6] rfl
  have h2 := h1.set hg 2 c2 #[c0, c1, c2, z3, z4, z5, z6] rfl
  have h3 := h2.set hg 3 c3 #[c0, c1, c2, c3, z4, z5, z6] rfl
  have h4 := h3.set hg 4 c4 #[c0, c1, c2, c3, c4, z5, z6] rfl
  have h5 := h4.set hg 5 c5 #[c0, c1, c2, c3, c4, c5, z6] rfl
  exact h5.set hg 6 v #[c0, c1, c2, c3, c4, c5, v] rfl

set_option maxHeartbeats 1000000 in
set_option maxRecDepth 100000 in
theorem policy_calls (a0_0 : Int) (a0_1 : Int) (a0_2 : Int) (a0_3 : Int) (a0_4 : Int) (a0_5 : Int) (A0_6 : Option Addr) (c0_6 : Nat) (l0_6 : List Int) (w : World) (hr0_6 : Kd.C (Kd.int .i64) w A0_6 l0_6.length l0_6) (hc0_6 : l0_6.length ≤ c0_6) (hlen : l0_6.length < 17592186044416) :
    Calls Try.prog 9 #[.agg #[.int .i64 a0_0, .int .i64 a0_1, .int .i64 a0_2, .int .i64 a0_3, .int .i64 a0_4, .int .i64 a0_5, .slice A0_6 l0_6.length c0_6]] w fun e w' => ∃ v6_ : Value, e = .returned (.agg #[.int .i64 a0_0, .int .i64 a0_1, .int .i64 a0_2, .int .i64 a0_3, .int .i64 a0_4, .int .i64 a0_5, v6_]) ∧ Kd.R (Kd.int .i64) 2 w' w.heap.size (fun _ => True) v6_ l0_6 ∧ Below w.heap.size w w' := by
  have hu24 := Try.underlying24
  have HR := Aside0.mk hr0_6
  have HL := Aside0.mk hlen
  have HT := Aside0.mk (three_blocks w)
  clear hr0_6 hlen
  go_enter Try.func9, Try.ntmps9
  go_wp2_with (at_builtin; (refine Kd.R_append_rows (Kd.int .i64) (w0 := w) w.heap.size rfl (.tmp 7) (.tmp 9) 22 2 (.int .i64 0) 8 rfl Try.underlying22 info2 rfl (by decide) (by omega) (.slice none 0 0) ([] : List Int) l0_6 _ _ _ (fun _ => True) (fun _ => False) rfl rfl ?aO ?aR (fun _ _ h => h) (fun _ h => h.elim) ?aF ?aB ?aS ?aL ?_; (case aO => exact Kd.R_nil _ _ _ _ (fun _ => True)); (case aR => exact (Kd.C_below HR.out (HT.out _ _ _).1)); (case aF => exact (fun _ _ => trivial)); (case aB => exact (HT.out _ _ _).1); (case aS => exact (HT.out _ _ _).1.size); (case aL => have := HL.out; simp only [List.length_nil]; omega); intro v1 w1 ho hb hg hat); (have n0_ := Aside0.mk hb; have n1_ := Aside0.mk ho; have n2_ := Aside0.mk ((hg.block (w.heap.size + 1) (by simp) (by simp [Value.ownBlock])).trans (HT.out _ _ _).2.1); have n3_ := Aside0.mk ((hg.block (w.heap.size + 1 + 1) (by simp) (by simp [Value.ownBlock])).trans (HT.out _ _ _).2.2); clear ho hb hg hat; obtain ⟨Ao, co, eo⟩ := Kd.R_slice n1_.out; subst eo; obtain ⟨hc0, hc1, hc2, hc3, hc4, hc5, hc6, hf0, hf1, hf2, hf3, hf4, hf5, hf6⟩ := seven n3_.out; obtain ⟨hd0, hd1, hd2, hd3, hd4, hd5, hd6, he0, he1, he2, he3, he4, he5, he6⟩ := seven n2_.out))
  have hm := ((⟨n2_.out, n1_.out, n0_.out⟩ : Mine w _ _ _ _ _).far n3_.out (by omega) (by omega) 6 (.slice Ao l0_6.length co)).ret (by omega) (.int .i64 a0_0) (.int .i64 a0_1) (.int .i64 a0_2) (.int .i64 a0_3) (.int .i64 a0_4) (.int .i64 a0_5)
  exact bodyPost_ret (results_cell_row rfl _ _ (w.heap.size + 1) 24 _ (0, 0) _ rfl hm.blk Try.underlying24 rfl (by kernel_rfl)) rfl ⟨_, rfl, hm.row, hm.bel⟩
end Go.Proofs.Ytealggjnnihejaa.PBase
