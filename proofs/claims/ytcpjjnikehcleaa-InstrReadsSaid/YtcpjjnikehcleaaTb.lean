/- The tables of instructions, the program's and the document's. -/
import Derived.Test.YtcpjjnikehcleaaPl
import Derived.Test.YtcpjjnikehcleaaWd
namespace Go.Proofs.Ytcpjjnikehcleaa.PChk
open Go.RowKit Go.Proofs.YtcpjjnikehcleaaW.PrintWords Go.Proofs.YtcpjjnikehcleaaW.PrintLast Go.Proofs.YtcpjjnikehcleaaW.PrintMore
set_option linter.unusedVariables false
set_option linter.unusedSimpArgs false

def instr_plain.f (a0 : Int) : Option (ByteArray × Int × Bool × Int × Int × Int × Bool × Bool) := Pl.plainT a0
theorem instr_plain.calls (a0 : Int) (r1 : ByteArray) (r2 : Int) (r3 : Bool) (r4 : Int) (r5 : Int) (r6 : Int) (r7 : Bool) (r8 : Bool) (w : World) (h : instr_plain.f a0 = some (r1, r2, r3, r4, r5, r6, r7, r8)) :
    Calls Try.prog 34 #[.int .u8 a0] w fun e w' => e = .returned (.agg #[.string r1, .int .u8 r2, .bool r3, .int .u8 r4, .int .i64 r5, .int .i64 r6, .bool r7, .bool r8]) ∧ Below w.heap.size w w' := Pl.plain_calls w a0 _ h
def prompterref14_words.f (a0 : Int) : Option ByteArray := Wd.wordsT a0
def instr_kindOf.f (a0 : Int) : Option (ByteArray × Int × Bool × Int × Int × Int × Bool × Bool) := if a0 = 1 then some ((⟨#[106, 117, 109, 112]⟩ : ByteArray), 116, false, 0, 0, 0, false, false)
  else if a0 = 2 then some ((⟨#[98, 114, 97, 110, 99, 104]⟩ : ByteArray), 116, false, 0, 1, 0, false, false)
  else if a0 = 3 then some ((⟨#[111, 114]⟩ : ByteArray), 116, false, 0, 1, 0, false, false)
  else if a0 = 4 then some ((⟨#[97, 110, 100]⟩ : ByteArray), 116, false, 0, 1, 0, false, false)
  else if a0 = 8 then some ((⟨#[114, 101, 116, 117, 114, 110]⟩ : ByteArray), 0, false, 0, 1, 0, false, true)
  else if a0 = 9 then some ((⟨#[102, 97, 105, 108]⟩ : ByteArray), 0, false, 0, 1, 0, false, true)
  else if a0 = 28 then some ((⟨#[101, 110, 100]⟩ : ByteArray), 0, false, 0, 0, 0, false, true)
  else if a0 = 23 then some ((⟨#[105, 110, 116]⟩ : ByteArray), 0, true, 0, 0, 1, false, false)
  else if a0 = 24 then some ((⟨#[116, 101, 120, 116]⟩ : ByteArray), 0, false, 120, 0, 1, false, false)
  else if a0 = 25 then some ((⟨#[108, 105, 115, 116]⟩ : ByteArray), 99, false, 0, 0, 1, true, false)
  else if a0 = 26 then some ((⟨#[108, 111, 97, 100]⟩ : ByteArray), 115, false, 0, 0, 1, false, false)
  else if a0 = 27 then some ((⟨#[115, 116, 111, 114, 101]⟩ : ByteArray), 115, false, 0, 1, 0, false, false)
  else if a0 = 50 then some ((⟨#[99, 97, 108, 108]⟩ : ByteArray), 99, false, 110, 0, 1, true, false)
  else if a0 = 51 then some ((⟨#[99, 104, 105, 108, 100]⟩ : ByteArray), 99, false, 110, 0, 1, true, false)
  else if a0 = 53 then some ((⟨#[102, 111, 114, 107]⟩ : ByteArray), 116, false, 0, 0, 1, false, false)
  else if a0 = 56 then some ((⟨#[116, 97, 107, 101]⟩ : ByteArray), 0, false, 110, 0, 1, false, false)
  else instr_plain.f a0
def prompterref14_late.f (a0 : Int) : Option (ByteArray × Int × Bool × Bool × Bool × Int × Int) := if a0 = 50 then some ((⟨#[99, 97, 108, 108]⟩ : ByteArray), 3, false, false, true, 0, 1)
  else if a0 = 51 then some ((⟨#[99, 104, 105, 108, 100]⟩ : ByteArray), 3, false, false, true, 0, 1)
  else if a0 = 52 then some ((⟨#[116, 105, 109, 101, 114]⟩ : ByteArray), 0, false, false, false, 1, 1)
  else if a0 = 53 then some ((⟨#[102, 111, 114, 107]⟩ : ByteArray), 1, false, false, false, 0, 1)
  else if a0 = 54 then some ((⟨#[97, 119, 97, 105, 116]⟩ : ByteArray), 0, false, false, false, 1, 1)
  else if a0 = 55 then some ((⟨#[115, 101, 116, 116, 108, 101]⟩ : ByteArray), 0, false, false, false, 1, 1)
  else if a0 = 56 then some ((⟨#[116, 97, 107, 101]⟩ : ByteArray), 0, false, false, true, 0, 1)
  else if a0 = 57 then some ((⟨#[118, 101, 114, 115, 105, 111, 110]⟩ : ByteArray), 0, false, false, false, 0, 1)
  else some (⟨#[]⟩, 0, false, false, false, 0, 0)
set_option maxHeartbeats 8000000 in
set_option maxRecDepth 100000 in
theorem instr_kindOf.calls (a0 : Int) (r1 : ByteArray) (r2 : Int) (r3 : Bool) (r4 : Int) (r5 : Int) (r6 : Int) (r7 : Bool) (r8 : Bool) (w : World) (h : instr_kindOf.f a0 = some (r1, r2, r3, r4, r5, r6, r7, r8)) :
    Calls Try.prog 20 #[.int .u8 a0] w fun e w' => e = .returned (.agg #[.string r1, .int .u8 r2, .bool r3, .int .u8 r4, .int .i64 r5, .int .i64 r6, .bool r7, .bool r8]) ∧ Below w.heap.size w w' := by
  have hu55 := Try.underlying55
  by_cases hm : a0 = 1 ∨ a0 = 2 ∨ a0 = 3 ∨ a0 = 4 ∨ a0 = 8 ∨ a0 = 9 ∨ a0 = 28 ∨ a0 = 23 ∨ a0 = 24 ∨ a0 = 25 ∨ a0 = 26 ∨ a0 = 27 ∨ a0 = 50 ∨ a0 = 51 ∨ a0 = 53 ∨ a0 = 56
  · rcases hm with rfl | rfl | rfl | rfl | rfl | rfl | rfl | rfl | rfl | rfl | rfl | rfl | rfl | rfl | rfl | rfl
    all_goals
      have h2 := Option.some.inj h
      simp only [Prod.mk.injEq] at h2
      obtain ⟨rfl, rfl, rfl, rfl, rfl, rfl, rfl, rfl⟩ := h2
      clear h
      go_enter Try.func20, Try.ntmps20
      go_wp2
      refine bodyPost_ret (results_cell_row rfl _ _ w.heap.size 55 _ (0, 0) _ rfl (blk_new w _) hu55 rfl (by kernel_rfl)) rfl ?_
      exact ⟨rfl, below_alloc (Below.refl _ _) _⟩
  · have hs : (a0 == 1) = false ∧ (a0 == 2) = false ∧ (a0 == 3) = false ∧ (a0 == 4) = false ∧ (a0 == 8) = false ∧ (a0 == 9) = false ∧ (a0 == 28) = false ∧ (a0 == 23) = false ∧ (a0 == 24) = false ∧ (a0 == 25) = false ∧ (a0 == 26) = false ∧ (a0 == 27) = false ∧ (a0 == 50) = false ∧ (a0 == 51) = false ∧ (a0 == 53) = false ∧ (a0 == 56) = false := by refine ⟨?_, ?_, ?_, ?_, ?_, ?_, ?_, ?_, ?_, ?_, ?_, ?_, ?_, ?_, ?_, ?_⟩ <;> exact beq_eq_false_iff_ne.mpr (by omega)
    obtain ⟨s1, s2, s3, s4, s8, s9, s28, s23, s24, s25, s26, s27, s50, s51, s53, s56⟩ := hs
    have h3 : instr_kindOf.f a0 = instr_plain.f a0 := by
      unfold instr_kindOf.f
      rw [if_neg (fun e => hm (by subst e; decide)), if_neg (fun e => hm (by subst e; decide)), if_neg (fun e => hm (by subst e; decide)), if_neg (fun e => hm (by subst e; decide)), if_neg (fun e => hm (by subst e; decide)), if_neg (fun e => hm (by subst e; decide)), if_neg (fun e => hm (by subst e; decide)), if_neg (fun e => hm (by subst e; decide)), if_neg (fun e => hm (by subst e; decide)), if_neg (fun e => hm (by subst e; decide)), if_neg (fun e => hm (by subst e; decide)), if_neg (fun e => hm (by subst e; decide)), if_neg (fun e => hm (by subst e; decide)), if_neg (fun e => hm (by subst e; decide)), if_neg (fun e => hm (by subst e; decide)), if_neg (fun e => hm (by subst e; decide))]
    rw [h3] at h
    clear h3 hm
    have PC := Aside0.mk (fun w1 => instr_plain.calls a0 r1 r2 r3 r4 r5 r6 r7 r8 w1 h)
    clear h
    go_enter Try.func20, Try.ntmps20
    go_wp2_with (go_at_call 34; go_loud (refine (PC.out _).mono ?_; rintro e w1 ⟨rfl, hb⟩; have B1 := Aside0.mk (below_then (below_alloc (Below.refl w.heap.size w) _) (by simp) hb); have X1 := Aside0.mk ((hb.block w.heap.size (by simp)).trans (blk_new w _)); clear hb; have z0 := (blk_cell X1.out 0).trans rfl; have f0 := blk_frozen X1.out 0; have z1 := (blk_cell X1.out 1).trans rfl; have f1 := blk_frozen X1.out 1; have z2 := (blk_cell X1.out 2).trans rfl; have f2 := blk_frozen X1.out 2; have z3 := (blk_cell X1.out 3).trans rfl; have f3 := blk_frozen X1.out 3; have z4 := (blk_cell X1.out 4).trans rfl; have f4 := blk_frozen X1.out 4; have z5 := (blk_cell X1.out 5).trans rfl; have f5 := blk_frozen X1.out 5; have z6 := (blk_cell X1.out 6).trans rfl; have f6 := blk_frozen X1.out 6; have z7 := (blk_cell X1.out 7).trans rfl; have f7 := blk_frozen X1.out 7))
    refine bodyPost_ret (results_cell_row rfl _ _ w.heap.size 55 _ (0, 0) _ rfl (blk_put (blk_put (blk_put (blk_put (blk_put (blk_put (blk_put (blk_put X1.out 0 _ rfl) 1 _ rfl) 2 _ rfl) 3 _ rfl) 4 _ rfl) 5 _ rfl) 6 _ rfl) 7 _ rfl) hu55 rfl (by kernel_rfl)) rfl ?_
    exact ⟨rfl, ((((((((B1.out.setCell (Nat.le_refl _) _).setCell (Nat.le_refl _) _).setCell (Nat.le_refl _) _).setCell (Nat.le_refl _) _).setCell (Nat.le_refl _) _).setCell (Nat.le_refl _) _).setCell (Nat.le_refl _) _).setCell (Nat.le_refl _) _)⟩
theorem prompterref14_words.calls (a0 : Int) (r : ByteArray) (w : World) (h : prompterref14_words.f a0 = some r) :
    Calls Try.prog 24 #[.int .u8 a0] w fun e w' => e = .returned (.string r) ∧ Below w.heap.size w w' := Wd.words_calls w a0 r h
set_option maxHeartbeats 8000000 in
set_option maxRecDepth 100000 in
theorem prompterref14_late.calls (a0 : Int) (r1 : ByteArray) (r2 : Int) (r3 : Bool) (r4 : Bool) (r5 : Bool) (r6 : Int) (r7 : Int) (w : World) (h : prompterref14_late.f a0 = some (r1, r2, r3, r4, r5, r6, r7)) :
    Calls Try.prog 25 #[.int .u8 a0] w fun e w' => e = .returned (.agg #[.string r1, .int .i64 r2, .bool r3, .bool r4, .bool r5, .int .i64 r6, .int .i64 r7]) ∧ Below w.heap.size w w' := by
  have hu42 := Try.underlying42
  by_cases hm : a0 = 50 ∨ a0 = 51 ∨ a0 = 52 ∨ a0 = 53 ∨ a0 = 54 ∨ a0 = 55 ∨ a0 = 56 ∨ a0 = 57
  · rcases hm with rfl | rfl | rfl | rfl | rfl | rfl | rfl | rfl
    all_goals
      have h2 := Option.some.inj h
      simp only [Prod.mk.injEq] at h2
      obtain ⟨rfl, rfl, rfl, rfl, rfl, rfl, rfl⟩ := h2
      clear h
      go_enter Try.func25, Try.ntmps25
      go_wp2
      refine bodyPost_ret (results_cell_row rfl _ _ w.heap.size 42 _ (0, 0) _ rfl (blk_new w _) hu42 rfl (by kernel_rfl)) rfl ?_
      exact ⟨rfl, below_alloc (Below.refl _ _) _⟩
  · have hs : (a0 == 50) = false ∧ (a0 == 51) = false ∧ (a0 == 52) = false ∧ (a0 == 53) = false ∧ (a0 == 54) = false ∧ (a0 == 55) = false ∧ (a0 == 56) = false ∧ (a0 == 57) = false := by refine ⟨?_, ?_, ?_, ?_, ?_, ?_, ?_, ?_⟩ <;> exact beq_eq_false_iff_ne.mpr (by omega)
    obtain ⟨s50, s51, s52, s53, s54, s55, s56, s57⟩ := hs
    have h3 : prompterref14_late.f a0 = some (⟨#[]⟩, 0, false, false, false, 0, 0) := by
      unfold prompterref14_late.f
      rw [if_neg (fun e => hm (by subst e; decide)), if_neg (fun e => hm (by subst e; decide)), if_neg (fun e => hm (by subst e; decide)), if_neg (fun e => hm (by subst e; decide)), if_neg (fun e => hm (by subst e; decide)), if_neg (fun e => hm (by subst e; decide)), if_neg (fun e => hm (by subst e; decide)), if_neg (fun e => hm (by subst e; decide))]
    rw [h3] at h
    clear h3 hm
    have h2 := Option.some.inj h
    simp only [Prod.mk.injEq] at h2
    obtain ⟨rfl, rfl, rfl, rfl, rfl, rfl, rfl⟩ := h2
    clear h
    go_enter Try.func25, Try.ntmps25
    go_wp2
    refine bodyPost_ret (results_cell_row rfl _ _ w.heap.size 42 _ (0, 0) _ rfl (blk_new w _) hu42 rfl (by kernel_rfl)) rfl ?_
    exact ⟨rfl, below_alloc (Below.refl _ _) _⟩
def ofT (a0 : Int) : Option (ByteArray × Int × Bool × Bool × Bool × Int × Int) := if a0 = 1 then some ((⟨#[106, 117, 109, 112]⟩ : ByteArray), 1, false, false, false, 0, 0)
  else if a0 = 2 then some ((⟨#[98, 114, 97, 110, 99, 104]⟩ : ByteArray), 1, false, false, false, 1, 0)
  else if a0 = 3 then some ((⟨#[111, 114]⟩ : ByteArray), 1, false, false, false, 1, 0)
  else if a0 = 4 then some ((⟨#[97, 110, 100]⟩ : ByteArray), 1, false, false, false, 1, 0)
  else if a0 = 5 then some ((⟨#[98, 111, 111, 108]⟩ : ByteArray), 0, false, false, false, 1, 1)
  else if a0 = 6 then some ((⟨#[100, 114, 111, 112]⟩ : ByteArray), 0, false, false, false, 1, 0)
  else if a0 = 8 then some ((⟨#[114, 101, 116, 117, 114, 110]⟩ : ByteArray), 0, false, false, false, 1, 0)
  else if a0 = 9 then some ((⟨#[102, 97, 105, 108]⟩ : ByteArray), 0, false, false, false, 1, 0)
  else if a0 = 10 then some ((⟨#[115, 108, 101, 101, 112]⟩ : ByteArray), 0, false, false, false, 1, 0)
  else if a0 = 20 then some ((⟨#[110, 111, 110, 101]⟩ : ByteArray), 0, false, false, false, 0, 1)
  else if a0 = 21 then some ((⟨#[116, 114, 117, 101]⟩ : ByteArray), 0, false, false, false, 0, 1)
  else if a0 = 22 then some ((⟨#[102, 97, 108, 115, 101]⟩ : ByteArray), 0, false, false, false, 0, 1)
  else if a0 = 23 then some ((⟨#[105, 110, 116]⟩ : ByteArray), 0, true, false, false, 0, 1)
  else if a0 = 24 then some ((⟨#[116, 101, 120, 116]⟩ : ByteArray), 0, false, true, false, 0, 1)
  else if a0 = 25 then some ((⟨#[108, 105, 115, 116]⟩ : ByteArray), 3, false, false, false, 0, 1)
  else if a0 = 26 then some ((⟨#[108, 111, 97, 100]⟩ : ByteArray), 2, false, false, false, 0, 1)
  else if a0 = 27 then some ((⟨#[115, 116, 111, 114, 101]⟩ : ByteArray), 2, false, false, false, 1, 0)
  else if a0 = 28 then some ((⟨#[101, 110, 100]⟩ : ByteArray), 0, false, false, false, 0, 0)
  else prompterref14_late.f a0
def prompterref14_Of.f (k : Nat) (a0 : Int) : Option (ByteArray × Int × Bool × Bool × Bool × Int × Int) := if 32 ≤ a0 ∧ a0 ≤ 42 then (prompterref14_words.f a0).bind fun t => some (t, 0, false, false, false, 2, 1)
  else if 43 ≤ a0 ∧ a0 ≤ 48 then (prompterref14_words.f a0).bind fun t => some (t, 0, false, false, false, 1, 1) else ofT a0
theorem prompterref14_Of.mono : ∀ a0 k, LeO (prompterref14_Of.f k a0) (prompterref14_Of.f (k + 1) a0) := fun _ _ => LeO.refl _
set_option maxHeartbeats 8000000 in
set_option maxRecDepth 100000 in
theorem of_words2 (a0 : Int) (r : ByteArray) (w : World) (h : prompterref14_words.f a0 = some r) (h0 : 32 ≤ a0) (h1 : a0 ≤ 42) :
    Calls Try.prog 14 #[.int .u8 a0] w fun e w' => e = .returned (.agg #[.string r, .int .i64 0, .bool false, .bool false, .bool false, .int .i64 2, .int .i64 1]) ∧ Below w.heap.size w w' := by
  have hu42 := Try.underlying42
  have d0 : decide (a0 ≥ 32) = true := decide_eq_true (by omega)
  have d1 : decide (32 ≤ a0) = true := decide_eq_true (by omega)
  have d2 : decide (a0 ≤ 42) = true := decide_eq_true (by omega)
  have PC := Aside0.mk (fun w1 => prompterref14_words.calls a0 r w1 h)
  clear h h0 h1
  go_enter Try.func14, Try.ntmps14
  go_wp2_with (go_at_call 24; go_loud (refine (PC.out _).mono ?_; rintro e w1 ⟨rfl, hb⟩; have B1 := Aside0.mk (below_then (below_alloc (Below.refl w.heap.size w) _) (by simp) hb); have X1 := Aside0.mk ((hb.block w.heap.size (by simp)).trans (blk_new w _)); clear hb; have z0 := (blk_cell X1.out 0).trans rfl; have f0 := blk_frozen X1.out 0; have z1 := (blk_cell X1.out 1).trans rfl; have f1 := blk_frozen X1.out 1; have z2 := (blk_cell X1.out 2).trans rfl; have f2 := blk_frozen X1.out 2; have z3 := (blk_cell X1.out 3).trans rfl; have f3 := blk_frozen X1.out 3; have z4 := (blk_cell X1.out 4).trans rfl; have f4 := blk_frozen X1.out 4; have z5 := (blk_cell X1.out 5).trans rfl; have f5 := blk_frozen X1.out 5; have z6 := (blk_cell X1.out 6).trans rfl; have f6 := blk_frozen X1.out 6))
  refine bodyPost_ret (results_cell_row rfl _ _ w.heap.size 42 _ (0, 0) _ rfl (blk_put (blk_put (blk_put (blk_put (blk_put (blk_put (blk_put X1.out 0 _ rfl) 1 _ rfl) 2 _ rfl) 3 _ rfl) 4 _ rfl) 5 _ rfl) 6 _ rfl) hu42 rfl (by kernel_rfl)) rfl ?_
  exact ⟨rfl, (((((((B1.out.setCell (Nat.le_refl _) _).setCell (Nat.le_refl _) _).setCell (Nat.le_refl _) _).setCell (Nat.le_refl _) _).setCell (Nat.le_refl _) _).setCell (Nat.le_refl _) _).setCell (Nat.le_refl _) _)⟩
set_option maxHeartbeats 8000000 in
set_option maxRecDepth 100000 in
theorem of_words1 (a0 : Int) (r : ByteArray) (w : World) (h : prompterref14_words.f a0 = some r) (h0 : 43 ≤ a0) (h1 : a0 ≤ 48) :
    Calls Try.prog 14 #[.int .u8 a0] w fun e w' => e = .returned (.agg #[.string r, .int .i64 0, .bool false, .bool false, .bool false, .int .i64 1, .int .i64 1]) ∧ Below w.heap.size w w' := by
  have hu42 := Try.underlying42
  have d0 : decide (a0 ≥ 32) = true := decide_eq_true (by omega)
  have d1 : decide (32 ≤ a0) = true := decide_eq_true (by omega)
  have d2 : decide (a0 ≤ 42) = false := decide_eq_false (by omega)
  have d3 : decide (a0 ≥ 43) = true := decide_eq_true (by omega)
  have d4 : decide (43 ≤ a0) = true := decide_eq_true (by omega)
  have d5 : decide (a0 ≤ 48) = true := decide_eq_true (by omega)
  have PC := Aside0.mk (fun w1 => prompterref14_words.calls a0 r w1 h)
  clear h h0 h1
  go_enter Try.func14, Try.ntmps14
  go_wp2_with (go_at_call 24; go_loud (refine (PC.out _).mono ?_; rintro e w1 ⟨rfl, hb⟩; have B1 := Aside0.mk (below_then (below_alloc (Below.refl w.heap.size w) _) (by simp) hb); have X1 := Aside0.mk ((hb.block w.heap.size (by simp)).trans (blk_new w _)); clear hb; have z0 := (blk_cell X1.out 0).trans rfl; have f0 := blk_frozen X1.out 0; have z1 := (blk_cell X1.out 1).trans rfl; have f1 := blk_frozen X1.out 1; have z2 := (blk_cell X1.out 2).trans rfl; have f2 := blk_frozen X1.out 2; have z3 := (blk_cell X1.out 3).trans rfl; have f3 := blk_frozen X1.out 3; have z4 := (blk_cell X1.out 4).trans rfl; have f4 := blk_frozen X1.out 4; have z5 := (blk_cell X1.out 5).trans rfl; have f5 := blk_frozen X1.out 5; have z6 := (blk_cell X1.out 6).trans rfl; have f6 := blk_frozen X1.out 6))
  refine bodyPost_ret (results_cell_row rfl _ _ w.heap.size 42 _ (0, 0) _ rfl (blk_put (blk_put (blk_put (blk_put (blk_put (blk_put (blk_put X1.out 0 _ rfl) 1 _ rfl) 2 _ rfl) 3 _ rfl) 4 _ rfl) 5 _ rfl) 6 _ rfl) hu42 rfl (by kernel_rfl)) rfl ?_
  exact ⟨rfl, (((((((B1.out.setCell (Nat.le_refl _) _).setCell (Nat.le_refl _) _).setCell (Nat.le_refl _) _).setCell (Nat.le_refl _) _).setCell (Nat.le_refl _) _).setCell (Nat.le_refl _) _).setCell (Nat.le_refl _) _)⟩
set_option maxHeartbeats 8000000 in
set_option maxRecDepth 100000 in
theorem of_rest (a0 : Int) (r1 : ByteArray) (r2 : Int) (r3 : Bool) (r4 : Bool) (r5 : Bool) (r6 : Int) (r7 : Int) (w : World) (h : ofT a0 = some (r1, r2, r3, r4, r5, r6, r7)) (hn1 : ¬ (32 ≤ a0 ∧ a0 ≤ 42)) (hn2 : ¬ (43 ≤ a0 ∧ a0 ≤ 48)) :
    Calls Try.prog 14 #[.int .u8 a0] w fun e w' => e = .returned (.agg #[.string r1, .int .i64 r2, .bool r3, .bool r4, .bool r5, .int .i64 r6, .int .i64 r7]) ∧ Below w.heap.size w w' := by
  have hu42 := Try.underlying42
  by_cases hm : a0 = 1 ∨ a0 = 2 ∨ a0 = 3 ∨ a0 = 4 ∨ a0 = 5 ∨ a0 = 6 ∨ a0 = 8 ∨ a0 = 9 ∨ a0 = 10 ∨ a0 = 20 ∨ a0 = 21 ∨ a0 = 22 ∨ a0 = 23 ∨ a0 = 24 ∨ a0 = 25 ∨ a0 = 26 ∨ a0 = 27 ∨ a0 = 28
  · clear hn1 hn2
    rcases hm with rfl | rfl | rfl | rfl | rfl | rfl | rfl | rfl | rfl | rfl | rfl | rfl | rfl | rfl | rfl | rfl | rfl | rfl
    all_goals
      have h2 := Option.some.inj h
      simp only [Prod.mk.injEq] at h2
      obtain ⟨rfl, rfl, rfl, rfl, rfl, rfl, rfl⟩ := h2
      clear h
      go_enter Try.func14, Try.ntmps14
      go_wp2
      refine bodyPost_ret (results_cell_row rfl _ _ w.heap.size 42 _ (0, 0) _ rfl (blk_new w _) hu42 rfl (by kernel_rfl)) rfl ?_
      exact ⟨rfl, below_alloc (Below.refl _ _) _⟩
  · have hs : (a0 == 1) = false ∧ (a0 == 2) = false ∧ (a0 == 3) = false ∧ (a0 == 4) = false ∧ (a0 == 5) = false ∧ (a0 == 6) = false ∧ (a0 == 8) = false ∧ (a0 == 9) = false ∧ (a0 == 10) = false ∧ (a0 == 20) = false ∧ (a0 == 21) = false ∧ (a0 == 22) = false ∧ (a0 == 23) = false ∧ (a0 == 24) = false ∧ (a0 == 25) = false ∧ (a0 == 26) = false ∧ (a0 == 27) = false ∧ (a0 == 28) = false := by refine ⟨?_, ?_, ?_, ?_, ?_, ?_, ?_, ?_, ?_, ?_, ?_, ?_, ?_, ?_, ?_, ?_, ?_, ?_⟩ <;> exact beq_eq_false_iff_ne.mpr (by omega)
    obtain ⟨s1, s2, s3, s4, s5, s6, s8, s9, s10, s20, s21, s22, s23, s24, s25, s26, s27, s28⟩ := hs
    have h3 : ofT a0 = prompterref14_late.f a0 := by
      unfold ofT
      rw [if_neg (fun e => hm (by subst e; decide)), if_neg (fun e => hm (by subst e; decide)), if_neg (fun e => hm (by subst e; decide)), if_neg (fun e => hm (by subst e; decide)), if_neg (fun e => hm (by subst e; decide)), if_neg (fun e => hm (by subst e; decide)), if_neg (fun e => hm (by subst e; decide)), if_neg (fun e => hm (by subst e; decide)), if_neg (fun e => hm (by subst e; decide)), if_neg (fun e => hm (by subst e; decide)), if_neg (fun e => hm (by subst e; decide)), if_neg (fun e => hm (by subst e; decide)), if_neg (fun e => hm (by subst e; decide)), if_neg (fun e => hm (by subst e; decide)), if_neg (fun e => hm (by subst e; decide)), if_neg (fun e => hm (by subst e; decide)), if_neg (fun e => hm (by subst e; decide)), if_neg (fun e => hm (by subst e; decide))]
    rw [h3] at h
    clear h3 hm
    have PC := Aside0.mk (fun w1 => prompterref14_late.calls a0 r1 r2 r3 r4 r5 r6 r7 w1 h)
    clear h
    by_cases hlt : a0 < 32
    · have d0 : decide (a0 ≥ 32) = false := decide_eq_false (by omega)
      have d1 : decide (32 ≤ a0) = false := decide_eq_false (by omega)
      have d2 : decide (a0 ≥ 43) = false := decide_eq_false (by omega)
      have d3 : decide (43 ≤ a0) = false := decide_eq_false (by omega)
      clear hlt hn1 hn2
      go_enter Try.func14, Try.ntmps14
      go_wp2_with (go_at_call 25; go_loud (refine (PC.out _).mono ?_; rintro e w1 ⟨rfl, hb⟩; have B1 := Aside0.mk (below_then (below_alloc (Below.refl w.heap.size w) _) (by simp) hb); have X1 := Aside0.mk ((hb.block w.heap.size (by simp)).trans (blk_new w _)); clear hb; have z0 := (blk_cell X1.out 0).trans rfl; have f0 := blk_frozen X1.out 0; have z1 := (blk_cell X1.out 1).trans rfl; have f1 := blk_frozen X1.out 1; have z2 := (blk_cell X1.out 2).trans rfl; have f2 := blk_frozen X1.out 2; have z3 := (blk_cell X1.out 3).trans rfl; have f3 := blk_frozen X1.out 3; have z4 := (blk_cell X1.out 4).trans rfl; have f4 := blk_frozen X1.out 4; have z5 := (blk_cell X1.out 5).trans rfl; have f5 := blk_frozen X1.out 5; have z6 := (blk_cell X1.out 6).trans rfl; have f6 := blk_frozen X1.out 6))
      refine bodyPost_ret (results_cell_row rfl _ _ w.heap.size 42 _ (0, 0) _ rfl (blk_put (blk_put (blk_put (blk_put (blk_put (blk_put (blk_put X1.out 0 _ rfl) 1 _ rfl) 2 _ rfl) 3 _ rfl) 4 _ rfl) 5 _ rfl) 6 _ rfl) hu42 rfl (by kernel_rfl)) rfl ?_
      exact ⟨rfl, (((((((B1.out.setCell (Nat.le_refl _) _).setCell (Nat.le_refl _) _).setCell (Nat.le_refl _) _).setCell (Nat.le_refl _) _).setCell (Nat.le_refl _) _).setCell (Nat.le_refl _) _).setCell (Nat.le_refl _) _)⟩
    · have d0 : decide (a0 ≥ 32) = true := decide_eq_true (by omega)
      have d1 : decide (32 ≤ a0) = true := decide_eq_true (by omega)
      have d2 : decide (a0 ≤ 42) = false := decide_eq_false (by omega)
      have d3 : decide (a0 ≥ 43) = true := decide_eq_true (by omega)
      have d4 : decide (43 ≤ a0) = true := decide_eq_true (by omega)
      have d5 : decide (a0 ≤ 48) = false := decide_eq_false (by omega)
      clear hlt hn1 hn2
      go_enter Try.func14, Try.ntmps14
      go_wp2_with (go_at_call 25; go_loud (refine (PC.out _).mono ?_; rintro e w1 ⟨rfl, hb⟩; have B1 := Aside0.mk (below_then (below_alloc (Below.refl w.heap.size w) _) (by simp) hb); have X1 := Aside0.mk ((hb.block w.heap.size (by simp)).trans (blk_new w _)); clear hb; have z0 := (blk_cell X1.out 0).trans rfl; have f0 := blk_frozen X1.out 0; have z1 := (blk_cell X1.out 1).trans rfl; have f1 := blk_frozen X1.out 1; have z2 := (blk_cell X1.out 2).trans rfl; have f2 := blk_frozen X1.out 2; have z3 := (blk_cell X1.out 3).trans rfl; have f3 := blk_frozen X1.out 3; have z4 := (blk_cell X1.out 4).trans rfl; have f4 := blk_frozen X1.out 4; have z5 := (blk_cell X1.out 5).trans rfl; have f5 := blk_frozen X1.out 5; have z6 := (blk_cell X1.out 6).trans rfl; have f6 := blk_frozen X1.out 6))
      refine bodyPost_ret (results_cell_row rfl _ _ w.heap.size 42 _ (0, 0) _ rfl (blk_put (blk_put (blk_put (blk_put (blk_put (blk_put (blk_put X1.out 0 _ rfl) 1 _ rfl) 2 _ rfl) 3 _ rfl) 4 _ rfl) 5 _ rfl) 6 _ rfl) hu42 rfl (by kernel_rfl)) rfl ?_
      exact ⟨rfl, (((((((B1.out.setCell (Nat.le_refl _) _).setCell (Nat.le_refl _) _).setCell (Nat.le_refl _) _).setCell (Nat.le_refl _) _).setCell (Nat.le_refl _) _).setCell (Nat.le_refl _) _).setCell (Nat.le_refl _) _)⟩
theorem prompterref14_Of.calls (k : Nat) (a0 : Int) (r1 : ByteArray) (r2 : Int) (r3 : Bool) (r4 : Bool) (r5 : Bool) (r6 : Int) (r7 : Int) (w : World) (h : prompterref14_Of.f k a0 = some (r1, r2, r3, r4, r5, r6, r7)) :
    Calls Try.prog 14 #[.int .u8 a0] w fun e w' => e = .returned (.agg #[.string r1, .int .i64 r2, .bool r3, .bool r4, .bool r5, .int .i64 r6, .int .i64 r7]) ∧ Below w.heap.size w w' := by
  unfold prompterref14_Of.f at h
  split at h
  · next hc =>
    obtain ⟨t, ht, h2⟩ := Option.bind_eq_some_iff.1 h
    have h3 := Option.some.inj h2
    simp only [Prod.mk.injEq] at h3
    obtain ⟨rfl, rfl, rfl, rfl, rfl, rfl, rfl⟩ := h3
    exact of_words2 a0 t w ht hc.1 hc.2
  split at h
  · next hc =>
    obtain ⟨t, ht, h2⟩ := Option.bind_eq_some_iff.1 h
    have h3 := Option.some.inj h2
    simp only [Prod.mk.injEq] at h3
    obtain ⟨rfl, rfl, rfl, rfl, rfl, rfl, rfl⟩ := h3
    exact of_words1 a0 t w ht hc.1 hc.2
  · next hc1 hc2 => exact of_rest a0 r1 r2 r3 r4 r5 r6 r7 w h hc1 hc2
end Go.Proofs.Ytcpjjnikehcleaa.PChk
