-- Written by a program of this session, out of the translation, with what this session proved by hand taken in.
import Derived.Test.YtcpjjnikehcleaaPChkx0
import Derived.Test.YtcpjjnikehcleaaTb
import Derived.Test.YtcpjjnikehcleaaPChkx7
import Derived.Test.YtcpjjnikehcleaaPChkx10
import Derived.Test.YtcpjjnikehcleaaPChkx11
namespace Go.Proofs.Ytcpjjnikehcleaa.PChk
open Go.RowKit Go.Proofs.YtcpjjnikehcleaaW.PrintWords Go.Proofs.YtcpjjnikehcleaaW.PrintLast Go.Proofs.YtcpjjnikehcleaaW.PrintMore
attribute [local go_sem] max2_int min2_int max_two min_two max_three min_three max_four min_four   -- for this text's walks alone
set_option linter.unusedVariables false
set_option linter.unusedSimpArgs false

/-! ### prompterref14_Look: function 9 -/
mutual
def prompterref14_Look.j0 : Nat → List (S36) → Int → Bool → Option (Int × Int × Int × List Int × Int)
  | 0, _, _, _ => none
  | k + 1, x0, x1, x21 => if x21 = true then (some (0, 0, 0, ([] : List Int), 1)) else (if (x0.length : Int) > 8192 then (some (0, 0, 0, ([] : List Int), 2)) else (if (x0.length : Int) = 0 then (some (0, 0, 0, ([] : List Int), 3)) else (prompterref14_Look.l0 k x0 x1 0)))
def prompterref14_Look.l0 : Nat → List (S36) → Int → Int → Option (Int × Int × Int × List Int × Int)
  | 0, _, _, _ => none
  | k + 1, x0, x9, x10 => if x10 < (x0.length : Int) then (if 0 ≤ x10 then ((prompterref14_Right.f k ((rd_T36 x0 x10).f0) ((rd_T36 x0 x10).f1) ((rd_T36 x0 x10).f2) ((rd_T36 x0 x10).f3) (x0.length : Int)).bind fun t199 => (if t199 = true then ((prompterref14_Of.f k ((rd_T36 x0 x10).f0)).bind fun bt201 => (if bt201.2.1 = 2 then (prompterref14_Look.l0 k x0 (mx x9 (wrap64 (((rd_T36 x0 x10).f1) + 1))) (wrap64 (x10 + 1))) else (prompterref14_Look.l0 k x0 x9 (wrap64 (x10 + 1))))) else (some (0, 0, x10, ([] : List Int), 3)))) else (none)) else ((prompterref14_Fits.f k x0).bind fun bt209 => (prompterref14_Look.l1 k x0 x9 bt209.1 bt209.2 0))
def prompterref14_Look.l1 : Nat → List (S36) → Int → List Int → Int → Int → Option (Int × Int × Int × List Int × Int)
  | 0, _, _, _, _, _ => none
  | k + 1, x0, x9, x11, x12, x13 => if x13 < (x0.length : Int) then (prompterref14_Look.j3 k x0 x9 x11 x12 x13 (decide (x12 < 0))) else (prompterref14_Look.j3 k x0 x9 x11 x12 x13 false)
def prompterref14_Look.j3 : Nat → List (S36) → Int → List Int → Int → Int → Bool → Option (Int × Int × Int × List Int × Int)
  | 0, _, _, _, _, _, _ => none
  | k + 1, x0, x9, x11, x12, x13, x72 => if x72 = true then (if 0 ≤ x13 then (if x13 < (x11.length : Int) then (if (rd x11 x13) ≥ 0 then ((prompterref14_Circle.f k x0 x13).bind fun t214 => (if t214 = true then (prompterref14_Look.l1 k x0 x9 x11 x13 (wrap64 (x13 + 1))) else (prompterref14_Look.l1 k x0 x9 x11 x12 (wrap64 (x13 + 1))))) else (prompterref14_Look.l1 k x0 x9 x11 x12 (wrap64 (x13 + 1)))) else (none)) else (none)) else (if x12 ≥ 0 then (some (0, 0, x12, ([] : List Int), 140)) else (prompterref14_Look.l2 k x9 x11 0 0))
def prompterref14_Look.l2 : Nat → Int → List Int → Int → Int → Option (Int × Int × Int × List Int × Int)
  | 0, _, _, _, _ => none
  | k + 1, x9, x11, x14, x15 => if x15 < (x11.length : Int) then (if 0 ≤ x15 then (prompterref14_Look.l2 k x9 x11 (mx x14 (rd x11 x15)) (wrap64 (x15 + 1))) else (none)) else (some (x9, x14, 0, x11, 0))
end
def prompterref14_Look.f (k : Nat) (l0 : List (S36)) (a1 : Int) : Option (Int × Int × Int × List Int × Int) := if a1 < 0 then (prompterref14_Look.j0 k l0 a1 true) else (prompterref14_Look.j0 k l0 a1 (decide (a1 > 100)))
theorem prompterref14_Look.mono_l : ∀ k, (∀ y0 y1 y2, LeO (prompterref14_Look.j0 k y0 y1 y2) (prompterref14_Look.j0 (k + 1) y0 y1 y2)) ∧ (∀ y0 y1 y2, LeO (prompterref14_Look.l0 k y0 y1 y2) (prompterref14_Look.l0 (k + 1) y0 y1 y2)) ∧ (∀ y0 y1 y2 y3 y4, LeO (prompterref14_Look.l1 k y0 y1 y2 y3 y4) (prompterref14_Look.l1 (k + 1) y0 y1 y2 y3 y4)) ∧ (∀ y0 y1 y2 y3 y4 y5, LeO (prompterref14_Look.j3 k y0 y1 y2 y3 y4 y5) (prompterref14_Look.j3 (k + 1) y0 y1 y2 y3 y4 y5)) ∧ (∀ y0 y1 y2 y3, LeO (prompterref14_Look.l2 k y0 y1 y2 y3) (prompterref14_Look.l2 (k + 1) y0 y1 y2 y3))
  | 0 => ⟨fun _ _ _ r h => by simp [prompterref14_Look.j0] at h, fun _ _ _ r h => by simp [prompterref14_Look.l0] at h, fun _ _ _ _ _ r h => by simp [prompterref14_Look.l1] at h, fun _ _ _ _ _ _ r h => by simp [prompterref14_Look.j3] at h, fun _ _ _ _ r h => by simp [prompterref14_Look.l2] at h⟩
  | k + 1 => by
    obtain ⟨ih0, ih1, ih2, ih3, ih4⟩ := prompterref14_Look.mono_l k
    refine ⟨?_, ?_, ?_, ?_, ?_⟩
    · intro y0 y1 y2
      unfold prompterref14_Look.j0
      repeat' first
      | (with_reducible exact ih0 _ _ _)
      | (with_reducible exact ih1 _ _ _)
      | (with_reducible exact ih2 _ _ _ _ _)
      | (with_reducible exact ih3 _ _ _ _ _ _)
      | (with_reducible exact ih4 _ _ _ _)
      | (with_reducible exact prompterref14_Circle.mono _ _ _)
      | (with_reducible exact prompterref14_Fits.mono _ _)
      | (with_reducible exact prompterref14_Of.mono _ _)
      | (with_reducible exact prompterref14_Right.mono _ _ _ _ _ _)
      | (with_reducible exact LeO.refl _)
      | (with_reducible exact LeO.none _)
      | (with_reducible refine LeO.ite ?_ ?_)
      | (with_reducible refine LeO.bind ?_ (fun _ => ?_))
      | exact ih0 _ _ _
      | exact ih1 _ _ _
      | exact ih2 _ _ _ _ _
      | exact ih3 _ _ _ _ _ _
      | exact ih4 _ _ _ _
      | exact prompterref14_Circle.mono _ _ _
      | exact prompterref14_Fits.mono _ _
      | exact prompterref14_Of.mono _ _
      | exact prompterref14_Right.mono _ _ _ _ _ _
      | exact LeO.none _
      | refine LeO.ite ?_ ?_
      | refine LeO.bind ?_ (fun _ => ?_)
    · intro y0 y1 y2
      unfold prompterref14_Look.l0
      repeat' first
      | (with_reducible exact ih0 _ _ _)
      | (with_reducible exact ih1 _ _ _)
      | (with_reducible exact ih2 _ _ _ _ _)
      | (with_reducible exact ih3 _ _ _ _ _ _)
      | (with_reducible exact ih4 _ _ _ _)
      | (with_reducible exact prompterref14_Circle.mono _ _ _)
      | (with_reducible exact prompterref14_Fits.mono _ _)
      | (with_reducible exact prompterref14_Of.mono _ _)
      | (with_reducible exact prompterref14_Right.mono _ _ _ _ _ _)
      | (with_reducible exact LeO.refl _)
      | (with_reducible exact LeO.none _)
      | (with_reducible refine LeO.ite ?_ ?_)
      | (with_reducible refine LeO.bind ?_ (fun _ => ?_))
      | exact ih0 _ _ _
      | exact ih1 _ _ _
      | exact ih2 _ _ _ _ _
      | exact ih3 _ _ _ _ _ _
      | exact ih4 _ _ _ _
      | exact prompterref14_Circle.mono _ _ _
      | exact prompterref14_Fits.mono _ _
      | exact prompterref14_Of.mono _ _
      | exact prompterref14_Right.mono _ _ _ _ _ _
      | exact LeO.none _
      | refine LeO.ite ?_ ?_
      | refine LeO.bind ?_ (fun _ => ?_)
    · intro y0 y1 y2 y3 y4
      unfold prompterref14_Look.l1
      repeat' first
      | (with_reducible exact ih0 _ _ _)
      | (with_reducible exact ih1 _ _ _)
      | (with_reducible exact ih2 _ _ _ _ _)
      | (with_reducible exact ih3 _ _ _ _ _ _)
      | (with_reducible exact ih4 _ _ _ _)
      | (with_reducible exact prompterref14_Circle.mono _ _ _)
      | (with_reducible exact prompterref14_Fits.mono _ _)
      | (with_reducible exact prompterref14_Of.mono _ _)
      | (with_reducible exact prompterref14_Right.mono _ _ _ _ _ _)
      | (with_reducible exact LeO.refl _)
      | (with_reducible exact LeO.none _)
      | (with_reducible refine LeO.ite ?_ ?_)
      | (with_reducible refine LeO.bind ?_ (fun _ => ?_))
      | exact ih0 _ _ _
      | exact ih1 _ _ _
      | exact ih2 _ _ _ _ _
      | exact ih3 _ _ _ _ _ _
      | exact ih4 _ _ _ _
      | exact prompterref14_Circle.mono _ _ _
      | exact prompterref14_Fits.mono _ _
      | exact prompterref14_Of.mono _ _
      | exact prompterref14_Right.mono _ _ _ _ _ _
      | exact LeO.none _
      | refine LeO.ite ?_ ?_
      | refine LeO.bind ?_ (fun _ => ?_)
    · intro y0 y1 y2 y3 y4 y5
      unfold prompterref14_Look.j3
      repeat' first
      | (with_reducible exact ih0 _ _ _)
      | (with_reducible exact ih1 _ _ _)
      | (with_reducible exact ih2 _ _ _ _ _)
      | (with_reducible exact ih3 _ _ _ _ _ _)
      | (with_reducible exact ih4 _ _ _ _)
      | (with_reducible exact prompterref14_Circle.mono _ _ _)
      | (with_reducible exact prompterref14_Fits.mono _ _)
      | (with_reducible exact prompterref14_Of.mono _ _)
      | (with_reducible exact prompterref14_Right.mono _ _ _ _ _ _)
      | (with_reducible exact LeO.refl _)
      | (with_reducible exact LeO.none _)
      | (with_reducible refine LeO.ite ?_ ?_)
      | (with_reducible refine LeO.bind ?_ (fun _ => ?_))
      | exact ih0 _ _ _
      | exact ih1 _ _ _
      | exact ih2 _ _ _ _ _
      | exact ih3 _ _ _ _ _ _
      | exact ih4 _ _ _ _
      | exact prompterref14_Circle.mono _ _ _
      | exact prompterref14_Fits.mono _ _
      | exact prompterref14_Of.mono _ _
      | exact prompterref14_Right.mono _ _ _ _ _ _
      | exact LeO.none _
      | refine LeO.ite ?_ ?_
      | refine LeO.bind ?_ (fun _ => ?_)
    · intro y0 y1 y2 y3
      unfold prompterref14_Look.l2
      repeat' first
      | (with_reducible exact ih0 _ _ _)
      | (with_reducible exact ih1 _ _ _)
      | (with_reducible exact ih2 _ _ _ _ _)
      | (with_reducible exact ih3 _ _ _ _ _ _)
      | (with_reducible exact ih4 _ _ _ _)
      | (with_reducible exact prompterref14_Circle.mono _ _ _)
      | (with_reducible exact prompterref14_Fits.mono _ _)
      | (with_reducible exact prompterref14_Of.mono _ _)
      | (with_reducible exact prompterref14_Right.mono _ _ _ _ _ _)
      | (with_reducible exact LeO.refl _)
      | (with_reducible exact LeO.none _)
      | (with_reducible refine LeO.ite ?_ ?_)
      | (with_reducible refine LeO.bind ?_ (fun _ => ?_))
      | exact ih0 _ _ _
      | exact ih1 _ _ _
      | exact ih2 _ _ _ _ _
      | exact ih3 _ _ _ _ _ _
      | exact ih4 _ _ _ _
      | exact prompterref14_Circle.mono _ _ _
      | exact prompterref14_Fits.mono _ _
      | exact prompterref14_Of.mono _ _
      | exact prompterref14_Right.mono _ _ _ _ _ _
      | exact LeO.none _
      | refine LeO.ite ?_ ?_
      | refine LeO.bind ?_ (fun _ => ?_)
theorem prompterref14_Look.mono : ∀ a0 a1 k, LeO (prompterref14_Look.f k a0 a1) (prompterref14_Look.f (k + 1) a0 a1) := by
  intro a0 a1 k
  obtain ⟨ih0, ih1, ih2, ih3, ih4⟩ := prompterref14_Look.mono_l k
  unfold prompterref14_Look.f
  repeat' first
      | (with_reducible exact ih0 _ _ _)
      | (with_reducible exact ih1 _ _ _)
      | (with_reducible exact ih2 _ _ _ _ _)
      | (with_reducible exact ih3 _ _ _ _ _ _)
      | (with_reducible exact ih4 _ _ _ _)
      | (with_reducible exact prompterref14_Circle.mono _ _ _)
      | (with_reducible exact prompterref14_Fits.mono _ _)
      | (with_reducible exact prompterref14_Of.mono _ _)
      | (with_reducible exact prompterref14_Right.mono _ _ _ _ _ _)
      | (with_reducible exact LeO.refl _)
      | (with_reducible exact LeO.none _)
      | (with_reducible refine LeO.ite ?_ ?_)
      | (with_reducible refine LeO.bind ?_ (fun _ => ?_))
      | exact ih0 _ _ _
      | exact ih1 _ _ _
      | exact ih2 _ _ _ _ _
      | exact ih3 _ _ _ _ _ _
      | exact ih4 _ _ _ _
      | exact prompterref14_Circle.mono _ _ _
      | exact prompterref14_Fits.mono _ _
      | exact prompterref14_Of.mono _ _
      | exact prompterref14_Right.mono _ _ _ _ _ _
      | exact LeO.none _
      | refine LeO.ite ?_ ?_
      | refine LeO.bind ?_ (fun _ => ?_)
set_option maxHeartbeats 8000000 in
set_option maxRecDepth 100000 in
theorem prompterref14_Look.calls (k : Nat) (A0 : Option Addr) (c0 : Nat) (l0 : List (S36)) (a1 : Int) (r1 : Int) (r2 : Int) (r3 : Int) (r4 : List Int) (r5 : Int) (w : World) (hr0 : Kd.C k36 w A0 l0.length l0) (hc0 : l0.length ≤ c0) (h : prompterref14_Look.f k l0 a1 = some (r1, r2, r3, r4, r5)) :
    Calls Try.prog 9 #[.slice A0 l0.length c0, .int .i64 a1] w fun e w' => ∃ v3_ : Value, e = .returned (.tuple #[.int .i64 r1, .int .i64 r2, .int .i64 r3, v3_, .int .i64 r5]) ∧ Kd.R (Kd.int .i64) 3 w' w.heap.size (fun _ => True) v3_ r4 ∧ Below w.heap.size w w' := by
  have hu36 := Try.underlying36
  have hu42 := Try.underlying42
  have hfd1 : ∀ (t1 : ByteArray) (t2 : Int) (t3 t4 t5 : Bool) (t6 t7 : Int) (w' : World), (Instr.field 42 (.agg #[.string t1, .int .i64 t2, .bool t3, .bool t4, .bool t5, .int .i64 t6, .int .i64 t7]) 1).run Try.prog w' = .ok (.int .i64 t2) w' := fun _ _ _ _ _ _ _ _ => by kernel_rfl
  have hfd2 : ∀ (t1 : ByteArray) (t2 : Int) (t3 t4 t5 : Bool) (t6 t7 : Int) (w' : World), (Instr.field 42 (.agg #[.string t1, .int .i64 t2, .bool t3, .bool t4, .bool t5, .int .i64 t6, .int .i64 t7]) 2).run Try.prog w' = .ok (.bool t3) w' := fun _ _ _ _ _ _ _ _ => by kernel_rfl
  have hfd3 : ∀ (t1 : ByteArray) (t2 : Int) (t3 t4 t5 : Bool) (t6 t7 : Int) (w' : World), (Instr.field 42 (.agg #[.string t1, .int .i64 t2, .bool t3, .bool t4, .bool t5, .int .i64 t6, .int .i64 t7]) 3).run Try.prog w' = .ok (.bool t4) w' := fun _ _ _ _ _ _ _ _ => by kernel_rfl
  have hfd4 : ∀ (t1 : ByteArray) (t2 : Int) (t3 t4 t5 : Bool) (t6 t7 : Int) (w' : World), (Instr.field 42 (.agg #[.string t1, .int .i64 t2, .bool t3, .bool t4, .bool t5, .int .i64 t6, .int .i64 t7]) 4).run Try.prog w' = .ok (.bool t5) w' := fun _ _ _ _ _ _ _ _ => by kernel_rfl
  have hfd5 : ∀ (t1 : ByteArray) (t2 : Int) (t3 t4 t5 : Bool) (t6 t7 : Int) (w' : World), (Instr.field 42 (.agg #[.string t1, .int .i64 t2, .bool t3, .bool t4, .bool t5, .int .i64 t6, .int .i64 t7]) 5).run Try.prog w' = .ok (.int .i64 t6) w' := fun _ _ _ _ _ _ _ _ => by kernel_rfl
  have hfd6 : ∀ (t1 : ByteArray) (t2 : Int) (t3 t4 t5 : Bool) (t6 t7 : Int) (w' : World), (Instr.field 42 (.agg #[.string t1, .int .i64 t2, .bool t3, .bool t4, .bool t5, .int .i64 t6, .int .i64 t7]) 6).run Try.prog w' = .ok (.int .i64 t7) w' := fun _ _ _ _ _ _ _ _ => by kernel_rfl
  have HR0 := Aside0.mk hr0
  have HC0 := Aside0.mk hc0
  clear hr0 hc0
  have HB := Aside0.mk (Below.refl w.heap.size w)
  have H : (if a1 < 0 then (prompterref14_Look.j0 k l0 a1 true) else (prompterref14_Look.j0 k l0 a1 (decide (a1 > 100)))) = some (r1, r2, r3, r4, r5) := h
  clear h
  have HC3 := Aside0.mk H
  clear H
  go_enter Try.func9, Try.ntmps9
  go_upto_region 1 with (fail)
  go_cut [21] (fun v21 wc => ∃ (kq : Nat) (x21_2 : Bool), v21 = .bool x21_2 ∧ Aside0 (prompterref14_Look.j0 kq l0 a1 x21_2 = some (r1, r2, r3, r4, r5)) ∧ Aside0 (kq ≤ k) ∧ Aside0 (Below w.heap.size w wc))
  case first =>
    have H := HC3.out
    clear HC3
    by_cases c4 : a1 < 0
    · rw [if_pos c4] at H
      have c4b0 : decide (a1 < 0) = true := decide_eq_true c4
      clear c4
      (first | rw [c4b0] | (simp only [i64_w, i32_w]; rw [c4b0]) | skip)
      have H' := Aside0.mk H
      clear H
      go_wp2
      go_meet
      case rel => exact ⟨_, (true), (by first | rfl | (simp; done) | (simp [*]; done)), H', ⟨by first | omega | exact Nat.le_refl _⟩, ⟨by repeat (first | (with_reducible first | exact HB.out | apply below_alloc | apply pw_below_drewN | apply below_drew1) | exact HB.out)⟩⟩
    · rw [if_neg c4] at H
      have c4b0 : decide (a1 < 0) = false := decide_eq_false c4
      clear c4
      (first | rw [c4b0] | (simp only [i64_w, i32_w]; rw [c4b0]) | skip)
      have H' := Aside0.mk H
      clear H
      go_wp2
      go_meet
      case rel => exact ⟨_, (decide (a1 > 100)), (by first | rfl | (simp; done) | (simp [*]; done)), H', ⟨by first | omega | exact Nat.le_refl _⟩, ⟨by repeat (first | (with_reducible first | exact HB.out | apply below_alloc | apply pw_below_drewN | apply below_drew1) | exact HB.out)⟩⟩
  case rest =>
    clear HC3
    try clear p2
    try clear c4
    try clear c4b0
    obtain ⟨kq, x21_2, rfl, HA, HJ2, HB⟩ := hcut
    cases kq with
    | zero => exact absurd HA.out (by simp [prompterref14_Look.j0])
    | succ kj2 =>
      have H := HA.out
      clear HA
      simp only [prompterref14_Look.j0] at H
      by_cases c5 : x21_2 = true
      · subst c5
        have H1 : (some (0, 0, 0, ([] : List Int), 1)) = some (r1, r2, r3, r4, r5) := by rw [if_pos rfl] at H; exact H
        clear H
        have H := H1
        clear H1
        simp only [Option.some.injEq, Prod.mk.injEq] at H
        obtain ⟨rfl, rfl, rfl, rfl, rfl⟩ := H
        go_wp2
        refine bodyPost_ret (results_list (rs := [.tmp 4, .tmp 5, .tmp 6, .tmp 7, .tmp 8]) rfl (by simp) (.tmp (.tmp (.tmp (.tmp (.tmp .nil)))))) rfl ?_
        exact ⟨_, by first | rfl | (simp [errW_none, errW_some] <;> rfl) | (simp [*, errW_none, errW_some] <;> rfl), by first | exact Kd.R_nil _ _ _ _ _ | exact Kd.N_nil _ _ _ _ _ | exact Kd.V_nil _ _ _ _ _ | exact Kd.Q_nil _ _ _ _ _ | exact Kd.S_nil _ _ _ _ _, by repeat (first | (with_reducible first | exact HB.out | apply below_alloc | apply pw_below_drewN | apply below_drew1) | exact HB.out)⟩
      · replace c5 := Bool.eq_false_iff.mpr c5
        subst c5
        have H1 : (if (l0.length : Int) > 8192 then (some (0, 0, 0, ([] : List Int), 2)) else (if (l0.length : Int) = 0 then (some (0, 0, 0, ([] : List Int), 3)) else (prompterref14_Look.l0 kj2 l0 a1 0))) = some (r1, r2, r3, r4, r5) := by rw [if_neg (show ¬ (false = true) by decide)] at H; exact H
        clear H
        have H := H1
        clear H1
        by_cases c6 : (l0.length : Int) > 8192
        · rw [if_pos c6] at H
          have c6b0 : decide (8192 < (l0.length : Int)) = true := decide_eq_true c6
          have c6b1 : decide (8192 < l0.length) = true := decide_eq_true (by omega)
          clear c6
          simp only [Option.some.injEq, Prod.mk.injEq] at H
          obtain ⟨rfl, rfl, rfl, rfl, rfl⟩ := H
          go_wp2
          refine bodyPost_ret (results_list (rs := [.tmp 4, .tmp 5, .tmp 6, .tmp 7, .tmp 8]) rfl (by simp) (.tmp (.tmp (.tmp (.tmp (.tmp .nil)))))) rfl ?_
          exact ⟨_, by first | rfl | (simp [errW_none, errW_some] <;> rfl) | (simp [*, errW_none, errW_some] <;> rfl), by first | exact Kd.R_nil _ _ _ _ _ | exact Kd.N_nil _ _ _ _ _ | exact Kd.V_nil _ _ _ _ _ | exact Kd.Q_nil _ _ _ _ _ | exact Kd.S_nil _ _ _ _ _, by repeat (first | (with_reducible first | exact HB.out | apply below_alloc | apply pw_below_drewN | apply below_drew1) | exact HB.out)⟩
        · rw [if_neg c6] at H
          have c6b0 : decide (8192 < (l0.length : Int)) = false := decide_eq_false c6
          have c6b1 : decide (8192 < l0.length) = false := decide_eq_false (by omega)
          clear c6
          by_cases c7 : (l0.length : Int) = 0
          · rw [if_pos c7] at H
            have c7b0 : ((l0.length : Int) == 0) = true := beq_iff_eq.mpr c7
            have c7b1 : ((l0.length : Int) != 0) = false := bne_eq_false_iff_eq.mpr c7
            clear c7
            simp only [Option.some.injEq, Prod.mk.injEq] at H
            obtain ⟨rfl, rfl, rfl, rfl, rfl⟩ := H
            go_wp2
            refine bodyPost_ret (results_list (rs := [.tmp 4, .tmp 5, .tmp 6, .tmp 7, .tmp 8]) rfl (by simp) (.tmp (.tmp (.tmp (.tmp (.tmp .nil)))))) rfl ?_
            exact ⟨_, by first | rfl | (simp [errW_none, errW_some] <;> rfl) | (simp [*, errW_none, errW_some] <;> rfl), by first | exact Kd.R_nil _ _ _ _ _ | exact Kd.N_nil _ _ _ _ _ | exact Kd.V_nil _ _ _ _ _ | exact Kd.Q_nil _ _ _ _ _ | exact Kd.S_nil _ _ _ _ _, by repeat (first | (with_reducible first | exact HB.out | apply below_alloc | apply pw_below_drewN | apply below_drew1) | exact HB.out)⟩
          · rw [if_neg c7] at H
            have c7b0 : ((l0.length : Int) == 0) = false := beq_eq_false_iff_ne.mpr c7
            have c7b1 : ((l0.length : Int) != 0) = true := bne_iff_ne.mpr c7
            have c7b2 : ¬ (l0 = []) := fun h_ => c7 (by rw [h_]; rfl)
            have H' := Aside0.mk H
            clear H
            go_wp2
            go_loopg [9, 10] kj2 (fun kq v9 v10 w' => ∃ (x9_2 : Int) (x10_2 : Int), v9 = .int .i64 x9_2 ∧ v10 = .int .i64 x10_2 ∧ Aside0 (prompterref14_Look.l0 kq l0 x9_2 x10_2 = some (r1, r2, r3, r4, r5)) ∧ Aside0 (kq ≤ kj2) ∧ Aside0 (Below w.heap.size w w'))
            case atStart => exact ⟨(a1), (0), (by first | rfl | (simp; done) | (simp [*]; done)), (by first | rfl | (simp; done) | (simp [*]; done)), H', ⟨Nat.le_refl _⟩, ⟨by repeat (first | (with_reducible first | exact HB.out | apply below_alloc | apply pw_below_drewN | apply below_drew1) | exact HB.out)⟩⟩
            case round =>
              clear H'
              try clear p2
              try clear c4
              try clear c4b0
              try clear c5
              try clear c6
              try clear c6b0
              try clear c6b1
              try clear c7
              try clear c7b0
              try clear c7b1
              try clear c7b2
              try clear p2
              obtain ⟨x9_2, x10_2, rfl, rfl, HA, HK2, HB⟩ := hrel
              cases gk with
              | zero => exact absurd HA.out (by simp [prompterref14_Look.l0])
              | succ k2 =>
                have H := HA.out
                clear HA
                simp only [prompterref14_Look.l0] at H
                by_cases c8 : x10_2 < (l0.length : Int)
                · rw [if_pos c8] at H
                  have c8b0 : decide (x10_2 < (l0.length : Int)) = true := decide_eq_true c8
                  clear c8
                  by_cases c9 : 0 ≤ x10_2
                  · rw [if_pos c9] at H
                    have c9b0 : decide (0 ≤ x10_2) = true := decide_eq_true c9
                    clear c9
                    replace H := Option.bind_eq_some_iff.mp H
                    obtain ⟨t199, A100, H⟩ := H
                    replace H : (if t199 = true then ((prompterref14_Of.f k2 ((rd_T36 l0 x10_2).f0)).bind fun bt201 => (if bt201.2.1 = 2 then (prompterref14_Look.l0 k2 l0 (mx x9_2 (wrap64 (((rd_T36 l0 x10_2).f1) + 1))) (wrap64 (x10_2 + 1))) else (prompterref14_Look.l0 k2 l0 x9_2 (wrap64 (x10_2 + 1))))) else (some (0, 0, x10_2, ([] : List Int), 3))) = some (r1, r2, r3, r4, r5) := H
                    have A10 := Aside0.mk A100
                    clear A100
                    by_cases c11 : t199 = true
                    · subst c11
                      have H1 : ((prompterref14_Of.f k2 ((rd_T36 l0 x10_2).f0)).bind fun bt201 => (if bt201.2.1 = 2 then (prompterref14_Look.l0 k2 l0 (mx x9_2 (wrap64 (((rd_T36 l0 x10_2).f1) + 1))) (wrap64 (x10_2 + 1))) else (prompterref14_Look.l0 k2 l0 x9_2 (wrap64 (x10_2 + 1))))) = some (r1, r2, r3, r4, r5) := by rw [if_pos rfl] at H; exact H
                      clear H
                      have H := H1
                      clear H1
                      replace H := Option.bind_eq_some_iff.mp H
                      obtain ⟨⟨t201, t202, t203, t204, t205, t206, t207⟩, A120, H⟩ := H
                      replace H : (if t202 = 2 then (prompterref14_Look.l0 k2 l0 (mx x9_2 (wrap64 (((rd_T36 l0 x10_2).f1) + 1))) (wrap64 (x10_2 + 1))) else (prompterref14_Look.l0 k2 l0 x9_2 (wrap64 (x10_2 + 1)))) = some (r1, r2, r3, r4, r5) := H
                      have A12 := Aside0.mk A120
                      clear A120
                      by_cases c13 : t202 = 2
                      · rw [if_pos c13] at H
                        have c13b0 : (t202 == 2) = true := beq_iff_eq.mpr c13
                        have c13b1 : (t202 != 2) = false := bne_eq_false_iff_eq.mpr c13
                        clear c13
                        obtain ⟨ji14, hji14⟩ : ∃ j_ : Int, (mx x9_2 (wrap64 (((rd_T36 l0 x10_2).f1) + 1))) = j_ := ⟨_, rfl⟩
                        replace H : (prompterref14_Look.l0 k2 l0 ji14 (wrap64 (x10_2 + 1))) = some (r1, r2, r3, r4, r5) := by first | (rw [hji14] at H; exact H) | (simp only [hji14] at H ⊢; exact H)
                        (try rw [hji14] at A10)
                        (try rw [hji14] at A12)
                        have hji14_ : (if x9_2 < (wrap64 (((rd_T36 l0 x10_2).f1) + 1)) then (wrap64 (((rd_T36 l0 x10_2).f1) + 1)) else x9_2) = ji14 := hji14
                        have H' := Aside0.mk H
                        clear H
                        have p198 : 0 ≤ (x10_2 : Int) := of_decide_eq_true (by first | (with_reducible assumption) | assumption)
                        have q198 : x10_2 < (l0.length : Int) := of_decide_eq_true (by first | (with_reducible assumption) | assumption)
                        obtain ⟨ad198, e198, hx198_0, hx198_1, hx198_2, hx198_3⟩ := at_T36 HR0.out x10_2 p198 q198
                        cases e198
                        replace hx198_0 := (HB.out.cell (World.block_lt_of_cell? w _ hx198_0)).trans hx198_0
                        replace hx198_1 := (HB.out.cell (World.block_lt_of_cell? w _ hx198_1)).trans hx198_1
                        replace hx198_2 := (HB.out.cell (World.block_lt_of_cell? w _ hx198_2)).trans hx198_2
                        replace hx198_3 := (HB.out.cell (World.block_lt_of_cell? w _ hx198_3)).trans hx198_3
                        replace p198 := eq_true p198
                        replace q198 := eq_true q198
                        go_wp2_with (first | ((with_reducible refine gate_callee (f := 21) rfl ?_); refine goesL_ (some 41) rfl rfl Try.func21 (by kernel_rfl) rfl #[.agg #[.int .u8 ((rd_T36 l0 x10_2).f0), .int .i64 ((rd_T36 l0 x10_2).f1), .int .i64 ((rd_T36 l0 x10_2).f2), .string ((rd_T36 l0 x10_2).f3)], .int .i64 (l0.length : Int)] rfl (by (try simp only [List.map_toArray, List.map_cons, List.map_nil]); first | done | rfl | (simp only [List.length_drop, List.length_take]; rfl)) ?_; (with_reducible refine (prompterref14_Right.calls k2 ((rd_T36 l0 x10_2).f0) ((rd_T36 l0 x10_2).f1) ((rd_T36 l0 x10_2).f2) ((rd_T36 l0 x10_2).f3) (l0.length : Int) true _ A10.out).mono ?_); rintro e w15 ⟨rfl, hb⟩; refine ⟨_, rfl, ?_⟩; have n0_ := Aside0.mk (below_step (by repeat (first | (with_reducible first | exact HB.out | apply below_alloc | apply pw_below_drewN | apply below_drew1) | exact HB.out)) hb); clear HB; have HB := n0_; clear n0_; (try clear hb); (try clear hb2); (try clear hk); (try clear hi); have p200 : 0 ≤ (x10_2 : Int) := of_decide_eq_true (by first | (with_reducible assumption) | assumption); have q200 : x10_2 < (l0.length : Int) := of_decide_eq_true (by first | (with_reducible assumption) | assumption); obtain ⟨ad200, e200, hx200_0, hx200_1, hx200_2, hx200_3⟩ := at_T36 HR0.out x10_2 p200 q200; obtain rfl : ad198 = ad200 := (by injection e200); replace hx200_0 := (HB.out.cell (World.block_lt_of_cell? w _ hx200_0)).trans hx200_0; replace hx200_1 := (HB.out.cell (World.block_lt_of_cell? w _ hx200_1)).trans hx200_1; replace hx200_2 := (HB.out.cell (World.block_lt_of_cell? w _ hx200_2)).trans hx200_2; replace hx200_3 := (HB.out.cell (World.block_lt_of_cell? w _ hx200_3)).trans hx200_3; replace p200 := eq_true p200; replace q200 := eq_true q200) | ((with_reducible refine gate_callee (f := 14) rfl ?_); refine goesL_ (some 49) rfl rfl Try.func14 (by kernel_rfl) rfl #[.int .u8 ((rd_T36 l0 x10_2).f0)] rfl (by (try simp only [List.map_toArray, List.map_cons, List.map_nil]); first | done | rfl | (simp only [List.length_drop, List.length_take]; rfl)) ?_; (with_reducible refine (prompterref14_Of.calls k2 ((rd_T36 l0 x10_2).f0) t201 t202 t203 t204 t205 t206 t207 _ A12.out).mono ?_); rintro e w16 ⟨rfl, hb⟩; refine ⟨_, rfl, ?_⟩; have n0_ := Aside0.mk (below_step (by repeat (first | (with_reducible first | exact HB.out | apply below_alloc | apply pw_below_drewN | apply below_drew1) | exact HB.out)) hb); clear HB; have HB := n0_; clear n0_; (try clear hb); (try clear hb2); (try clear hk); (try clear hi); have p208 : 0 ≤ (x10_2 : Int) := of_decide_eq_true (by first | (with_reducible assumption) | assumption); have q208 : x10_2 < (l0.length : Int) := of_decide_eq_true (by first | (with_reducible assumption) | assumption); obtain ⟨ad208, e208, hx208_0, hx208_1, hx208_2, hx208_3⟩ := at_T36 HR0.out x10_2 p208 q208; obtain rfl : ad198 = ad208 := (by injection e208); replace hx208_0 := (HB.out.cell (World.block_lt_of_cell? w _ hx208_0)).trans hx208_0; replace hx208_1 := (HB.out.cell (World.block_lt_of_cell? w _ hx208_1)).trans hx208_1; replace hx208_2 := (HB.out.cell (World.block_lt_of_cell? w _ hx208_2)).trans hx208_2; replace hx208_3 := (HB.out.cell (World.block_lt_of_cell? w _ hx208_3)).trans hx208_3; replace p208 := eq_true p208; replace q208 := eq_true q208))
                        go_roundg k2
                        case measure => have := HJ2.out; have := HK2.out; omega
                        case rel => exact ⟨(ji14), (wrap64 (x10_2 + 1)), (by first | rfl | (simp; done) | (simp only [← hji14] <;> (first | rfl | simp)) | (simp [*]; done)), (by first | rfl | (simp; done) | (simp [*]; done)), H', ⟨by have := HJ2.out; have := HK2.out; omega⟩, ⟨by repeat (first | (with_reducible first | exact HB.out | apply below_alloc | apply pw_below_drewN | apply below_drew1) | exact HB.out)⟩⟩
                      · rw [if_neg c13] at H
                        have c13b0 : (t202 == 2) = false := beq_eq_false_iff_ne.mpr c13
                        have c13b1 : (t202 != 2) = true := bne_iff_ne.mpr c13
                        have H' := Aside0.mk H
                        clear H
                        have p198 : 0 ≤ (x10_2 : Int) := of_decide_eq_true (by first | (with_reducible assumption) | assumption)
                        have q198 : x10_2 < (l0.length : Int) := of_decide_eq_true (by first | (with_reducible assumption) | assumption)
                        obtain ⟨ad198, e198, hx198_0, hx198_1, hx198_2, hx198_3⟩ := at_T36 HR0.out x10_2 p198 q198
                        cases e198
                        replace hx198_0 := (HB.out.cell (World.block_lt_of_cell? w _ hx198_0)).trans hx198_0
                        replace hx198_1 := (HB.out.cell (World.block_lt_of_cell? w _ hx198_1)).trans hx198_1
                        replace hx198_2 := (HB.out.cell (World.block_lt_of_cell? w _ hx198_2)).trans hx198_2
                        replace hx198_3 := (HB.out.cell (World.block_lt_of_cell? w _ hx198_3)).trans hx198_3
                        replace p198 := eq_true p198
                        replace q198 := eq_true q198
                        go_wp2_with (first | ((with_reducible refine gate_callee (f := 21) rfl ?_); refine goesL_ (some 41) rfl rfl Try.func21 (by kernel_rfl) rfl #[.agg #[.int .u8 ((rd_T36 l0 x10_2).f0), .int .i64 ((rd_T36 l0 x10_2).f1), .int .i64 ((rd_T36 l0 x10_2).f2), .string ((rd_T36 l0 x10_2).f3)], .int .i64 (l0.length : Int)] rfl (by (try simp only [List.map_toArray, List.map_cons, List.map_nil]); first | done | rfl | (simp only [List.length_drop, List.length_take]; rfl)) ?_; (with_reducible refine (prompterref14_Right.calls k2 ((rd_T36 l0 x10_2).f0) ((rd_T36 l0 x10_2).f1) ((rd_T36 l0 x10_2).f2) ((rd_T36 l0 x10_2).f3) (l0.length : Int) true _ A10.out).mono ?_); rintro e w17 ⟨rfl, hb⟩; refine ⟨_, rfl, ?_⟩; have n0_ := Aside0.mk (below_step (by repeat (first | (with_reducible first | exact HB.out | apply below_alloc | apply pw_below_drewN | apply below_drew1) | exact HB.out)) hb); clear HB; have HB := n0_; clear n0_; (try clear hb); (try clear hb2); (try clear hk); (try clear hi); have p200 : 0 ≤ (x10_2 : Int) := of_decide_eq_true (by first | (with_reducible assumption) | assumption); have q200 : x10_2 < (l0.length : Int) := of_decide_eq_true (by first | (with_reducible assumption) | assumption); obtain ⟨ad200, e200, hx200_0, hx200_1, hx200_2, hx200_3⟩ := at_T36 HR0.out x10_2 p200 q200; obtain rfl : ad198 = ad200 := (by injection e200); replace hx200_0 := (HB.out.cell (World.block_lt_of_cell? w _ hx200_0)).trans hx200_0; replace hx200_1 := (HB.out.cell (World.block_lt_of_cell? w _ hx200_1)).trans hx200_1; replace hx200_2 := (HB.out.cell (World.block_lt_of_cell? w _ hx200_2)).trans hx200_2; replace hx200_3 := (HB.out.cell (World.block_lt_of_cell? w _ hx200_3)).trans hx200_3; replace p200 := eq_true p200; replace q200 := eq_true q200) | ((with_reducible refine gate_callee (f := 14) rfl ?_); refine goesL_ (some 49) rfl rfl Try.func14 (by kernel_rfl) rfl #[.int .u8 ((rd_T36 l0 x10_2).f0)] rfl (by (try simp only [List.map_toArray, List.map_cons, List.map_nil]); first | done | rfl | (simp only [List.length_drop, List.length_take]; rfl)) ?_; (with_reducible refine (prompterref14_Of.calls k2 ((rd_T36 l0 x10_2).f0) t201 t202 t203 t204 t205 t206 t207 _ A12.out).mono ?_); rintro e w18 ⟨rfl, hb⟩; refine ⟨_, rfl, ?_⟩; have n0_ := Aside0.mk (below_step (by repeat (first | (with_reducible first | exact HB.out | apply below_alloc | apply pw_below_drewN | apply below_drew1) | exact HB.out)) hb); clear HB; have HB := n0_; clear n0_; (try clear hb); (try clear hb2); (try clear hk); (try clear hi)))
                        go_roundg k2
                        case measure => have := HJ2.out; have := HK2.out; omega
                        case rel => exact ⟨(x9_2), (wrap64 (x10_2 + 1)), (by first | rfl | (simp; done) | (simp [*]; done)), (by first | rfl | (simp; done) | (simp [*]; done)), H', ⟨by have := HJ2.out; have := HK2.out; omega⟩, ⟨by repeat (first | (with_reducible first | exact HB.out | apply below_alloc | apply pw_below_drewN | apply below_drew1) | exact HB.out)⟩⟩
                    · replace c11 := Bool.eq_false_iff.mpr c11
                      subst c11
                      have H1 : (some (0, 0, x10_2, ([] : List Int), 3)) = some (r1, r2, r3, r4, r5) := by rw [if_neg (show ¬ (false = true) by decide)] at H; exact H
                      clear H
                      have H := H1
                      clear H1
                      simp only [Option.some.injEq, Prod.mk.injEq] at H
                      obtain ⟨rfl, rfl, rfl, rfl, rfl⟩ := H
                      have p198 : 0 ≤ (x10_2 : Int) := of_decide_eq_true (by first | (with_reducible assumption) | assumption)
                      have q198 : x10_2 < (l0.length : Int) := of_decide_eq_true (by first | (with_reducible assumption) | assumption)
                      obtain ⟨ad198, e198, hx198_0, hx198_1, hx198_2, hx198_3⟩ := at_T36 HR0.out x10_2 p198 q198
                      cases e198
                      replace hx198_0 := (HB.out.cell (World.block_lt_of_cell? w _ hx198_0)).trans hx198_0
                      replace hx198_1 := (HB.out.cell (World.block_lt_of_cell? w _ hx198_1)).trans hx198_1
                      replace hx198_2 := (HB.out.cell (World.block_lt_of_cell? w _ hx198_2)).trans hx198_2
                      replace hx198_3 := (HB.out.cell (World.block_lt_of_cell? w _ hx198_3)).trans hx198_3
                      replace p198 := eq_true p198
                      replace q198 := eq_true q198
                      go_wp2_with (first | ((with_reducible refine gate_callee (f := 21) rfl ?_); refine goesL_ (some 41) rfl rfl Try.func21 (by kernel_rfl) rfl #[.agg #[.int .u8 ((rd_T36 l0 x10_2).f0), .int .i64 ((rd_T36 l0 x10_2).f1), .int .i64 ((rd_T36 l0 x10_2).f2), .string ((rd_T36 l0 x10_2).f3)], .int .i64 (l0.length : Int)] rfl (by (try simp only [List.map_toArray, List.map_cons, List.map_nil]); first | done | rfl | (simp only [List.length_drop, List.length_take]; rfl)) ?_; (with_reducible refine (prompterref14_Right.calls k2 ((rd_T36 l0 x10_2).f0) ((rd_T36 l0 x10_2).f1) ((rd_T36 l0 x10_2).f2) ((rd_T36 l0 x10_2).f3) (l0.length : Int) false _ A10.out).mono ?_); rintro e w19 ⟨rfl, hb⟩; refine ⟨_, rfl, ?_⟩; have n0_ := Aside0.mk (below_step (by repeat (first | (with_reducible first | exact HB.out | apply below_alloc | apply pw_below_drewN | apply below_drew1) | exact HB.out)) hb); clear HB; have HB := n0_; clear n0_; (try clear hb); (try clear hb2); (try clear hk); (try clear hi)))
                      refine bodyPost_ret (results_list (rs := [.tmp 4, .tmp 5, .tmp 6, .tmp 7, .tmp 8]) rfl (by simp) (.tmp (.tmp (.tmp (.tmp (.tmp .nil)))))) rfl ?_
                      exact ⟨_, by first | rfl | (simp [errW_none, errW_some] <;> rfl) | (simp [*, errW_none, errW_some] <;> rfl), by first | exact Kd.R_nil _ _ _ _ _ | exact Kd.N_nil _ _ _ _ _ | exact Kd.V_nil _ _ _ _ _ | exact Kd.Q_nil _ _ _ _ _ | exact Kd.S_nil _ _ _ _ _, by repeat (first | (with_reducible first | exact HB.out | apply below_alloc | apply pw_below_drewN | apply below_drew1) | exact HB.out)⟩
                  · rw [if_neg c9] at H
                    exact absurd H (by simp)
                · rw [if_neg c8] at H
                  have c8b0 : decide (x10_2 < (l0.length : Int)) = false := decide_eq_false c8
                  clear c8
                  replace H := Option.bind_eq_some_iff.mp H
                  obtain ⟨⟨t209, t210⟩, A200, H⟩ := H
                  replace H : (prompterref14_Look.l1 k2 l0 x9_2 t209 t210 0) = some (r1, r2, r3, r4, r5) := H
                  have A20 := Aside0.mk A200
                  clear A200
                  have H' := Aside0.mk H
                  clear H
                  go_wp2_with (first | ((with_reducible refine gate_callee (f := 22) rfl ?_); refine goesL_ (some 62) rfl rfl Try.func22 (by kernel_rfl) rfl #[.slice A0 l0.length c0] rfl (by (try simp only [List.map_toArray, List.map_cons, List.map_nil]); first | done | rfl | (simp only [List.length_drop, List.length_take]; rfl)) ?_; (with_reducible refine (prompterref14_Fits.calls k2 _ _ l0 t209 t210 _ ?side1 ?side2 A20.out).mono ?_); (case side1 => repeat (first | exact (Kd.C_below HR0.out HB.out) | (with_reducible refine Kd.C_alloc ?_ _) | (with_reducible refine Kd.C_drewN ?_ _) | (with_reducible refine Kd.C_drew ?_))); (case side2 => exact HC0.out); rintro e w21 ⟨v211, rfl, ho0, hb⟩; refine ⟨_, rfl, ?_⟩; have n0_ := Aside0.mk (Kd.R_lower ho0 (below_size (by repeat (first | (with_reducible first | exact HB.out | apply below_alloc | apply pw_below_drewN | apply below_drew1) | exact HB.out)))); have n1_ := Aside0.mk (below_step (by repeat (first | (with_reducible first | exact HB.out | apply below_alloc | apply pw_below_drewN | apply below_drew1) | exact HB.out)) hb); clear HB; have HO212 := n0_; have HB := n1_; clear n0_ n1_; (try clear hb); (try clear hb2); (try clear hk); (try clear hi); (try clear ho0)))
                  go_loopg [12, 13] k2 (fun kq v12 v13 w' => ∃ (x12_3 : Int) (x13_3 : Int), v12 = .int .i64 x12_3 ∧ v13 = .int .i64 x13_3 ∧ Aside0 (prompterref14_Look.l1 kq l0 x9_2 t209 x12_3 x13_3 = some (r1, r2, r3, r4, r5)) ∧ Aside0 (kq ≤ k2) ∧ Aside0 (Kd.R (Kd.int .i64) 3 w' w.heap.size (fun _ => True) v211 t209) ∧ Aside0 (Below w.heap.size w w'))
                  case atStart => exact ⟨(t210), (0), (by first | rfl | (simp; done) | (simp [*]; done)), (by first | rfl | (simp; done) | (simp [*]; done)), H', ⟨Nat.le_refl _⟩, ⟨by (with_reducible repeat (first | apply Kd.R_alloc | apply Kd.R_drewN | apply Kd.R_drew)); exact HO212.out⟩, ⟨by repeat (first | (with_reducible first | exact HB.out | apply below_alloc | apply pw_below_drewN | apply below_drew1) | exact HB.out)⟩⟩
                  case round =>
                    clear H'
                    try clear c1
                    try clear p1
                    try clear q1
                    try clear hx1
                    try clear c2
                    try clear p2
                    try clear q2
                    try clear hx2
                    try clear c4
                    try clear c4b0
                    try clear c5
                    try clear c6
                    try clear c6b0
                    try clear c6b1
                    try clear p6
                    try clear c7
                    try clear c7b0
                    try clear c7b1
                    try clear c7b2
                    try clear c8
                    try clear c8b0
                    try clear c9
                    try clear c9b0
                    try clear c11
                    try clear c13
                    try clear c13b0
                    try clear c13b1
                    try clear c14
                    try clear p19
                    try clear q19
                    try clear hx19
                    try clear p20
                    try clear q20
                    try clear hx20
                    try clear c21
                    try clear hx198_0
                    try clear hx198_1
                    try clear hx198_2
                    try clear hx198_3
                    try clear hx200_0
                    try clear hx200_1
                    try clear hx200_2
                    try clear hx200_3
                    try clear hx208_0
                    try clear hx208_1
                    try clear hx208_2
                    try clear hx208_3
                    try clear p198
                    try clear p2
                    try clear p200
                    try clear p208
                    try clear q198
                    try clear q200
                    try clear q208
                    obtain ⟨x12_3, x13_3, rfl, rfl, HA, HK3, HO_11, HB⟩ := hrel
                    cases gk with
                    | zero => exact absurd HA.out (by simp [prompterref14_Look.l1])
                    | succ k3 =>
                      have H := HA.out
                      clear HA
                      simp only [prompterref14_Look.l1] at H
                      have HC22 := Aside0.mk H
                      clear H
                      go_upto_region 17 with (fail)
                      go_cut [72] (fun v72 wc => ∃ (kq : Nat) (x72_21 : Bool), v72 = .bool x72_21 ∧ Aside0 (prompterref14_Look.j3 kq l0 x9_2 t209 x12_3 x13_3 x72_21 = some (r1, r2, r3, r4, r5)) ∧ Aside0 (kq ≤ k3) ∧ Aside0 (Kd.R (Kd.int .i64) 3 wc w.heap.size (fun _ => True) v211 t209) ∧ Aside0 (Below w.heap.size w wc))
                      case first =>
                        have H := HC22.out
                        clear HC22
                        by_cases c23 : x13_3 < (l0.length : Int)
                        · rw [if_pos c23] at H
                          have c23b0 : decide (x13_3 < (l0.length : Int)) = true := decide_eq_true c23
                          clear c23
                          (first | rw [c23b0] | (simp only [i64_w, i32_w]; rw [c23b0]) | skip)
                          have H' := Aside0.mk H
                          clear H
                          go_wp2
                          go_meet
                          case rel => exact ⟨_, (decide (x12_3 < 0)), (by first | rfl | (simp; done) | (simp [*]; done)), H', ⟨by have := HJ2.out; have := HK2.out; have := HK3.out; first | omega | exact Nat.le_refl _⟩, ⟨by (with_reducible repeat (first | apply Kd.R_alloc | apply Kd.R_drewN | apply Kd.R_drew)); exact HO_11.out⟩, ⟨by repeat (first | (with_reducible first | exact HB.out | apply below_alloc | apply pw_below_drewN | apply below_drew1) | exact HB.out)⟩⟩
                        · rw [if_neg c23] at H
                          have c23b0 : decide (x13_3 < (l0.length : Int)) = false := decide_eq_false c23
                          clear c23
                          (first | rw [c23b0] | (simp only [i64_w, i32_w]; rw [c23b0]) | skip)
                          have H' := Aside0.mk H
                          clear H
                          go_wp2
                          go_meet
                          case rel => exact ⟨_, (false), (by first | rfl | (simp; done) | (simp [*]; done)), H', ⟨by have := HJ2.out; have := HK2.out; have := HK3.out; first | omega | exact Nat.le_refl _⟩, ⟨by (with_reducible repeat (first | apply Kd.R_alloc | apply Kd.R_drewN | apply Kd.R_drew)); exact HO_11.out⟩, ⟨by repeat (first | (with_reducible first | exact HB.out | apply below_alloc | apply pw_below_drewN | apply below_drew1) | exact HB.out)⟩⟩
                      case rest =>
                        clear HC22
                        try clear c1
                        try clear p1
                        try clear q1
                        try clear hx1
                        try clear c2
                        try clear p2
                        try clear q2
                        try clear hx2
                        try clear c4
                        try clear c4b0
                        try clear c5
                        try clear c6
                        try clear c6b0
                        try clear c6b1
                        try clear p6
                        try clear c7
                        try clear c7b0
                        try clear c7b1
                        try clear c7b2
                        try clear c8
                        try clear c8b0
                        try clear c9
                        try clear c9b0
                        try clear c11
                        try clear c13
                        try clear c13b0
                        try clear c13b1
                        try clear c14
                        try clear p19
                        try clear q19
                        try clear hx19
                        try clear p20
                        try clear q20
                        try clear hx20
                        try clear c21
                        try clear c22
                        try clear c23
                        try clear c23b0
                        try clear hx198_0
                        try clear hx198_1
                        try clear hx198_2
                        try clear hx198_3
                        try clear hx200_0
                        try clear hx200_1
                        try clear hx200_2
                        try clear hx200_3
                        try clear hx208_0
                        try clear hx208_1
                        try clear hx208_2
                        try clear hx208_3
                        try clear p1
                        try clear p19
                        try clear p198
                        try clear p2
                        try clear p20
                        try clear p200
                        try clear p208
                        try clear p6
                        try clear q1
                        try clear q19
                        try clear q198
                        try clear q2
                        try clear q20
                        try clear q200
                        try clear q208
                        obtain ⟨kq, x72_21, rfl, HA, HJ21, HO_11, HB⟩ := hcut
                        cases kq with
                        | zero => exact absurd HA.out (by simp [prompterref14_Look.j3])
                        | succ kj21 =>
                          have H := HA.out
                          clear HA
                          simp only [prompterref14_Look.j3] at H
                          by_cases c24 : x72_21 = true
                          · subst c24
                            have H1 : (if 0 ≤ x13_3 then (if x13_3 < (t209.length : Int) then (if (rd t209 x13_3) ≥ 0 then ((prompterref14_Circle.f kj21 l0 x13_3).bind fun t214 => (if t214 = true then (prompterref14_Look.l1 kj21 l0 x9_2 t209 x13_3 (wrap64 (x13_3 + 1))) else (prompterref14_Look.l1 kj21 l0 x9_2 t209 x12_3 (wrap64 (x13_3 + 1))))) else (prompterref14_Look.l1 kj21 l0 x9_2 t209 x12_3 (wrap64 (x13_3 + 1)))) else (none)) else (none)) = some (r1, r2, r3, r4, r5) := by rw [if_pos rfl] at H; exact H
                            clear H
                            have H := H1
                            clear H1
                            by_cases c25 : 0 ≤ x13_3
                            · rw [if_pos c25] at H
                              have c25b0 : decide (0 ≤ x13_3) = true := decide_eq_true c25
                              clear c25
                              by_cases c26 : x13_3 < (t209.length : Int)
                              · rw [if_pos c26] at H
                                have c26b0 : decide (x13_3 < (t209.length : Int)) = true := decide_eq_true c26
                                clear c26
                                by_cases c27 : (rd t209 x13_3) ≥ 0
                                · rw [if_pos c27] at H
                                  have c27b0 : decide (0 ≤ (rd t209 x13_3)) = true := decide_eq_true c27
                                  clear c27
                                  replace H := Option.bind_eq_some_iff.mp H
                                  obtain ⟨t214, A280, H⟩ := H
                                  replace H : (if t214 = true then (prompterref14_Look.l1 kj21 l0 x9_2 t209 x13_3 (wrap64 (x13_3 + 1))) else (prompterref14_Look.l1 kj21 l0 x9_2 t209 x12_3 (wrap64 (x13_3 + 1)))) = some (r1, r2, r3, r4, r5) := H
                                  have A28 := Aside0.mk A280
                                  clear A280
                                  by_cases c29 : t214 = true
                                  · subst c29
                                    have H1 : (prompterref14_Look.l1 kj21 l0 x9_2 t209 x13_3 (wrap64 (x13_3 + 1))) = some (r1, r2, r3, r4, r5) := by rw [if_pos rfl] at H; exact H
                                    clear H
                                    have H := H1
                                    clear H1
                                    have H' := Aside0.mk H
                                    clear H
                                    obtain ⟨Ao30, co30, eo30⟩ := Kd.R_slice HO_11.out
                                    subst eo30
                                    have p213 : 0 ≤ (x13_3 : Int) := of_decide_eq_true (by first | (with_reducible assumption) | assumption)
                                    have q213 : x13_3 < (t209.length : Int) := of_decide_eq_true (by first | (with_reducible assumption) | assumption)
                                    obtain ⟨ad213, e213, hx213_0⟩ := Kd.at_int (Kd.R_reads' HO_11.out).2.2 x13_3 p213 q213
                                    cases e213
                                    replace p213 := eq_true p213
                                    replace q213 := eq_true q213
                                    go_wp2_with (first | (go_at_call 23; (with_reducible refine (prompterref14_Circle.calls kj21 _ _ l0 x13_3 true _ ?side1 ?side2 A28.out).mono ?_); (case side1 => repeat (first | exact (Kd.C_below HR0.out HB.out) | (with_reducible refine Kd.C_alloc ?_ _) | (with_reducible refine Kd.C_drewN ?_ _) | (with_reducible refine Kd.C_drew ?_))); (case side2 => exact HC0.out); rintro e w' ⟨rfl, ⟨nd, rfl⟩⟩))
                                    go_roundg kj21
                                    case measure => have := HJ2.out; have := HK2.out; have := HK3.out; have := HJ21.out; omega
                                    case rel => exact ⟨(x13_3), (wrap64 (x13_3 + 1)), (by first | rfl | (simp; done) | (simp [*]; done)), (by first | rfl | (simp; done) | (simp [*]; done)), H', ⟨by have := HJ2.out; have := HK2.out; have := HK3.out; have := HJ21.out; omega⟩, ⟨by (with_reducible repeat (first | apply Kd.R_alloc | apply Kd.R_drewN | apply Kd.R_drew)); exact HO_11.out⟩, ⟨by repeat (first | (with_reducible first | exact HB.out | apply below_alloc | apply pw_below_drewN | apply below_drew1) | exact HB.out)⟩⟩
                                  · replace c29 := Bool.eq_false_iff.mpr c29
                                    subst c29
                                    have H1 : (prompterref14_Look.l1 kj21 l0 x9_2 t209 x12_3 (wrap64 (x13_3 + 1))) = some (r1, r2, r3, r4, r5) := by rw [if_neg (show ¬ (false = true) by decide)] at H; exact H
                                    clear H
                                    have H := H1
                                    clear H1
                                    have H' := Aside0.mk H
                                    clear H
                                    obtain ⟨Ao31, co31, eo31⟩ := Kd.R_slice HO_11.out
                                    subst eo31
                                    have p213 : 0 ≤ (x13_3 : Int) := of_decide_eq_true (by first | (with_reducible assumption) | assumption)
                                    have q213 : x13_3 < (t209.length : Int) := of_decide_eq_true (by first | (with_reducible assumption) | assumption)
                                    obtain ⟨ad213, e213, hx213_0⟩ := Kd.at_int (Kd.R_reads' HO_11.out).2.2 x13_3 p213 q213
                                    cases e213
                                    replace p213 := eq_true p213
                                    replace q213 := eq_true q213
                                    go_wp2_with (first | (go_at_call 23; (with_reducible refine (prompterref14_Circle.calls kj21 _ _ l0 x13_3 false _ ?side1 ?side2 A28.out).mono ?_); (case side1 => repeat (first | exact (Kd.C_below HR0.out HB.out) | (with_reducible refine Kd.C_alloc ?_ _) | (with_reducible refine Kd.C_drewN ?_ _) | (with_reducible refine Kd.C_drew ?_))); (case side2 => exact HC0.out); rintro e w' ⟨rfl, ⟨nd, rfl⟩⟩))
                                    go_roundg kj21
                                    case measure => have := HJ2.out; have := HK2.out; have := HK3.out; have := HJ21.out; omega
                                    case rel => exact ⟨(x12_3), (wrap64 (x13_3 + 1)), (by first | rfl | (simp; done) | (simp [*]; done)), (by first | rfl | (simp; done) | (simp [*]; done)), H', ⟨by have := HJ2.out; have := HK2.out; have := HK3.out; have := HJ21.out; omega⟩, ⟨by (with_reducible repeat (first | apply Kd.R_alloc | apply Kd.R_drewN | apply Kd.R_drew)); exact HO_11.out⟩, ⟨by repeat (first | (with_reducible first | exact HB.out | apply below_alloc | apply pw_below_drewN | apply below_drew1) | exact HB.out)⟩⟩
                                · rw [if_neg c27] at H
                                  have c27b0 : decide (0 ≤ (rd t209 x13_3)) = false := decide_eq_false c27
                                  clear c27
                                  have H' := Aside0.mk H
                                  clear H
                                  obtain ⟨Ao32, co32, eo32⟩ := Kd.R_slice HO_11.out
                                  subst eo32
                                  have p213 : 0 ≤ (x13_3 : Int) := of_decide_eq_true (by first | (with_reducible assumption) | assumption)
                                  have q213 : x13_3 < (t209.length : Int) := of_decide_eq_true (by first | (with_reducible assumption) | assumption)
                                  obtain ⟨ad213, e213, hx213_0⟩ := Kd.at_int (Kd.R_reads' HO_11.out).2.2 x13_3 p213 q213
                                  cases e213
                                  replace p213 := eq_true p213
                                  replace q213 := eq_true q213
                                  go_wp2
                                  go_roundg kj21
                                  case measure => have := HJ2.out; have := HK2.out; have := HK3.out; have := HJ21.out; omega
                                  case rel => exact ⟨(x12_3), (wrap64 (x13_3 + 1)), (by first | rfl | (simp; done) | (simp [*]; done)), (by first | rfl | (simp; done) | (simp [*]; done)), H', ⟨by have := HJ2.out; have := HK2.out; have := HK3.out; have := HJ21.out; omega⟩, ⟨by (with_reducible repeat (first | apply Kd.R_alloc | apply Kd.R_drewN | apply Kd.R_drew)); exact HO_11.out⟩, ⟨by repeat (first | (with_reducible first | exact HB.out | apply below_alloc | apply pw_below_drewN | apply below_drew1) | exact HB.out)⟩⟩
                              · rw [if_neg c26] at H
                                exact absurd H (by simp)
                            · rw [if_neg c25] at H
                              exact absurd H (by simp)
                          · replace c24 := Bool.eq_false_iff.mpr c24
                            subst c24
                            have H1 : (if x12_3 ≥ 0 then (some (0, 0, x12_3, ([] : List Int), 140)) else (prompterref14_Look.l2 kj21 x9_2 t209 0 0)) = some (r1, r2, r3, r4, r5) := by rw [if_neg (show ¬ (false = true) by decide)] at H; exact H
                            clear H
                            have H := H1
                            clear H1
                            by_cases c33 : x12_3 ≥ 0
                            · rw [if_pos c33] at H
                              have c33b0 : decide (0 ≤ x12_3) = true := decide_eq_true c33
                              clear c33
                              simp only [Option.some.injEq, Prod.mk.injEq] at H
                              obtain ⟨rfl, rfl, rfl, rfl, rfl⟩ := H
                              go_wp2
                              refine bodyPost_ret (results_list (rs := [.tmp 4, .tmp 5, .tmp 6, .tmp 7, .tmp 8]) rfl (by simp) (.tmp (.tmp (.tmp (.tmp (.tmp .nil)))))) rfl ?_
                              exact ⟨_, by first | rfl | (simp [errW_none, errW_some] <;> rfl) | (simp [*, errW_none, errW_some] <;> rfl), by first | exact Kd.R_nil _ _ _ _ _ | exact Kd.N_nil _ _ _ _ _ | exact Kd.V_nil _ _ _ _ _ | exact Kd.Q_nil _ _ _ _ _ | exact Kd.S_nil _ _ _ _ _, by repeat (first | (with_reducible first | exact HB.out | apply below_alloc | apply pw_below_drewN | apply below_drew1) | exact HB.out)⟩
                            · rw [if_neg c33] at H
                              have c33b0 : decide (0 ≤ x12_3) = false := decide_eq_false c33
                              clear c33
                              have H' := Aside0.mk H
                              clear H
                              go_wp2
                              go_loopg [14, 15] kj21 (fun kq v14 v15 w' => ∃ (x14_5 : Int) (x15_5 : Int), v14 = .int .i64 x14_5 ∧ v15 = .int .i64 x15_5 ∧ Aside0 (prompterref14_Look.l2 kq x9_2 t209 x14_5 x15_5 = some (r1, r2, r3, r4, r5)) ∧ Aside0 (kq ≤ kj21) ∧ Aside0 (Kd.R (Kd.int .i64) 3 w' w.heap.size (fun _ => True) v211 t209) ∧ Aside0 (Below w.heap.size w w'))
                              case atStart => exact ⟨(0), (0), (by first | rfl | (simp; done) | (simp [*]; done)), (by first | rfl | (simp; done) | (simp [*]; done)), H', ⟨Nat.le_refl _⟩, ⟨by (with_reducible repeat (first | apply Kd.R_alloc | apply Kd.R_drewN | apply Kd.R_drew)); exact HO_11.out⟩, ⟨by repeat (first | (with_reducible first | exact HB.out | apply below_alloc | apply pw_below_drewN | apply below_drew1) | exact HB.out)⟩⟩
                              case round =>
                                clear H'
                                try clear c1
                                try clear p1
                                try clear q1
                                try clear hx1
                                try clear c2
                                try clear p2
                                try clear q2
                                try clear hx2
                                try clear c3
                                try clear c4
                                try clear c4b0
                                try clear c5
                                try clear c6
                                try clear c6b0
                                try clear c6b1
                                try clear p6
                                try clear c7
                                try clear c7b0
                                try clear c7b1
                                try clear c7b2
                                try clear c8
                                try clear c8b0
                                try clear c9
                                try clear c9b0
                                try clear c11
                                try clear c13
                                try clear c13b0
                                try clear c13b1
                                try clear c14
                                try clear p19
                                try clear q19
                                try clear hx19
                                try clear p20
                                try clear q20
                                try clear hx20
                                try clear c21
                                try clear p21
                                try clear q21
                                try clear hx21
                                try clear c22
                                try clear c23
                                try clear c23b0
                                try clear c24
                                try clear c25
                                try clear c25b0
                                try clear c26
                                try clear c26b0
                                try clear c27
                                try clear c27b0
                                try clear c29
                                try clear c33
                                try clear c33b0
                                try clear hx198_0
                                try clear hx198_1
                                try clear hx198_2
                                try clear hx198_3
                                try clear hx200_0
                                try clear hx200_1
                                try clear hx200_2
                                try clear hx200_3
                                try clear hx208_0
                                try clear hx208_1
                                try clear hx208_2
                                try clear hx208_3
                                try clear hx213_0
                                try clear p1
                                try clear p19
                                try clear p198
                                try clear p2
                                try clear p20
                                try clear p200
                                try clear p208
                                try clear p213
                                try clear p6
                                try clear q1
                                try clear q19
                                try clear q198
                                try clear q2
                                try clear q20
                                try clear q200
                                try clear q208
                                try clear q213
                                obtain ⟨x14_5, x15_5, rfl, rfl, HA, HK5, HO_11, HB⟩ := hrel
                                cases gk with
                                | zero => exact absurd HA.out (by simp [prompterref14_Look.l2])
                                | succ k5 =>
                                  have H := HA.out
                                  clear HA
                                  simp only [prompterref14_Look.l2] at H
                                  by_cases c34 : x15_5 < (t209.length : Int)
                                  · rw [if_pos c34] at H
                                    have c34b0 : decide (x15_5 < (t209.length : Int)) = true := decide_eq_true c34
                                    clear c34
                                    by_cases c35 : 0 ≤ x15_5
                                    · rw [if_pos c35] at H
                                      have c35b0 : decide (0 ≤ x15_5) = true := decide_eq_true c35
                                      clear c35
                                      obtain ⟨ji36, hji36⟩ : ∃ j_ : Int, (mx x14_5 (rd t209 x15_5)) = j_ := ⟨_, rfl⟩
                                      replace H : (prompterref14_Look.l2 k5 x9_2 t209 ji36 (wrap64 (x15_5 + 1))) = some (r1, r2, r3, r4, r5) := by first | (rw [hji36] at H; exact H) | (simp only [hji36] at H ⊢; exact H)
                                      have hji36_ : (if x14_5 < (rd t209 x15_5) then (rd t209 x15_5) else x14_5) = ji36 := hji36
                                      have H' := Aside0.mk H
                                      clear H
                                      obtain ⟨Ao37, co37, eo37⟩ := Kd.R_slice HO_11.out
                                      subst eo37
                                      have p215 : 0 ≤ (x15_5 : Int) := of_decide_eq_true (by first | (with_reducible assumption) | assumption)
                                      have q215 : x15_5 < (t209.length : Int) := of_decide_eq_true (by first | (with_reducible assumption) | assumption)
                                      obtain ⟨ad215, e215, hx215_0⟩ := Kd.at_int (Kd.R_reads' HO_11.out).2.2 x15_5 p215 q215
                                      cases e215
                                      replace p215 := eq_true p215
                                      replace q215 := eq_true q215
                                      go_wp2
                                      go_roundg k5
                                      case measure => have := HJ2.out; have := HK2.out; have := HK3.out; have := HJ21.out; have := HK5.out; omega
                                      case rel => exact ⟨(ji36), (wrap64 (x15_5 + 1)), (by first | rfl | (simp; done) | (simp only [← hji36] <;> (first | rfl | simp)) | (simp [*]; done)), (by first | rfl | (simp; done) | (simp [*]; done)), H', ⟨by have := HJ2.out; have := HK2.out; have := HK3.out; have := HJ21.out; have := HK5.out; omega⟩, ⟨by (with_reducible repeat (first | apply Kd.R_alloc | apply Kd.R_drewN | apply Kd.R_drew)); exact HO_11.out⟩, ⟨by repeat (first | (with_reducible first | exact HB.out | apply below_alloc | apply pw_below_drewN | apply below_drew1) | exact HB.out)⟩⟩
                                    · rw [if_neg c35] at H
                                      exact absurd H (by simp)
                                  · rw [if_neg c34] at H
                                    have c34b0 : decide (x15_5 < (t209.length : Int)) = false := decide_eq_false c34
                                    clear c34
                                    simp only [Option.some.injEq, Prod.mk.injEq] at H
                                    obtain ⟨rfl, rfl, rfl, rfl, rfl⟩ := H
                                    obtain ⟨Ao38, co38, eo38⟩ := Kd.R_slice HO_11.out
                                    subst eo38
                                    go_wp2
                                    refine bodyPost_ret (results_list (rs := [.tmp 4, .tmp 5, .tmp 6, .tmp 7, .tmp 8]) rfl (by simp) (.tmp (.tmp (.tmp (.tmp (.tmp .nil)))))) rfl ?_
                                    exact ⟨_, by first | rfl | (simp [errW_none, errW_some] <;> rfl) | (simp [*, errW_none, errW_some] <;> rfl), by (with_reducible repeat (first | apply Kd.R_alloc | apply Kd.R_drewN | apply Kd.R_drew)); exact HO_11.out, by repeat (first | (with_reducible first | exact HB.out | apply below_alloc | apply pw_below_drewN | apply below_drew1) | exact HB.out)⟩

end Go.Proofs.Ytcpjjnikehcleaa.PChk
