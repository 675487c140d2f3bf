-- Written by a program of this session, out of the translation, with what this session proved by hand taken in.
import Derived.Test.YtcpjjnikehcleaaPChkx0
import Derived.Test.YtcpjjnikehcleaaTb
import Derived.Test.YtcpjjnikehcleaaPChkx8
import Derived.Test.YtcpjjnikehcleaaPChkx9
namespace Go.Proofs.Ytcpjjnikehcleaa.PChk
open Go.RowKit Go.Proofs.YtcpjjnikehcleaaW.PrintWords Go.Proofs.YtcpjjnikehcleaaW.PrintLast Go.Proofs.YtcpjjnikehcleaaW.PrintMore
attribute [local go_sem] max2_int min2_int max_two min_two max_three min_three max_four min_four   -- for this text's walks alone
set_option linter.unusedVariables false
set_option linter.unusedSimpArgs false

/-! ### prompterref14_Fits: function 22 -/
mutual
def prompterref14_Fits.l0 : Nat → List (S36) → List Int → List Bool → Int → Option (List Int × Int)
  | 0, _, _, _, _ => none
  | k + 1, x0, x4, x5, x6 => if x6 < (x4.length : Int) then (if 0 ≤ x6 then (prompterref14_Fits.l0 k x0 (x4.set (x6 : Int).toNat (-1)) x5 (wrap64 (x6 + 1))) else (none)) else (if 0 < (x4.length : Int) then (prompterref14_Fits.l1 k x0 (x4.set (0 : Int).toNat 0) x5 0) else (none))
def prompterref14_Fits.l1 : Nat → List (S36) → List Int → List Bool → Int → Option (List Int × Int)
  | 0, _, _, _, _ => none
  | k + 1, x0, x4, x5, x7 => if x7 < (x0.length : Int) then (if 0 ≤ x7 then (if x7 < (x4.length : Int) then (if (rd x4 x7) < 0 then (prompterref14_Fits.j2 k x0 x4 x5 x7 true) else (if x7 < (x5.length : Int) then (prompterref14_Fits.j2 k x0 x4 x5 x7 (rdOf false x5 x7)) else (none))) else (none)) else (none)) else (some (x4, (-1)))
def prompterref14_Fits.j2 : Nat → List (S36) → List Int → List Bool → Int → Bool → Option (List Int × Int)
  | 0, _, _, _, _, _ => none
  | k + 1, x0, x4, x5, x7, x43 => if x43 = true then (prompterref14_Fits.l1 k x0 x4 x5 (wrap64 (x7 + 1))) else (if 0 ≤ x7 then (if x7 < (x5.length : Int) then ((some (x5.set (x7 : Int).toNat true : List Bool)).bind fun y170 => (if x7 < (x0.length : Int) then ((prompterref14_Ends.f ((rd_T36 x0 x7).f0)).bind fun t173 => (if t173 = true then (if x7 < (x4.length : Int) then ((prompterref14_Takes.f k ((rd_T36 x0 x7).f0) ((rd_T36 x0 x7).f1) ((rd_T36 x0 x7).f2) ((rd_T36 x0 x7).f3)).bind fun t175 => (if (rd x4 x7) = t175 then (prompterref14_Fits.l1 k x0 x4 y170 x7) else (some (x4, x7)))) else (none)) else (if x7 < (x4.length : Int) then ((prompterref14_Takes.f k ((rd_T36 x0 x7).f0) ((rd_T36 x0 x7).f1) ((rd_T36 x0 x7).f2) ((rd_T36 x0 x7).f3)).bind fun t177 => (if (rd x4 x7) < t177 then (some (x4, x7)) else ((prompterref14_Behind.f k ((rd_T36 x0 x7).f0) ((rd_T36 x0 x7).f1) ((rd_T36 x0 x7).f2) ((rd_T36 x0 x7).f3) (rd x4 x7)).bind fun bt179 => ((prompterref14_Of.f k ((rd_T36 x0 x7).f0)).bind fun bt181 => (if bt181.2.1 = 1 then (if 0 ≤ ((rd_T36 x0 x7).f1) then (if ((rd_T36 x0 x7).f1) < (x4.length : Int) then (if (rd x4 ((rd_T36 x0 x7).f1)) < 0 then ((some (x4.set (((rd_T36 x0 x7).f1) : Int).toNat bt179.1 : List Int)).bind fun y189 => (if (rd y189 ((rd_T36 x0 x7).f1)) = bt179.1 then (prompterref14_Fits.j3 k x0 y189 y170 (mn x7 ((rd_T36 x0 x7).f1)) bt179.2 x7 ((rd_T36 x0 x7).f0) ((rd_T36 x0 x7).f1) ((rd_T36 x0 x7).f2) ((rd_T36 x0 x7).f3)) else (some (y189, x7)))) else (if (rd x4 ((rd_T36 x0 x7).f1)) = bt179.1 then (prompterref14_Fits.j3 k x0 x4 y170 x7 bt179.2 x7 ((rd_T36 x0 x7).f0) ((rd_T36 x0 x7).f1) ((rd_T36 x0 x7).f2) ((rd_T36 x0 x7).f3)) else (some (x4, x7)))) else (none)) else (none)) else (prompterref14_Fits.j3 k x0 x4 y170 x7 bt179.2 x7 ((rd_T36 x0 x7).f0) ((rd_T36 x0 x7).f1) ((rd_T36 x0 x7).f2) ((rd_T36 x0 x7).f3))))))) else (none)))) else (none))) else (none)) else (none))
def prompterref14_Fits.j3 : Nat → List (S36) → List Int → List Bool → Int → Int → Int → Int → Int → Int → ByteArray → Option (List Int × Int)
  | 0, _, _, _, _, _, _, _, _, _, _ => none
  | k + 1, x0, x4, x5, x7, x10, x11, x173000, x173001, x173002, x173003 => if x173000 = 1 then (prompterref14_Fits.l1 k x0 x4 x5 x7) else (if (wrap64 (x11 + 1)) = (x0.length : Int) then (some (x4, x11)) else (if 0 ≤ (wrap64 (x11 + 1)) then (if (wrap64 (x11 + 1)) < (x4.length : Int) then (if (rd x4 (wrap64 (x11 + 1))) < 0 then ((some (x4.set ((wrap64 (x11 + 1)) : Int).toNat x10 : List Int)).bind fun y193 => (if (rd y193 (wrap64 (x11 + 1))) = x10 then (prompterref14_Fits.l1 k x0 y193 x5 x7) else (some (y193, x11)))) else (if (rd x4 (wrap64 (x11 + 1))) = x10 then (prompterref14_Fits.l1 k x0 x4 x5 x7) else (some (x4, x11)))) else (none)) else (none)))
end
def prompterref14_Fits.f (k : Nat) (l0 : List (S36)) : Option (List Int × Int) := if 0 ≤ (l0.length : Int) then (if ((l0.length : Int) : Int).toNat ≤ 35184372088832 then (if ((l0.length : Int) : Int).toNat ≤ 281474976710656 then (prompterref14_Fits.l0 k l0 (List.replicate ((l0.length : Int) : Int).toNat 0) (List.replicate ((l0.length : Int) : Int).toNat false) 0) else (none)) else (none)) else (none)
theorem prompterref14_Fits.mono_l : ∀ k, (∀ y0 y1 y2 y3, LeO (prompterref14_Fits.l0 k y0 y1 y2 y3) (prompterref14_Fits.l0 (k + 1) y0 y1 y2 y3)) ∧ (∀ y0 y1 y2 y3, LeO (prompterref14_Fits.l1 k y0 y1 y2 y3) (prompterref14_Fits.l1 (k + 1) y0 y1 y2 y3)) ∧ (∀ y0 y1 y2 y3 y4, LeO (prompterref14_Fits.j2 k y0 y1 y2 y3 y4) (prompterref14_Fits.j2 (k + 1) y0 y1 y2 y3 y4)) ∧ (∀ y0 y1 y2 y3 y4 y5 y6 y7 y8 y9, LeO (prompterref14_Fits.j3 k y0 y1 y2 y3 y4 y5 y6 y7 y8 y9) (prompterref14_Fits.j3 (k + 1) y0 y1 y2 y3 y4 y5 y6 y7 y8 y9))
  | 0 => ⟨fun _ _ _ _ r h => by simp [prompterref14_Fits.l0] at h, fun _ _ _ _ r h => by simp [prompterref14_Fits.l1] at h, fun _ _ _ _ _ r h => by simp [prompterref14_Fits.j2] at h, fun _ _ _ _ _ _ _ _ _ _ r h => by simp [prompterref14_Fits.j3] at h⟩
  | k + 1 => by
    obtain ⟨ih0, ih1, ih2, ih3⟩ := prompterref14_Fits.mono_l k
    refine ⟨?_, ?_, ?_, ?_⟩
    · intro y0 y1 y2 y3
      unfold prompterref14_Fits.l0
      repeat' first
      | (with_reducible exact ih0 _ _ _ _)
      | (with_reducible exact ih1 _ _ _ _)
      | (with_reducible exact ih2 _ _ _ _ _)
      | (with_reducible exact ih3 _ _ _ _ _ _ _ _ _ _)
      | (with_reducible exact prompterref14_Behind.mono _ _ _ _ _ _)
      | (with_reducible exact prompterref14_Of.mono _ _)
      | (with_reducible exact prompterref14_Takes.mono _ _ _ _ _)
      | (with_reducible exact LeO.refl _)
      | (with_reducible exact LeO.none _)
      | (with_reducible refine LeO.ite ?_ ?_)
      | (with_reducible refine LeO.bind ?_ (fun _ => ?_))
      | exact ih0 _ _ _ _
      | exact ih1 _ _ _ _
      | exact ih2 _ _ _ _ _
      | exact ih3 _ _ _ _ _ _ _ _ _ _
      | exact prompterref14_Behind.mono _ _ _ _ _ _
      | exact prompterref14_Of.mono _ _
      | exact prompterref14_Takes.mono _ _ _ _ _
      | exact LeO.none _
      | refine LeO.ite ?_ ?_
      | refine LeO.bind ?_ (fun _ => ?_)
    · intro y0 y1 y2 y3
      unfold prompterref14_Fits.l1
      repeat' first
      | (with_reducible exact ih0 _ _ _ _)
      | (with_reducible exact ih1 _ _ _ _)
      | (with_reducible exact ih2 _ _ _ _ _)
      | (with_reducible exact ih3 _ _ _ _ _ _ _ _ _ _)
      | (with_reducible exact prompterref14_Behind.mono _ _ _ _ _ _)
      | (with_reducible exact prompterref14_Of.mono _ _)
      | (with_reducible exact prompterref14_Takes.mono _ _ _ _ _)
      | (with_reducible exact LeO.refl _)
      | (with_reducible exact LeO.none _)
      | (with_reducible refine LeO.ite ?_ ?_)
      | (with_reducible refine LeO.bind ?_ (fun _ => ?_))
      | exact ih0 _ _ _ _
      | exact ih1 _ _ _ _
      | exact ih2 _ _ _ _ _
      | exact ih3 _ _ _ _ _ _ _ _ _ _
      | exact prompterref14_Behind.mono _ _ _ _ _ _
      | exact prompterref14_Of.mono _ _
      | exact prompterref14_Takes.mono _ _ _ _ _
      | exact LeO.none _
      | refine LeO.ite ?_ ?_
      | refine LeO.bind ?_ (fun _ => ?_)
    · intro y0 y1 y2 y3 y4
      unfold prompterref14_Fits.j2
      repeat' first
      | (with_reducible exact ih0 _ _ _ _)
      | (with_reducible exact ih1 _ _ _ _)
      | (with_reducible exact ih2 _ _ _ _ _)
      | (with_reducible exact ih3 _ _ _ _ _ _ _ _ _ _)
      | (with_reducible exact prompterref14_Behind.mono _ _ _ _ _ _)
      | (with_reducible exact prompterref14_Of.mono _ _)
      | (with_reducible exact prompterref14_Takes.mono _ _ _ _ _)
      | (with_reducible exact LeO.refl _)
      | (with_reducible exact LeO.none _)
      | (with_reducible refine LeO.ite ?_ ?_)
      | (with_reducible refine LeO.bind ?_ (fun _ => ?_))
      | exact ih0 _ _ _ _
      | exact ih1 _ _ _ _
      | exact ih2 _ _ _ _ _
      | exact ih3 _ _ _ _ _ _ _ _ _ _
      | exact prompterref14_Behind.mono _ _ _ _ _ _
      | exact prompterref14_Of.mono _ _
      | exact prompterref14_Takes.mono _ _ _ _ _
      | exact LeO.none _
      | refine LeO.ite ?_ ?_
      | refine LeO.bind ?_ (fun _ => ?_)
    · intro y0 y1 y2 y3 y4 y5 y6 y7 y8 y9
      unfold prompterref14_Fits.j3
      repeat' first
      | (with_reducible exact ih0 _ _ _ _)
      | (with_reducible exact ih1 _ _ _ _)
      | (with_reducible exact ih2 _ _ _ _ _)
      | (with_reducible exact ih3 _ _ _ _ _ _ _ _ _ _)
      | (with_reducible exact prompterref14_Behind.mono _ _ _ _ _ _)
      | (with_reducible exact prompterref14_Of.mono _ _)
      | (with_reducible exact prompterref14_Takes.mono _ _ _ _ _)
      | (with_reducible exact LeO.refl _)
      | (with_reducible exact LeO.none _)
      | (with_reducible refine LeO.ite ?_ ?_)
      | (with_reducible refine LeO.bind ?_ (fun _ => ?_))
      | exact ih0 _ _ _ _
      | exact ih1 _ _ _ _
      | exact ih2 _ _ _ _ _
      | exact ih3 _ _ _ _ _ _ _ _ _ _
      | exact prompterref14_Behind.mono _ _ _ _ _ _
      | exact prompterref14_Of.mono _ _
      | exact prompterref14_Takes.mono _ _ _ _ _
      | exact LeO.none _
      | refine LeO.ite ?_ ?_
      | refine LeO.bind ?_ (fun _ => ?_)
theorem prompterref14_Fits.mono : ∀ a0 k, LeO (prompterref14_Fits.f k a0) (prompterref14_Fits.f (k + 1) a0) := by
  intro a0 k
  obtain ⟨ih0, ih1, ih2, ih3⟩ := prompterref14_Fits.mono_l k
  unfold prompterref14_Fits.f
  repeat' first
      | (with_reducible exact ih0 _ _ _ _)
      | (with_reducible exact ih1 _ _ _ _)
      | (with_reducible exact ih2 _ _ _ _ _)
      | (with_reducible exact ih3 _ _ _ _ _ _ _ _ _ _)
      | (with_reducible exact prompterref14_Behind.mono _ _ _ _ _ _)
      | (with_reducible exact prompterref14_Of.mono _ _)
      | (with_reducible exact prompterref14_Takes.mono _ _ _ _ _)
      | (with_reducible exact LeO.refl _)
      | (with_reducible exact LeO.none _)
      | (with_reducible refine LeO.ite ?_ ?_)
      | (with_reducible refine LeO.bind ?_ (fun _ => ?_))
      | exact ih0 _ _ _ _
      | exact ih1 _ _ _ _
      | exact ih2 _ _ _ _ _
      | exact ih3 _ _ _ _ _ _ _ _ _ _
      | exact prompterref14_Behind.mono _ _ _ _ _ _
      | exact prompterref14_Of.mono _ _
      | exact prompterref14_Takes.mono _ _ _ _ _
      | exact LeO.none _
      | refine LeO.ite ?_ ?_
      | refine LeO.bind ?_ (fun _ => ?_)
def prompterref14_Fits.T19 : Bool × List (List Nat × List Nat) := (true, [([], []), ([], []), ([], []), ([1, 2], [1, 2]), ([3], [3]), ([0, 4], [0, 4]), ([5], [5]), ([6], [6]), ([6], [6]), ([7, 5, 0, 1, 2, 3, 4, 5, 6, 7], [7]), ([8, 9, 0, 1, 2, 3, 4, 5, 6, 7, 8, 9], [8])])
def prompterref14_Fits.B19 : List Nat := [0, 0, 0, 6, 14, 31, 63, 127, 127, 255, 1023]
theorem prompterref14_Fits.tab19 : rtab .any (opsOf Try.f22 19) = prompterref14_Fits.T19 := by kernel_rfl
theorem prompterref14_Fits.bits19 : waitsOk prompterref14_Fits.T19.2 prompterref14_Fits.B19 = true := by kernel_rfl
set_option maxHeartbeats 8000000 in
set_option maxRecDepth 100000 in
theorem prompterref14_Fits.calls (k : Nat) (A0 : Option Addr) (c0 : Nat) (l0 : List (S36)) (r1 : List Int) (r2 : Int) (w : World) (hr0 : Kd.C k36 w A0 l0.length l0) (hc0 : l0.length ≤ c0) (h : prompterref14_Fits.f k l0 = some (r1, r2)) :
    Calls Try.prog 22 #[.slice A0 l0.length c0] w fun e w' => ∃ v0_ : Value, e = .returned (.tuple #[v0_, .int .i64 r2]) ∧ Kd.R (Kd.int .i64) 3 w' w.heap.size (fun _ => True) v0_ r1 ∧ Below w.heap.size w w' := by
  have hu36 := Try.underlying36
  have hu42 := Try.underlying42
  have hfd1 : ∀ (t1 : ByteArray) (t2 : Int) (t3 t4 t5 : Bool) (t6 t7 : Int) (w' : World), (Instr.field 42 (.agg #[.string t1, .int .i64 t2, .bool t3, .bool t4, .bool t5, .int .i64 t6, .int .i64 t7]) 1).run Try.prog w' = .ok (.int .i64 t2) w' := fun _ _ _ _ _ _ _ _ => by kernel_rfl
  have hfd2 : ∀ (t1 : ByteArray) (t2 : Int) (t3 t4 t5 : Bool) (t6 t7 : Int) (w' : World), (Instr.field 42 (.agg #[.string t1, .int .i64 t2, .bool t3, .bool t4, .bool t5, .int .i64 t6, .int .i64 t7]) 2).run Try.prog w' = .ok (.bool t3) w' := fun _ _ _ _ _ _ _ _ => by kernel_rfl
  have hfd3 : ∀ (t1 : ByteArray) (t2 : Int) (t3 t4 t5 : Bool) (t6 t7 : Int) (w' : World), (Instr.field 42 (.agg #[.string t1, .int .i64 t2, .bool t3, .bool t4, .bool t5, .int .i64 t6, .int .i64 t7]) 3).run Try.prog w' = .ok (.bool t4) w' := fun _ _ _ _ _ _ _ _ => by kernel_rfl
  have hfd4 : ∀ (t1 : ByteArray) (t2 : Int) (t3 t4 t5 : Bool) (t6 t7 : Int) (w' : World), (Instr.field 42 (.agg #[.string t1, .int .i64 t2, .bool t3, .bool t4, .bool t5, .int .i64 t6, .int .i64 t7]) 4).run Try.prog w' = .ok (.bool t5) w' := fun _ _ _ _ _ _ _ _ => by kernel_rfl
  have hfd5 : ∀ (t1 : ByteArray) (t2 : Int) (t3 t4 t5 : Bool) (t6 t7 : Int) (w' : World), (Instr.field 42 (.agg #[.string t1, .int .i64 t2, .bool t3, .bool t4, .bool t5, .int .i64 t6, .int .i64 t7]) 5).run Try.prog w' = .ok (.int .i64 t6) w' := fun _ _ _ _ _ _ _ _ => by kernel_rfl
  have hfd6 : ∀ (t1 : ByteArray) (t2 : Int) (t3 t4 t5 : Bool) (t6 t7 : Int) (w' : World), (Instr.field 42 (.agg #[.string t1, .int .i64 t2, .bool t3, .bool t4, .bool t5, .int .i64 t6, .int .i64 t7]) 6).run Try.prog w' = .ok (.int .i64 t7) w' := fun _ _ _ _ _ _ _ _ => by kernel_rfl
  have HR0 := Aside0.mk hr0
  have HC0 := Aside0.mk hc0
  clear hr0 hc0
  have HB := Aside0.mk (Below.refl w.heap.size w)
  have H : (if 0 ≤ (l0.length : Int) then (if ((l0.length : Int) : Int).toNat ≤ 35184372088832 then (if ((l0.length : Int) : Int).toNat ≤ 281474976710656 then (prompterref14_Fits.l0 k l0 (List.replicate ((l0.length : Int) : Int).toNat 0) (List.replicate ((l0.length : Int) : Int).toNat false) 0) else (none)) else (none)) else (none)) = some (r1, r2) := h
  clear h
  by_cases c2 : 0 ≤ (l0.length : Int)
  · rw [if_pos c2] at H
    have c2b0 := eq_true c2
    have c2b1 : decide (0 ≤ (l0.length : Int)) = true := decide_eq_true c2
    clear c2
    by_cases c3 : ((l0.length : Int) : Int).toNat ≤ 35184372088832
    · rw [if_pos c3] at H
      have c3b0 := eq_true c3
      have c3b1 : decide (((l0.length : Int) : Int).toNat ≤ 35184372088832) = true := decide_eq_true c3
      clear c3
      obtain ⟨y160, hy160⟩ : ∃ y_ : List Int, y_ = (List.replicate ((l0.length : Int) : Int).toNat 0) := ⟨_, rfl⟩
      replace H : (if ((l0.length : Int) : Int).toNat ≤ 281474976710656 then (prompterref14_Fits.l0 k l0 y160 (List.replicate ((l0.length : Int) : Int).toNat false) 0) else (none)) = some (r1, r2) := by first | (rw [hy160]; with_reducible exact H) | (have H2_ := (Option.bind_some _ _).symm.trans H; rw [hy160]; with_reducible exact H2_) | (have H2_ := (Option.bind_some _ _).symm.trans H; with_reducible exact H2_) | with_reducible exact H | (rw [hy160]; exact H) | exact H
      have Ny160 := Aside0.mk hy160
      clear hy160
      by_cases c4 : ((l0.length : Int) : Int).toNat ≤ 281474976710656
      · rw [if_pos c4] at H
        have c4b0 := eq_true c4
        have c4b1 : decide (((l0.length : Int) : Int).toNat ≤ 281474976710656) = true := decide_eq_true c4
        clear c4
        obtain ⟨y163, hy163⟩ : ∃ y_ : List Bool, y_ = (List.replicate ((l0.length : Int) : Int).toNat false) := ⟨_, rfl⟩
        replace H : (prompterref14_Fits.l0 k l0 y160 y163 0) = some (r1, r2) := by first | (rw [hy163]; with_reducible exact H) | (have H2_ := (Option.bind_some _ _).symm.trans H; rw [hy163]; with_reducible exact H2_) | (have H2_ := (Option.bind_some _ _).symm.trans H; with_reducible exact H2_) | with_reducible exact H | (rw [hy163]; exact H) | exact H
        have Ny163 := Aside0.mk hy163
        clear hy163
        have H' := Aside0.mk H
        clear H
        go_enter Try.func22, Try.ntmps22
        go_wp2_with (first | ((with_reducible refine gate_dst (N := 14) rfl ?_); refine Kd.R_make (Kd.int .i64) _ 3 rfl (N := 14) rfl 28 _ _ rfl (l0.length : Int) rfl rfl Try.underlying28 (.int .i64 0) 8 info3 rfl (by decide) (by omega) 0 (ok := fun _ => True) (okp := fun _ => True) rfl (fun _ hk => hk) trivial (of_decide_eq_true (by first | (with_reducible assumption) | assumption)) (Nat.le_trans (Nat.mul_le_mul_right _ (of_decide_eq_true (by first | (with_reducible assumption) | assumption) : (l0.length : Int).toNat ≤ 35184372088832)) (by omega)) (Below.refl _ _) (Nat.le_refl _) ?_; intro v161 w5 ho6 hb hg_ hnew_; clear hg_ hnew_; (first | rw [← Ny160.out] at ho6 | (simp only [Int.reduceToNat] at ho6; rw [← Ny160.out] at ho6)); have n0_ := Aside0.mk (Kd.R_lower ho6 (below_size (by repeat (first | (with_reducible first | exact HB.out | apply below_alloc | apply pw_below_drewN | apply below_drew1) | exact HB.out)))); have n1_ := Aside0.mk (below_step (by repeat (first | (with_reducible first | exact HB.out | apply below_alloc | apply pw_below_drewN | apply below_drew1) | exact HB.out)) hb); clear HB; have HO162 := n0_; have HB := n1_; clear n0_ n1_; clear hb ho6) | ((with_reducible refine gate_dst (N := 17) rfl ?_); refine Kd.R_make Kd.bool _ 4 rfl (N := 17) rfl 34 _ _ rfl (l0.length : Int) rfl rfl Try.underlying34 (.bool false) 1 info4 rfl (by decide) (by omega) false (ok := fun _ => True) (okp := fun _ => True) rfl (fun _ hk => hk) trivial (of_decide_eq_true (by first | (with_reducible assumption) | assumption)) (Nat.le_trans (Nat.mul_le_mul_right _ (of_decide_eq_true (by first | (with_reducible assumption) | assumption) : (l0.length : Int).toNat ≤ 281474976710656)) (by omega)) (Below.refl _ _) (Nat.le_refl _) ?_; intro v164 w7 ho8 hb hg_ hnew_; clear hg_ hnew_; (first | rw [← Ny163.out] at ho8 | (simp only [Int.reduceToNat] at ho8; rw [← Ny163.out] at ho8)); have n0_ := Aside0.mk (Kd.R_below (by (with_reducible repeat (first | apply Kd.R_alloc | apply Kd.R_drewN | apply Kd.R_drew)); exact HO162.out) hb); have n1_ := Aside0.mk (Kd.R_lower ho8 (below_size (by repeat (first | (with_reducible first | exact HB.out | apply below_alloc | apply pw_below_drewN | apply below_drew1) | exact HB.out)))); have n2_ := Aside0.mk (below_step (by repeat (first | (with_reducible first | exact HB.out | apply below_alloc | apply pw_below_drewN | apply below_drew1) | exact HB.out)) hb); clear HO162; clear HB; have HO162 := n0_; have HO165 := n1_; have HB := n2_; clear n0_ n1_ n2_; clear hb ho8))
        go_loopg [6] k (fun kq v6 w' => ∃ (x4_1 : List Int) (x6_1 : Int), v6 = .int .i64 x6_1 ∧ Aside0 (prompterref14_Fits.l0 kq l0 x4_1 y163 x6_1 = some (r1, r2)) ∧ Aside0 (kq ≤ k) ∧ Aside0 (Kd.R (Kd.int .i64) 3 w' w.heap.size (fun _ => True) v161 x4_1) ∧ Aside0 (Kd.R Kd.bool 4 w' w.heap.size (fun _ => True) v164 y163) ∧ Aside0 (Below w.heap.size w w'))
        case atStart => exact ⟨(y160), (0), (by first | rfl | (simp; done) | (simp [*]; done)), H', ⟨Nat.le_refl _⟩, ⟨by (with_reducible repeat (first | apply Kd.R_alloc | apply Kd.R_drewN | apply Kd.R_drew)); exact HO162.out⟩, ⟨by (with_reducible repeat (first | apply Kd.R_alloc | apply Kd.R_drewN | apply Kd.R_drew)); exact HO165.out⟩, ⟨by repeat (first | (with_reducible first | exact HB.out | apply below_alloc | apply pw_below_drewN | apply below_drew1) | exact HB.out)⟩⟩
        case round =>
          clear H'
          try clear c2
          try clear c2b0
          try clear c2b1
          try clear p2
          try clear c3
          try clear c3b0
          try clear c3b1
          try clear c4
          try clear c4b0
          try clear c4b1
          obtain ⟨x4_1, x6_1, rfl, HA, HK1, HO_4, HO_5, HB⟩ := hrel
          cases gk with
          | zero => exact absurd HA.out (by simp [prompterref14_Fits.l0])
          | succ k1 =>
            have H := HA.out
            clear HA
            simp only [prompterref14_Fits.l0] at H
            by_cases c9 : x6_1 < (x4_1.length : Int)
            · rw [if_pos c9] at H
              have c9b0 : decide (x6_1 < (x4_1.length : Int)) = true := decide_eq_true c9
              clear c9
              by_cases c10 : 0 ≤ x6_1
              · rw [if_pos c10] at H
                have c10b0 : decide (0 ≤ x6_1) = true := decide_eq_true c10
                clear c10
                obtain ⟨y166, hy166⟩ : ∃ y_ : List Int, y_ = (x4_1.set (x6_1 : Int).toNat (-1)) := ⟨_, rfl⟩
                replace H : (prompterref14_Fits.l0 k1 l0 y166 y163 (wrap64 (x6_1 + 1))) = some (r1, r2) := by first | (rw [hy166]; with_reducible exact H) | (have H2_ := (Option.bind_some _ _).symm.trans H; rw [hy166]; with_reducible exact H2_) | (have H2_ := (Option.bind_some _ _).symm.trans H; with_reducible exact H2_) | with_reducible exact H | (rw [hy166]; exact H) | exact H
                have Ny166 := Aside0.mk hy166
                clear hy166
                have H' := Aside0.mk H
                clear H
                obtain ⟨Ao12, co12, eo12⟩ := Kd.R_slice HO_4.out
                subst eo12
                have p11 : 0 ≤ (x6_1 : Int) := of_decide_eq_true (by first | (with_reducible assumption) | assumption)
                have q11 : (x6_1 : Int) < ((x4_1.length : Int) : Int) := of_decide_eq_true (by first | (with_reducible assumption) | assumption)
                obtain ⟨go11, co11, eo11, gb11, gl11, cl11, HG11⟩ := Kd.R_form HO_4.out (by omega)
                (first | cases eo11 | (injection eo11 with ea_ en_ ec_; (first | subst ea_ | (injection ea_ with ea_; subst ea_)); subst ec_; clear en_))
                have GB11 := Aside0.mk gb11
                have GG11 := Aside0.mk HG11
                clear gb11 gl11 HG11
                obtain ⟨hx11_0, hf11_0⟩ := Kd.R_celln 0 HO_4.out (x6_1 : Int) p11 q11
                replace p11 := eq_true p11
                replace q11 := eq_true q11
                have HP13 := Kd.R_putg HO_4.out (x6_1 : Int) (-1)
                go_wp2_with (first | ((with_reducible refine gate_store (t := 3) (p := 26) rfl ?_); refine store_event (t := 3) (p := 26) (v := ?vo_w14) (w1 := (wr.setCell ⟨go11, (x6_1 : Int).toNat, none⟩ (.int .i64 (-1)))) ?hg ?ho ?hn ?hr ?_; (case ho => rfl); (case hg => rfl); (case hn => rfl); (case hr => first | (go_simp; done) | (go_simp; rfl)); intro w14 hw; have hg : wr.grownBy w14 (some go11) := (by rw [hw]; exact HP13.2); have hp_ : Kd.R (Kd.int .i64) 3 w14 w.heap.size (fun _ => True) (.slice (some ⟨go11, 0, none⟩) x4_1.length co12) y166 := (by rw [hw, Ny166.out]; exact HP13.1); clear HP13; have n0_ := Aside0.mk (hp_); have n1_ := Aside0.mk (Kd.R_over' (v := (.slice (some ⟨go11, 0, none⟩) x4_1.length co12)) (by (with_reducible repeat (first | apply Kd.R_alloc | apply Kd.R_drewN | apply Kd.R_drew)); exact HO_5.out) (Kd.R_typed HO_4.out) (by decide) hg); have n2_ := Aside0.mk ((by rw [hw]; exact below_set (HB.out) GB11.out : Below w.heap.size w w14)); clear HO_4; clear HO_5; clear HB; have HO_4 := n0_; have HO_5 := n1_; have HB := n2_; clear n0_ n1_ n2_; clear hg hw hp_))
                go_roundg k1
                case measure => have := HK1.out; omega
                case rel => exact ⟨(y166), (wrap64 (x6_1 + 1)), (by first | rfl | (simp; done) | (simp [*]; done)), H', ⟨by have := HK1.out; omega⟩, ⟨by (with_reducible repeat (first | apply Kd.R_alloc | apply Kd.R_drewN | apply Kd.R_drew)); exact HO_4.out⟩, ⟨by (with_reducible repeat (first | apply Kd.R_alloc | apply Kd.R_drewN | apply Kd.R_drew)); exact HO_5.out⟩, ⟨by repeat (first | (with_reducible first | exact HB.out | apply below_alloc | apply pw_below_drewN | apply below_drew1) | exact HB.out)⟩⟩
              · rw [if_neg c10] at H
                exact absurd H (by simp)
            · rw [if_neg c9] at H
              have c9b0 : decide (x6_1 < (x4_1.length : Int)) = false := decide_eq_false c9
              clear c9
              by_cases c15 : 0 < (x4_1.length : Int)
              · rw [if_pos c15] at H
                have c15b0 : decide (0 < (x4_1.length : Int)) = true := decide_eq_true c15
                have c15b1 : decide (0 < x4_1.length) = true := decide_eq_true (by omega)
                clear c15
                obtain ⟨y167, hy167⟩ : ∃ y_ : List Int, y_ = (x4_1.set (0 : Int).toNat 0) := ⟨_, rfl⟩
                replace H : (prompterref14_Fits.l1 k1 l0 y167 y163 0) = some (r1, r2) := by first | (rw [hy167]; with_reducible exact H) | (have H2_ := (Option.bind_some _ _).symm.trans H; rw [hy167]; with_reducible exact H2_) | (have H2_ := (Option.bind_some _ _).symm.trans H; with_reducible exact H2_) | with_reducible exact H | (rw [hy167]; exact H) | exact H
                have Ny167 := Aside0.mk hy167
                clear hy167
                have H' := Aside0.mk H
                clear H
                obtain ⟨Ao17, co17, eo17⟩ := Kd.R_slice HO_4.out
                subst eo17
                have p16 : 0 ≤ (0 : Int) := (by omega)
                have q16 : (0 : Int) < ((x4_1.length : Int) : Int) := of_decide_eq_true (by first | (with_reducible assumption) | assumption)
                have qi16 : (0 < x4_1.length) = True := eq_true (by omega)
                obtain ⟨go16, co16, eo16, gb16, gl16, cl16, HG16⟩ := Kd.R_form HO_4.out (by omega)
                (first | cases eo16 | (injection eo16 with ea_ en_ ec_; (first | subst ea_ | (injection ea_ with ea_; subst ea_)); subst ec_; clear en_))
                have GB16 := Aside0.mk gb16
                have GG16 := Aside0.mk HG16
                clear gb16 gl16 HG16
                obtain ⟨hx16_0, hf16_0⟩ := Kd.R_celln 0 HO_4.out (0 : Int) p16 q16
                (try rw [show ((0 : Int)).toNat = 0 from rfl] at hx16_0)
                (try simp only [Nat.reduceMul, Nat.zero_mul, Nat.zero_add, Nat.reduceAdd] at hx16_0)
                (try rw [show ((0 : Int)).toNat = 0 from rfl] at hf16_0)
                (try simp only [Nat.reduceMul, Nat.zero_mul, Nat.zero_add, Nat.reduceAdd] at hf16_0)
                replace p16 := eq_true p16
                replace q16 := eq_true q16
                have HP18 := Kd.R_putg HO_4.out (0 : Int) 0
                go_wp2_with (first | ((with_reducible refine gate_store (t := 3) (p := 28) rfl ?_); refine store_event (t := 3) (p := 28) (v := ?vo_w19) (w1 := (wr.setCell ⟨go16, (0 : Int).toNat, none⟩ (.int .i64 0))) ?hg ?ho ?hn ?hr ?_; (case ho => rfl); (case hg => rfl); (case hn => rfl); (case hr => first | (go_simp; done) | (go_simp; rfl)); intro w19 hw; have hg : wr.grownBy w19 (some go16) := (by rw [hw]; exact HP18.2); have hp_ : Kd.R (Kd.int .i64) 3 w19 w.heap.size (fun _ => True) (.slice (some ⟨go16, 0, none⟩) x4_1.length co17) y167 := (by rw [hw, Ny167.out]; exact HP18.1); clear HP18; have n0_ := Aside0.mk (hp_); have n1_ := Aside0.mk (Kd.R_over' (v := (.slice (some ⟨go16, 0, none⟩) x4_1.length co17)) (by (with_reducible repeat (first | apply Kd.R_alloc | apply Kd.R_drewN | apply Kd.R_drew)); exact HO_5.out) (Kd.R_typed HO_4.out) (by decide) hg); have n2_ := Aside0.mk ((by rw [hw]; exact below_set (HB.out) GB16.out : Below w.heap.size w w19)); clear HO_4; clear HO_5; clear HB; have HO_4 := n0_; have HO_5 := n1_; have HB := n2_; clear n0_ n1_ n2_; clear hg hw hp_))
                go_loopg [7] k1 (fun kq v7 w' => ∃ (x4_2 : List Int) (x5_2 : List Bool) (x7_2 : Int), v7 = .int .i64 x7_2 ∧ Aside0 (prompterref14_Fits.l1 kq l0 x4_2 x5_2 x7_2 = some (r1, r2)) ∧ Aside0 (kq ≤ k1) ∧ Aside0 (Kd.R (Kd.int .i64) 3 w' w.heap.size (fun _ => True) (.slice (some ⟨go16, 0, none⟩) x4_1.length co17) x4_2) ∧ Aside0 (Kd.R Kd.bool 4 w' w.heap.size (fun _ => True) v164 x5_2) ∧ Aside0 (Below w.heap.size w w'))
                case atStart => exact ⟨(y167), (y163), (0), (by first | rfl | (simp; done) | (simp [*]; done)), H', ⟨Nat.le_refl _⟩, ⟨by (with_reducible repeat (first | apply Kd.R_alloc | apply Kd.R_drewN | apply Kd.R_drew)); exact HO_4.out⟩, ⟨by (with_reducible repeat (first | apply Kd.R_alloc | apply Kd.R_drewN | apply Kd.R_drew)); exact HO_5.out⟩, ⟨by repeat (first | (with_reducible first | exact HB.out | apply below_alloc | apply pw_below_drewN | apply below_drew1) | exact HB.out)⟩⟩
                case round =>
                  clear H'
                  try clear c1
                  try clear p1
                  try clear q1
                  try clear hx1
                  try clear qi1
                  try clear hf1
                  try clear c2
                  try clear c2b0
                  try clear c2b1
                  try clear p2
                  try clear c3
                  try clear c3b0
                  try clear c3b1
                  try clear c4
                  try clear c4b0
                  try clear c4b1
                  try clear p6
                  try clear c9
                  try clear c9b0
                  try clear c10
                  try clear c10b0
                  try clear p11
                  try clear q11
                  try clear hx11
                  try clear hf11
                  try clear c15
                  try clear c15b0
                  try clear c15b1
                  try clear p16
                  try clear q16
                  try clear hx16
                  try clear qi16
                  try clear hf16
                  try clear hx11_0
                  try clear hx16_0
                  try clear p11
                  try clear p16
                  try clear p2
                  try clear q11
                  try clear q16
                  obtain ⟨x4_2, x5_2, x7_2, rfl, HA, HK2, HO_4, HO_5, HB⟩ := hrel
                  have hl4_2 := (Kd.R_reads' HO_4.out).1
                  rw [hl4_2] at HO_4
                  (try simp only [hl4_2])
                  (try simp only [hl4_2] at HO_5)
                  cases gk with
                  | zero => exact absurd HA.out (by simp [prompterref14_Fits.l1])
                  | succ k2 =>
                    have H := HA.out
                    clear HA
                    simp only [prompterref14_Fits.l1] at H
                    by_cases c20 : x7_2 < (l0.length : Int)
                    · rw [if_pos c20] at H
                      have c20b0 : decide (x7_2 < (l0.length : Int)) = true := decide_eq_true c20
                      clear c20
                      have HC21 := Aside0.mk H
                      clear H
                      go_upto_region 10 with (fail)
                      go_cut [43] (fun v43 wc => ∃ (kq : Nat) (x43_20 : Bool), v43 = .bool x43_20 ∧ Aside0 (prompterref14_Fits.j2 kq l0 x4_2 x5_2 x7_2 x43_20 = some (r1, r2)) ∧ Aside0 (kq ≤ k2) ∧ Aside0 (Kd.R (Kd.int .i64) 3 wc w.heap.size (fun _ => True) (.slice (some ⟨go16, 0, none⟩) x4_2.length co17) x4_2) ∧ Aside0 (Kd.R Kd.bool 4 wc w.heap.size (fun _ => True) v164 x5_2) ∧ Aside0 (Below w.heap.size w wc))
                      case first =>
                        have H := HC21.out
                        clear HC21
                        by_cases c22 : 0 ≤ x7_2
                        · rw [if_pos c22] at H
                          have c22b0 : decide (0 ≤ x7_2) = true := decide_eq_true c22
                          clear c22
                          (first | rw [c22b0] | (simp only [i64_w, i32_w]; rw [c22b0]) | skip)
                          by_cases c23 : x7_2 < (x4_2.length : Int)
                          · rw [if_pos c23] at H
                            have c23b0 : decide (x7_2 < (x4_2.length : Int)) = true := decide_eq_true c23
                            clear c23
                            by_cases c24 : (rd x4_2 x7_2) < 0
                            · rw [if_pos c24] at H
                              have c24b0 : decide ((rd x4_2 x7_2) < 0) = true := decide_eq_true c24
                              clear c24
                              have H' := Aside0.mk H
                              clear H
                              have p168 : 0 ≤ (x7_2 : Int) := of_decide_eq_true (by first | (with_reducible assumption) | assumption)
                              have q168 : x7_2 < (x4_2.length : Int) := of_decide_eq_true (by first | (with_reducible assumption) | assumption)
                              obtain ⟨ad168, e168, hx168_0⟩ := Kd.at_int (Kd.R_reads' HO_4.out).2.2 x7_2 p168 q168
                              obtain rfl : (⟨go16, 0, none⟩ : Addr) = ad168 := (by injection e168)
                              (first | simp only [add_plain] at hx168_0 | simp only [add_at] at hx168_0 | simp only [Addr.add, Nat.zero_add] at hx168_0 | skip)
                              replace p168 := eq_true p168
                              replace q168 := eq_true q168
                              go_wp2
                              go_meet
                              case rel => exact ⟨_, (true), (by first | rfl | (simp; done) | (simp [*]; done)), H', ⟨by have := HK1.out; have := HK2.out; first | omega | exact Nat.le_refl _⟩, ⟨by (try simp only [hl4_2]); (with_reducible repeat (first | apply Kd.R_alloc | apply Kd.R_drewN | apply Kd.R_drew)); exact HO_4.out⟩, ⟨by (try simp only [hl4_2]); (with_reducible repeat (first | apply Kd.R_alloc | apply Kd.R_drewN | apply Kd.R_drew)); exact HO_5.out⟩, ⟨by repeat (first | (with_reducible first | exact HB.out | apply below_alloc | apply pw_below_drewN | apply below_drew1) | exact HB.out)⟩⟩
                            · rw [if_neg c24] at H
                              have c24b0 : decide ((rd x4_2 x7_2) < 0) = false := decide_eq_false c24
                              clear c24
                              by_cases c25 : x7_2 < (x5_2.length : Int)
                              · rw [if_pos c25] at H
                                have c25b0 : decide (x7_2 < (x5_2.length : Int)) = true := decide_eq_true c25
                                clear c25
                                have H' := Aside0.mk H
                                clear H
                                have p168 : 0 ≤ (x7_2 : Int) := of_decide_eq_true (by first | (with_reducible assumption) | assumption)
                                have q168 : x7_2 < (x4_2.length : Int) := of_decide_eq_true (by first | (with_reducible assumption) | assumption)
                                obtain ⟨ad168, e168, hx168_0⟩ := Kd.at_int (Kd.R_reads' HO_4.out).2.2 x7_2 p168 q168
                                obtain rfl : (⟨go16, 0, none⟩ : Addr) = ad168 := (by injection e168)
                                (first | simp only [add_plain] at hx168_0 | simp only [add_at] at hx168_0 | simp only [Addr.add, Nat.zero_add] at hx168_0 | skip)
                                replace p168 := eq_true p168
                                replace q168 := eq_true q168
                                obtain ⟨Ao26, co26, eo26⟩ := Kd.R_slice HO_5.out
                                subst eo26
                                have p169 : 0 ≤ (x7_2 : Int) := of_decide_eq_true (by first | (with_reducible assumption) | assumption)
                                have q169 : x7_2 < (x5_2.length : Int) := of_decide_eq_true (by first | (with_reducible assumption) | assumption)
                                obtain ⟨ad169, e169, hx169_0⟩ := Kd.at_bool (Kd.R_reads' HO_5.out).2.2 x7_2 p169 q169
                                cases e169
                                replace p169 := eq_true p169
                                replace q169 := eq_true q169
                                go_wp2
                                go_meet
                                case rel => exact ⟨_, (rdOf false x5_2 x7_2), (by first | rfl | (simp; done) | (simp [*]; done)), H', ⟨by have := HK1.out; have := HK2.out; first | omega | exact Nat.le_refl _⟩, ⟨by (try simp only [hl4_2]); (with_reducible repeat (first | apply Kd.R_alloc | apply Kd.R_drewN | apply Kd.R_drew)); exact HO_4.out⟩, ⟨by (try simp only [hl4_2]); (with_reducible repeat (first | apply Kd.R_alloc | apply Kd.R_drewN | apply Kd.R_drew)); exact HO_5.out⟩, ⟨by repeat (first | (with_reducible first | exact HB.out | apply below_alloc | apply pw_below_drewN | apply below_drew1) | exact HB.out)⟩⟩
                              · rw [if_neg c25] at H
                                exact absurd H (by simp)
                          · rw [if_neg c23] at H
                            exact absurd H (by simp)
                        · rw [if_neg c22] at H
                          exact absurd H (by simp)
                      case rest =>
                        clear HC21
                        try clear c1
                        try clear p1
                        try clear q1
                        try clear hx1
                        try clear qi1
                        try clear hf1
                        try clear c2
                        try clear c2b0
                        try clear c2b1
                        try clear p2
                        try clear c3
                        try clear c3b0
                        try clear c3b1
                        try clear c4
                        try clear c4b0
                        try clear c4b1
                        try clear p6
                        try clear c9
                        try clear c9b0
                        try clear c10
                        try clear c10b0
                        try clear p11
                        try clear q11
                        try clear hx11
                        try clear hf11
                        try clear c15
                        try clear c15b0
                        try clear c15b1
                        try clear p16
                        try clear q16
                        try clear hx16
                        try clear qi16
                        try clear hf16
                        try clear c20
                        try clear c20b0
                        try clear c22
                        try clear c22b0
                        try clear c23
                        try clear c23b0
                        try clear c24
                        try clear c24b0
                        try clear c25
                        try clear c25b0
                        try clear hx11_0
                        try clear hx168_0
                        try clear hx169_0
                        try clear hx16_0
                        try clear p1
                        try clear p11
                        try clear p16
                        try clear p168
                        try clear p169
                        try clear p2
                        try clear p6
                        try clear q1
                        try clear q11
                        try clear q16
                        try clear q168
                        try clear q169
                        obtain ⟨kq, x43_20, rfl, HA, HJ20, HO_4, HO_5, HB⟩ := hcut
                        cases kq with
                        | zero => exact absurd HA.out (by simp [prompterref14_Fits.j2])
                        | succ kj20 =>
                          have H := HA.out
                          clear HA
                          simp only [prompterref14_Fits.j2] at H
                          by_cases c27 : x43_20 = true
                          · subst c27
                            have H1 : (prompterref14_Fits.l1 kj20 l0 x4_2 x5_2 (wrap64 (x7_2 + 1))) = some (r1, r2) := by rw [if_pos rfl] at H; exact H
                            clear H
                            have H := H1
                            clear H1
                            have H' := Aside0.mk H
                            clear H
                            go_wp2
                            (try simp only [← hl4_2])
                            go_roundg kj20
                            case measure => have := HK1.out; have := HK2.out; have := HJ20.out; omega
                            case rel => exact ⟨(x4_2), (x5_2), (wrap64 (x7_2 + 1)), (by first | rfl | (simp; done) | (simp [*]; done)), H', ⟨by have := HK1.out; have := HK2.out; have := HJ20.out; omega⟩, ⟨by (try simp only [hl4_2]); (with_reducible repeat (first | apply Kd.R_alloc | apply Kd.R_drewN | apply Kd.R_drew)); exact HO_4.out⟩, ⟨by (try simp only [hl4_2]); (with_reducible repeat (first | apply Kd.R_alloc | apply Kd.R_drewN | apply Kd.R_drew)); exact HO_5.out⟩, ⟨by repeat (first | (with_reducible first | exact HB.out | apply below_alloc | apply pw_below_drewN | apply below_drew1) | exact HB.out)⟩⟩
                          · replace c27 := Bool.eq_false_iff.mpr c27
                            subst c27
                            have H1 : (if 0 ≤ x7_2 then (if x7_2 < (x5_2.length : Int) then ((some (x5_2.set (x7_2 : Int).toNat true : List Bool)).bind fun y170 => (if x7_2 < (l0.length : Int) then ((prompterref14_Ends.f ((rd_T36 l0 x7_2).f0)).bind fun t173 => (if t173 = true then (if x7_2 < (x4_2.length : Int) then ((prompterref14_Takes.f kj20 ((rd_T36 l0 x7_2).f0) ((rd_T36 l0 x7_2).f1) ((rd_T36 l0 x7_2).f2) ((rd_T36 l0 x7_2).f3)).bind fun t175 => (if (rd x4_2 x7_2) = t175 then (prompterref14_Fits.l1 kj20 l0 x4_2 y170 x7_2) else (some (x4_2, x7_2)))) else (none)) else (if x7_2 < (x4_2.length : Int) then ((prompterref14_Takes.f kj20 ((rd_T36 l0 x7_2).f0) ((rd_T36 l0 x7_2).f1) ((rd_T36 l0 x7_2).f2) ((rd_T36 l0 x7_2).f3)).bind fun t177 => (if (rd x4_2 x7_2) < t177 then (some (x4_2, x7_2)) else ((prompterref14_Behind.f kj20 ((rd_T36 l0 x7_2).f0) ((rd_T36 l0 x7_2).f1) ((rd_T36 l0 x7_2).f2) ((rd_T36 l0 x7_2).f3) (rd x4_2 x7_2)).bind fun bt179 => ((prompterref14_Of.f kj20 ((rd_T36 l0 x7_2).f0)).bind fun bt181 => (if bt181.2.1 = 1 then (if 0 ≤ ((rd_T36 l0 x7_2).f1) then (if ((rd_T36 l0 x7_2).f1) < (x4_2.length : Int) then (if (rd x4_2 ((rd_T36 l0 x7_2).f1)) < 0 then ((some (x4_2.set (((rd_T36 l0 x7_2).f1) : Int).toNat bt179.1 : List Int)).bind fun y189 => (if (rd y189 ((rd_T36 l0 x7_2).f1)) = bt179.1 then (prompterref14_Fits.j3 kj20 l0 y189 y170 (mn x7_2 ((rd_T36 l0 x7_2).f1)) bt179.2 x7_2 ((rd_T36 l0 x7_2).f0) ((rd_T36 l0 x7_2).f1) ((rd_T36 l0 x7_2).f2) ((rd_T36 l0 x7_2).f3)) else (some (y189, x7_2)))) else (if (rd x4_2 ((rd_T36 l0 x7_2).f1)) = bt179.1 then (prompterref14_Fits.j3 kj20 l0 x4_2 y170 x7_2 bt179.2 x7_2 ((rd_T36 l0 x7_2).f0) ((rd_T36 l0 x7_2).f1) ((rd_T36 l0 x7_2).f2) ((rd_T36 l0 x7_2).f3)) else (some (x4_2, x7_2)))) else (none)) else (none)) else (prompterref14_Fits.j3 kj20 l0 x4_2 y170 x7_2 bt179.2 x7_2 ((rd_T36 l0 x7_2).f0) ((rd_T36 l0 x7_2).f1) ((rd_T36 l0 x7_2).f2) ((rd_T36 l0 x7_2).f3))))))) else (none)))) else (none))) else (none)) else (none)) = some (r1, r2) := by rw [if_neg (show ¬ (false = true) by decide)] at H; exact H
                            clear H
                            have H := H1
                            clear H1
                            by_cases c28 : 0 ≤ x7_2
                            · rw [if_pos c28] at H
                              have c28b0 : decide (0 ≤ x7_2) = true := decide_eq_true c28
                              clear c28
                              by_cases c29 : x7_2 < (x5_2.length : Int)
                              · rw [if_pos c29] at H
                                have c29b0 : decide (x7_2 < (x5_2.length : Int)) = true := decide_eq_true c29
                                clear c29
                                obtain ⟨y170, hy170⟩ : ∃ y_ : List Bool, y_ = (x5_2.set (x7_2 : Int).toNat true) := ⟨_, rfl⟩
                                replace H : (if x7_2 < (l0.length : Int) then ((prompterref14_Ends.f ((rd_T36 l0 x7_2).f0)).bind fun t173 => (if t173 = true then (if x7_2 < (x4_2.length : Int) then ((prompterref14_Takes.f kj20 ((rd_T36 l0 x7_2).f0) ((rd_T36 l0 x7_2).f1) ((rd_T36 l0 x7_2).f2) ((rd_T36 l0 x7_2).f3)).bind fun t175 => (if (rd x4_2 x7_2) = t175 then (prompterref14_Fits.l1 kj20 l0 x4_2 y170 x7_2) else (some (x4_2, x7_2)))) else (none)) else (if x7_2 < (x4_2.length : Int) then ((prompterref14_Takes.f kj20 ((rd_T36 l0 x7_2).f0) ((rd_T36 l0 x7_2).f1) ((rd_T36 l0 x7_2).f2) ((rd_T36 l0 x7_2).f3)).bind fun t177 => (if (rd x4_2 x7_2) < t177 then (some (x4_2, x7_2)) else ((prompterref14_Behind.f kj20 ((rd_T36 l0 x7_2).f0) ((rd_T36 l0 x7_2).f1) ((rd_T36 l0 x7_2).f2) ((rd_T36 l0 x7_2).f3) (rd x4_2 x7_2)).bind fun bt179 => ((prompterref14_Of.f kj20 ((rd_T36 l0 x7_2).f0)).bind fun bt181 => (if bt181.2.1 = 1 then (if 0 ≤ ((rd_T36 l0 x7_2).f1) then (if ((rd_T36 l0 x7_2).f1) < (x4_2.length : Int) then (if (rd x4_2 ((rd_T36 l0 x7_2).f1)) < 0 then ((some (x4_2.set (((rd_T36 l0 x7_2).f1) : Int).toNat bt179.1 : List Int)).bind fun y189 => (if (rd y189 ((rd_T36 l0 x7_2).f1)) = bt179.1 then (prompterref14_Fits.j3 kj20 l0 y189 y170 (mn x7_2 ((rd_T36 l0 x7_2).f1)) bt179.2 x7_2 ((rd_T36 l0 x7_2).f0) ((rd_T36 l0 x7_2).f1) ((rd_T36 l0 x7_2).f2) ((rd_T36 l0 x7_2).f3)) else (some (y189, x7_2)))) else (if (rd x4_2 ((rd_T36 l0 x7_2).f1)) = bt179.1 then (prompterref14_Fits.j3 kj20 l0 x4_2 y170 x7_2 bt179.2 x7_2 ((rd_T36 l0 x7_2).f0) ((rd_T36 l0 x7_2).f1) ((rd_T36 l0 x7_2).f2) ((rd_T36 l0 x7_2).f3)) else (some (x4_2, x7_2)))) else (none)) else (none)) else (prompterref14_Fits.j3 kj20 l0 x4_2 y170 x7_2 bt179.2 x7_2 ((rd_T36 l0 x7_2).f0) ((rd_T36 l0 x7_2).f1) ((rd_T36 l0 x7_2).f2) ((rd_T36 l0 x7_2).f3))))))) else (none)))) else (none)) = some (r1, r2) := by first | (rw [hy170]; with_reducible exact H) | (have H2_ := (Option.bind_some _ _).symm.trans H; rw [hy170]; with_reducible exact H2_) | (have H2_ := (Option.bind_some _ _).symm.trans H; with_reducible exact H2_) | with_reducible exact H | (rw [hy170]; exact H) | exact H
                                have Ny170 := Aside0.mk hy170
                                clear hy170
                                by_cases c31 : x7_2 < (l0.length : Int)
                                · rw [if_pos c31] at H
                                  have c31b0 : decide (x7_2 < (l0.length : Int)) = true := decide_eq_true c31
                                  clear c31
                                  replace H := Option.bind_eq_some_iff.mp H
                                  obtain ⟨t173, A320, H⟩ := H
                                  replace H : (if t173 = true then (if x7_2 < (x4_2.length : Int) then ((prompterref14_Takes.f kj20 ((rd_T36 l0 x7_2).f0) ((rd_T36 l0 x7_2).f1) ((rd_T36 l0 x7_2).f2) ((rd_T36 l0 x7_2).f3)).bind fun t175 => (if (rd x4_2 x7_2) = t175 then (prompterref14_Fits.l1 kj20 l0 x4_2 y170 x7_2) else (some (x4_2, x7_2)))) else (none)) else (if x7_2 < (x4_2.length : Int) then ((prompterref14_Takes.f kj20 ((rd_T36 l0 x7_2).f0) ((rd_T36 l0 x7_2).f1) ((rd_T36 l0 x7_2).f2) ((rd_T36 l0 x7_2).f3)).bind fun t177 => (if (rd x4_2 x7_2) < t177 then (some (x4_2, x7_2)) else ((prompterref14_Behind.f kj20 ((rd_T36 l0 x7_2).f0) ((rd_T36 l0 x7_2).f1) ((rd_T36 l0 x7_2).f2) ((rd_T36 l0 x7_2).f3) (rd x4_2 x7_2)).bind fun bt179 => ((prompterref14_Of.f kj20 ((rd_T36 l0 x7_2).f0)).bind fun bt181 => (if bt181.2.1 = 1 then (if 0 ≤ ((rd_T36 l0 x7_2).f1) then (if ((rd_T36 l0 x7_2).f1) < (x4_2.length : Int) then (if (rd x4_2 ((rd_T36 l0 x7_2).f1)) < 0 then ((some (x4_2.set (((rd_T36 l0 x7_2).f1) : Int).toNat bt179.1 : List Int)).bind fun y189 => (if (rd y189 ((rd_T36 l0 x7_2).f1)) = bt179.1 then (prompterref14_Fits.j3 kj20 l0 y189 y170 (mn x7_2 ((rd_T36 l0 x7_2).f1)) bt179.2 x7_2 ((rd_T36 l0 x7_2).f0) ((rd_T36 l0 x7_2).f1) ((rd_T36 l0 x7_2).f2) ((rd_T36 l0 x7_2).f3)) else (some (y189, x7_2)))) else (if (rd x4_2 ((rd_T36 l0 x7_2).f1)) = bt179.1 then (prompterref14_Fits.j3 kj20 l0 x4_2 y170 x7_2 bt179.2 x7_2 ((rd_T36 l0 x7_2).f0) ((rd_T36 l0 x7_2).f1) ((rd_T36 l0 x7_2).f2) ((rd_T36 l0 x7_2).f3)) else (some (x4_2, x7_2)))) else (none)) else (none)) else (prompterref14_Fits.j3 kj20 l0 x4_2 y170 x7_2 bt179.2 x7_2 ((rd_T36 l0 x7_2).f0) ((rd_T36 l0 x7_2).f1) ((rd_T36 l0 x7_2).f2) ((rd_T36 l0 x7_2).f3))))))) else (none))) = some (r1, r2) := H
                                  have A32 := Aside0.mk A320
                                  clear A320
                                  by_cases c33 : t173 = true
                                  · subst c33
                                    have H1 : (if x7_2 < (x4_2.length : Int) then ((prompterref14_Takes.f kj20 ((rd_T36 l0 x7_2).f0) ((rd_T36 l0 x7_2).f1) ((rd_T36 l0 x7_2).f2) ((rd_T36 l0 x7_2).f3)).bind fun t175 => (if (rd x4_2 x7_2) = t175 then (prompterref14_Fits.l1 kj20 l0 x4_2 y170 x7_2) else (some (x4_2, x7_2)))) else (none)) = some (r1, r2) := by rw [if_pos rfl] at H; exact H
                                    clear H
                                    have H := H1
                                    clear H1
                                    by_cases c34 : x7_2 < (x4_2.length : Int)
                                    · rw [if_pos c34] at H
                                      have c34b0 : decide (x7_2 < (x4_2.length : Int)) = true := decide_eq_true c34
                                      clear c34
                                      replace H := Option.bind_eq_some_iff.mp H
                                      obtain ⟨t175, A350, H⟩ := H
                                      replace H : (if (rd x4_2 x7_2) = t175 then (prompterref14_Fits.l1 kj20 l0 x4_2 y170 x7_2) else (some (x4_2, x7_2))) = some (r1, r2) := H
                                      have A35 := Aside0.mk A350
                                      clear A350
                                      by_cases c36 : (rd x4_2 x7_2) = t175
                                      · rw [if_pos c36] at H
                                        have c36b0 : ((rd x4_2 x7_2) == t175) = true := beq_iff_eq.mpr c36
                                        have c36b1 : ((rd x4_2 x7_2) != t175) = false := bne_eq_false_iff_eq.mpr c36
                                        clear c36
                                        have H' := Aside0.mk H
                                        clear H
                                        have p30 : 0 ≤ (x7_2 : Int) := of_decide_eq_true (by first | (with_reducible assumption) | assumption)
                                        have q30 : (x7_2 : Int) < ((x5_2.length : Int) : Int) := of_decide_eq_true (by first | (with_reducible assumption) | assumption)
                                        obtain ⟨go30, co30, eo30, gb30, gl30, cl30, HG30⟩ := Kd.R_form HO_5.out (by omega)
                                        (first | cases eo30 | (injection eo30 with ea_ en_ ec_; (first | subst ea_ | (injection ea_ with ea_; subst ea_)); subst ec_; clear en_))
                                        have GB30 := Aside0.mk gb30
                                        have GG30 := Aside0.mk HG30
                                        clear gb30 gl30 HG30
                                        obtain ⟨hx30_0, hf30_0⟩ := Kd.R_celln false HO_5.out (x7_2 : Int) p30 q30
                                        replace p30 := eq_true p30
                                        replace q30 := eq_true q30
                                        have HP37 := Kd.R_putg HO_5.out (x7_2 : Int) true
                                        try go_wp2_with (first | ((with_reducible refine gate_store (t := 4) (p := 48) rfl ?_); refine store_event (t := 4) (p := 48) (v := ?vo_w38) (w1 := (wc.setCell ⟨go30, (x7_2 : Int).toNat, none⟩ (.bool true))) ?hg ?ho ?hn ?hr ?_; (case ho => rfl); (case hg => rfl); (case hn => rfl); (case hr => first | (go_simp; done) | (go_simp; rfl)); intro w38 hw; have hg : wc.grownBy w38 (some go30) := (by rw [hw]; exact HP37.2); have hp_ : Kd.R Kd.bool 4 w38 w.heap.size (fun _ => True) (.slice (some ⟨go30, 0, none⟩) x5_2.length co30) y170 := (by rw [hw, Ny170.out]; exact HP37.1); clear HP37; have n0_ := Aside0.mk (Kd.R_over' (v := (.slice (some ⟨go30, 0, none⟩) x5_2.length co30)) (by (with_reducible repeat (first | apply Kd.R_alloc | apply Kd.R_drewN | apply Kd.R_drew)); exact HO_4.out) (Kd.R_typed HO_5.out) (by decide) hg); have n1_ := Aside0.mk (hp_); have n2_ := Aside0.mk ((by rw [hw]; exact below_set (HB.out) GB30.out : Below w.heap.size w w38)); clear HO_4; clear HO_5; clear HB; have HO_4 := n0_; have HO_5 := n1_; have HB := n2_; clear n0_ n1_ n2_; clear hg hw hp_; have p171 : 0 ≤ (x7_2 : Int) := of_decide_eq_true (by first | (with_reducible assumption) | assumption); have q171 : x7_2 < (l0.length : Int) := of_decide_eq_true (by first | (with_reducible assumption) | assumption); obtain ⟨ad171, e171, hx171_0, hx171_1, hx171_2, hx171_3⟩ := at_T36 HR0.out x7_2 p171 q171; cases e171; replace hx171_0 := (HB.out.cell (World.block_lt_of_cell? w _ hx171_0)).trans hx171_0; replace hx171_1 := (HB.out.cell (World.block_lt_of_cell? w _ hx171_1)).trans hx171_1; replace hx171_2 := (HB.out.cell (World.block_lt_of_cell? w _ hx171_2)).trans hx171_2; replace hx171_3 := (HB.out.cell (World.block_lt_of_cell? w _ hx171_3)).trans hx171_3; replace p171 := eq_true p171; replace q171 := eq_true q171) | ((with_reducible refine gate_dst (N := 8) rfl ?_); refine box_event ?hg (N := 8) ?hd (cs := #[.int .u8 0, .int .i64 0, .int .i64 0, .string (⟨#[]⟩ : ByteArray)]) (t := 36) ?hr ?_; (case hd => rfl); (case hg => rfl); (case hr => first | (go_simp; done) | (go_simp; rfl)); intro gb172 hg w39 hbox hb; have n0_ := Aside0.mk (Kd.R_below (by (with_reducible repeat (first | apply Kd.R_alloc | apply Kd.R_drewN | apply Kd.R_drew)); exact HO_4.out) hb); have n1_ := Aside0.mk (Kd.R_below (by (with_reducible repeat (first | apply Kd.R_alloc | apply Kd.R_drewN | apply Kd.R_drew)); exact HO_5.out) hb); have n2_ := Aside0.mk (below_step (by repeat (first | (with_reducible first | exact HB.out | apply below_alloc | apply pw_below_drewN | apply below_drew1) | exact HB.out)) hb); have n3_ := Aside0.mk (hbox); have n4_ := Aside0.mk ((by rw [hg]; exact (below_size (by repeat (first | (with_reducible first | exact HB.out | apply below_alloc | apply pw_below_drewN | apply below_drew1) | exact HB.out))) : w.heap.size ≤ gb172)); have n5_ := Aside0.mk ((by rw [hg]; exact (below_size (by repeat (first | (with_reducible first | exact HB.out | apply below_alloc | apply pw_below_drewN | apply below_drew1) | exact HB.out))) : w.heap.size ≤ gb172)); clear HO_4; clear HO_5; clear HB; have HO_4 := n0_; have HO_5 := n1_; have HB := n2_; have BK172 := n3_; have GW172 := n4_; have GE172 := n5_; clear n0_ n1_ n2_ n3_ n4_ n5_; clear hb hbox hg; have hcz40_0 : w39.cell? ⟨gb172, 0, none⟩ = some (.int .u8 0) := (blk_cell BK172.out 0).trans rfl; have hcz40_1 : w39.cell? ⟨gb172, 1, none⟩ = some (.int .i64 0) := (blk_cell BK172.out 1).trans rfl; have hcz40_2 : w39.cell? ⟨gb172, 2, none⟩ = some (.int .i64 0) := (blk_cell BK172.out 2).trans rfl; have hcz40_3 : w39.cell? ⟨gb172, 3, none⟩ = some (.string (⟨#[]⟩ : ByteArray)) := (blk_cell BK172.out 3).trans rfl; have hfz40_0 := blk_frozen BK172.out 0; have hfz40_1 := blk_frozen BK172.out 1; have hfz40_2 := blk_frozen BK172.out 2; have hfz40_3 := blk_frozen BK172.out 3) | ((with_reducible refine gate_callee (f := 12) rfl ?_); refine goesL_ (some 55) rfl rfl Try.func12 (by kernel_rfl) rfl #[.int .u8 ((rd_T36 l0 x7_2).f0)] rfl (by (try simp only [List.map_toArray, List.map_cons, List.map_nil]); first | done | rfl | (simp only [List.length_drop, List.length_take]; rfl)) ?_; (with_reducible refine (prompterref14_Ends.calls ((rd_T36 l0 x7_2).f0) true _ A32.out).mono ?_); rintro e w' ⟨rfl, ⟨nd, rfl⟩⟩; refine ⟨_, rfl, ?_⟩))
                                        have n0_ : Aside0 (Kd.R (Kd.int .i64) 3 ((((w39.setCell ⟨gb172, 0, none⟩ (.int .u8 ((rd_T36 l0 x7_2).f0))).setCell ⟨gb172, 1, none⟩ (.int .i64 ((rd_T36 l0 x7_2).f1))).setCell ⟨gb172, 2, none⟩ (.int .i64 ((rd_T36 l0 x7_2).f2))).setCell ⟨gb172, 3, none⟩ (.string ((rd_T36 l0 x7_2).f3))) w.heap.size (fun _ => True) (.slice (some ⟨go16, 0, none⟩) x4_2.length co17) x4_2) := ⟨by (with_reducible repeat (first | apply Kd.R_alloc | apply Kd.R_drewN | apply Kd.R_drew)); exact Kd.R_mono (Kd.R_far (p := ⟨gb172, 3, none⟩) (Kd.R_far (p := ⟨gb172, 2, none⟩) (Kd.R_far (p := ⟨gb172, 1, none⟩) (Kd.R_far (p := ⟨gb172, 0, none⟩) (Kd.R_types HO_4.out BK172.out (by decide)) (fun _ hk => hk.2) (.int .u8 ((rd_T36 l0 x7_2).f0))) (fun _ hk => hk.2) (.int .i64 ((rd_T36 l0 x7_2).f1))) (fun _ hk => hk.2) (.int .i64 ((rd_T36 l0 x7_2).f2))) (fun _ hk => hk.2) (.string ((rd_T36 l0 x7_2).f3))) (fun _ hk => trivial)⟩
                                        have n1_ : Aside0 (Kd.R Kd.bool 4 ((((w39.setCell ⟨gb172, 0, none⟩ (.int .u8 ((rd_T36 l0 x7_2).f0))).setCell ⟨gb172, 1, none⟩ (.int .i64 ((rd_T36 l0 x7_2).f1))).setCell ⟨gb172, 2, none⟩ (.int .i64 ((rd_T36 l0 x7_2).f2))).setCell ⟨gb172, 3, none⟩ (.string ((rd_T36 l0 x7_2).f3))) w.heap.size (fun _ => True) (.slice (some ⟨go30, 0, none⟩) x5_2.length co30) y170) := ⟨by (with_reducible repeat (first | apply Kd.R_alloc | apply Kd.R_drewN | apply Kd.R_drew)); exact Kd.R_mono (Kd.R_far (p := ⟨gb172, 3, none⟩) (Kd.R_far (p := ⟨gb172, 2, none⟩) (Kd.R_far (p := ⟨gb172, 1, none⟩) (Kd.R_far (p := ⟨gb172, 0, none⟩) (Kd.R_types HO_5.out BK172.out (by decide)) (fun _ hk => hk.2) (.int .u8 ((rd_T36 l0 x7_2).f0))) (fun _ hk => hk.2) (.int .i64 ((rd_T36 l0 x7_2).f1))) (fun _ hk => hk.2) (.int .i64 ((rd_T36 l0 x7_2).f2))) (fun _ hk => hk.2) (.string ((rd_T36 l0 x7_2).f3))) (fun _ hk => trivial)⟩
                                        have n2_ : Aside0 (((((w39.setCell ⟨gb172, 0, none⟩ (.int .u8 ((rd_T36 l0 x7_2).f0))).setCell ⟨gb172, 1, none⟩ (.int .i64 ((rd_T36 l0 x7_2).f1))).setCell ⟨gb172, 2, none⟩ (.int .i64 ((rd_T36 l0 x7_2).f2))).setCell ⟨gb172, 3, none⟩ (.string ((rd_T36 l0 x7_2).f3))).heap[gb172]? = some (.cells #[.int .u8 ((rd_T36 l0 x7_2).f0), .int .i64 ((rd_T36 l0 x7_2).f1), .int .i64 ((rd_T36 l0 x7_2).f2), .string ((rd_T36 l0 x7_2).f3)] 36 (0, 0))) := ⟨by (with_reducible repeat (first | refine blk_drewN ?_ _ | refine blk_drew ?_ | refine blk_alloc ?_ _)); refine blk_put (cs := #[.int .u8 ((rd_T36 l0 x7_2).f0), .int .i64 ((rd_T36 l0 x7_2).f1), .int .i64 ((rd_T36 l0 x7_2).f2), .string (⟨#[]⟩ : ByteArray)]) ?_ 3 _ rfl; (with_reducible repeat (first | refine blk_drewN ?_ _ | refine blk_drew ?_ | refine blk_alloc ?_ _)); refine blk_put (cs := #[.int .u8 ((rd_T36 l0 x7_2).f0), .int .i64 ((rd_T36 l0 x7_2).f1), .int .i64 0, .string (⟨#[]⟩ : ByteArray)]) ?_ 2 _ rfl; (with_reducible repeat (first | refine blk_drewN ?_ _ | refine blk_drew ?_ | refine blk_alloc ?_ _)); refine blk_put (cs := #[.int .u8 ((rd_T36 l0 x7_2).f0), .int .i64 0, .int .i64 0, .string (⟨#[]⟩ : ByteArray)]) ?_ 1 _ rfl; (with_reducible repeat (first | refine blk_drewN ?_ _ | refine blk_drew ?_ | refine blk_alloc ?_ _)); refine blk_put (cs := #[.int .u8 0, .int .i64 0, .int .i64 0, .string (⟨#[]⟩ : ByteArray)]) ?_ 0 _ rfl; (with_reducible repeat (first | refine blk_drewN ?_ _ | refine blk_drew ?_ | refine blk_alloc ?_ _)); exact BK172.out⟩
                                        have n3_ : Aside0 (Below w.heap.size w ((((w39.setCell ⟨gb172, 0, none⟩ (.int .u8 ((rd_T36 l0 x7_2).f0))).setCell ⟨gb172, 1, none⟩ (.int .i64 ((rd_T36 l0 x7_2).f1))).setCell ⟨gb172, 2, none⟩ (.int .i64 ((rd_T36 l0 x7_2).f2))).setCell ⟨gb172, 3, none⟩ (.string ((rd_T36 l0 x7_2).f3)))) := ⟨by repeat (first | (with_reducible first | exact HB.out | apply below_alloc | apply pw_below_drewN | apply below_drew1 | refine below_set ?_ GE172.out) | exact HB.out)⟩
                                        (try clear HO_4)
                                        (try clear HO_5)
                                        (try clear BK172)
                                        (try clear HB)
                                        generalize ((((w39.setCell ⟨gb172, 0, none⟩ (.int .u8 ((rd_T36 l0 x7_2).f0))).setCell ⟨gb172, 1, none⟩ (.int .i64 ((rd_T36 l0 x7_2).f1))).setCell ⟨gb172, 2, none⟩ (.int .i64 ((rd_T36 l0 x7_2).f2))).setCell ⟨gb172, 3, none⟩ (.string ((rd_T36 l0 x7_2).f3))) = w41 at n0_ n1_ n2_ n3_ ⊢
                                        have HO_4 := n0_
                                        have HO_5 := n1_
                                        have BK172 := n2_
                                        have HB := n3_
                                        clear n0_ n1_ n2_ n3_
                                        (try (rw [drewN_self w41]; generalize hq_ : World.drewN w41 _ = w41; have n0_ : Aside0 (Kd.R (Kd.int .i64) 3 w41 w.heap.size (fun _ => True) (.slice (some ⟨go16, 0, none⟩) x4_2.length co17) x4_2) := ⟨by rw [← hq_]; exact (by (with_reducible repeat (first | apply Kd.R_alloc | apply Kd.R_drewN | apply Kd.R_drew)); exact HO_4.out)⟩; have n1_ : Aside0 (Kd.R Kd.bool 4 w41 w.heap.size (fun _ => True) (.slice (some ⟨go30, 0, none⟩) x5_2.length co30) y170) := ⟨by rw [← hq_]; exact (by (with_reducible repeat (first | apply Kd.R_alloc | apply Kd.R_drewN | apply Kd.R_drew)); exact HO_5.out)⟩; have n2_ : Aside0 (w41.heap[gb172]? = some (.cells #[.int .u8 ((rd_T36 l0 x7_2).f0), .int .i64 ((rd_T36 l0 x7_2).f1), .int .i64 ((rd_T36 l0 x7_2).f2), .string ((rd_T36 l0 x7_2).f3)] 36 (0, 0))) := ⟨by rw [← hq_]; exact (by (with_reducible repeat (first | refine blk_drewN ?_ _ | refine blk_drew ?_ | refine blk_alloc ?_ _)); exact BK172.out)⟩; have n3_ : Aside0 (Below w.heap.size w w41) := ⟨by rw [← hq_]; exact (by repeat (first | (with_reducible first | exact HB.out | apply below_alloc | apply pw_below_drewN | apply below_drew1 | refine below_set ?_ GE172.out) | exact HB.out))⟩; clear HO_4 HO_5 BK172 HB hq_; have HO_4 := n0_; have HO_5 := n1_; have BK172 := n2_; have HB := n3_; clear n0_ n1_ n2_ n3_))
                                        have n0_ := Aside0.mk (Kd.R_drew HO_4.out)
                                        have n1_ := Aside0.mk (Kd.R_drew HO_5.out)
                                        have n2_ := Aside0.mk (blk_drew BK172.out)
                                        have n3_ := Aside0.mk (below_drew1 HB.out)
                                        clear HO_4
                                        clear HO_5
                                        clear BK172
                                        clear HB
                                        have HO_4 := n0_
                                        have HO_5 := n1_
                                        have BK172 := n2_
                                        have HB := n3_
                                        clear n0_ n1_ n2_ n3_
                                        have p174 : 0 ≤ (x7_2 : Int) := of_decide_eq_true (by first | (with_reducible assumption) | assumption)
                                        have q174 : x7_2 < (x4_2.length : Int) := of_decide_eq_true (by first | (with_reducible assumption) | assumption)
                                        obtain ⟨ad174, e174, hx174_0⟩ := Kd.at_int (Kd.R_reads' HO_4.out).2.2 x7_2 p174 q174
                                        obtain rfl : (⟨go16, 0, none⟩ : Addr) = ad174 := (by injection e174)
                                        (first | simp only [add_plain] at hx174_0 | simp only [add_at] at hx174_0 | simp only [Addr.add, Nat.zero_add] at hx174_0 | skip)
                                        replace p174 := eq_true p174
                                        replace q174 := eq_true q174
                                        refine start_ (n := 7) (S := fun w' => w'.cell? ⟨gb172, 0, none⟩ = some (.int .u8 ((rd_T36 l0 x7_2).f0)) ∧ w'.cell? ⟨gb172, 1, none⟩ = some (.int .i64 ((rd_T36 l0 x7_2).f1)) ∧ w'.cell? ⟨gb172, 2, none⟩ = some (.int .i64 ((rd_T36 l0 x7_2).f2)) ∧ w'.cell? ⟨gb172, 3, none⟩ = some (.string ((rd_T36 l0 x7_2).f3)) ∧ w'.cell? ⟨go16, (x7_2).toNat, none⟩ = some (.int .i64 (rd x4_2 x7_2))) (ds := []) #[false, false, false, false, false, false, false] (by kernel_rfl) rfl rfl ⟨(blk_cell BK172.out 0).trans rfl, (blk_cell BK172.out 1).trans rfl, (blk_cell BK172.out 2).trans rfl, (blk_cell BK172.out 3).trans rfl, hx174_0⟩ (fun hHeld => ?_)
                                        generalize w41.drew = w42 at HO_4 HO_5 BK172 HB hx174_0 hHeld ⊢
                                        refine pure_ (i := 0) (N := some 56) (v := ?_) (a' := ?_) #[true, false, false, false, false, false, false] rfl rfl (by kernel_rfl) (fun _ _ _ h => h) (Or.inl ⟨by rfl, ?_⟩) ?_ ?_
                                        rotate_left
                                        · intro w'
                                          go_simp
                                          with_reducible rfl
                                        rotate_left
                                        · simp only [Act.put, List.setIfInBounds_toArray, List.set_cons_zero, List.set_cons_succ, i64_w, i32_w]
                                          rfl
                                        refine pure_ (i := 1) (N := some 57) (v := ?_) (a' := ?_) #[true, true, false, false, false, false, false] rfl rfl (by kernel_rfl) (fun _ _ _ h => h) (Or.inl ⟨by rfl, ?_⟩) ?_ ?_
                                        rotate_left
                                        · intro w'
                                          go_simp
                                          with_reducible rfl
                                        rotate_left
                                        · simp only [Act.put, List.setIfInBounds_toArray, List.set_cons_zero, List.set_cons_succ, i64_w, i32_w]
                                          rfl
                                        refine pure_ (i := 2) (N := some 58) (v := ?_) (a' := ?_) #[true, true, true, false, false, false, false] rfl rfl (by kernel_rfl) (fun _ _ _ h => h) (Or.inl ⟨by rfl, ?_⟩) ?_ ?_
                                        rotate_left
                                        · intro w'
                                          go_simp
                                          with_reducible rfl
                                        rotate_left
                                        · simp only [Act.put, List.setIfInBounds_toArray, List.set_cons_zero, List.set_cons_succ, i64_w, i32_w]
                                          rfl
                                        refine take_ (i := 3) (N := some 59) (v := ?_) (a' := ?_) #[true, true, true, true, false, false, false] rfl rfl (by kernel_rfl) (fun _ _ _ h => h) (Or.inl ⟨by rfl, ?_⟩) hHeld ?_ ?_
                                        rotate_left
                                        · rintro w' ⟨s0, s1, s2, s3, s4⟩
                                          go_simp
                                          with_reducible rfl
                                        rotate_left
                                        · simp only [Act.put, List.setIfInBounds_toArray, List.set_cons_zero, List.set_cons_succ, i64_w, i32_w]
                                          rfl
                                        refine take_ (i := 4) (N := some 60) (v := ?_) (a' := ?_) #[true, true, true, true, true, false, false] rfl rfl (by kernel_rfl) (fun _ _ _ h => h) (Or.inl ⟨by rfl, ?_⟩) hHeld ?_ ?_
                                        rotate_left
                                        · rintro w' ⟨s0, s1, s2, s3, s4⟩
                                          go_simp
                                          with_reducible rfl
                                        rotate_left
                                        · simp only [Act.put, List.setIfInBounds_toArray, List.set_cons_zero, List.set_cons_succ, i64_w, i32_w]
                                          rfl
                                        refine one_ (i := 5) (N := some 61) #[true, true, true, true, true, true, false] rfl rfl (by kernel_rfl) (by decide) (fun K hK => ?_)
                                        refine goes_ Try.func11 (by kernel_rfl) rfl #[.agg #[.int .u8 ((rd_T36 l0 x7_2).f0), .int .i64 ((rd_T36 l0 x7_2).f1), .int .i64 ((rd_T36 l0 x7_2).f2), .string ((rd_T36 l0 x7_2).f3)]] (by rfl) rfl rfl (by (try simp only [List.map_toArray, List.map_cons, List.map_nil]); first | done | rfl | (simp only [List.length_drop, List.length_take]; rfl)) ?_
                                        with_reducible refine (prompterref14_Takes.calls kj20 ((rd_T36 l0 x7_2).f0) ((rd_T36 l0 x7_2).f1) ((rd_T36 l0 x7_2).f2) ((rd_T36 l0 x7_2).f3) t175 _ A35.out).mono ?_
                                        rintro e w43 ⟨rfl, hb⟩
                                        have HS4_ := (hb.cell (World.block_lt_of_cell? _ _ (hHeld.2.2.2.2))).trans (hHeld.2.2.2.2)
                                        refine ⟨_, rfl, ?_⟩
                                        have n0_ := Aside0.mk (Kd.R_below (by (with_reducible repeat (first | apply Kd.R_alloc | apply Kd.R_drewN | apply Kd.R_drew)); exact HO_4.out) hb)
                                        have n1_ := Aside0.mk (Kd.R_below (by (with_reducible repeat (first | apply Kd.R_alloc | apply Kd.R_drewN | apply Kd.R_drew)); exact HO_5.out) hb)
                                        have n2_ := Aside0.mk (blk_below (g := gb172) (o := .cells #[.int .u8 ((rd_T36 l0 x7_2).f0), .int .i64 ((rd_T36 l0 x7_2).f1), .int .i64 ((rd_T36 l0 x7_2).f2), .string ((rd_T36 l0 x7_2).f3)] 36 (0, 0)) (by (with_reducible repeat (first | refine blk_drewN ?_ _ | refine blk_drew ?_ | refine blk_alloc ?_ _)); exact BK172.out) hb)
                                        have n3_ := Aside0.mk (below_step (by repeat (first | (with_reducible first | exact HB.out | apply below_alloc | apply pw_below_drewN | apply below_drew1 | refine below_set ?_ GE172.out) | exact HB.out)) hb)
                                        clear HO_4
                                        clear HO_5
                                        clear BK172
                                        clear HB
                                        have HO_4 := n0_
                                        have HO_5 := n1_
                                        have BK172 := n2_
                                        have HB := n3_
                                        clear n0_ n1_ n2_ n3_
                                        (try clear hb)
                                        (try clear hb2)
                                        (try clear hk)
                                        (try clear hi)
                                        refine hK.out _ _ ⟨(blk_cell BK172.out 0).trans rfl, (blk_cell BK172.out 1).trans rfl, (blk_cell BK172.out 2).trans rfl, (blk_cell BK172.out 3).trans rfl, HS4_⟩ (fun hHeld => ?_)
                                        clear hK K
                                        refine norm_ (a' := ?_) ?_ ?_
                                        rotate_left
                                        · show Act.put _ (some 61) _ = _
                                          simp only [Act.put, List.setIfInBounds_toArray, List.set_cons_zero, List.set_cons_succ, i64_w, i32_w]
                                          rfl
                                        refine pure_ (i := 6) (N := some 62) (v := ?_) (a' := ?_) #[true, true, true, true, true, true, true] rfl rfl (by kernel_rfl) (fun _ _ _ h => h) (Or.inl ⟨by rfl, ?_⟩) ?_ ?_
                                        rotate_left
                                        · intro w'
                                          go_simp
                                          with_reducible rfl
                                        rotate_left
                                        · simp only [Act.put, List.setIfInBounds_toArray, List.set_cons_zero, List.set_cons_succ, i64_w, i32_w]
                                          rfl
                                        refine done_ (by kernel_rfl) ?_
                                        try go_wp2
                                        (try simp only [← hl4_2])
                                        go_roundg kj20
                                        case measure => have := HK1.out; have := HK2.out; have := HJ20.out; omega
                                        case rel => exact ⟨(x4_2), (y170), (x7_2), (by first | rfl | (simp; done) | (simp [*]; done)), H', ⟨by have := HK1.out; have := HK2.out; have := HJ20.out; omega⟩, ⟨by (try simp only [hl4_2]); (with_reducible repeat (first | apply Kd.R_alloc | apply Kd.R_drewN | apply Kd.R_drew)); exact HO_4.out⟩, ⟨by (try simp only [hl4_2]); (with_reducible repeat (first | apply Kd.R_alloc | apply Kd.R_drewN | apply Kd.R_drew)); exact HO_5.out⟩, ⟨by repeat (first | (with_reducible first | exact HB.out | apply below_alloc | apply pw_below_drewN | apply below_drew1 | refine below_set ?_ GE172.out) | exact HB.out)⟩⟩
                                      · rw [if_neg c36] at H
                                        have c36b0 : ((rd x4_2 x7_2) == t175) = false := beq_eq_false_iff_ne.mpr c36
                                        have c36b1 : ((rd x4_2 x7_2) != t175) = true := bne_iff_ne.mpr c36
                                        simp only [Option.some.injEq, Prod.mk.injEq] at H
                                        obtain ⟨rfl, rfl⟩ := H
                                        have p30 : 0 ≤ (x7_2 : Int) := of_decide_eq_true (by first | (with_reducible assumption) | assumption)
                                        have q30 : (x7_2 : Int) < ((x5_2.length : Int) : Int) := of_decide_eq_true (by first | (with_reducible assumption) | assumption)
                                        obtain ⟨go30, co30, eo30, gb30, gl30, cl30, HG30⟩ := Kd.R_form HO_5.out (by omega)
                                        (first | cases eo30 | (injection eo30 with ea_ en_ ec_; (first | subst ea_ | (injection ea_ with ea_; subst ea_)); subst ec_; clear en_))
                                        have GB30 := Aside0.mk gb30
                                        have GG30 := Aside0.mk HG30
                                        clear gb30 gl30 HG30
                                        obtain ⟨hx30_0, hf30_0⟩ := Kd.R_celln false HO_5.out (x7_2 : Int) p30 q30
                                        replace p30 := eq_true p30
                                        replace q30 := eq_true q30
                                        have HP44 := Kd.R_putg HO_5.out (x7_2 : Int) true
                                        try go_wp2_with (first | ((with_reducible refine gate_store (t := 4) (p := 48) rfl ?_); refine store_event (t := 4) (p := 48) (v := ?vo_w45) (w1 := (wc.setCell ⟨go30, (x7_2 : Int).toNat, none⟩ (.bool true))) ?hg ?ho ?hn ?hr ?_; (case ho => rfl); (case hg => rfl); (case hn => rfl); (case hr => first | (go_simp; done) | (go_simp; rfl)); intro w45 hw; have hg : wc.grownBy w45 (some go30) := (by rw [hw]; exact HP44.2); have hp_ : Kd.R Kd.bool 4 w45 w.heap.size (fun _ => True) (.slice (some ⟨go30, 0, none⟩) x5_2.length co30) y170 := (by rw [hw, Ny170.out]; exact HP44.1); clear HP44; have n0_ := Aside0.mk (Kd.R_over' (v := (.slice (some ⟨go30, 0, none⟩) x5_2.length co30)) (by (with_reducible repeat (first | apply Kd.R_alloc | apply Kd.R_drewN | apply Kd.R_drew)); exact HO_4.out) (Kd.R_typed HO_5.out) (by decide) hg); have n1_ := Aside0.mk (hp_); have n2_ := Aside0.mk ((by rw [hw]; exact below_set (HB.out) GB30.out : Below w.heap.size w w45)); clear HO_4; clear HO_5; clear HB; have HO_4 := n0_; have HO_5 := n1_; have HB := n2_; clear n0_ n1_ n2_; clear hg hw hp_; have p171 : 0 ≤ (x7_2 : Int) := of_decide_eq_true (by first | (with_reducible assumption) | assumption); have q171 : x7_2 < (l0.length : Int) := of_decide_eq_true (by first | (with_reducible assumption) | assumption); obtain ⟨ad171, e171, hx171_0, hx171_1, hx171_2, hx171_3⟩ := at_T36 HR0.out x7_2 p171 q171; cases e171; replace hx171_0 := (HB.out.cell (World.block_lt_of_cell? w _ hx171_0)).trans hx171_0; replace hx171_1 := (HB.out.cell (World.block_lt_of_cell? w _ hx171_1)).trans hx171_1; replace hx171_2 := (HB.out.cell (World.block_lt_of_cell? w _ hx171_2)).trans hx171_2; replace hx171_3 := (HB.out.cell (World.block_lt_of_cell? w _ hx171_3)).trans hx171_3; replace p171 := eq_true p171; replace q171 := eq_true q171) | ((with_reducible refine gate_dst (N := 8) rfl ?_); refine box_event ?hg (N := 8) ?hd (cs := #[.int .u8 0, .int .i64 0, .int .i64 0, .string (⟨#[]⟩ : ByteArray)]) (t := 36) ?hr ?_; (case hd => rfl); (case hg => rfl); (case hr => first | (go_simp; done) | (go_simp; rfl)); intro gb172 hg w46 hbox hb; have n0_ := Aside0.mk (Kd.R_below (by (with_reducible repeat (first | apply Kd.R_alloc | apply Kd.R_drewN | apply Kd.R_drew)); exact HO_4.out) hb); have n1_ := Aside0.mk (Kd.R_below (by (with_reducible repeat (first | apply Kd.R_alloc | apply Kd.R_drewN | apply Kd.R_drew)); exact HO_5.out) hb); have n2_ := Aside0.mk (below_step (by repeat (first | (with_reducible first | exact HB.out | apply below_alloc | apply pw_below_drewN | apply below_drew1) | exact HB.out)) hb); have n3_ := Aside0.mk (hbox); have n4_ := Aside0.mk ((by rw [hg]; exact (below_size (by repeat (first | (with_reducible first | exact HB.out | apply below_alloc | apply pw_below_drewN | apply below_drew1) | exact HB.out))) : w.heap.size ≤ gb172)); have n5_ := Aside0.mk ((by rw [hg]; exact (below_size (by repeat (first | (with_reducible first | exact HB.out | apply below_alloc | apply pw_below_drewN | apply below_drew1) | exact HB.out))) : w.heap.size ≤ gb172)); clear HO_4; clear HO_5; clear HB; have HO_4 := n0_; have HO_5 := n1_; have HB := n2_; have BK172 := n3_; have GW172 := n4_; have GE172 := n5_; clear n0_ n1_ n2_ n3_ n4_ n5_; clear hb hbox hg; have hcz47_0 : w46.cell? ⟨gb172, 0, none⟩ = some (.int .u8 0) := (blk_cell BK172.out 0).trans rfl; have hcz47_1 : w46.cell? ⟨gb172, 1, none⟩ = some (.int .i64 0) := (blk_cell BK172.out 1).trans rfl; have hcz47_2 : w46.cell? ⟨gb172, 2, none⟩ = some (.int .i64 0) := (blk_cell BK172.out 2).trans rfl; have hcz47_3 : w46.cell? ⟨gb172, 3, none⟩ = some (.string (⟨#[]⟩ : ByteArray)) := (blk_cell BK172.out 3).trans rfl; have hfz47_0 := blk_frozen BK172.out 0; have hfz47_1 := blk_frozen BK172.out 1; have hfz47_2 := blk_frozen BK172.out 2; have hfz47_3 := blk_frozen BK172.out 3) | ((with_reducible refine gate_callee (f := 12) rfl ?_); refine goesL_ (some 55) rfl rfl Try.func12 (by kernel_rfl) rfl #[.int .u8 ((rd_T36 l0 x7_2).f0)] rfl (by (try simp only [List.map_toArray, List.map_cons, List.map_nil]); first | done | rfl | (simp only [List.length_drop, List.length_take]; rfl)) ?_; (with_reducible refine (prompterref14_Ends.calls ((rd_T36 l0 x7_2).f0) true _ A32.out).mono ?_); rintro e w' ⟨rfl, ⟨nd, rfl⟩⟩; refine ⟨_, rfl, ?_⟩))
                                        have n0_ : Aside0 (Kd.R (Kd.int .i64) 3 ((((w46.setCell ⟨gb172, 0, none⟩ (.int .u8 ((rd_T36 l0 x7_2).f0))).setCell ⟨gb172, 1, none⟩ (.int .i64 ((rd_T36 l0 x7_2).f1))).setCell ⟨gb172, 2, none⟩ (.int .i64 ((rd_T36 l0 x7_2).f2))).setCell ⟨gb172, 3, none⟩ (.string ((rd_T36 l0 x7_2).f3))) w.heap.size (fun _ => True) (.slice (some ⟨go16, 0, none⟩) x4_2.length co17) x4_2) := ⟨by (with_reducible repeat (first | apply Kd.R_alloc | apply Kd.R_drewN | apply Kd.R_drew)); exact Kd.R_mono (Kd.R_far (p := ⟨gb172, 3, none⟩) (Kd.R_far (p := ⟨gb172, 2, none⟩) (Kd.R_far (p := ⟨gb172, 1, none⟩) (Kd.R_far (p := ⟨gb172, 0, none⟩) (Kd.R_types HO_4.out BK172.out (by decide)) (fun _ hk => hk.2) (.int .u8 ((rd_T36 l0 x7_2).f0))) (fun _ hk => hk.2) (.int .i64 ((rd_T36 l0 x7_2).f1))) (fun _ hk => hk.2) (.int .i64 ((rd_T36 l0 x7_2).f2))) (fun _ hk => hk.2) (.string ((rd_T36 l0 x7_2).f3))) (fun _ hk => trivial)⟩
                                        have n1_ : Aside0 (Kd.R Kd.bool 4 ((((w46.setCell ⟨gb172, 0, none⟩ (.int .u8 ((rd_T36 l0 x7_2).f0))).setCell ⟨gb172, 1, none⟩ (.int .i64 ((rd_T36 l0 x7_2).f1))).setCell ⟨gb172, 2, none⟩ (.int .i64 ((rd_T36 l0 x7_2).f2))).setCell ⟨gb172, 3, none⟩ (.string ((rd_T36 l0 x7_2).f3))) w.heap.size (fun _ => True) (.slice (some ⟨go30, 0, none⟩) x5_2.length co30) y170) := ⟨by (with_reducible repeat (first | apply Kd.R_alloc | apply Kd.R_drewN | apply Kd.R_drew)); exact Kd.R_mono (Kd.R_far (p := ⟨gb172, 3, none⟩) (Kd.R_far (p := ⟨gb172, 2, none⟩) (Kd.R_far (p := ⟨gb172, 1, none⟩) (Kd.R_far (p := ⟨gb172, 0, none⟩) (Kd.R_types HO_5.out BK172.out (by decide)) (fun _ hk => hk.2) (.int .u8 ((rd_T36 l0 x7_2).f0))) (fun _ hk => hk.2) (.int .i64 ((rd_T36 l0 x7_2).f1))) (fun _ hk => hk.2) (.int .i64 ((rd_T36 l0 x7_2).f2))) (fun _ hk => hk.2) (.string ((rd_T36 l0 x7_2).f3))) (fun _ hk => trivial)⟩
                                        have n2_ : Aside0 (((((w46.setCell ⟨gb172, 0, none⟩ (.int .u8 ((rd_T36 l0 x7_2).f0))).setCell ⟨gb172, 1, none⟩ (.int .i64 ((rd_T36 l0 x7_2).f1))).setCell ⟨gb172, 2, none⟩ (.int .i64 ((rd_T36 l0 x7_2).f2))).setCell ⟨gb172, 3, none⟩ (.string ((rd_T36 l0 x7_2).f3))).heap[gb172]? = some (.cells #[.int .u8 ((rd_T36 l0 x7_2).f0), .int .i64 ((rd_T36 l0 x7_2).f1), .int .i64 ((rd_T36 l0 x7_2).f2), .string ((rd_T36 l0 x7_2).f3)] 36 (0, 0))) := ⟨by (with_reducible repeat (first | refine blk_drewN ?_ _ | refine blk_drew ?_ | refine blk_alloc ?_ _)); refine blk_put (cs := #[.int .u8 ((rd_T36 l0 x7_2).f0), .int .i64 ((rd_T36 l0 x7_2).f1), .int .i64 ((rd_T36 l0 x7_2).f2), .string (⟨#[]⟩ : ByteArray)]) ?_ 3 _ rfl; (with_reducible repeat (first | refine blk_drewN ?_ _ | refine blk_drew ?_ | refine blk_alloc ?_ _)); refine blk_put (cs := #[.int .u8 ((rd_T36 l0 x7_2).f0), .int .i64 ((rd_T36 l0 x7_2).f1), .int .i64 0, .string (⟨#[]⟩ : ByteArray)]) ?_ 2 _ rfl; (with_reducible repeat (first | refine blk_drewN ?_ _ | refine blk_drew ?_ | refine blk_alloc ?_ _)); refine blk_put (cs := #[.int .u8 ((rd_T36 l0 x7_2).f0), .int .i64 0, .int .i64 0, .string (⟨#[]⟩ : ByteArray)]) ?_ 1 _ rfl; (with_reducible repeat (first | refine blk_drewN ?_ _ | refine blk_drew ?_ | refine blk_alloc ?_ _)); refine blk_put (cs := #[.int .u8 0, .int .i64 0, .int .i64 0, .string (⟨#[]⟩ : ByteArray)]) ?_ 0 _ rfl; (with_reducible repeat (first | refine blk_drewN ?_ _ | refine blk_drew ?_ | refine blk_alloc ?_ _)); exact BK172.out⟩
                                        have n3_ : Aside0 (Below w.heap.size w ((((w46.setCell ⟨gb172, 0, none⟩ (.int .u8 ((rd_T36 l0 x7_2).f0))).setCell ⟨gb172, 1, none⟩ (.int .i64 ((rd_T36 l0 x7_2).f1))).setCell ⟨gb172, 2, none⟩ (.int .i64 ((rd_T36 l0 x7_2).f2))).setCell ⟨gb172, 3, none⟩ (.string ((rd_T36 l0 x7_2).f3)))) := ⟨by repeat (first | (with_reducible first | exact HB.out | apply below_alloc | apply pw_below_drewN | apply below_drew1 | refine below_set ?_ GE172.out) | exact HB.out)⟩
                                        (try clear HO_4)
                                        (try clear HO_5)
                                        (try clear BK172)
                                        (try clear HB)
                                        generalize ((((w46.setCell ⟨gb172, 0, none⟩ (.int .u8 ((rd_T36 l0 x7_2).f0))).setCell ⟨gb172, 1, none⟩ (.int .i64 ((rd_T36 l0 x7_2).f1))).setCell ⟨gb172, 2, none⟩ (.int .i64 ((rd_T36 l0 x7_2).f2))).setCell ⟨gb172, 3, none⟩ (.string ((rd_T36 l0 x7_2).f3))) = w48 at n0_ n1_ n2_ n3_ ⊢
                                        have HO_4 := n0_
                                        have HO_5 := n1_
                                        have BK172 := n2_
                                        have HB := n3_
                                        clear n0_ n1_ n2_ n3_
                                        (try (rw [drewN_self w48]; generalize hq_ : World.drewN w48 _ = w48; have n0_ : Aside0 (Kd.R (Kd.int .i64) 3 w48 w.heap.size (fun _ => True) (.slice (some ⟨go16, 0, none⟩) x4_2.length co17) x4_2) := ⟨by rw [← hq_]; exact (by (with_reducible repeat (first | apply Kd.R_alloc | apply Kd.R_drewN | apply Kd.R_drew)); exact HO_4.out)⟩; have n1_ : Aside0 (Kd.R Kd.bool 4 w48 w.heap.size (fun _ => True) (.slice (some ⟨go30, 0, none⟩) x5_2.length co30) y170) := ⟨by rw [← hq_]; exact (by (with_reducible repeat (first | apply Kd.R_alloc | apply Kd.R_drewN | apply Kd.R_drew)); exact HO_5.out)⟩; have n2_ : Aside0 (w48.heap[gb172]? = some (.cells #[.int .u8 ((rd_T36 l0 x7_2).f0), .int .i64 ((rd_T36 l0 x7_2).f1), .int .i64 ((rd_T36 l0 x7_2).f2), .string ((rd_T36 l0 x7_2).f3)] 36 (0, 0))) := ⟨by rw [← hq_]; exact (by (with_reducible repeat (first | refine blk_drewN ?_ _ | refine blk_drew ?_ | refine blk_alloc ?_ _)); exact BK172.out)⟩; have n3_ : Aside0 (Below w.heap.size w w48) := ⟨by rw [← hq_]; exact (by repeat (first | (with_reducible first | exact HB.out | apply below_alloc | apply pw_below_drewN | apply below_drew1 | refine below_set ?_ GE172.out) | exact HB.out))⟩; clear HO_4 HO_5 BK172 HB hq_; have HO_4 := n0_; have HO_5 := n1_; have BK172 := n2_; have HB := n3_; clear n0_ n1_ n2_ n3_))
                                        have n0_ := Aside0.mk (Kd.R_drew HO_4.out)
                                        have n1_ := Aside0.mk (Kd.R_drew HO_5.out)
                                        have n2_ := Aside0.mk (blk_drew BK172.out)
                                        have n3_ := Aside0.mk (below_drew1 HB.out)
                                        clear HO_4
                                        clear HO_5
                                        clear BK172
                                        clear HB
                                        have HO_4 := n0_
                                        have HO_5 := n1_
                                        have BK172 := n2_
                                        have HB := n3_
                                        clear n0_ n1_ n2_ n3_
                                        have p174 : 0 ≤ (x7_2 : Int) := of_decide_eq_true (by first | (with_reducible assumption) | assumption)
                                        have q174 : x7_2 < (x4_2.length : Int) := of_decide_eq_true (by first | (with_reducible assumption) | assumption)
                                        obtain ⟨ad174, e174, hx174_0⟩ := Kd.at_int (Kd.R_reads' HO_4.out).2.2 x7_2 p174 q174
                                        obtain rfl : (⟨go16, 0, none⟩ : Addr) = ad174 := (by injection e174)
                                        (first | simp only [add_plain] at hx174_0 | simp only [add_at] at hx174_0 | simp only [Addr.add, Nat.zero_add] at hx174_0 | skip)
                                        replace p174 := eq_true p174
                                        replace q174 := eq_true q174
                                        refine start_ (n := 7) (S := fun w' => w'.cell? ⟨gb172, 0, none⟩ = some (.int .u8 ((rd_T36 l0 x7_2).f0)) ∧ w'.cell? ⟨gb172, 1, none⟩ = some (.int .i64 ((rd_T36 l0 x7_2).f1)) ∧ w'.cell? ⟨gb172, 2, none⟩ = some (.int .i64 ((rd_T36 l0 x7_2).f2)) ∧ w'.cell? ⟨gb172, 3, none⟩ = some (.string ((rd_T36 l0 x7_2).f3)) ∧ w'.cell? ⟨go16, (x7_2).toNat, none⟩ = some (.int .i64 (rd x4_2 x7_2))) (ds := []) #[false, false, false, false, false, false, false] (by kernel_rfl) rfl rfl ⟨(blk_cell BK172.out 0).trans rfl, (blk_cell BK172.out 1).trans rfl, (blk_cell BK172.out 2).trans rfl, (blk_cell BK172.out 3).trans rfl, hx174_0⟩ (fun hHeld => ?_)
                                        generalize w48.drew = w49 at HO_4 HO_5 BK172 HB hx174_0 hHeld ⊢
                                        refine pure_ (i := 0) (N := some 56) (v := ?_) (a' := ?_) #[true, false, false, false, false, false, false] rfl rfl (by kernel_rfl) (fun _ _ _ h => h) (Or.inl ⟨by rfl, ?_⟩) ?_ ?_
                                        rotate_left
                                        · intro w'
                                          go_simp
                                          with_reducible rfl
                                        rotate_left
                                        · simp only [Act.put, List.setIfInBounds_toArray, List.set_cons_zero, List.set_cons_succ, i64_w, i32_w]
                                          rfl
                                        refine pure_ (i := 1) (N := some 57) (v := ?_) (a' := ?_) #[true, true, false, false, false, false, false] rfl rfl (by kernel_rfl) (fun _ _ _ h => h) (Or.inl ⟨by rfl, ?_⟩) ?_ ?_
                                        rotate_left
                                        · intro w'
                                          go_simp
                                          with_reducible rfl
                                        rotate_left
                                        · simp only [Act.put, List.setIfInBounds_toArray, List.set_cons_zero, List.set_cons_succ, i64_w, i32_w]
                                          rfl
                                        refine pure_ (i := 2) (N := some 58) (v := ?_) (a' := ?_) #[true, true, true, false, false, false, false] rfl rfl (by kernel_rfl) (fun _ _ _ h => h) (Or.inl ⟨by rfl, ?_⟩) ?_ ?_
                                        rotate_left
                                        · intro w'
                                          go_simp
                                          with_reducible rfl
                                        rotate_left
                                        · simp only [Act.put, List.setIfInBounds_toArray, List.set_cons_zero, List.set_cons_succ, i64_w, i32_w]
                                          rfl
                                        refine take_ (i := 3) (N := some 59) (v := ?_) (a' := ?_) #[true, true, true, true, false, false, false] rfl rfl (by kernel_rfl) (fun _ _ _ h => h) (Or.inl ⟨by rfl, ?_⟩) hHeld ?_ ?_
                                        rotate_left
                                        · rintro w' ⟨s0, s1, s2, s3, s4⟩
                                          go_simp
                                          with_reducible rfl
                                        rotate_left
                                        · simp only [Act.put, List.setIfInBounds_toArray, List.set_cons_zero, List.set_cons_succ, i64_w, i32_w]
                                          rfl
                                        refine take_ (i := 4) (N := some 60) (v := ?_) (a' := ?_) #[true, true, true, true, true, false, false] rfl rfl (by kernel_rfl) (fun _ _ _ h => h) (Or.inl ⟨by rfl, ?_⟩) hHeld ?_ ?_
                                        rotate_left
                                        · rintro w' ⟨s0, s1, s2, s3, s4⟩
                                          go_simp
                                          with_reducible rfl
                                        rotate_left
                                        · simp only [Act.put, List.setIfInBounds_toArray, List.set_cons_zero, List.set_cons_succ, i64_w, i32_w]
                                          rfl
                                        refine one_ (i := 5) (N := some 61) #[true, true, true, true, true, true, false] rfl rfl (by kernel_rfl) (by decide) (fun K hK => ?_)
                                        refine goes_ Try.func11 (by kernel_rfl) rfl #[.agg #[.int .u8 ((rd_T36 l0 x7_2).f0), .int .i64 ((rd_T36 l0 x7_2).f1), .int .i64 ((rd_T36 l0 x7_2).f2), .string ((rd_T36 l0 x7_2).f3)]] (by rfl) rfl rfl (by (try simp only [List.map_toArray, List.map_cons, List.map_nil]); first | done | rfl | (simp only [List.length_drop, List.length_take]; rfl)) ?_
                                        with_reducible refine (prompterref14_Takes.calls kj20 ((rd_T36 l0 x7_2).f0) ((rd_T36 l0 x7_2).f1) ((rd_T36 l0 x7_2).f2) ((rd_T36 l0 x7_2).f3) t175 _ A35.out).mono ?_
                                        rintro e w50 ⟨rfl, hb⟩
                                        have HS4_ := (hb.cell (World.block_lt_of_cell? _ _ (hHeld.2.2.2.2))).trans (hHeld.2.2.2.2)
                                        refine ⟨_, rfl, ?_⟩
                                        have n0_ := Aside0.mk (Kd.R_below (by (with_reducible repeat (first | apply Kd.R_alloc | apply Kd.R_drewN | apply Kd.R_drew)); exact HO_4.out) hb)
                                        have n1_ := Aside0.mk (Kd.R_below (by (with_reducible repeat (first | apply Kd.R_alloc | apply Kd.R_drewN | apply Kd.R_drew)); exact HO_5.out) hb)
                                        have n2_ := Aside0.mk (blk_below (g := gb172) (o := .cells #[.int .u8 ((rd_T36 l0 x7_2).f0), .int .i64 ((rd_T36 l0 x7_2).f1), .int .i64 ((rd_T36 l0 x7_2).f2), .string ((rd_T36 l0 x7_2).f3)] 36 (0, 0)) (by (with_reducible repeat (first | refine blk_drewN ?_ _ | refine blk_drew ?_ | refine blk_alloc ?_ _)); exact BK172.out) hb)
                                        have n3_ := Aside0.mk (below_step (by repeat (first | (with_reducible first | exact HB.out | apply below_alloc | apply pw_below_drewN | apply below_drew1 | refine below_set ?_ GE172.out) | exact HB.out)) hb)
                                        clear HO_4
                                        clear HO_5
                                        clear BK172
                                        clear HB
                                        have HO_4 := n0_
                                        have HO_5 := n1_
                                        have BK172 := n2_
                                        have HB := n3_
                                        clear n0_ n1_ n2_ n3_
                                        (try clear hb)
                                        (try clear hb2)
                                        (try clear hk)
                                        (try clear hi)
                                        refine hK.out _ _ ⟨(blk_cell BK172.out 0).trans rfl, (blk_cell BK172.out 1).trans rfl, (blk_cell BK172.out 2).trans rfl, (blk_cell BK172.out 3).trans rfl, HS4_⟩ (fun hHeld => ?_)
                                        clear hK K
                                        refine norm_ (a' := ?_) ?_ ?_
                                        rotate_left
                                        · show Act.put _ (some 61) _ = _
                                          simp only [Act.put, List.setIfInBounds_toArray, List.set_cons_zero, List.set_cons_succ, i64_w, i32_w]
                                          rfl
                                        refine pure_ (i := 6) (N := some 62) (v := ?_) (a' := ?_) #[true, true, true, true, true, true, true] rfl rfl (by kernel_rfl) (fun _ _ _ h => h) (Or.inl ⟨by rfl, ?_⟩) ?_ ?_
                                        rotate_left
                                        · intro w'
                                          go_simp
                                          with_reducible rfl
                                        rotate_left
                                        · simp only [Act.put, List.setIfInBounds_toArray, List.set_cons_zero, List.set_cons_succ, i64_w, i32_w]
                                          rfl
                                        refine done_ (by kernel_rfl) ?_
                                        try go_wp2
                                        go_ret2
                                        exact ⟨_, by first | rfl | (simp [errW_none, errW_some] <;> rfl) | (simp [*, errW_none, errW_some] <;> rfl), by (with_reducible repeat (first | apply Kd.R_alloc | apply Kd.R_drewN | apply Kd.R_drew)); exact HO_4.out, by repeat (first | (with_reducible first | exact HB.out | apply below_alloc | apply pw_below_drewN | apply below_drew1 | refine below_set ?_ GE172.out) | exact HB.out)⟩
                                    · rw [if_neg c34] at H
                                      exact absurd H (by simp)
                                  · replace c33 := Bool.eq_false_iff.mpr c33
                                    subst c33
                                    have H1 : (if x7_2 < (x4_2.length : Int) then ((prompterref14_Takes.f kj20 ((rd_T36 l0 x7_2).f0) ((rd_T36 l0 x7_2).f1) ((rd_T36 l0 x7_2).f2) ((rd_T36 l0 x7_2).f3)).bind fun t177 => (if (rd x4_2 x7_2) < t177 then (some (x4_2, x7_2)) else ((prompterref14_Behind.f kj20 ((rd_T36 l0 x7_2).f0) ((rd_T36 l0 x7_2).f1) ((rd_T36 l0 x7_2).f2) ((rd_T36 l0 x7_2).f3) (rd x4_2 x7_2)).bind fun bt179 => ((prompterref14_Of.f kj20 ((rd_T36 l0 x7_2).f0)).bind fun bt181 => (if bt181.2.1 = 1 then (if 0 ≤ ((rd_T36 l0 x7_2).f1) then (if ((rd_T36 l0 x7_2).f1) < (x4_2.length : Int) then (if (rd x4_2 ((rd_T36 l0 x7_2).f1)) < 0 then ((some (x4_2.set (((rd_T36 l0 x7_2).f1) : Int).toNat bt179.1 : List Int)).bind fun y189 => (if (rd y189 ((rd_T36 l0 x7_2).f1)) = bt179.1 then (prompterref14_Fits.j3 kj20 l0 y189 y170 (mn x7_2 ((rd_T36 l0 x7_2).f1)) bt179.2 x7_2 ((rd_T36 l0 x7_2).f0) ((rd_T36 l0 x7_2).f1) ((rd_T36 l0 x7_2).f2) ((rd_T36 l0 x7_2).f3)) else (some (y189, x7_2)))) else (if (rd x4_2 ((rd_T36 l0 x7_2).f1)) = bt179.1 then (prompterref14_Fits.j3 kj20 l0 x4_2 y170 x7_2 bt179.2 x7_2 ((rd_T36 l0 x7_2).f0) ((rd_T36 l0 x7_2).f1) ((rd_T36 l0 x7_2).f2) ((rd_T36 l0 x7_2).f3)) else (some (x4_2, x7_2)))) else (none)) else (none)) else (prompterref14_Fits.j3 kj20 l0 x4_2 y170 x7_2 bt179.2 x7_2 ((rd_T36 l0 x7_2).f0) ((rd_T36 l0 x7_2).f1) ((rd_T36 l0 x7_2).f2) ((rd_T36 l0 x7_2).f3))))))) else (none)) = some (r1, r2) := by rw [if_neg (show ¬ (false = true) by decide)] at H; exact H
                                    clear H
                                    have H := H1
                                    clear H1
                                    by_cases c51 : x7_2 < (x4_2.length : Int)
                                    · rw [if_pos c51] at H
                                      have c51b0 : decide (x7_2 < (x4_2.length : Int)) = true := decide_eq_true c51
                                      clear c51
                                      replace H := Option.bind_eq_some_iff.mp H
                                      obtain ⟨t177, A520, H⟩ := H
                                      replace H : (if (rd x4_2 x7_2) < t177 then (some (x4_2, x7_2)) else ((prompterref14_Behind.f kj20 ((rd_T36 l0 x7_2).f0) ((rd_T36 l0 x7_2).f1) ((rd_T36 l0 x7_2).f2) ((rd_T36 l0 x7_2).f3) (rd x4_2 x7_2)).bind fun bt179 => ((prompterref14_Of.f kj20 ((rd_T36 l0 x7_2).f0)).bind fun bt181 => (if bt181.2.1 = 1 then (if 0 ≤ ((rd_T36 l0 x7_2).f1) then (if ((rd_T36 l0 x7_2).f1) < (x4_2.length : Int) then (if (rd x4_2 ((rd_T36 l0 x7_2).f1)) < 0 then ((some (x4_2.set (((rd_T36 l0 x7_2).f1) : Int).toNat bt179.1 : List Int)).bind fun y189 => (if (rd y189 ((rd_T36 l0 x7_2).f1)) = bt179.1 then (prompterref14_Fits.j3 kj20 l0 y189 y170 (mn x7_2 ((rd_T36 l0 x7_2).f1)) bt179.2 x7_2 ((rd_T36 l0 x7_2).f0) ((rd_T36 l0 x7_2).f1) ((rd_T36 l0 x7_2).f2) ((rd_T36 l0 x7_2).f3)) else (some (y189, x7_2)))) else (if (rd x4_2 ((rd_T36 l0 x7_2).f1)) = bt179.1 then (prompterref14_Fits.j3 kj20 l0 x4_2 y170 x7_2 bt179.2 x7_2 ((rd_T36 l0 x7_2).f0) ((rd_T36 l0 x7_2).f1) ((rd_T36 l0 x7_2).f2) ((rd_T36 l0 x7_2).f3)) else (some (x4_2, x7_2)))) else (none)) else (none)) else (prompterref14_Fits.j3 kj20 l0 x4_2 y170 x7_2 bt179.2 x7_2 ((rd_T36 l0 x7_2).f0) ((rd_T36 l0 x7_2).f1) ((rd_T36 l0 x7_2).f2) ((rd_T36 l0 x7_2).f3)))))) = some (r1, r2) := H
                                      have A52 := Aside0.mk A520
                                      clear A520
                                      by_cases c53 : (rd x4_2 x7_2) < t177
                                      · rw [if_pos c53] at H
                                        have c53b0 : decide ((rd x4_2 x7_2) < t177) = true := decide_eq_true c53
                                        clear c53
                                        simp only [Option.some.injEq, Prod.mk.injEq] at H
                                        obtain ⟨rfl, rfl⟩ := H
                                        have p30 : 0 ≤ (x7_2 : Int) := of_decide_eq_true (by first | (with_reducible assumption) | assumption)
                                        have q30 : (x7_2 : Int) < ((x5_2.length : Int) : Int) := of_decide_eq_true (by first | (with_reducible assumption) | assumption)
                                        obtain ⟨go30, co30, eo30, gb30, gl30, cl30, HG30⟩ := Kd.R_form HO_5.out (by omega)
                                        (first | cases eo30 | (injection eo30 with ea_ en_ ec_; (first | subst ea_ | (injection ea_ with ea_; subst ea_)); subst ec_; clear en_))
                                        have GB30 := Aside0.mk gb30
                                        have GG30 := Aside0.mk HG30
                                        clear gb30 gl30 HG30
                                        obtain ⟨hx30_0, hf30_0⟩ := Kd.R_celln false HO_5.out (x7_2 : Int) p30 q30
                                        replace p30 := eq_true p30
                                        replace q30 := eq_true q30
                                        have HP54 := Kd.R_putg HO_5.out (x7_2 : Int) true
                                        try go_wp2_with (first | ((with_reducible refine gate_store (t := 4) (p := 48) rfl ?_); refine store_event (t := 4) (p := 48) (v := ?vo_w55) (w1 := (wc.setCell ⟨go30, (x7_2 : Int).toNat, none⟩ (.bool true))) ?hg ?ho ?hn ?hr ?_; (case ho => rfl); (case hg => rfl); (case hn => rfl); (case hr => first | (go_simp; done) | (go_simp; rfl)); intro w55 hw; have hg : wc.grownBy w55 (some go30) := (by rw [hw]; exact HP54.2); have hp_ : Kd.R Kd.bool 4 w55 w.heap.size (fun _ => True) (.slice (some ⟨go30, 0, none⟩) x5_2.length co30) y170 := (by rw [hw, Ny170.out]; exact HP54.1); clear HP54; have n0_ := Aside0.mk (Kd.R_over' (v := (.slice (some ⟨go30, 0, none⟩) x5_2.length co30)) (by (with_reducible repeat (first | apply Kd.R_alloc | apply Kd.R_drewN | apply Kd.R_drew)); exact HO_4.out) (Kd.R_typed HO_5.out) (by decide) hg); have n1_ := Aside0.mk (hp_); have n2_ := Aside0.mk ((by rw [hw]; exact below_set (HB.out) GB30.out : Below w.heap.size w w55)); clear HO_4; clear HO_5; clear HB; have HO_4 := n0_; have HO_5 := n1_; have HB := n2_; clear n0_ n1_ n2_; clear hg hw hp_; have p171 : 0 ≤ (x7_2 : Int) := of_decide_eq_true (by first | (with_reducible assumption) | assumption); have q171 : x7_2 < (l0.length : Int) := of_decide_eq_true (by first | (with_reducible assumption) | assumption); obtain ⟨ad171, e171, hx171_0, hx171_1, hx171_2, hx171_3⟩ := at_T36 HR0.out x7_2 p171 q171; cases e171; replace hx171_0 := (HB.out.cell (World.block_lt_of_cell? w _ hx171_0)).trans hx171_0; replace hx171_1 := (HB.out.cell (World.block_lt_of_cell? w _ hx171_1)).trans hx171_1; replace hx171_2 := (HB.out.cell (World.block_lt_of_cell? w _ hx171_2)).trans hx171_2; replace hx171_3 := (HB.out.cell (World.block_lt_of_cell? w _ hx171_3)).trans hx171_3; replace p171 := eq_true p171; replace q171 := eq_true q171) | ((with_reducible refine gate_dst (N := 8) rfl ?_); refine box_event ?hg (N := 8) ?hd (cs := #[.int .u8 0, .int .i64 0, .int .i64 0, .string (⟨#[]⟩ : ByteArray)]) (t := 36) ?hr ?_; (case hd => rfl); (case hg => rfl); (case hr => first | (go_simp; done) | (go_simp; rfl)); intro gb172 hg w56 hbox hb; have n0_ := Aside0.mk (Kd.R_below (by (with_reducible repeat (first | apply Kd.R_alloc | apply Kd.R_drewN | apply Kd.R_drew)); exact HO_4.out) hb); have n1_ := Aside0.mk (Kd.R_below (by (with_reducible repeat (first | apply Kd.R_alloc | apply Kd.R_drewN | apply Kd.R_drew)); exact HO_5.out) hb); have n2_ := Aside0.mk (below_step (by repeat (first | (with_reducible first | exact HB.out | apply below_alloc | apply pw_below_drewN | apply below_drew1) | exact HB.out)) hb); have n3_ := Aside0.mk (hbox); have n4_ := Aside0.mk ((by rw [hg]; exact (below_size (by repeat (first | (with_reducible first | exact HB.out | apply below_alloc | apply pw_below_drewN | apply below_drew1) | exact HB.out))) : w.heap.size ≤ gb172)); have n5_ := Aside0.mk ((by rw [hg]; exact (below_size (by repeat (first | (with_reducible first | exact HB.out | apply below_alloc | apply pw_below_drewN | apply below_drew1) | exact HB.out))) : w.heap.size ≤ gb172)); clear HO_4; clear HO_5; clear HB; have HO_4 := n0_; have HO_5 := n1_; have HB := n2_; have BK172 := n3_; have GW172 := n4_; have GE172 := n5_; clear n0_ n1_ n2_ n3_ n4_ n5_; clear hb hbox hg; have hcz57_0 : w56.cell? ⟨gb172, 0, none⟩ = some (.int .u8 0) := (blk_cell BK172.out 0).trans rfl; have hcz57_1 : w56.cell? ⟨gb172, 1, none⟩ = some (.int .i64 0) := (blk_cell BK172.out 1).trans rfl; have hcz57_2 : w56.cell? ⟨gb172, 2, none⟩ = some (.int .i64 0) := (blk_cell BK172.out 2).trans rfl; have hcz57_3 : w56.cell? ⟨gb172, 3, none⟩ = some (.string (⟨#[]⟩ : ByteArray)) := (blk_cell BK172.out 3).trans rfl; have hfz57_0 := blk_frozen BK172.out 0; have hfz57_1 := blk_frozen BK172.out 1; have hfz57_2 := blk_frozen BK172.out 2; have hfz57_3 := blk_frozen BK172.out 3) | ((with_reducible refine gate_callee (f := 12) rfl ?_); refine goesL_ (some 55) rfl rfl Try.func12 (by kernel_rfl) rfl #[.int .u8 ((rd_T36 l0 x7_2).f0)] rfl (by (try simp only [List.map_toArray, List.map_cons, List.map_nil]); first | done | rfl | (simp only [List.length_drop, List.length_take]; rfl)) ?_; (with_reducible refine (prompterref14_Ends.calls ((rd_T36 l0 x7_2).f0) false _ A32.out).mono ?_); rintro e w' ⟨rfl, ⟨nd, rfl⟩⟩; refine ⟨_, rfl, ?_⟩))
                                        have n0_ : Aside0 (Kd.R (Kd.int .i64) 3 ((((w56.setCell ⟨gb172, 0, none⟩ (.int .u8 ((rd_T36 l0 x7_2).f0))).setCell ⟨gb172, 1, none⟩ (.int .i64 ((rd_T36 l0 x7_2).f1))).setCell ⟨gb172, 2, none⟩ (.int .i64 ((rd_T36 l0 x7_2).f2))).setCell ⟨gb172, 3, none⟩ (.string ((rd_T36 l0 x7_2).f3))) w.heap.size (fun _ => True) (.slice (some ⟨go16, 0, none⟩) x4_2.length co17) x4_2) := ⟨by (with_reducible repeat (first | apply Kd.R_alloc | apply Kd.R_drewN | apply Kd.R_drew)); exact Kd.R_mono (Kd.R_far (p := ⟨gb172, 3, none⟩) (Kd.R_far (p := ⟨gb172, 2, none⟩) (Kd.R_far (p := ⟨gb172, 1, none⟩) (Kd.R_far (p := ⟨gb172, 0, none⟩) (Kd.R_types HO_4.out BK172.out (by decide)) (fun _ hk => hk.2) (.int .u8 ((rd_T36 l0 x7_2).f0))) (fun _ hk => hk.2) (.int .i64 ((rd_T36 l0 x7_2).f1))) (fun _ hk => hk.2) (.int .i64 ((rd_T36 l0 x7_2).f2))) (fun _ hk => hk.2) (.string ((rd_T36 l0 x7_2).f3))) (fun _ hk => trivial)⟩
                                        have n1_ : Aside0 (Kd.R Kd.bool 4 ((((w56.setCell ⟨gb172, 0, none⟩ (.int .u8 ((rd_T36 l0 x7_2).f0))).setCell ⟨gb172, 1, none⟩ (.int .i64 ((rd_T36 l0 x7_2).f1))).setCell ⟨gb172, 2, none⟩ (.int .i64 ((rd_T36 l0 x7_2).f2))).setCell ⟨gb172, 3, none⟩ (.string ((rd_T36 l0 x7_2).f3))) w.heap.size (fun _ => True) (.slice (some ⟨go30, 0, none⟩) x5_2.length co30) y170) := ⟨by (with_reducible repeat (first | apply Kd.R_alloc | apply Kd.R_drewN | apply Kd.R_drew)); exact Kd.R_mono (Kd.R_far (p := ⟨gb172, 3, none⟩) (Kd.R_far (p := ⟨gb172, 2, none⟩) (Kd.R_far (p := ⟨gb172, 1, none⟩) (Kd.R_far (p := ⟨gb172, 0, none⟩) (Kd.R_types HO_5.out BK172.out (by decide)) (fun _ hk => hk.2) (.int .u8 ((rd_T36 l0 x7_2).f0))) (fun _ hk => hk.2) (.int .i64 ((rd_T36 l0 x7_2).f1))) (fun _ hk => hk.2) (.int .i64 ((rd_T36 l0 x7_2).f2))) (fun _ hk => hk.2) (.string ((rd_T36 l0 x7_2).f3))) (fun _ hk => trivial)⟩
                                        have n2_ : Aside0 (((((w56.setCell ⟨gb172, 0, none⟩ (.int .u8 ((rd_T36 l0 x7_2).f0))).setCell ⟨gb172, 1, none⟩ (.int .i64 ((rd_T36 l0 x7_2).f1))).setCell ⟨gb172, 2, none⟩ (.int .i64 ((rd_T36 l0 x7_2).f2))).setCell ⟨gb172, 3, none⟩ (.string ((rd_T36 l0 x7_2).f3))).heap[gb172]? = some (.cells #[.int .u8 ((rd_T36 l0 x7_2).f0), .int .i64 ((rd_T36 l0 x7_2).f1), .int .i64 ((rd_T36 l0 x7_2).f2), .string ((rd_T36 l0 x7_2).f3)] 36 (0, 0))) := ⟨by (with_reducible repeat (first | refine blk_drewN ?_ _ | refine blk_drew ?_ | refine blk_alloc ?_ _)); refine blk_put (cs := #[.int .u8 ((rd_T36 l0 x7_2).f0), .int .i64 ((rd_T36 l0 x7_2).f1), .int .i64 ((rd_T36 l0 x7_2).f2), .string (⟨#[]⟩ : ByteArray)]) ?_ 3 _ rfl; (with_reducible repeat (first | refine blk_drewN ?_ _ | refine blk_drew ?_ | refine blk_alloc ?_ _)); refine blk_put (cs := #[.int .u8 ((rd_T36 l0 x7_2).f0), .int .i64 ((rd_T36 l0 x7_2).f1), .int .i64 0, .string (⟨#[]⟩ : ByteArray)]) ?_ 2 _ rfl; (with_reducible repeat (first | refine blk_drewN ?_ _ | refine blk_drew ?_ | refine blk_alloc ?_ _)); refine blk_put (cs := #[.int .u8 ((rd_T36 l0 x7_2).f0), .int .i64 0, .int .i64 0, .string (⟨#[]⟩ : ByteArray)]) ?_ 1 _ rfl; (with_reducible repeat (first | refine blk_drewN ?_ _ | refine blk_drew ?_ | refine blk_alloc ?_ _)); refine blk_put (cs := #[.int .u8 0, .int .i64 0, .int .i64 0, .string (⟨#[]⟩ : ByteArray)]) ?_ 0 _ rfl; (with_reducible repeat (first | refine blk_drewN ?_ _ | refine blk_drew ?_ | refine blk_alloc ?_ _)); exact BK172.out⟩
                                        have n3_ : Aside0 (Below w.heap.size w ((((w56.setCell ⟨gb172, 0, none⟩ (.int .u8 ((rd_T36 l0 x7_2).f0))).setCell ⟨gb172, 1, none⟩ (.int .i64 ((rd_T36 l0 x7_2).f1))).setCell ⟨gb172, 2, none⟩ (.int .i64 ((rd_T36 l0 x7_2).f2))).setCell ⟨gb172, 3, none⟩ (.string ((rd_T36 l0 x7_2).f3)))) := ⟨by repeat (first | (with_reducible first | exact HB.out | apply below_alloc | apply pw_below_drewN | apply below_drew1 | refine below_set ?_ GE172.out) | exact HB.out)⟩
                                        (try clear HO_4)
                                        (try clear HO_5)
                                        (try clear BK172)
                                        (try clear HB)
                                        generalize ((((w56.setCell ⟨gb172, 0, none⟩ (.int .u8 ((rd_T36 l0 x7_2).f0))).setCell ⟨gb172, 1, none⟩ (.int .i64 ((rd_T36 l0 x7_2).f1))).setCell ⟨gb172, 2, none⟩ (.int .i64 ((rd_T36 l0 x7_2).f2))).setCell ⟨gb172, 3, none⟩ (.string ((rd_T36 l0 x7_2).f3))) = w58 at n0_ n1_ n2_ n3_ ⊢
                                        have HO_4 := n0_
                                        have HO_5 := n1_
                                        have BK172 := n2_
                                        have HB := n3_
                                        clear n0_ n1_ n2_ n3_
                                        (try (rw [drewN_self w58]; generalize hq_ : World.drewN w58 _ = w58; have n0_ : Aside0 (Kd.R (Kd.int .i64) 3 w58 w.heap.size (fun _ => True) (.slice (some ⟨go16, 0, none⟩) x4_2.length co17) x4_2) := ⟨by rw [← hq_]; exact (by (with_reducible repeat (first | apply Kd.R_alloc | apply Kd.R_drewN | apply Kd.R_drew)); exact HO_4.out)⟩; have n1_ : Aside0 (Kd.R Kd.bool 4 w58 w.heap.size (fun _ => True) (.slice (some ⟨go30, 0, none⟩) x5_2.length co30) y170) := ⟨by rw [← hq_]; exact (by (with_reducible repeat (first | apply Kd.R_alloc | apply Kd.R_drewN | apply Kd.R_drew)); exact HO_5.out)⟩; have n2_ : Aside0 (w58.heap[gb172]? = some (.cells #[.int .u8 ((rd_T36 l0 x7_2).f0), .int .i64 ((rd_T36 l0 x7_2).f1), .int .i64 ((rd_T36 l0 x7_2).f2), .string ((rd_T36 l0 x7_2).f3)] 36 (0, 0))) := ⟨by rw [← hq_]; exact (by (with_reducible repeat (first | refine blk_drewN ?_ _ | refine blk_drew ?_ | refine blk_alloc ?_ _)); exact BK172.out)⟩; have n3_ : Aside0 (Below w.heap.size w w58) := ⟨by rw [← hq_]; exact (by repeat (first | (with_reducible first | exact HB.out | apply below_alloc | apply pw_below_drewN | apply below_drew1 | refine below_set ?_ GE172.out) | exact HB.out))⟩; clear HO_4 HO_5 BK172 HB hq_; have HO_4 := n0_; have HO_5 := n1_; have BK172 := n2_; have HB := n3_; clear n0_ n1_ n2_ n3_))
                                        have n0_ := Aside0.mk (Kd.R_drew HO_4.out)
                                        have n1_ := Aside0.mk (Kd.R_drew HO_5.out)
                                        have n2_ := Aside0.mk (blk_drew BK172.out)
                                        have n3_ := Aside0.mk (below_drew1 HB.out)
                                        clear HO_4
                                        clear HO_5
                                        clear BK172
                                        clear HB
                                        have HO_4 := n0_
                                        have HO_5 := n1_
                                        have BK172 := n2_
                                        have HB := n3_
                                        clear n0_ n1_ n2_ n3_
                                        have p176 : 0 ≤ (x7_2 : Int) := of_decide_eq_true (by first | (with_reducible assumption) | assumption)
                                        have q176 : x7_2 < (x4_2.length : Int) := of_decide_eq_true (by first | (with_reducible assumption) | assumption)
                                        obtain ⟨ad176, e176, hx176_0⟩ := Kd.at_int (Kd.R_reads' HO_4.out).2.2 x7_2 p176 q176
                                        obtain rfl : (⟨go16, 0, none⟩ : Addr) = ad176 := (by injection e176)
                                        (first | simp only [add_plain] at hx176_0 | simp only [add_at] at hx176_0 | simp only [Addr.add, Nat.zero_add] at hx176_0 | skip)
                                        replace p176 := eq_true p176
                                        replace q176 := eq_true q176
                                        refine start_ (n := 7) (S := fun w' => w'.cell? ⟨gb172, 0, none⟩ = some (.int .u8 ((rd_T36 l0 x7_2).f0)) ∧ w'.cell? ⟨gb172, 1, none⟩ = some (.int .i64 ((rd_T36 l0 x7_2).f1)) ∧ w'.cell? ⟨gb172, 2, none⟩ = some (.int .i64 ((rd_T36 l0 x7_2).f2)) ∧ w'.cell? ⟨gb172, 3, none⟩ = some (.string ((rd_T36 l0 x7_2).f3)) ∧ w'.cell? ⟨go16, (x7_2).toNat, none⟩ = some (.int .i64 (rd x4_2 x7_2))) (ds := []) #[false, false, false, false, false, false, false] (by kernel_rfl) rfl rfl ⟨(blk_cell BK172.out 0).trans rfl, (blk_cell BK172.out 1).trans rfl, (blk_cell BK172.out 2).trans rfl, (blk_cell BK172.out 3).trans rfl, hx176_0⟩ (fun hHeld => ?_)
                                        generalize w58.drew = w59 at HO_4 HO_5 BK172 HB hx176_0 hHeld ⊢
                                        refine pure_ (i := 0) (N := some 65) (v := ?_) (a' := ?_) #[true, false, false, false, false, false, false] rfl rfl (by kernel_rfl) (fun _ _ _ h => h) (Or.inl ⟨by rfl, ?_⟩) ?_ ?_
                                        rotate_left
                                        · intro w'
                                          go_simp
                                          with_reducible rfl
                                        rotate_left
                                        · simp only [Act.put, List.setIfInBounds_toArray, List.set_cons_zero, List.set_cons_succ, i64_w, i32_w]
                                          rfl
                                        refine pure_ (i := 1) (N := some 66) (v := ?_) (a' := ?_) #[true, true, false, false, false, false, false] rfl rfl (by kernel_rfl) (fun _ _ _ h => h) (Or.inl ⟨by rfl, ?_⟩) ?_ ?_
                                        rotate_left
                                        · intro w'
                                          go_simp
                                          with_reducible rfl
                                        rotate_left
                                        · simp only [Act.put, List.setIfInBounds_toArray, List.set_cons_zero, List.set_cons_succ, i64_w, i32_w]
                                          rfl
                                        refine pure_ (i := 2) (N := some 67) (v := ?_) (a' := ?_) #[true, true, true, false, false, false, false] rfl rfl (by kernel_rfl) (fun _ _ _ h => h) (Or.inl ⟨by rfl, ?_⟩) ?_ ?_
                                        rotate_left
                                        · intro w'
                                          go_simp
                                          with_reducible rfl
                                        rotate_left
                                        · simp only [Act.put, List.setIfInBounds_toArray, List.set_cons_zero, List.set_cons_succ, i64_w, i32_w]
                                          rfl
                                        refine take_ (i := 3) (N := some 68) (v := ?_) (a' := ?_) #[true, true, true, true, false, false, false] rfl rfl (by kernel_rfl) (fun _ _ _ h => h) (Or.inl ⟨by rfl, ?_⟩) hHeld ?_ ?_
                                        rotate_left
                                        · rintro w' ⟨s0, s1, s2, s3, s4⟩
                                          go_simp
                                          with_reducible rfl
                                        rotate_left
                                        · simp only [Act.put, List.setIfInBounds_toArray, List.set_cons_zero, List.set_cons_succ, i64_w, i32_w]
                                          rfl
                                        refine take_ (i := 4) (N := some 69) (v := ?_) (a' := ?_) #[true, true, true, true, true, false, false] rfl rfl (by kernel_rfl) (fun _ _ _ h => h) (Or.inl ⟨by rfl, ?_⟩) hHeld ?_ ?_
                                        rotate_left
                                        · rintro w' ⟨s0, s1, s2, s3, s4⟩
                                          go_simp
                                          with_reducible rfl
                                        rotate_left
                                        · simp only [Act.put, List.setIfInBounds_toArray, List.set_cons_zero, List.set_cons_succ, i64_w, i32_w]
                                          rfl
                                        refine one_ (i := 5) (N := some 70) #[true, true, true, true, true, true, false] rfl rfl (by kernel_rfl) (by decide) (fun K hK => ?_)
                                        refine goes_ Try.func11 (by kernel_rfl) rfl #[.agg #[.int .u8 ((rd_T36 l0 x7_2).f0), .int .i64 ((rd_T36 l0 x7_2).f1), .int .i64 ((rd_T36 l0 x7_2).f2), .string ((rd_T36 l0 x7_2).f3)]] (by rfl) rfl rfl (by (try simp only [List.map_toArray, List.map_cons, List.map_nil]); first | done | rfl | (simp only [List.length_drop, List.length_take]; rfl)) ?_
                                        with_reducible refine (prompterref14_Takes.calls kj20 ((rd_T36 l0 x7_2).f0) ((rd_T36 l0 x7_2).f1) ((rd_T36 l0 x7_2).f2) ((rd_T36 l0 x7_2).f3) t177 _ A52.out).mono ?_
                                        rintro e w60 ⟨rfl, hb⟩
                                        have HS4_ := (hb.cell (World.block_lt_of_cell? _ _ (hHeld.2.2.2.2))).trans (hHeld.2.2.2.2)
                                        refine ⟨_, rfl, ?_⟩
                                        have n0_ := Aside0.mk (Kd.R_below (by (with_reducible repeat (first | apply Kd.R_alloc | apply Kd.R_drewN | apply Kd.R_drew)); exact HO_4.out) hb)
                                        have n1_ := Aside0.mk (Kd.R_below (by (with_reducible repeat (first | apply Kd.R_alloc | apply Kd.R_drewN | apply Kd.R_drew)); exact HO_5.out) hb)
                                        have n2_ := Aside0.mk (blk_below (g := gb172) (o := .cells #[.int .u8 ((rd_T36 l0 x7_2).f0), .int .i64 ((rd_T36 l0 x7_2).f1), .int .i64 ((rd_T36 l0 x7_2).f2), .string ((rd_T36 l0 x7_2).f3)] 36 (0, 0)) (by (with_reducible repeat (first | refine blk_drewN ?_ _ | refine blk_drew ?_ | refine blk_alloc ?_ _)); exact BK172.out) hb)
                                        have n3_ := Aside0.mk (below_step (by repeat (first | (with_reducible first | exact HB.out | apply below_alloc | apply pw_below_drewN | apply below_drew1 | refine below_set ?_ GE172.out) | exact HB.out)) hb)
                                        clear HO_4
                                        clear HO_5
                                        clear BK172
                                        clear HB
                                        have HO_4 := n0_
                                        have HO_5 := n1_
                                        have BK172 := n2_
                                        have HB := n3_
                                        clear n0_ n1_ n2_ n3_
                                        (try clear hb)
                                        (try clear hb2)
                                        (try clear hk)
                                        (try clear hi)
                                        refine hK.out _ _ ⟨(blk_cell BK172.out 0).trans rfl, (blk_cell BK172.out 1).trans rfl, (blk_cell BK172.out 2).trans rfl, (blk_cell BK172.out 3).trans rfl, HS4_⟩ (fun hHeld => ?_)
                                        clear hK K
                                        refine norm_ (a' := ?_) ?_ ?_
                                        rotate_left
                                        · show Act.put _ (some 70) _ = _
                                          simp only [Act.put, List.setIfInBounds_toArray, List.set_cons_zero, List.set_cons_succ, i64_w, i32_w]
                                          rfl
                                        refine pure_ (i := 6) (N := some 71) (v := ?_) (a' := ?_) #[true, true, true, true, true, true, true] rfl rfl (by kernel_rfl) (fun _ _ _ h => h) (Or.inl ⟨by rfl, ?_⟩) ?_ ?_
                                        rotate_left
                                        · intro w'
                                          go_simp
                                          with_reducible rfl
                                        rotate_left
                                        · simp only [Act.put, List.setIfInBounds_toArray, List.set_cons_zero, List.set_cons_succ, i64_w, i32_w]
                                          rfl
                                        refine done_ (by kernel_rfl) ?_
                                        try go_wp2
                                        go_ret2
                                        exact ⟨_, by first | rfl | (simp [errW_none, errW_some] <;> rfl) | (simp [*, errW_none, errW_some] <;> rfl), by (with_reducible repeat (first | apply Kd.R_alloc | apply Kd.R_drewN | apply Kd.R_drew)); exact HO_4.out, by repeat (first | (with_reducible first | exact HB.out | apply below_alloc | apply pw_below_drewN | apply below_drew1 | refine below_set ?_ GE172.out) | exact HB.out)⟩
                                      · rw [if_neg c53] at H
                                        have c53b0 : decide ((rd x4_2 x7_2) < t177) = false := decide_eq_false c53
                                        clear c53
                                        replace H := Option.bind_eq_some_iff.mp H
                                        obtain ⟨⟨t179, t180⟩, A610, H⟩ := H
                                        replace H : ((prompterref14_Of.f kj20 ((rd_T36 l0 x7_2).f0)).bind fun bt181 => (if bt181.2.1 = 1 then (if 0 ≤ ((rd_T36 l0 x7_2).f1) then (if ((rd_T36 l0 x7_2).f1) < (x4_2.length : Int) then (if (rd x4_2 ((rd_T36 l0 x7_2).f1)) < 0 then ((some (x4_2.set (((rd_T36 l0 x7_2).f1) : Int).toNat t179 : List Int)).bind fun y189 => (if (rd y189 ((rd_T36 l0 x7_2).f1)) = t179 then (prompterref14_Fits.j3 kj20 l0 y189 y170 (mn x7_2 ((rd_T36 l0 x7_2).f1)) t180 x7_2 ((rd_T36 l0 x7_2).f0) ((rd_T36 l0 x7_2).f1) ((rd_T36 l0 x7_2).f2) ((rd_T36 l0 x7_2).f3)) else (some (y189, x7_2)))) else (if (rd x4_2 ((rd_T36 l0 x7_2).f1)) = t179 then (prompterref14_Fits.j3 kj20 l0 x4_2 y170 x7_2 t180 x7_2 ((rd_T36 l0 x7_2).f0) ((rd_T36 l0 x7_2).f1) ((rd_T36 l0 x7_2).f2) ((rd_T36 l0 x7_2).f3)) else (some (x4_2, x7_2)))) else (none)) else (none)) else (prompterref14_Fits.j3 kj20 l0 x4_2 y170 x7_2 t180 x7_2 ((rd_T36 l0 x7_2).f0) ((rd_T36 l0 x7_2).f1) ((rd_T36 l0 x7_2).f2) ((rd_T36 l0 x7_2).f3)))) = some (r1, r2) := H
                                        have A61 := Aside0.mk A610
                                        clear A610
                                        replace H := Option.bind_eq_some_iff.mp H
                                        obtain ⟨⟨t181, t182, t183, t184, t185, t186, t187⟩, A620, H⟩ := H
                                        replace H : (if t182 = 1 then (if 0 ≤ ((rd_T36 l0 x7_2).f1) then (if ((rd_T36 l0 x7_2).f1) < (x4_2.length : Int) then (if (rd x4_2 ((rd_T36 l0 x7_2).f1)) < 0 then ((some (x4_2.set (((rd_T36 l0 x7_2).f1) : Int).toNat t179 : List Int)).bind fun y189 => (if (rd y189 ((rd_T36 l0 x7_2).f1)) = t179 then (prompterref14_Fits.j3 kj20 l0 y189 y170 (mn x7_2 ((rd_T36 l0 x7_2).f1)) t180 x7_2 ((rd_T36 l0 x7_2).f0) ((rd_T36 l0 x7_2).f1) ((rd_T36 l0 x7_2).f2) ((rd_T36 l0 x7_2).f3)) else (some (y189, x7_2)))) else (if (rd x4_2 ((rd_T36 l0 x7_2).f1)) = t179 then (prompterref14_Fits.j3 kj20 l0 x4_2 y170 x7_2 t180 x7_2 ((rd_T36 l0 x7_2).f0) ((rd_T36 l0 x7_2).f1) ((rd_T36 l0 x7_2).f2) ((rd_T36 l0 x7_2).f3)) else (some (x4_2, x7_2)))) else (none)) else (none)) else (prompterref14_Fits.j3 kj20 l0 x4_2 y170 x7_2 t180 x7_2 ((rd_T36 l0 x7_2).f0) ((rd_T36 l0 x7_2).f1) ((rd_T36 l0 x7_2).f2) ((rd_T36 l0 x7_2).f3))) = some (r1, r2) := H
                                        have A62 := Aside0.mk A620
                                        clear A620
                                        have HC63 := Aside0.mk H
                                        clear H
                                        have p30 : 0 ≤ (x7_2 : Int) := of_decide_eq_true (by first | (with_reducible assumption) | assumption)
                                        have q30 : (x7_2 : Int) < ((x5_2.length : Int) : Int) := of_decide_eq_true (by first | (with_reducible assumption) | assumption)
                                        obtain ⟨go30, co30, eo30, gb30, gl30, cl30, HG30⟩ := Kd.R_form HO_5.out (by omega)
                                        (first | cases eo30 | (injection eo30 with ea_ en_ ec_; (first | subst ea_ | (injection ea_ with ea_; subst ea_)); subst ec_; clear en_))
                                        have GB30 := Aside0.mk gb30
                                        have GG30 := Aside0.mk HG30
                                        clear gb30 gl30 HG30
                                        obtain ⟨hx30_0, hf30_0⟩ := Kd.R_celln false HO_5.out (x7_2 : Int) p30 q30
                                        replace p30 := eq_true p30
                                        replace q30 := eq_true q30
                                        have HP64 := Kd.R_putg HO_5.out (x7_2 : Int) true
                                        try go_wp2_with (first | ((with_reducible refine gate_store (t := 4) (p := 48) rfl ?_); refine store_event (t := 4) (p := 48) (v := ?vo_w65) (w1 := (wc.setCell ⟨go30, (x7_2 : Int).toNat, none⟩ (.bool true))) ?hg ?ho ?hn ?hr ?_; (case ho => rfl); (case hg => rfl); (case hn => rfl); (case hr => first | (go_simp; done) | (go_simp; rfl)); intro w65 hw; have hg : wc.grownBy w65 (some go30) := (by rw [hw]; exact HP64.2); have hp_ : Kd.R Kd.bool 4 w65 w.heap.size (fun _ => True) (.slice (some ⟨go30, 0, none⟩) x5_2.length co30) y170 := (by rw [hw, Ny170.out]; exact HP64.1); clear HP64; have n0_ := Aside0.mk (Kd.R_over' (v := (.slice (some ⟨go30, 0, none⟩) x5_2.length co30)) (by (with_reducible repeat (first | apply Kd.R_alloc | apply Kd.R_drewN | apply Kd.R_drew)); exact HO_4.out) (Kd.R_typed HO_5.out) (by decide) hg); have n1_ := Aside0.mk (hp_); have n2_ := Aside0.mk ((by rw [hw]; exact below_set (HB.out) GB30.out : Below w.heap.size w w65)); clear HO_4; clear HO_5; clear HB; have HO_4 := n0_; have HO_5 := n1_; have HB := n2_; clear n0_ n1_ n2_; clear hg hw hp_; have p171 : 0 ≤ (x7_2 : Int) := of_decide_eq_true (by first | (with_reducible assumption) | assumption); have q171 : x7_2 < (l0.length : Int) := of_decide_eq_true (by first | (with_reducible assumption) | assumption); obtain ⟨ad171, e171, hx171_0, hx171_1, hx171_2, hx171_3⟩ := at_T36 HR0.out x7_2 p171 q171; cases e171; replace hx171_0 := (HB.out.cell (World.block_lt_of_cell? w _ hx171_0)).trans hx171_0; replace hx171_1 := (HB.out.cell (World.block_lt_of_cell? w _ hx171_1)).trans hx171_1; replace hx171_2 := (HB.out.cell (World.block_lt_of_cell? w _ hx171_2)).trans hx171_2; replace hx171_3 := (HB.out.cell (World.block_lt_of_cell? w _ hx171_3)).trans hx171_3; replace p171 := eq_true p171; replace q171 := eq_true q171) | ((with_reducible refine gate_dst (N := 8) rfl ?_); refine box_event ?hg (N := 8) ?hd (cs := #[.int .u8 0, .int .i64 0, .int .i64 0, .string (⟨#[]⟩ : ByteArray)]) (t := 36) ?hr ?_; (case hd => rfl); (case hg => rfl); (case hr => first | (go_simp; done) | (go_simp; rfl)); intro gb172 hg w66 hbox hb; have n0_ := Aside0.mk (Kd.R_below (by (with_reducible repeat (first | apply Kd.R_alloc | apply Kd.R_drewN | apply Kd.R_drew)); exact HO_4.out) hb); have n1_ := Aside0.mk (Kd.R_below (by (with_reducible repeat (first | apply Kd.R_alloc | apply Kd.R_drewN | apply Kd.R_drew)); exact HO_5.out) hb); have n2_ := Aside0.mk (below_step (by repeat (first | (with_reducible first | exact HB.out | apply below_alloc | apply pw_below_drewN | apply below_drew1) | exact HB.out)) hb); have n3_ := Aside0.mk (hbox); have n4_ := Aside0.mk ((by rw [hg]; exact (below_size (by repeat (first | (with_reducible first | exact HB.out | apply below_alloc | apply pw_below_drewN | apply below_drew1) | exact HB.out))) : w.heap.size ≤ gb172)); have n5_ := Aside0.mk ((by rw [hg]; exact (below_size (by repeat (first | (with_reducible first | exact HB.out | apply below_alloc | apply pw_below_drewN | apply below_drew1) | exact HB.out))) : w.heap.size ≤ gb172)); clear HO_4; clear HO_5; clear HB; have HO_4 := n0_; have HO_5 := n1_; have HB := n2_; have BK172 := n3_; have GW172 := n4_; have GE172 := n5_; clear n0_ n1_ n2_ n3_ n4_ n5_; clear hb hbox hg; have hcz67_0 : w66.cell? ⟨gb172, 0, none⟩ = some (.int .u8 0) := (blk_cell BK172.out 0).trans rfl; have hcz67_1 : w66.cell? ⟨gb172, 1, none⟩ = some (.int .i64 0) := (blk_cell BK172.out 1).trans rfl; have hcz67_2 : w66.cell? ⟨gb172, 2, none⟩ = some (.int .i64 0) := (blk_cell BK172.out 2).trans rfl; have hcz67_3 : w66.cell? ⟨gb172, 3, none⟩ = some (.string (⟨#[]⟩ : ByteArray)) := (blk_cell BK172.out 3).trans rfl; have hfz67_0 := blk_frozen BK172.out 0; have hfz67_1 := blk_frozen BK172.out 1; have hfz67_2 := blk_frozen BK172.out 2; have hfz67_3 := blk_frozen BK172.out 3) | ((with_reducible refine gate_callee (f := 12) rfl ?_); refine goesL_ (some 55) rfl rfl Try.func12 (by kernel_rfl) rfl #[.int .u8 ((rd_T36 l0 x7_2).f0)] rfl (by (try simp only [List.map_toArray, List.map_cons, List.map_nil]); first | done | rfl | (simp only [List.length_drop, List.length_take]; rfl)) ?_; (with_reducible refine (prompterref14_Ends.calls ((rd_T36 l0 x7_2).f0) false _ A32.out).mono ?_); rintro e w' ⟨rfl, ⟨nd, rfl⟩⟩; refine ⟨_, rfl, ?_⟩))
                                        have n0_ : Aside0 (Kd.R (Kd.int .i64) 3 ((((w66.setCell ⟨gb172, 0, none⟩ (.int .u8 ((rd_T36 l0 x7_2).f0))).setCell ⟨gb172, 1, none⟩ (.int .i64 ((rd_T36 l0 x7_2).f1))).setCell ⟨gb172, 2, none⟩ (.int .i64 ((rd_T36 l0 x7_2).f2))).setCell ⟨gb172, 3, none⟩ (.string ((rd_T36 l0 x7_2).f3))) w.heap.size (fun _ => True) (.slice (some ⟨go16, 0, none⟩) x4_2.length co17) x4_2) := ⟨by (with_reducible repeat (first | apply Kd.R_alloc | apply Kd.R_drewN | apply Kd.R_drew)); exact Kd.R_mono (Kd.R_far (p := ⟨gb172, 3, none⟩) (Kd.R_far (p := ⟨gb172, 2, none⟩) (Kd.R_far (p := ⟨gb172, 1, none⟩) (Kd.R_far (p := ⟨gb172, 0, none⟩) (Kd.R_types HO_4.out BK172.out (by decide)) (fun _ hk => hk.2) (.int .u8 ((rd_T36 l0 x7_2).f0))) (fun _ hk => hk.2) (.int .i64 ((rd_T36 l0 x7_2).f1))) (fun _ hk => hk.2) (.int .i64 ((rd_T36 l0 x7_2).f2))) (fun _ hk => hk.2) (.string ((rd_T36 l0 x7_2).f3))) (fun _ hk => trivial)⟩
                                        have n1_ : Aside0 (Kd.R Kd.bool 4 ((((w66.setCell ⟨gb172, 0, none⟩ (.int .u8 ((rd_T36 l0 x7_2).f0))).setCell ⟨gb172, 1, none⟩ (.int .i64 ((rd_T36 l0 x7_2).f1))).setCell ⟨gb172, 2, none⟩ (.int .i64 ((rd_T36 l0 x7_2).f2))).setCell ⟨gb172, 3, none⟩ (.string ((rd_T36 l0 x7_2).f3))) w.heap.size (fun _ => True) (.slice (some ⟨go30, 0, none⟩) x5_2.length co30) y170) := ⟨by (with_reducible repeat (first | apply Kd.R_alloc | apply Kd.R_drewN | apply Kd.R_drew)); exact Kd.R_mono (Kd.R_far (p := ⟨gb172, 3, none⟩) (Kd.R_far (p := ⟨gb172, 2, none⟩) (Kd.R_far (p := ⟨gb172, 1, none⟩) (Kd.R_far (p := ⟨gb172, 0, none⟩) (Kd.R_types HO_5.out BK172.out (by decide)) (fun _ hk => hk.2) (.int .u8 ((rd_T36 l0 x7_2).f0))) (fun _ hk => hk.2) (.int .i64 ((rd_T36 l0 x7_2).f1))) (fun _ hk => hk.2) (.int .i64 ((rd_T36 l0 x7_2).f2))) (fun _ hk => hk.2) (.string ((rd_T36 l0 x7_2).f3))) (fun _ hk => trivial)⟩
                                        have n2_ : Aside0 (((((w66.setCell ⟨gb172, 0, none⟩ (.int .u8 ((rd_T36 l0 x7_2).f0))).setCell ⟨gb172, 1, none⟩ (.int .i64 ((rd_T36 l0 x7_2).f1))).setCell ⟨gb172, 2, none⟩ (.int .i64 ((rd_T36 l0 x7_2).f2))).setCell ⟨gb172, 3, none⟩ (.string ((rd_T36 l0 x7_2).f3))).heap[gb172]? = some (.cells #[.int .u8 ((rd_T36 l0 x7_2).f0), .int .i64 ((rd_T36 l0 x7_2).f1), .int .i64 ((rd_T36 l0 x7_2).f2), .string ((rd_T36 l0 x7_2).f3)] 36 (0, 0))) := ⟨by (with_reducible repeat (first | refine blk_drewN ?_ _ | refine blk_drew ?_ | refine blk_alloc ?_ _)); refine blk_put (cs := #[.int .u8 ((rd_T36 l0 x7_2).f0), .int .i64 ((rd_T36 l0 x7_2).f1), .int .i64 ((rd_T36 l0 x7_2).f2), .string (⟨#[]⟩ : ByteArray)]) ?_ 3 _ rfl; (with_reducible repeat (first | refine blk_drewN ?_ _ | refine blk_drew ?_ | refine blk_alloc ?_ _)); refine blk_put (cs := #[.int .u8 ((rd_T36 l0 x7_2).f0), .int .i64 ((rd_T36 l0 x7_2).f1), .int .i64 0, .string (⟨#[]⟩ : ByteArray)]) ?_ 2 _ rfl; (with_reducible repeat (first | refine blk_drewN ?_ _ | refine blk_drew ?_ | refine blk_alloc ?_ _)); refine blk_put (cs := #[.int .u8 ((rd_T36 l0 x7_2).f0), .int .i64 0, .int .i64 0, .string (⟨#[]⟩ : ByteArray)]) ?_ 1 _ rfl; (with_reducible repeat (first | refine blk_drewN ?_ _ | refine blk_drew ?_ | refine blk_alloc ?_ _)); refine blk_put (cs := #[.int .u8 0, .int .i64 0, .int .i64 0, .string (⟨#[]⟩ : ByteArray)]) ?_ 0 _ rfl; (with_reducible repeat (first | refine blk_drewN ?_ _ | refine blk_drew ?_ | refine blk_alloc ?_ _)); exact BK172.out⟩
                                        have n3_ : Aside0 (Below w.heap.size w ((((w66.setCell ⟨gb172, 0, none⟩ (.int .u8 ((rd_T36 l0 x7_2).f0))).setCell ⟨gb172, 1, none⟩ (.int .i64 ((rd_T36 l0 x7_2).f1))).setCell ⟨gb172, 2, none⟩ (.int .i64 ((rd_T36 l0 x7_2).f2))).setCell ⟨gb172, 3, none⟩ (.string ((rd_T36 l0 x7_2).f3)))) := ⟨by repeat (first | (with_reducible first | exact HB.out | apply below_alloc | apply pw_below_drewN | apply below_drew1 | refine below_set ?_ GE172.out) | exact HB.out)⟩
                                        (try clear HO_4)
                                        (try clear HO_5)
                                        (try clear BK172)
                                        (try clear HB)
                                        generalize ((((w66.setCell ⟨gb172, 0, none⟩ (.int .u8 ((rd_T36 l0 x7_2).f0))).setCell ⟨gb172, 1, none⟩ (.int .i64 ((rd_T36 l0 x7_2).f1))).setCell ⟨gb172, 2, none⟩ (.int .i64 ((rd_T36 l0 x7_2).f2))).setCell ⟨gb172, 3, none⟩ (.string ((rd_T36 l0 x7_2).f3))) = w68 at n0_ n1_ n2_ n3_ ⊢
                                        have HO_4 := n0_
                                        have HO_5 := n1_
                                        have BK172 := n2_
                                        have HB := n3_
                                        clear n0_ n1_ n2_ n3_
                                        (try (rw [drewN_self w68]; generalize hq_ : World.drewN w68 _ = w68; have n0_ : Aside0 (Kd.R (Kd.int .i64) 3 w68 w.heap.size (fun _ => True) (.slice (some ⟨go16, 0, none⟩) x4_2.length co17) x4_2) := ⟨by rw [← hq_]; exact (by (with_reducible repeat (first | apply Kd.R_alloc | apply Kd.R_drewN | apply Kd.R_drew)); exact HO_4.out)⟩; have n1_ : Aside0 (Kd.R Kd.bool 4 w68 w.heap.size (fun _ => True) (.slice (some ⟨go30, 0, none⟩) x5_2.length co30) y170) := ⟨by rw [← hq_]; exact (by (with_reducible repeat (first | apply Kd.R_alloc | apply Kd.R_drewN | apply Kd.R_drew)); exact HO_5.out)⟩; have n2_ : Aside0 (w68.heap[gb172]? = some (.cells #[.int .u8 ((rd_T36 l0 x7_2).f0), .int .i64 ((rd_T36 l0 x7_2).f1), .int .i64 ((rd_T36 l0 x7_2).f2), .string ((rd_T36 l0 x7_2).f3)] 36 (0, 0))) := ⟨by rw [← hq_]; exact (by (with_reducible repeat (first | refine blk_drewN ?_ _ | refine blk_drew ?_ | refine blk_alloc ?_ _)); exact BK172.out)⟩; have n3_ : Aside0 (Below w.heap.size w w68) := ⟨by rw [← hq_]; exact (by repeat (first | (with_reducible first | exact HB.out | apply below_alloc | apply pw_below_drewN | apply below_drew1 | refine below_set ?_ GE172.out) | exact HB.out))⟩; clear HO_4 HO_5 BK172 HB hq_; have HO_4 := n0_; have HO_5 := n1_; have BK172 := n2_; have HB := n3_; clear n0_ n1_ n2_ n3_))
                                        have n0_ := Aside0.mk (Kd.R_drew HO_4.out)
                                        have n1_ := Aside0.mk (Kd.R_drew HO_5.out)
                                        have n2_ := Aside0.mk (blk_drew BK172.out)
                                        have n3_ := Aside0.mk (below_drew1 HB.out)
                                        clear HO_4
                                        clear HO_5
                                        clear BK172
                                        clear HB
                                        have HO_4 := n0_
                                        have HO_5 := n1_
                                        have BK172 := n2_
                                        have HB := n3_
                                        clear n0_ n1_ n2_ n3_
                                        have p176 : 0 ≤ (x7_2 : Int) := of_decide_eq_true (by first | (with_reducible assumption) | assumption)
                                        have q176 : x7_2 < (x4_2.length : Int) := of_decide_eq_true (by first | (with_reducible assumption) | assumption)
                                        obtain ⟨ad176, e176, hx176_0⟩ := Kd.at_int (Kd.R_reads' HO_4.out).2.2 x7_2 p176 q176
                                        obtain rfl : (⟨go16, 0, none⟩ : Addr) = ad176 := (by injection e176)
                                        (first | simp only [add_plain] at hx176_0 | simp only [add_at] at hx176_0 | simp only [Addr.add, Nat.zero_add] at hx176_0 | skip)
                                        replace p176 := eq_true p176
                                        replace q176 := eq_true q176
                                        refine start_ (n := 7) (S := fun w' => w'.cell? ⟨gb172, 0, none⟩ = some (.int .u8 ((rd_T36 l0 x7_2).f0)) ∧ w'.cell? ⟨gb172, 1, none⟩ = some (.int .i64 ((rd_T36 l0 x7_2).f1)) ∧ w'.cell? ⟨gb172, 2, none⟩ = some (.int .i64 ((rd_T36 l0 x7_2).f2)) ∧ w'.cell? ⟨gb172, 3, none⟩ = some (.string ((rd_T36 l0 x7_2).f3)) ∧ w'.cell? ⟨go16, (x7_2).toNat, none⟩ = some (.int .i64 (rd x4_2 x7_2))) (ds := []) #[false, false, false, false, false, false, false] (by kernel_rfl) rfl rfl ⟨(blk_cell BK172.out 0).trans rfl, (blk_cell BK172.out 1).trans rfl, (blk_cell BK172.out 2).trans rfl, (blk_cell BK172.out 3).trans rfl, hx176_0⟩ (fun hHeld => ?_)
                                        generalize w68.drew = w69 at HO_4 HO_5 BK172 HB hx176_0 hHeld ⊢
                                        refine pure_ (i := 0) (N := some 65) (v := ?_) (a' := ?_) #[true, false, false, false, false, false, false] rfl rfl (by kernel_rfl) (fun _ _ _ h => h) (Or.inl ⟨by rfl, ?_⟩) ?_ ?_
                                        rotate_left
                                        · intro w'
                                          go_simp
                                          with_reducible rfl
                                        rotate_left
                                        · simp only [Act.put, List.setIfInBounds_toArray, List.set_cons_zero, List.set_cons_succ, i64_w, i32_w]
                                          rfl
                                        refine pure_ (i := 1) (N := some 66) (v := ?_) (a' := ?_) #[true, true, false, false, false, false, false] rfl rfl (by kernel_rfl) (fun _ _ _ h => h) (Or.inl ⟨by rfl, ?_⟩) ?_ ?_
                                        rotate_left
                                        · intro w'
                                          go_simp
                                          with_reducible rfl
                                        rotate_left
                                        · simp only [Act.put, List.setIfInBounds_toArray, List.set_cons_zero, List.set_cons_succ, i64_w, i32_w]
                                          rfl
                                        refine pure_ (i := 2) (N := some 67) (v := ?_) (a' := ?_) #[true, true, true, false, false, false, false] rfl rfl (by kernel_rfl) (fun _ _ _ h => h) (Or.inl ⟨by rfl, ?_⟩) ?_ ?_
                                        rotate_left
                                        · intro w'
                                          go_simp
                                          with_reducible rfl
                                        rotate_left
                                        · simp only [Act.put, List.setIfInBounds_toArray, List.set_cons_zero, List.set_cons_succ, i64_w, i32_w]
                                          rfl
                                        refine take_ (i := 3) (N := some 68) (v := ?_) (a' := ?_) #[true, true, true, true, false, false, false] rfl rfl (by kernel_rfl) (fun _ _ _ h => h) (Or.inl ⟨by rfl, ?_⟩) hHeld ?_ ?_
                                        rotate_left
                                        · rintro w' ⟨s0, s1, s2, s3, s4⟩
                                          go_simp
                                          with_reducible rfl
                                        rotate_left
                                        · simp only [Act.put, List.setIfInBounds_toArray, List.set_cons_zero, List.set_cons_succ, i64_w, i32_w]
                                          rfl
                                        refine take_ (i := 4) (N := some 69) (v := ?_) (a' := ?_) #[true, true, true, true, true, false, false] rfl rfl (by kernel_rfl) (fun _ _ _ h => h) (Or.inl ⟨by rfl, ?_⟩) hHeld ?_ ?_
                                        rotate_left
                                        · rintro w' ⟨s0, s1, s2, s3, s4⟩
                                          go_simp
                                          with_reducible rfl
                                        rotate_left
                                        · simp only [Act.put, List.setIfInBounds_toArray, List.set_cons_zero, List.set_cons_succ, i64_w, i32_w]
                                          rfl
                                        refine one_ (i := 5) (N := some 70) #[true, true, true, true, true, true, false] rfl rfl (by kernel_rfl) (by decide) (fun K hK => ?_)
                                        refine goes_ Try.func11 (by kernel_rfl) rfl #[.agg #[.int .u8 ((rd_T36 l0 x7_2).f0), .int .i64 ((rd_T36 l0 x7_2).f1), .int .i64 ((rd_T36 l0 x7_2).f2), .string ((rd_T36 l0 x7_2).f3)]] (by rfl) rfl rfl (by (try simp only [List.map_toArray, List.map_cons, List.map_nil]); first | done | rfl | (simp only [List.length_drop, List.length_take]; rfl)) ?_
                                        with_reducible refine (prompterref14_Takes.calls kj20 ((rd_T36 l0 x7_2).f0) ((rd_T36 l0 x7_2).f1) ((rd_T36 l0 x7_2).f2) ((rd_T36 l0 x7_2).f3) t177 _ A52.out).mono ?_
                                        rintro e w70 ⟨rfl, hb⟩
                                        have HS4_ := (hb.cell (World.block_lt_of_cell? _ _ (hHeld.2.2.2.2))).trans (hHeld.2.2.2.2)
                                        refine ⟨_, rfl, ?_⟩
                                        have n0_ := Aside0.mk (Kd.R_below (by (with_reducible repeat (first | apply Kd.R_alloc | apply Kd.R_drewN | apply Kd.R_drew)); exact HO_4.out) hb)
                                        have n1_ := Aside0.mk (Kd.R_below (by (with_reducible repeat (first | apply Kd.R_alloc | apply Kd.R_drewN | apply Kd.R_drew)); exact HO_5.out) hb)
                                        have n2_ := Aside0.mk (blk_below (g := gb172) (o := .cells #[.int .u8 ((rd_T36 l0 x7_2).f0), .int .i64 ((rd_T36 l0 x7_2).f1), .int .i64 ((rd_T36 l0 x7_2).f2), .string ((rd_T36 l0 x7_2).f3)] 36 (0, 0)) (by (with_reducible repeat (first | refine blk_drewN ?_ _ | refine blk_drew ?_ | refine blk_alloc ?_ _)); exact BK172.out) hb)
                                        have n3_ := Aside0.mk (below_step (by repeat (first | (with_reducible first | exact HB.out | apply below_alloc | apply pw_below_drewN | apply below_drew1 | refine below_set ?_ GE172.out) | exact HB.out)) hb)
                                        clear HO_4
                                        clear HO_5
                                        clear BK172
                                        clear HB
                                        have HO_4 := n0_
                                        have HO_5 := n1_
                                        have BK172 := n2_
                                        have HB := n3_
                                        clear n0_ n1_ n2_ n3_
                                        (try clear hb)
                                        (try clear hb2)
                                        (try clear hk)
                                        (try clear hi)
                                        refine hK.out _ _ ⟨(blk_cell BK172.out 0).trans rfl, (blk_cell BK172.out 1).trans rfl, (blk_cell BK172.out 2).trans rfl, (blk_cell BK172.out 3).trans rfl, HS4_⟩ (fun hHeld => ?_)
                                        clear hK K
                                        refine norm_ (a' := ?_) ?_ ?_
                                        rotate_left
                                        · show Act.put _ (some 70) _ = _
                                          simp only [Act.put, List.setIfInBounds_toArray, List.set_cons_zero, List.set_cons_succ, i64_w, i32_w]
                                          rfl
                                        refine pure_ (i := 6) (N := some 71) (v := ?_) (a' := ?_) #[true, true, true, true, true, true, true] rfl rfl (by kernel_rfl) (fun _ _ _ h => h) (Or.inl ⟨by rfl, ?_⟩) ?_ ?_
                                        rotate_left
                                        · intro w'
                                          go_simp
                                          with_reducible rfl
                                        rotate_left
                                        · simp only [Act.put, List.setIfInBounds_toArray, List.set_cons_zero, List.set_cons_succ, i64_w, i32_w]
                                          rfl
                                        refine done_ (by kernel_rfl) ?_
                                        try go_wp2
                                        have n0_ := Aside0.mk (Kd.R_drew HO_4.out)
                                        have n1_ := Aside0.mk (Kd.R_drew HO_5.out)
                                        have n2_ := Aside0.mk (blk_drew BK172.out)
                                        have n3_ := Aside0.mk (below_drew1 HB.out)
                                        clear HO_4
                                        clear HO_5
                                        clear BK172
                                        clear HB
                                        have HO_4 := n0_
                                        have HO_5 := n1_
                                        have BK172 := n2_
                                        have HB := n3_
                                        clear n0_ n1_ n2_ n3_
                                        have p178 : 0 ≤ (x7_2 : Int) := of_decide_eq_true (by first | (with_reducible assumption) | assumption)
                                        have q178 : x7_2 < (x4_2.length : Int) := of_decide_eq_true (by first | (with_reducible assumption) | assumption)
                                        obtain ⟨ad178, e178, hx178_0⟩ := Kd.at_int (Kd.R_reads' HO_4.out).2.2 x7_2 p178 q178
                                        obtain rfl : (⟨go16, 0, none⟩ : Addr) = ad178 := (by injection e178)
                                        (first | simp only [add_plain] at hx178_0 | simp only [add_at] at hx178_0 | simp only [Addr.add, Nat.zero_add] at hx178_0 | skip)
                                        replace p178 := eq_true p178
                                        replace q178 := eq_true q178
                                        refine start_ (n := 11) (S := fun w' => w'.cell? ⟨gb172, 0, none⟩ = some (.int .u8 ((rd_T36 l0 x7_2).f0)) ∧ w'.cell? ⟨gb172, 1, none⟩ = some (.int .i64 ((rd_T36 l0 x7_2).f1)) ∧ w'.cell? ⟨gb172, 2, none⟩ = some (.int .i64 ((rd_T36 l0 x7_2).f2)) ∧ w'.cell? ⟨gb172, 3, none⟩ = some (.string ((rd_T36 l0 x7_2).f3)) ∧ w'.cell? ⟨go16, (x7_2).toNat, none⟩ = some (.int .i64 (rd x4_2 x7_2))) (ds := []) #[false, false, false, false, false, false, false, false, false, false, false] (by kernel_rfl) rfl rfl ⟨(blk_cell BK172.out 0).trans rfl, (blk_cell BK172.out 1).trans rfl, (blk_cell BK172.out 2).trans rfl, (blk_cell BK172.out 3).trans rfl, hx178_0⟩ (fun hHeld => ?_); refine with_tabW prompterref14_Fits.tab19 prompterref14_Fits.bits19 (fun HT_ HW_ => ?_)
                                        generalize w70.drew = w71 at HO_4 HO_5 BK172 HB hx178_0 hHeld ⊢
                                        refine pure_ (i := 1) (N := some 76) (v := ?_) (a' := ?_) #[false, true, false, false, false, false, false, false, false, false, false] rfl rfl (any_of HT_.out (by kernel_rfl)) (fun _ _ _ h => h) (Or.inl ⟨by rfl, ?_⟩) ?_ ?_
                                        rotate_left
                                        · intro w'
                                          go_simp
                                          with_reducible rfl
                                        rotate_left
                                        · simp only [Act.put, List.setIfInBounds_toArray, List.set_cons_zero, List.set_cons_succ, i64_w, i32_w]
                                          rfl
                                        refine pure_ (i := 2) (N := some 77) (v := ?_) (a' := ?_) #[false, true, true, false, false, false, false, false, false, false, false] rfl rfl (any_of HT_.out (by kernel_rfl)) (fun _ _ _ h => h) (Or.inl ⟨by rfl, ?_⟩) ?_ ?_
                                        rotate_left
                                        · intro w'
                                          go_simp
                                          with_reducible rfl
                                        rotate_left
                                        · simp only [Act.put, List.setIfInBounds_toArray, List.set_cons_zero, List.set_cons_succ, i64_w, i32_w]
                                          rfl
                                        refine pure_ (i := 3) (N := some 78) (v := ?_) (a' := ?_) #[false, true, true, true, false, false, false, false, false, false, false] rfl rfl (any_of HT_.out (by kernel_rfl)) (fun _ _ _ h => h) (Or.inl ⟨by rfl, ?_⟩) ?_ ?_
                                        rotate_left
                                        · intro w'
                                          go_simp
                                          with_reducible rfl
                                        rotate_left
                                        · simp only [Act.put, List.setIfInBounds_toArray, List.set_cons_zero, List.set_cons_succ, i64_w, i32_w]
                                          rfl
                                        refine take_ (i := 0) (N := some 75) (v := ?_) (a' := ?_) #[true, true, true, true, false, false, false, false, false, false, false] rfl rfl (take_ofW HT_.out HW_.out (by kernel_rfl)) (fun _ _ _ h => h) (Or.inl ⟨by rfl, ?_⟩) hHeld ?_ ?_
                                        rotate_left
                                        · rintro w' ⟨s0, s1, s2, s3, s4⟩
                                          go_simp
                                          with_reducible rfl
                                        rotate_left
                                        · simp only [Act.put, List.setIfInBounds_toArray, List.set_cons_zero, List.set_cons_succ, i64_w, i32_w]
                                          rfl
                                        refine take_ (i := 4) (N := some 79) (v := ?_) (a' := ?_) #[true, true, true, true, true, false, false, false, false, false, false] rfl rfl (take_ofW HT_.out HW_.out (by kernel_rfl)) (fun _ _ _ h => h) (Or.inl ⟨by rfl, ?_⟩) hHeld ?_ ?_
                                        rotate_left
                                        · rintro w' ⟨s0, s1, s2, s3, s4⟩
                                          go_simp
                                          with_reducible rfl
                                        rotate_left
                                        · simp only [Act.put, List.setIfInBounds_toArray, List.set_cons_zero, List.set_cons_succ, i64_w, i32_w]
                                          rfl
                                        refine one_ (i := 5) (N := some 80) #[true, true, true, true, true, true, false, false, false, false, false] rfl rfl (one_of HT_.out (by kernel_rfl)) (by decide) (fun K hK => ?_)
                                        refine goes_ Try.func13 (by kernel_rfl) rfl #[.agg #[.int .u8 ((rd_T36 l0 x7_2).f0), .int .i64 ((rd_T36 l0 x7_2).f1), .int .i64 ((rd_T36 l0 x7_2).f2), .string ((rd_T36 l0 x7_2).f3)], .int .i64 (rd x4_2 x7_2)] (by rfl) rfl rfl (by (try simp only [List.map_toArray, List.map_cons, List.map_nil]); first | done | rfl | (simp only [List.length_drop, List.length_take]; rfl)) ?_
                                        with_reducible refine (prompterref14_Behind.calls kj20 ((rd_T36 l0 x7_2).f0) ((rd_T36 l0 x7_2).f1) ((rd_T36 l0 x7_2).f2) ((rd_T36 l0 x7_2).f3) (rd x4_2 x7_2) t179 t180 _ A61.out).mono ?_
                                        rintro e w72 ⟨rfl, hb⟩
                                        have HS4_ := (hb.cell (World.block_lt_of_cell? _ _ (hHeld.2.2.2.2))).trans (hHeld.2.2.2.2)
                                        refine ⟨_, rfl, ?_⟩
                                        have n0_ := Aside0.mk (Kd.R_below (by (with_reducible repeat (first | apply Kd.R_alloc | apply Kd.R_drewN | apply Kd.R_drew)); exact HO_4.out) hb)
                                        have n1_ := Aside0.mk (Kd.R_below (by (with_reducible repeat (first | apply Kd.R_alloc | apply Kd.R_drewN | apply Kd.R_drew)); exact HO_5.out) hb)
                                        have n2_ := Aside0.mk (blk_below (g := gb172) (o := .cells #[.int .u8 ((rd_T36 l0 x7_2).f0), .int .i64 ((rd_T36 l0 x7_2).f1), .int .i64 ((rd_T36 l0 x7_2).f2), .string ((rd_T36 l0 x7_2).f3)] 36 (0, 0)) (by (with_reducible repeat (first | refine blk_drewN ?_ _ | refine blk_drew ?_ | refine blk_alloc ?_ _)); exact BK172.out) hb)
                                        have n3_ := Aside0.mk (below_step (by repeat (first | (with_reducible first | exact HB.out | apply below_alloc | apply pw_below_drewN | apply below_drew1 | refine below_set ?_ GE172.out) | exact HB.out)) hb)
                                        clear HO_4
                                        clear HO_5
                                        clear BK172
                                        clear HB
                                        have HO_4 := n0_
                                        have HO_5 := n1_
                                        have BK172 := n2_
                                        have HB := n3_
                                        clear n0_ n1_ n2_ n3_
                                        (try clear hb)
                                        (try clear hb2)
                                        (try clear hk)
                                        (try clear hi)
                                        refine hK.out _ _ ⟨(blk_cell BK172.out 0).trans rfl, (blk_cell BK172.out 1).trans rfl, (blk_cell BK172.out 2).trans rfl, (blk_cell BK172.out 3).trans rfl, HS4_⟩ (fun hHeld => ?_)
                                        clear hK K
                                        refine norm_ (a' := ?_) ?_ ?_
                                        rotate_left
                                        · show Act.put _ (some 80) _ = _
                                          simp only [Act.put, List.setIfInBounds_toArray, List.set_cons_zero, List.set_cons_succ, i64_w, i32_w]
                                          rfl
                                        refine pure_ (i := 6) (N := some 74) (v := ?_) (a' := ?_) #[true, true, true, true, true, true, true, false, false, false, false] rfl rfl (any_of HT_.out (by kernel_rfl)) (fun _ _ _ h => h) (Or.inl ⟨by rfl, ?_⟩) ?_ ?_
                                        rotate_left
                                        · intro w'
                                          go_simp
                                          with_reducible rfl
                                        rotate_left
                                        · simp only [Act.put, List.setIfInBounds_toArray, List.set_cons_zero, List.set_cons_succ, i64_w, i32_w]
                                          rfl
                                        refine pure_ (i := 7) (N := some 81) (v := ?_) (a' := ?_) #[true, true, true, true, true, true, true, true, false, false, false] rfl rfl (any_of HT_.out (by kernel_rfl)) (fun _ _ _ h => h) (Or.inl ⟨by rfl, ?_⟩) ?_ ?_
                                        rotate_left
                                        · intro w'
                                          go_simp
                                          with_reducible rfl
                                        rotate_left
                                        · simp only [Act.put, List.setIfInBounds_toArray, List.set_cons_zero, List.set_cons_succ, i64_w, i32_w]
                                          rfl
                                        refine pure_ (i := 8) (N := some 82) (v := ?_) (a' := ?_) #[true, true, true, true, true, true, true, true, true, false, false] rfl rfl (any_of HT_.out (by kernel_rfl)) (fun _ _ _ h => h) (Or.inl ⟨by rfl, ?_⟩) ?_ ?_
                                        rotate_left
                                        · intro w'
                                          go_simp
                                          with_reducible rfl
                                        rotate_left
                                        · simp only [Act.put, List.setIfInBounds_toArray, List.set_cons_zero, List.set_cons_succ, i64_w, i32_w]
                                          rfl
                                        refine pure_ (i := 9) (N := some 9) (v := ?_) (a' := ?_) #[true, true, true, true, true, true, true, true, true, true, false] rfl rfl (any_of HT_.out (by kernel_rfl)) (fun _ _ _ h => h) (Or.inl ⟨by rfl, ?_⟩) ?_ ?_
                                        rotate_left
                                        · intro w'
                                          go_simp
                                          with_reducible rfl
                                        rotate_left
                                        · simp only [Act.put, List.setIfInBounds_toArray, List.set_cons_zero, List.set_cons_succ, i64_w, i32_w]
                                          rfl
                                        refine pure_ (i := 10) (N := some 10) (v := ?_) (a' := ?_) #[true, true, true, true, true, true, true, true, true, true, true] rfl rfl (any_of HT_.out (by kernel_rfl)) (fun _ _ _ h => h) (Or.inl ⟨by rfl, ?_⟩) ?_ ?_
                                        rotate_left
                                        · intro w'
                                          go_simp
                                          with_reducible rfl
                                        rotate_left
                                        · simp only [Act.put, List.setIfInBounds_toArray, List.set_cons_zero, List.set_cons_succ, i64_w, i32_w]
                                          rfl
                                        refine done_ (done_of HT_.out (by kernel_rfl)) ?_
                                        have hcz73_0 : w72.cell? ⟨gb172, 0, none⟩ = some (.int .u8 ((rd_T36 l0 x7_2).f0)) := (blk_cell BK172.out 0).trans rfl
                                        have hcz73_1 : w72.cell? ⟨gb172, 1, none⟩ = some (.int .i64 ((rd_T36 l0 x7_2).f1)) := (blk_cell BK172.out 1).trans rfl
                                        have hcz73_2 : w72.cell? ⟨gb172, 2, none⟩ = some (.int .i64 ((rd_T36 l0 x7_2).f2)) := (blk_cell BK172.out 2).trans rfl
                                        have hcz73_3 : w72.cell? ⟨gb172, 3, none⟩ = some (.string ((rd_T36 l0 x7_2).f3)) := (blk_cell BK172.out 3).trans rfl
                                        have hfz73_0 := blk_frozen BK172.out 0
                                        have hfz73_1 := blk_frozen BK172.out 1
                                        have hfz73_2 := blk_frozen BK172.out 2
                                        have hfz73_3 := blk_frozen BK172.out 3
                                        go_upto_if 88 with (first | ((with_reducible refine gate_callee (f := 14) rfl ?_); refine goesL_ (some 86) rfl rfl Try.func14 (by kernel_rfl) rfl #[.int .u8 ((rd_T36 l0 x7_2).f0)] rfl (by (try simp only [List.map_toArray, List.map_cons, List.map_nil]); first | done | rfl | (simp only [List.length_drop, List.length_take]; rfl)) ?_; (with_reducible refine (prompterref14_Of.calls kj20 ((rd_T36 l0 x7_2).f0) t181 t182 t183 t184 t185 t186 t187 _ A62.out).mono ?_); rintro e w74 ⟨rfl, hb⟩; refine ⟨_, rfl, ?_⟩; have n0_ := Aside0.mk (Kd.R_below (by (with_reducible repeat (first | apply Kd.R_alloc | apply Kd.R_drewN | apply Kd.R_drew)); exact HO_4.out) hb); have n1_ := Aside0.mk (Kd.R_below (by (with_reducible repeat (first | apply Kd.R_alloc | apply Kd.R_drewN | apply Kd.R_drew)); exact HO_5.out) hb); have n2_ := Aside0.mk (blk_below (g := gb172) (o := .cells #[.int .u8 ((rd_T36 l0 x7_2).f0), .int .i64 ((rd_T36 l0 x7_2).f1), .int .i64 ((rd_T36 l0 x7_2).f2), .string ((rd_T36 l0 x7_2).f3)] 36 (0, 0)) (by (with_reducible repeat (first | refine blk_drewN ?_ _ | refine blk_drew ?_ | refine blk_alloc ?_ _)); exact BK172.out) hb); have n3_ := Aside0.mk (below_step (by repeat (first | (with_reducible first | exact HB.out | apply below_alloc | apply pw_below_drewN | apply below_drew1 | refine below_set ?_ GE172.out) | exact HB.out)) hb); clear HO_4; clear HO_5; clear BK172; clear HB; have HO_4 := n0_; have HO_5 := n1_; have BK172 := n2_; have HB := n3_; clear n0_ n1_ n2_ n3_; (try clear hb); (try clear hb2); (try clear hk); (try clear hi)))
                                        (try simp only [Act.put, List.setIfInBounds_toArray, List.set_cons_zero, List.set_cons_succ])
                                        go_cut [7] (fun v7 wc => ∃ (kq : Nat) (x4_62 : List Int) (x7_62 : Int), v7 = .int .i64 x7_62 ∧ Aside0 (prompterref14_Fits.j3 kq l0 x4_62 y170 x7_62 t180 x7_2 ((rd_T36 l0 x7_2).f0) ((rd_T36 l0 x7_2).f1) ((rd_T36 l0 x7_2).f2) ((rd_T36 l0 x7_2).f3) = some (r1, r2)) ∧ Aside0 (kq ≤ kj20) ∧ Aside0 (Kd.R (Kd.int .i64) 3 wc w.heap.size (fun _ => True) (.slice (some ⟨go16, 0, none⟩) x4_2.length co17) x4_62) ∧ Aside0 (Kd.R Kd.bool 4 wc w.heap.size (fun _ => True) (.slice (some ⟨go30, 0, none⟩) x5_2.length co30) y170) ∧ Aside0 (wc.heap[gb172]? = some (.cells #[.int .u8 ((rd_T36 l0 x7_2).f0), .int .i64 ((rd_T36 l0 x7_2).f1), .int .i64 ((rd_T36 l0 x7_2).f2), .string ((rd_T36 l0 x7_2).f3)] 36 (0, 0))) ∧ Aside0 (Below w.heap.size w wc))
                                        case first =>
                                          have H := HC63.out
                                          clear HC63
                                          by_cases c75 : t182 = 1
                                          · rw [if_pos c75] at H
                                            have c75b0 : (t182 == 1) = true := beq_iff_eq.mpr c75
                                            have c75b1 : (t182 != 1) = false := bne_eq_false_iff_eq.mpr c75
                                            clear c75
                                            (first | rw [c75b0] | (simp only [i64_w, i32_w]; rw [c75b0]) | skip)
                                            by_cases c76 : 0 ≤ ((rd_T36 l0 x7_2).f1)
                                            · rw [if_pos c76] at H
                                              have c76b0 : decide (0 ≤ ((rd_T36 l0 x7_2).f1)) = true := decide_eq_true c76
                                              clear c76
                                              by_cases c77 : ((rd_T36 l0 x7_2).f1) < (x4_2.length : Int)
                                              · rw [if_pos c77] at H
                                                have c77b0 : decide (((rd_T36 l0 x7_2).f1) < (x4_2.length : Int)) = true := decide_eq_true c77
                                                clear c77
                                                by_cases c78 : (rd x4_2 ((rd_T36 l0 x7_2).f1)) < 0
                                                · rw [if_pos c78] at H
                                                  have c78b0 : decide ((rd x4_2 ((rd_T36 l0 x7_2).f1)) < 0) = true := decide_eq_true c78
                                                  clear c78
                                                  obtain ⟨y189, hy189⟩ : ∃ y_ : List Int, y_ = (x4_2.set (((rd_T36 l0 x7_2).f1) : Int).toNat t179) := ⟨_, rfl⟩
                                                  replace H : (if (rd y189 ((rd_T36 l0 x7_2).f1)) = t179 then (prompterref14_Fits.j3 kj20 l0 y189 y170 (mn x7_2 ((rd_T36 l0 x7_2).f1)) t180 x7_2 ((rd_T36 l0 x7_2).f0) ((rd_T36 l0 x7_2).f1) ((rd_T36 l0 x7_2).f2) ((rd_T36 l0 x7_2).f3)) else (some (y189, x7_2))) = some (r1, r2) := by first | (rw [hy189]; with_reducible exact H) | (have H2_ := (Option.bind_some _ _).symm.trans H; rw [hy189]; with_reducible exact H2_) | (have H2_ := (Option.bind_some _ _).symm.trans H; with_reducible exact H2_) | with_reducible exact H | (rw [hy189]; exact H) | exact H
                                                  have Ny189 := Aside0.mk hy189
                                                  clear hy189
                                                  obtain ⟨ji80, hji80⟩ : ∃ j_ : Int, (mn x7_2 ((rd_T36 l0 x7_2).f1)) = j_ := ⟨_, rfl⟩
                                                  replace H : (if (rd y189 ((rd_T36 l0 x7_2).f1)) = t179 then (prompterref14_Fits.j3 kj20 l0 y189 y170 ji80 t180 x7_2 ((rd_T36 l0 x7_2).f0) ((rd_T36 l0 x7_2).f1) ((rd_T36 l0 x7_2).f2) ((rd_T36 l0 x7_2).f3)) else (some (y189, x7_2))) = some (r1, r2) := by first | (rw [hji80] at H; exact H) | (simp only [hji80] at H ⊢; exact H)
                                                  have hji80_ : (if ((rd_T36 l0 x7_2).f1) < x7_2 then ((rd_T36 l0 x7_2).f1) else x7_2) = ji80 := hji80
                                                  by_cases c81 : (rd y189 ((rd_T36 l0 x7_2).f1)) = t179
                                                  · rw [if_pos c81] at H
                                                    have c81b0 : ((rd y189 ((rd_T36 l0 x7_2).f1)) == t179) = true := beq_iff_eq.mpr c81
                                                    have c81b1 : ((rd y189 ((rd_T36 l0 x7_2).f1)) != t179) = false := bne_eq_false_iff_eq.mpr c81
                                                    clear c81
                                                    have H' := Aside0.mk H
                                                    clear H
                                                    have hcz82_0 : w74.cell? ⟨gb172, 0, none⟩ = some (.int .u8 ((rd_T36 l0 x7_2).f0)) := (blk_cell BK172.out 0).trans rfl
                                                    have hcz82_1 : w74.cell? ⟨gb172, 1, none⟩ = some (.int .i64 ((rd_T36 l0 x7_2).f1)) := (blk_cell BK172.out 1).trans rfl
                                                    have hcz82_2 : w74.cell? ⟨gb172, 2, none⟩ = some (.int .i64 ((rd_T36 l0 x7_2).f2)) := (blk_cell BK172.out 2).trans rfl
                                                    have hcz82_3 : w74.cell? ⟨gb172, 3, none⟩ = some (.string ((rd_T36 l0 x7_2).f3)) := (blk_cell BK172.out 3).trans rfl
                                                    have hfz82_0 := blk_frozen BK172.out 0
                                                    have hfz82_1 := blk_frozen BK172.out 1
                                                    have hfz82_2 := blk_frozen BK172.out 2
                                                    have hfz82_3 := blk_frozen BK172.out 3
                                                    have p188 : 0 ≤ (((rd_T36 l0 x7_2).f1) : Int) := of_decide_eq_true (by first | (with_reducible assumption) | assumption)
                                                    have q188 : ((rd_T36 l0 x7_2).f1) < (x4_2.length : Int) := of_decide_eq_true (by first | (with_reducible assumption) | assumption)
                                                    obtain ⟨ad188, e188, hx188_0⟩ := Kd.at_int (Kd.R_reads' HO_4.out).2.2 ((rd_T36 l0 x7_2).f1) p188 q188
                                                    obtain rfl : (⟨go16, 0, none⟩ : Addr) = ad188 := (by injection e188)
                                                    (first | simp only [add_plain] at hx188_0 | simp only [add_at] at hx188_0 | simp only [Addr.add, Nat.zero_add] at hx188_0 | skip)
                                                    replace p188 := eq_true p188
                                                    replace q188 := eq_true q188
                                                    have p79 : 0 ≤ (((rd_T36 l0 x7_2).f1) : Int) := of_decide_eq_true (by first | (with_reducible assumption) | assumption)
                                                    have q79 : (((rd_T36 l0 x7_2).f1) : Int) < ((x4_2.length : Int) : Int) := of_decide_eq_true (by first | (with_reducible assumption) | assumption)
                                                    obtain ⟨hx79_0, hf79_0⟩ := Kd.R_celln 0 HO_4.out (((rd_T36 l0 x7_2).f1) : Int) p79 q79
                                                    replace p79 := eq_true p79
                                                    replace q79 := eq_true q79
                                                    have HP83 := Kd.R_putg HO_4.out (((rd_T36 l0 x7_2).f1) : Int) t179
                                                    go_wp2_with (first | ((with_reducible refine gate_store (t := 3) (p := 99) rfl ?_); refine store_event (t := 3) (p := 99) (v := ?vo_w84) (w1 := (w74.setCell ⟨go16, (((rd_T36 l0 x7_2).f1) : Int).toNat, none⟩ (.int .i64 t179))) ?hg ?ho ?hn ?hr ?_; (case ho => rfl); (case hg => rfl); (case hn => rfl); (case hr => first | (go_simp; done) | (go_simp; rfl)); intro w84 hw; have hg : w74.grownBy w84 (some go16) := (by rw [hw]; exact HP83.2); have hp_ : Kd.R (Kd.int .i64) 3 w84 w.heap.size (fun _ => True) (.slice (some ⟨go16, 0, none⟩) x4_2.length co17) y189 := (by rw [hw, Ny189.out]; exact HP83.1); clear HP83; have n0_ := Aside0.mk (hp_); have n1_ := Aside0.mk (Kd.R_over' (v := (.slice (some ⟨go16, 0, none⟩) x4_2.length co17)) (by (with_reducible repeat (first | apply Kd.R_alloc | apply Kd.R_drewN | apply Kd.R_drew)); exact HO_5.out) (Kd.R_typed HO_4.out) (by decide) hg); have n2_ := Aside0.mk (blk_grown (g := gb172) (o := .cells #[.int .u8 ((rd_T36 l0 x7_2).f0), .int .i64 ((rd_T36 l0 x7_2).f1), .int .i64 ((rd_T36 l0 x7_2).f2), .string ((rd_T36 l0 x7_2).f3)] 36 (0, 0)) (by (with_reducible repeat (first | refine blk_drewN ?_ _ | refine blk_drew ?_ | refine blk_alloc ?_ _)); exact BK172.out) hg (Kd.R_ne HO_4.out BK172.out (by decide))); have n3_ := Aside0.mk ((by rw [hw]; exact below_set (HB.out) GB16.out : Below w.heap.size w w84)); clear HO_4; clear HO_5; clear BK172; clear HB; have HO_4 := n0_; have HO_5 := n1_; have BK172 := n2_; have HB := n3_; clear n0_ n1_ n2_ n3_; clear hg hw hp_; have hcz85_0 : w84.cell? ⟨gb172, 0, none⟩ = some (.int .u8 ((rd_T36 l0 x7_2).f0)) := (blk_cell BK172.out 0).trans rfl; have hcz85_1 : w84.cell? ⟨gb172, 1, none⟩ = some (.int .i64 ((rd_T36 l0 x7_2).f1)) := (blk_cell BK172.out 1).trans rfl; have hcz85_2 : w84.cell? ⟨gb172, 2, none⟩ = some (.int .i64 ((rd_T36 l0 x7_2).f2)) := (blk_cell BK172.out 2).trans rfl; have hcz85_3 : w84.cell? ⟨gb172, 3, none⟩ = some (.string ((rd_T36 l0 x7_2).f3)) := (blk_cell BK172.out 3).trans rfl; have hfz85_0 := blk_frozen BK172.out 0; have hfz85_1 := blk_frozen BK172.out 1; have hfz85_2 := blk_frozen BK172.out 2; have hfz85_3 := blk_frozen BK172.out 3; have p190 : 0 ≤ (((rd_T36 l0 x7_2).f1) : Int) := of_decide_eq_true (by first | (with_reducible assumption) | assumption); have q190 : ((rd_T36 l0 x7_2).f1) < (y189.length : Int) := (by have h_ : (((rd_T36 l0 x7_2).f1) : Int) < ((x4_2.length : Int) : Int) := of_decide_eq_true (by first | (with_reducible assumption) | assumption); first | (have e_ := (Kd.R_reads' HO_4.out).1; omega) | simpa only [Ny189.out, List.length_set] using h_); have ql190 : ((((rd_T36 l0 x7_2).f1) : Int) < ((x4_2.length : Int) : Int)) = True := eq_true (of_decide_eq_true (by first | (with_reducible assumption) | assumption)); obtain ⟨ad190, e190, hx190_0⟩ := Kd.at_int (Kd.R_reads' HO_4.out).2.2 ((rd_T36 l0 x7_2).f1) p190 q190; obtain rfl : (⟨go16, 0, none⟩ : Addr) = ad190 := (by injection e190); (first | simp only [add_plain] at hx190_0 | simp only [add_at] at hx190_0 | simp only [Addr.add, Nat.zero_add] at hx190_0 | skip); replace p190 := eq_true p190; replace q190 := eq_true q190))
                                                    go_meet
                                                    case rel => exact ⟨_, (y189), (ji80), (by first | rfl | (simp; done) | (simp only [← hji80] <;> (first | rfl | simp)) | (simp [*]; done)), H', ⟨by have := HK1.out; have := HK2.out; have := HJ20.out; first | omega | exact Nat.le_refl _⟩, ⟨by (try simp only [hl4_2]); (with_reducible repeat (first | apply Kd.R_alloc | apply Kd.R_drewN | apply Kd.R_drew)); exact HO_4.out⟩, ⟨by (try simp only [hl4_2]); (with_reducible repeat (first | apply Kd.R_alloc | apply Kd.R_drewN | apply Kd.R_drew)); exact HO_5.out⟩, ⟨by (try simp only [hl4_2]); (with_reducible repeat (first | refine blk_drewN ?_ _ | refine blk_drew ?_ | refine blk_alloc ?_ _)); exact BK172.out⟩, ⟨by repeat (first | (with_reducible first | exact HB.out | apply below_alloc | apply pw_below_drewN | apply below_drew1 | refine below_set ?_ GE172.out) | exact HB.out)⟩⟩
                                                  · rw [if_neg c81] at H
                                                    have c81b0 : ((rd y189 ((rd_T36 l0 x7_2).f1)) == t179) = false := beq_eq_false_iff_ne.mpr c81
                                                    have c81b1 : ((rd y189 ((rd_T36 l0 x7_2).f1)) != t179) = true := bne_iff_ne.mpr c81
                                                    simp only [Option.some.injEq, Prod.mk.injEq] at H
                                                    obtain ⟨rfl, rfl⟩ := H
                                                    have hcz86_0 : w74.cell? ⟨gb172, 0, none⟩ = some (.int .u8 ((rd_T36 l0 x7_2).f0)) := (blk_cell BK172.out 0).trans rfl
                                                    have hcz86_1 : w74.cell? ⟨gb172, 1, none⟩ = some (.int .i64 ((rd_T36 l0 x7_2).f1)) := (blk_cell BK172.out 1).trans rfl
                                                    have hcz86_2 : w74.cell? ⟨gb172, 2, none⟩ = some (.int .i64 ((rd_T36 l0 x7_2).f2)) := (blk_cell BK172.out 2).trans rfl
                                                    have hcz86_3 : w74.cell? ⟨gb172, 3, none⟩ = some (.string ((rd_T36 l0 x7_2).f3)) := (blk_cell BK172.out 3).trans rfl
                                                    have hfz86_0 := blk_frozen BK172.out 0
                                                    have hfz86_1 := blk_frozen BK172.out 1
                                                    have hfz86_2 := blk_frozen BK172.out 2
                                                    have hfz86_3 := blk_frozen BK172.out 3
                                                    have p188 : 0 ≤ (((rd_T36 l0 x7_2).f1) : Int) := of_decide_eq_true (by first | (with_reducible assumption) | assumption)
                                                    have q188 : ((rd_T36 l0 x7_2).f1) < (x4_2.length : Int) := of_decide_eq_true (by first | (with_reducible assumption) | assumption)
                                                    obtain ⟨ad188, e188, hx188_0⟩ := Kd.at_int (Kd.R_reads' HO_4.out).2.2 ((rd_T36 l0 x7_2).f1) p188 q188
                                                    obtain rfl : (⟨go16, 0, none⟩ : Addr) = ad188 := (by injection e188)
                                                    (first | simp only [add_plain] at hx188_0 | simp only [add_at] at hx188_0 | simp only [Addr.add, Nat.zero_add] at hx188_0 | skip)
                                                    replace p188 := eq_true p188
                                                    replace q188 := eq_true q188
                                                    have p79 : 0 ≤ (((rd_T36 l0 x7_2).f1) : Int) := of_decide_eq_true (by first | (with_reducible assumption) | assumption)
                                                    have q79 : (((rd_T36 l0 x7_2).f1) : Int) < ((x4_2.length : Int) : Int) := of_decide_eq_true (by first | (with_reducible assumption) | assumption)
                                                    obtain ⟨hx79_0, hf79_0⟩ := Kd.R_celln 0 HO_4.out (((rd_T36 l0 x7_2).f1) : Int) p79 q79
                                                    replace p79 := eq_true p79
                                                    replace q79 := eq_true q79
                                                    have HP87 := Kd.R_putg HO_4.out (((rd_T36 l0 x7_2).f1) : Int) t179
                                                    go_wp2_with (first | ((with_reducible refine gate_store (t := 3) (p := 99) rfl ?_); refine store_event (t := 3) (p := 99) (v := ?vo_w88) (w1 := (w74.setCell ⟨go16, (((rd_T36 l0 x7_2).f1) : Int).toNat, none⟩ (.int .i64 t179))) ?hg ?ho ?hn ?hr ?_; (case ho => rfl); (case hg => rfl); (case hn => rfl); (case hr => first | (go_simp; done) | (go_simp; rfl)); intro w88 hw; have hg : w74.grownBy w88 (some go16) := (by rw [hw]; exact HP87.2); have hp_ : Kd.R (Kd.int .i64) 3 w88 w.heap.size (fun _ => True) (.slice (some ⟨go16, 0, none⟩) x4_2.length co17) y189 := (by rw [hw, Ny189.out]; exact HP87.1); clear HP87; have n0_ := Aside0.mk (hp_); have n1_ := Aside0.mk (Kd.R_over' (v := (.slice (some ⟨go16, 0, none⟩) x4_2.length co17)) (by (with_reducible repeat (first | apply Kd.R_alloc | apply Kd.R_drewN | apply Kd.R_drew)); exact HO_5.out) (Kd.R_typed HO_4.out) (by decide) hg); have n2_ := Aside0.mk (blk_grown (g := gb172) (o := .cells #[.int .u8 ((rd_T36 l0 x7_2).f0), .int .i64 ((rd_T36 l0 x7_2).f1), .int .i64 ((rd_T36 l0 x7_2).f2), .string ((rd_T36 l0 x7_2).f3)] 36 (0, 0)) (by (with_reducible repeat (first | refine blk_drewN ?_ _ | refine blk_drew ?_ | refine blk_alloc ?_ _)); exact BK172.out) hg (Kd.R_ne HO_4.out BK172.out (by decide))); have n3_ := Aside0.mk ((by rw [hw]; exact below_set (HB.out) GB16.out : Below w.heap.size w w88)); clear HO_4; clear HO_5; clear BK172; clear HB; have HO_4 := n0_; have HO_5 := n1_; have BK172 := n2_; have HB := n3_; clear n0_ n1_ n2_ n3_; clear hg hw hp_; have hcz89_0 : w88.cell? ⟨gb172, 0, none⟩ = some (.int .u8 ((rd_T36 l0 x7_2).f0)) := (blk_cell BK172.out 0).trans rfl; have hcz89_1 : w88.cell? ⟨gb172, 1, none⟩ = some (.int .i64 ((rd_T36 l0 x7_2).f1)) := (blk_cell BK172.out 1).trans rfl; have hcz89_2 : w88.cell? ⟨gb172, 2, none⟩ = some (.int .i64 ((rd_T36 l0 x7_2).f2)) := (blk_cell BK172.out 2).trans rfl; have hcz89_3 : w88.cell? ⟨gb172, 3, none⟩ = some (.string ((rd_T36 l0 x7_2).f3)) := (blk_cell BK172.out 3).trans rfl; have hfz89_0 := blk_frozen BK172.out 0; have hfz89_1 := blk_frozen BK172.out 1; have hfz89_2 := blk_frozen BK172.out 2; have hfz89_3 := blk_frozen BK172.out 3; have p190 : 0 ≤ (((rd_T36 l0 x7_2).f1) : Int) := of_decide_eq_true (by first | (with_reducible assumption) | assumption); have q190 : ((rd_T36 l0 x7_2).f1) < (y189.length : Int) := (by have h_ : (((rd_T36 l0 x7_2).f1) : Int) < ((x4_2.length : Int) : Int) := of_decide_eq_true (by first | (with_reducible assumption) | assumption); first | (have e_ := (Kd.R_reads' HO_4.out).1; omega) | simpa only [Ny189.out, List.length_set] using h_); have ql190 : ((((rd_T36 l0 x7_2).f1) : Int) < ((x4_2.length : Int) : Int)) = True := eq_true (of_decide_eq_true (by first | (with_reducible assumption) | assumption)); obtain ⟨ad190, e190, hx190_0⟩ := Kd.at_int (Kd.R_reads' HO_4.out).2.2 ((rd_T36 l0 x7_2).f1) p190 q190; obtain rfl : (⟨go16, 0, none⟩ : Addr) = ad190 := (by injection e190); (first | simp only [add_plain] at hx190_0 | simp only [add_at] at hx190_0 | simp only [Addr.add, Nat.zero_add] at hx190_0 | skip); replace p190 := eq_true p190; replace q190 := eq_true q190))
                                                    go_ret2
                                                    exact ⟨_, by first | rfl | (simp [errW_none, errW_some] <;> rfl) | (simp only [← hji80]; first | rfl | (simp [errW_none, errW_some] <;> rfl)) | (simp [*, errW_none, errW_some] <;> rfl), by (with_reducible repeat (first | apply Kd.R_alloc | apply Kd.R_drewN | apply Kd.R_drew)); exact HO_4.out, by repeat (first | (with_reducible first | exact HB.out | apply below_alloc | apply pw_below_drewN | apply below_drew1 | refine below_set ?_ GE172.out) | exact HB.out)⟩
                                                · rw [if_neg c78] at H
                                                  have c78b0 : decide ((rd x4_2 ((rd_T36 l0 x7_2).f1)) < 0) = false := decide_eq_false c78
                                                  clear c78
                                                  by_cases c90 : (rd x4_2 ((rd_T36 l0 x7_2).f1)) = t179
                                                  · rw [if_pos c90] at H
                                                    have c90b0 : ((rd x4_2 ((rd_T36 l0 x7_2).f1)) == t179) = true := beq_iff_eq.mpr c90
                                                    have c90b1 : ((rd x4_2 ((rd_T36 l0 x7_2).f1)) != t179) = false := bne_eq_false_iff_eq.mpr c90
                                                    clear c90
                                                    have H' := Aside0.mk H
                                                    clear H
                                                    have hcz91_0 : w74.cell? ⟨gb172, 0, none⟩ = some (.int .u8 ((rd_T36 l0 x7_2).f0)) := (blk_cell BK172.out 0).trans rfl
                                                    have hcz91_1 : w74.cell? ⟨gb172, 1, none⟩ = some (.int .i64 ((rd_T36 l0 x7_2).f1)) := (blk_cell BK172.out 1).trans rfl
                                                    have hcz91_2 : w74.cell? ⟨gb172, 2, none⟩ = some (.int .i64 ((rd_T36 l0 x7_2).f2)) := (blk_cell BK172.out 2).trans rfl
                                                    have hcz91_3 : w74.cell? ⟨gb172, 3, none⟩ = some (.string ((rd_T36 l0 x7_2).f3)) := (blk_cell BK172.out 3).trans rfl
                                                    have hfz91_0 := blk_frozen BK172.out 0
                                                    have hfz91_1 := blk_frozen BK172.out 1
                                                    have hfz91_2 := blk_frozen BK172.out 2
                                                    have hfz91_3 := blk_frozen BK172.out 3
                                                    have p188 : 0 ≤ (((rd_T36 l0 x7_2).f1) : Int) := of_decide_eq_true (by first | (with_reducible assumption) | assumption)
                                                    have q188 : ((rd_T36 l0 x7_2).f1) < (x4_2.length : Int) := of_decide_eq_true (by first | (with_reducible assumption) | assumption)
                                                    obtain ⟨ad188, e188, hx188_0⟩ := Kd.at_int (Kd.R_reads' HO_4.out).2.2 ((rd_T36 l0 x7_2).f1) p188 q188
                                                    obtain rfl : (⟨go16, 0, none⟩ : Addr) = ad188 := (by injection e188)
                                                    (first | simp only [add_plain] at hx188_0 | simp only [add_at] at hx188_0 | simp only [Addr.add, Nat.zero_add] at hx188_0 | skip)
                                                    replace p188 := eq_true p188
                                                    replace q188 := eq_true q188
                                                    have p191 : 0 ≤ (((rd_T36 l0 x7_2).f1) : Int) := of_decide_eq_true (by first | (with_reducible assumption) | assumption)
                                                    have q191 : ((rd_T36 l0 x7_2).f1) < (x4_2.length : Int) := of_decide_eq_true (by first | (with_reducible assumption) | assumption)
                                                    obtain ⟨ad191, e191, hx191_0⟩ := Kd.at_int (Kd.R_reads' HO_4.out).2.2 ((rd_T36 l0 x7_2).f1) p191 q191
                                                    obtain rfl : (⟨go16, 0, none⟩ : Addr) = ad191 := (by injection e191)
                                                    (first | simp only [add_plain] at hx191_0 | simp only [add_at] at hx191_0 | simp only [Addr.add, Nat.zero_add] at hx191_0 | skip)
                                                    replace p191 := eq_true p191
                                                    replace q191 := eq_true q191
                                                    go_wp2
                                                    go_meet
                                                    case rel => exact ⟨_, (x4_2), (x7_2), (by first | rfl | (simp; done) | (simp [*]; done)), H', ⟨by have := HK1.out; have := HK2.out; have := HJ20.out; first | omega | exact Nat.le_refl _⟩, ⟨by (try simp only [hl4_2]); (with_reducible repeat (first | apply Kd.R_alloc | apply Kd.R_drewN | apply Kd.R_drew)); exact HO_4.out⟩, ⟨by (try simp only [hl4_2]); (with_reducible repeat (first | apply Kd.R_alloc | apply Kd.R_drewN | apply Kd.R_drew)); exact HO_5.out⟩, ⟨by (try simp only [hl4_2]); (with_reducible repeat (first | refine blk_drewN ?_ _ | refine blk_drew ?_ | refine blk_alloc ?_ _)); exact BK172.out⟩, ⟨by repeat (first | (with_reducible first | exact HB.out | apply below_alloc | apply pw_below_drewN | apply below_drew1 | refine below_set ?_ GE172.out) | exact HB.out)⟩⟩
                                                  · rw [if_neg c90] at H
                                                    have c90b0 : ((rd x4_2 ((rd_T36 l0 x7_2).f1)) == t179) = false := beq_eq_false_iff_ne.mpr c90
                                                    have c90b1 : ((rd x4_2 ((rd_T36 l0 x7_2).f1)) != t179) = true := bne_iff_ne.mpr c90
                                                    simp only [Option.some.injEq, Prod.mk.injEq] at H
                                                    obtain ⟨rfl, rfl⟩ := H
                                                    have hcz92_0 : w74.cell? ⟨gb172, 0, none⟩ = some (.int .u8 ((rd_T36 l0 x7_2).f0)) := (blk_cell BK172.out 0).trans rfl
                                                    have hcz92_1 : w74.cell? ⟨gb172, 1, none⟩ = some (.int .i64 ((rd_T36 l0 x7_2).f1)) := (blk_cell BK172.out 1).trans rfl
                                                    have hcz92_2 : w74.cell? ⟨gb172, 2, none⟩ = some (.int .i64 ((rd_T36 l0 x7_2).f2)) := (blk_cell BK172.out 2).trans rfl
                                                    have hcz92_3 : w74.cell? ⟨gb172, 3, none⟩ = some (.string ((rd_T36 l0 x7_2).f3)) := (blk_cell BK172.out 3).trans rfl
                                                    have hfz92_0 := blk_frozen BK172.out 0
                                                    have hfz92_1 := blk_frozen BK172.out 1
                                                    have hfz92_2 := blk_frozen BK172.out 2
                                                    have hfz92_3 := blk_frozen BK172.out 3
                                                    have p188 : 0 ≤ (((rd_T36 l0 x7_2).f1) : Int) := of_decide_eq_true (by first | (with_reducible assumption) | assumption)
                                                    have q188 : ((rd_T36 l0 x7_2).f1) < (x4_2.length : Int) := of_decide_eq_true (by first | (with_reducible assumption) | assumption)
                                                    obtain ⟨ad188, e188, hx188_0⟩ := Kd.at_int (Kd.R_reads' HO_4.out).2.2 ((rd_T36 l0 x7_2).f1) p188 q188
                                                    obtain rfl : (⟨go16, 0, none⟩ : Addr) = ad188 := (by injection e188)
                                                    (first | simp only [add_plain] at hx188_0 | simp only [add_at] at hx188_0 | simp only [Addr.add, Nat.zero_add] at hx188_0 | skip)
                                                    replace p188 := eq_true p188
                                                    replace q188 := eq_true q188
                                                    have p191 : 0 ≤ (((rd_T36 l0 x7_2).f1) : Int) := of_decide_eq_true (by first | (with_reducible assumption) | assumption)
                                                    have q191 : ((rd_T36 l0 x7_2).f1) < (x4_2.length : Int) := of_decide_eq_true (by first | (with_reducible assumption) | assumption)
                                                    obtain ⟨ad191, e191, hx191_0⟩ := Kd.at_int (Kd.R_reads' HO_4.out).2.2 ((rd_T36 l0 x7_2).f1) p191 q191
                                                    obtain rfl : (⟨go16, 0, none⟩ : Addr) = ad191 := (by injection e191)
                                                    (first | simp only [add_plain] at hx191_0 | simp only [add_at] at hx191_0 | simp only [Addr.add, Nat.zero_add] at hx191_0 | skip)
                                                    replace p191 := eq_true p191
                                                    replace q191 := eq_true q191
                                                    go_wp2
                                                    go_ret2
                                                    exact ⟨_, by first | rfl | (simp [errW_none, errW_some] <;> rfl) | (simp [*, errW_none, errW_some] <;> rfl), by (with_reducible repeat (first | apply Kd.R_alloc | apply Kd.R_drewN | apply Kd.R_drew)); exact HO_4.out, by repeat (first | (with_reducible first | exact HB.out | apply below_alloc | apply pw_below_drewN | apply below_drew1 | refine below_set ?_ GE172.out) | exact HB.out)⟩
                                              · rw [if_neg c77] at H
                                                exact absurd H (by simp)
                                            · rw [if_neg c76] at H
                                              exact absurd H (by simp)
                                          · rw [if_neg c75] at H
                                            have c75b0 : (t182 == 1) = false := beq_eq_false_iff_ne.mpr c75
                                            have c75b1 : (t182 != 1) = true := bne_iff_ne.mpr c75
                                            (first | rw [c75b0] | (simp only [i64_w, i32_w]; rw [c75b0]) | skip)
                                            have H' := Aside0.mk H
                                            clear H
                                            go_wp2
                                            go_meet
                                            case rel => exact ⟨_, (x4_2), (x7_2), (by first | rfl | (simp; done) | (simp [*]; done)), H', ⟨by have := HK1.out; have := HK2.out; have := HJ20.out; first | omega | exact Nat.le_refl _⟩, ⟨by (try simp only [hl4_2]); (with_reducible repeat (first | apply Kd.R_alloc | apply Kd.R_drewN | apply Kd.R_drew)); exact HO_4.out⟩, ⟨by (try simp only [hl4_2]); (with_reducible repeat (first | apply Kd.R_alloc | apply Kd.R_drewN | apply Kd.R_drew)); exact HO_5.out⟩, ⟨by (try simp only [hl4_2]); (with_reducible repeat (first | refine blk_drewN ?_ _ | refine blk_drew ?_ | refine blk_alloc ?_ _)); exact BK172.out⟩, ⟨by repeat (first | (with_reducible first | exact HB.out | apply below_alloc | apply pw_below_drewN | apply below_drew1 | refine below_set ?_ GE172.out) | exact HB.out)⟩⟩
                                        case rest =>
                                          clear HC63
                                          try clear c1
                                          try clear p1
                                          try clear q1
                                          try clear hx1
                                          try clear p2
                                          try clear p3
                                          try clear q3
                                          try clear hx3
                                          try clear hf3
                                          try clear c5
                                          try clear c7
                                          try clear p7
                                          try clear q7
                                          try clear hx7
                                          try clear hf7
                                          try clear c8
                                          try clear c9
                                          try clear c11
                                          try clear c12
                                          try clear c13
                                          try clear c14
                                          try clear p17
                                          try clear q17
                                          try clear hx17
                                          try clear p18
                                          try clear q18
                                          try clear hx18
                                          try clear p19
                                          try clear q19
                                          try clear hx19
                                          try clear p30
                                          try clear q30
                                          try clear hx30
                                          try clear hf30
                                          try clear c51
                                          try clear c51b0
                                          try clear c53
                                          try clear c53b0
                                          try clear c75
                                          try clear c75b0
                                          try clear c75b1
                                          try clear c76
                                          try clear c76b0
                                          try clear c77
                                          try clear c77b0
                                          try clear c78
                                          try clear c78b0
                                          try clear p79
                                          try clear q79
                                          try clear hx79
                                          try clear hf79
                                          try clear c81
                                          try clear c81b0
                                          try clear c81b1
                                          try clear c90
                                          try clear c90b0
                                          try clear c90b1
                                          try clear hcz57_0
                                          try clear hcz57_1
                                          try clear hcz57_2
                                          try clear hcz57_3
                                          try clear hcz67_0
                                          try clear hcz67_1
                                          try clear hcz67_2
                                          try clear hcz67_3
                                          try clear hcz73_0
                                          try clear hcz73_1
                                          try clear hcz73_2
                                          try clear hcz73_3
                                          try clear hcz82_0
                                          try clear hcz82_1
                                          try clear hcz82_2
                                          try clear hcz82_3
                                          try clear hcz85_0
                                          try clear hcz85_1
                                          try clear hcz85_2
                                          try clear hcz85_3
                                          try clear hcz86_0
                                          try clear hcz86_1
                                          try clear hcz86_2
                                          try clear hcz86_3
                                          try clear hcz89_0
                                          try clear hcz89_1
                                          try clear hcz89_2
                                          try clear hcz89_3
                                          try clear hcz91_0
                                          try clear hcz91_1
                                          try clear hcz91_2
                                          try clear hcz91_3
                                          try clear hcz92_0
                                          try clear hcz92_1
                                          try clear hcz92_2
                                          try clear hcz92_3
                                          try clear hfz57_0
                                          try clear hfz57_1
                                          try clear hfz57_2
                                          try clear hfz57_3
                                          try clear hfz67_0
                                          try clear hfz67_1
                                          try clear hfz67_2
                                          try clear hfz67_3
                                          try clear hfz73_0
                                          try clear hfz73_1
                                          try clear hfz73_2
                                          try clear hfz73_3
                                          try clear hfz82_0
                                          try clear hfz82_1
                                          try clear hfz82_2
                                          try clear hfz82_3
                                          try clear hfz85_0
                                          try clear hfz85_1
                                          try clear hfz85_2
                                          try clear hfz85_3
                                          try clear hfz86_0
                                          try clear hfz86_1
                                          try clear hfz86_2
                                          try clear hfz86_3
                                          try clear hfz89_0
                                          try clear hfz89_1
                                          try clear hfz89_2
                                          try clear hfz89_3
                                          try clear hfz91_0
                                          try clear hfz91_1
                                          try clear hfz91_2
                                          try clear hfz91_3
                                          try clear hfz92_0
                                          try clear hfz92_1
                                          try clear hfz92_2
                                          try clear hfz92_3
                                          try clear hx171_0
                                          try clear hx171_1
                                          try clear hx171_2
                                          try clear hx171_3
                                          try clear hx176_0
                                          try clear hx178_0
                                          try clear hx188_0
                                          try clear hx190_0
                                          try clear hx191_0
                                          try clear hx30_0
                                          try clear hx79_0
                                          try clear p171
                                          try clear p176
                                          try clear p178
                                          try clear p188
                                          try clear p190
                                          try clear p191
                                          try clear p30
                                          try clear p79
                                          try clear q171
                                          try clear q176
                                          try clear q178
                                          try clear q188
                                          try clear q190
                                          try clear q191
                                          try clear q30
                                          try clear q79
                                          obtain ⟨kq, x4_62, x7_62, rfl, HA, HJ62, HO_4, HO_5, BK172, HB⟩ := hcut
                                          have hl4_62 := (Kd.R_reads' HO_4.out).1
                                          rw [hl4_62] at HO_4
                                          (try simp only [hl4_62])
                                          (try simp only [hl4_62] at BK172)
                                          (try simp only [hl4_62] at HO_5)
                                          have hl5_62 := (Kd.R_reads' HO_5.out).1
                                          rw [hl5_62] at HO_5
                                          (try simp only [hl5_62])
                                          (try simp only [hl5_62] at BK172)
                                          (try simp only [hl5_62] at HO_4)
                                          cases kq with
                                          | zero => exact absurd HA.out (by simp [prompterref14_Fits.j3])
                                          | succ kj62 =>
                                            have H := HA.out
                                            clear HA
                                            simp only [prompterref14_Fits.j3] at H
                                            by_cases c93 : ((rd_T36 l0 x7_2).f0) = 1
                                            · rw [if_pos c93] at H
                                              have c93b0 : (((rd_T36 l0 x7_2).f0) == 1) = true := beq_iff_eq.mpr c93
                                              have c93b1 : (((rd_T36 l0 x7_2).f0) != 1) = false := bne_eq_false_iff_eq.mpr c93
                                              clear c93
                                              have H' := Aside0.mk H
                                              clear H
                                              have hcz94_0 : wc.cell? ⟨gb172, 0, none⟩ = some (.int .u8 ((rd_T36 l0 x7_2).f0)) := (blk_cell BK172.out 0).trans rfl
                                              have hcz94_1 : wc.cell? ⟨gb172, 1, none⟩ = some (.int .i64 ((rd_T36 l0 x7_2).f1)) := (blk_cell BK172.out 1).trans rfl
                                              have hcz94_2 : wc.cell? ⟨gb172, 2, none⟩ = some (.int .i64 ((rd_T36 l0 x7_2).f2)) := (blk_cell BK172.out 2).trans rfl
                                              have hcz94_3 : wc.cell? ⟨gb172, 3, none⟩ = some (.string ((rd_T36 l0 x7_2).f3)) := (blk_cell BK172.out 3).trans rfl
                                              have hfz94_0 := blk_frozen BK172.out 0
                                              have hfz94_1 := blk_frozen BK172.out 1
                                              have hfz94_2 := blk_frozen BK172.out 2
                                              have hfz94_3 := blk_frozen BK172.out 3
                                              go_wp2
                                              (try simp only [← hl4_2, ← hl4_62, ← hl5_62])
                                              go_roundg kj62
                                              case measure => have := HK1.out; have := HK2.out; have := HJ20.out; have := HJ62.out; omega
                                              case rel => exact ⟨(x4_62), (y170), (x7_62), (by first | rfl | (simp; done) | (simp [*]; done)), H', ⟨by have := HK1.out; have := HK2.out; have := HJ20.out; have := HJ62.out; omega⟩, ⟨by (try simp only [hl4_2]); (try simp only [hl4_62]); (try simp only [hl5_62]); (with_reducible repeat (first | apply Kd.R_alloc | apply Kd.R_drewN | apply Kd.R_drew)); exact HO_4.out⟩, ⟨by (try simp only [hl4_2]); (try simp only [hl4_62]); (try simp only [hl5_62]); (with_reducible repeat (first | apply Kd.R_alloc | apply Kd.R_drewN | apply Kd.R_drew)); exact HO_5.out⟩, ⟨by repeat (first | (with_reducible first | exact HB.out | apply below_alloc | apply pw_below_drewN | apply below_drew1 | refine below_set ?_ GE172.out) | exact HB.out)⟩⟩
                                            · rw [if_neg c93] at H
                                              have c93b0 : (((rd_T36 l0 x7_2).f0) == 1) = false := beq_eq_false_iff_ne.mpr c93
                                              have c93b1 : (((rd_T36 l0 x7_2).f0) != 1) = true := bne_iff_ne.mpr c93
                                              by_cases c95 : (wrap64 (x7_2 + 1)) = (l0.length : Int)
                                              · rw [if_pos c95] at H
                                                have c95b0 : ((wrap64 (x7_2 + 1)) == (l0.length : Int)) = true := beq_iff_eq.mpr c95
                                                have c95b1 : ((wrap64 (x7_2 + 1)) != (l0.length : Int)) = false := bne_eq_false_iff_eq.mpr c95
                                                clear c95
                                                simp only [Option.some.injEq, Prod.mk.injEq] at H
                                                obtain ⟨rfl, rfl⟩ := H
                                                have hcz96_0 : wc.cell? ⟨gb172, 0, none⟩ = some (.int .u8 ((rd_T36 l0 x7_2).f0)) := (blk_cell BK172.out 0).trans rfl
                                                have hcz96_1 : wc.cell? ⟨gb172, 1, none⟩ = some (.int .i64 ((rd_T36 l0 x7_2).f1)) := (blk_cell BK172.out 1).trans rfl
                                                have hcz96_2 : wc.cell? ⟨gb172, 2, none⟩ = some (.int .i64 ((rd_T36 l0 x7_2).f2)) := (blk_cell BK172.out 2).trans rfl
                                                have hcz96_3 : wc.cell? ⟨gb172, 3, none⟩ = some (.string ((rd_T36 l0 x7_2).f3)) := (blk_cell BK172.out 3).trans rfl
                                                have hfz96_0 := blk_frozen BK172.out 0
                                                have hfz96_1 := blk_frozen BK172.out 1
                                                have hfz96_2 := blk_frozen BK172.out 2
                                                have hfz96_3 := blk_frozen BK172.out 3
                                                go_wp2
                                                go_ret2
                                                exact ⟨_, by first | rfl | (simp [errW_none, errW_some] <;> rfl) | (simp [*, errW_none, errW_some] <;> rfl), by (with_reducible repeat (first | apply Kd.R_alloc | apply Kd.R_drewN | apply Kd.R_drew)); exact HO_4.out, by repeat (first | (with_reducible first | exact HB.out | apply below_alloc | apply pw_below_drewN | apply below_drew1 | refine below_set ?_ GE172.out) | exact HB.out)⟩
                                              · rw [if_neg c95] at H
                                                have c95b0 : ((wrap64 (x7_2 + 1)) == (l0.length : Int)) = false := beq_eq_false_iff_ne.mpr c95
                                                have c95b1 : ((wrap64 (x7_2 + 1)) != (l0.length : Int)) = true := bne_iff_ne.mpr c95
                                                obtain ⟨ji97, hji97⟩ : ∃ j_ : Int, (wrap64 (x7_2 + 1)) = j_ := ⟨_, rfl⟩
                                                replace H : (if 0 ≤ (ji97) then (if (ji97) < (x4_62.length : Int) then (if (rd x4_62 (ji97)) < 0 then ((some (x4_62.set ((ji97) : Int).toNat t180 : List Int)).bind fun y193 => (if (rd y193 (ji97)) = t180 then (prompterref14_Fits.l1 kj62 l0 y193 y170 x7_62) else (some (y193, x7_2)))) else (if (rd x4_62 (ji97)) = t180 then (prompterref14_Fits.l1 kj62 l0 x4_62 y170 x7_62) else (some (x4_62, x7_2)))) else (none)) else (none)) = some (r1, r2) := by first | (rw [hji97] at H; exact H) | (simp only [hji97] at H ⊢; exact H)
                                                (try rw [hji97] at c95b0)
                                                (try rw [hji97] at c95b1)
                                                have hji97w : (IntKind.i64.wrap (x7_2 + 1)) = ji97 := (i64_w _).trans hji97
                                                by_cases c98 : 0 ≤ (ji97)
                                                · rw [if_pos c98] at H
                                                  have c98b0 : decide (0 ≤ (ji97)) = true := decide_eq_true c98
                                                  clear c98
                                                  by_cases c99 : (ji97) < (x4_62.length : Int)
                                                  · rw [if_pos c99] at H
                                                    have c99b0 : decide ((ji97) < (x4_62.length : Int)) = true := decide_eq_true c99
                                                    clear c99
                                                    by_cases c100 : (rd x4_62 (ji97)) < 0
                                                    · rw [if_pos c100] at H
                                                      have c100b0 : decide ((rd x4_62 (ji97)) < 0) = true := decide_eq_true c100
                                                      clear c100
                                                      obtain ⟨y193, hy193⟩ : ∃ y_ : List Int, y_ = (x4_62.set ((ji97) : Int).toNat t180) := ⟨_, rfl⟩
                                                      replace H : (if (rd y193 (ji97)) = t180 then (prompterref14_Fits.l1 kj62 l0 y193 y170 x7_62) else (some (y193, x7_2))) = some (r1, r2) := by first | (rw [hy193]; with_reducible exact H) | (have H2_ := (Option.bind_some _ _).symm.trans H; rw [hy193]; with_reducible exact H2_) | (have H2_ := (Option.bind_some _ _).symm.trans H; with_reducible exact H2_) | with_reducible exact H | (rw [hy193]; exact H) | exact H
                                                      have Ny193 := Aside0.mk hy193
                                                      clear hy193
                                                      by_cases c102 : (rd y193 (ji97)) = t180
                                                      · rw [if_pos c102] at H
                                                        have c102b0 : ((rd y193 (ji97)) == t180) = true := beq_iff_eq.mpr c102
                                                        have c102b1 : ((rd y193 (ji97)) != t180) = false := bne_eq_false_iff_eq.mpr c102
                                                        clear c102
                                                        have H' := Aside0.mk H
                                                        clear H
                                                        have hcz103_0 : wc.cell? ⟨gb172, 0, none⟩ = some (.int .u8 ((rd_T36 l0 x7_2).f0)) := (blk_cell BK172.out 0).trans rfl
                                                        have hcz103_1 : wc.cell? ⟨gb172, 1, none⟩ = some (.int .i64 ((rd_T36 l0 x7_2).f1)) := (blk_cell BK172.out 1).trans rfl
                                                        have hcz103_2 : wc.cell? ⟨gb172, 2, none⟩ = some (.int .i64 ((rd_T36 l0 x7_2).f2)) := (blk_cell BK172.out 2).trans rfl
                                                        have hcz103_3 : wc.cell? ⟨gb172, 3, none⟩ = some (.string ((rd_T36 l0 x7_2).f3)) := (blk_cell BK172.out 3).trans rfl
                                                        have hfz103_0 := blk_frozen BK172.out 0
                                                        have hfz103_1 := blk_frozen BK172.out 1
                                                        have hfz103_2 := blk_frozen BK172.out 2
                                                        have hfz103_3 := blk_frozen BK172.out 3
                                                        have p192 : 0 ≤ ((ji97) : Int) := of_decide_eq_true (by first | (with_reducible assumption) | assumption)
                                                        have q192 : (ji97) < (x4_62.length : Int) := of_decide_eq_true (by first | (with_reducible assumption) | assumption)
                                                        obtain ⟨ad192, e192, hx192_0⟩ := Kd.at_int (Kd.R_reads' HO_4.out).2.2 (ji97) p192 q192
                                                        obtain rfl : (⟨go16, 0, none⟩ : Addr) = ad192 := (by injection e192)
                                                        (first | simp only [add_plain] at hx192_0 | simp only [add_at] at hx192_0 | simp only [Addr.add, Nat.zero_add] at hx192_0 | skip)
                                                        replace p192 := eq_true p192
                                                        replace q192 := eq_true q192
                                                        have p101 : 0 ≤ ((ji97) : Int) := of_decide_eq_true (by first | (with_reducible assumption) | assumption)
                                                        have q101 : ((ji97) : Int) < ((x4_62.length : Int) : Int) := of_decide_eq_true (by first | (with_reducible assumption) | assumption)
                                                        obtain ⟨hx101_0, hf101_0⟩ := Kd.R_celln 0 HO_4.out ((ji97) : Int) p101 q101
                                                        replace p101 := eq_true p101
                                                        replace q101 := eq_true q101
                                                        have HP104 := Kd.R_putg HO_4.out ((ji97) : Int) t180
                                                        go_wp2_with (first | ((with_reducible refine gate_store (t := 3) (p := 133) rfl ?_); refine store_event (t := 3) (p := 133) (v := ?vo_w105) (w1 := (wc.setCell ⟨go16, ((ji97) : Int).toNat, none⟩ (.int .i64 t180))) ?hg ?ho ?hn ?hr ?_; (case ho => rfl); (case hg => rfl); (case hn => rfl); (case hr => first | (go_simp; done) | (go_simp; rfl)); intro w105 hw; have hg : wc.grownBy w105 (some go16) := (by rw [hw]; exact HP104.2); have hp_ : Kd.R (Kd.int .i64) 3 w105 w.heap.size (fun _ => True) (.slice (some ⟨go16, 0, none⟩) x4_62.length co17) y193 := (by rw [hw, Ny193.out]; exact HP104.1); clear HP104; have n0_ := Aside0.mk (hp_); have n1_ := Aside0.mk (Kd.R_over' (v := (.slice (some ⟨go16, 0, none⟩) x4_62.length co17)) (by (with_reducible repeat (first | apply Kd.R_alloc | apply Kd.R_drewN | apply Kd.R_drew)); exact HO_5.out) (Kd.R_typed HO_4.out) (by decide) hg); have n2_ := Aside0.mk (blk_grown (g := gb172) (o := .cells #[.int .u8 ((rd_T36 l0 x7_2).f0), .int .i64 ((rd_T36 l0 x7_2).f1), .int .i64 ((rd_T36 l0 x7_2).f2), .string ((rd_T36 l0 x7_2).f3)] 36 (0, 0)) (by (with_reducible repeat (first | refine blk_drewN ?_ _ | refine blk_drew ?_ | refine blk_alloc ?_ _)); exact BK172.out) hg (Kd.R_ne HO_4.out BK172.out (by decide))); have n3_ := Aside0.mk ((by rw [hw]; exact below_set (HB.out) GB16.out : Below w.heap.size w w105)); clear HO_4; clear HO_5; clear BK172; clear HB; have HO_4 := n0_; have HO_5 := n1_; have BK172 := n2_; have HB := n3_; clear n0_ n1_ n2_ n3_; clear hg hw hp_; have p194 : 0 ≤ ((ji97) : Int) := of_decide_eq_true (by first | (with_reducible assumption) | assumption); have q194 : (ji97) < (y193.length : Int) := (by have h_ : ((ji97) : Int) < ((x4_62.length : Int) : Int) := of_decide_eq_true (by first | (with_reducible assumption) | assumption); first | (have e_ := (Kd.R_reads' HO_4.out).1; omega) | simpa only [Ny193.out, List.length_set] using h_); have ql194 : (((ji97) : Int) < ((x4_62.length : Int) : Int)) = True := eq_true (of_decide_eq_true (by first | (with_reducible assumption) | assumption)); obtain ⟨ad194, e194, hx194_0⟩ := Kd.at_int (Kd.R_reads' HO_4.out).2.2 (ji97) p194 q194; obtain rfl : (⟨go16, 0, none⟩ : Addr) = ad194 := (by injection e194); (first | simp only [add_plain] at hx194_0 | simp only [add_at] at hx194_0 | simp only [Addr.add, Nat.zero_add] at hx194_0 | skip); replace p194 := eq_true p194; replace q194 := eq_true q194))
                                                        (try simp only [← hl4_2, ← hl4_62, ← hl5_62])
                                                        go_roundg kj62
                                                        case measure => have := HK1.out; have := HK2.out; have := HJ20.out; have := HJ62.out; omega
                                                        case rel => exact ⟨(y193), (y170), (x7_62), (by first | rfl | (simp; done) | (simp [*]; done)), H', ⟨by have := HK1.out; have := HK2.out; have := HJ20.out; have := HJ62.out; omega⟩, ⟨by (try simp only [hl4_2]); (try simp only [hl4_62]); (try simp only [hl5_62]); (with_reducible repeat (first | apply Kd.R_alloc | apply Kd.R_drewN | apply Kd.R_drew)); exact HO_4.out⟩, ⟨by (try simp only [hl4_2]); (try simp only [hl4_62]); (try simp only [hl5_62]); (with_reducible repeat (first | apply Kd.R_alloc | apply Kd.R_drewN | apply Kd.R_drew)); exact HO_5.out⟩, ⟨by repeat (first | (with_reducible first | exact HB.out | apply below_alloc | apply pw_below_drewN | apply below_drew1 | refine below_set ?_ GE172.out) | exact HB.out)⟩⟩
                                                      · rw [if_neg c102] at H
                                                        have c102b0 : ((rd y193 (ji97)) == t180) = false := beq_eq_false_iff_ne.mpr c102
                                                        have c102b1 : ((rd y193 (ji97)) != t180) = true := bne_iff_ne.mpr c102
                                                        simp only [Option.some.injEq, Prod.mk.injEq] at H
                                                        obtain ⟨rfl, rfl⟩ := H
                                                        have hcz106_0 : wc.cell? ⟨gb172, 0, none⟩ = some (.int .u8 ((rd_T36 l0 x7_2).f0)) := (blk_cell BK172.out 0).trans rfl
                                                        have hcz106_1 : wc.cell? ⟨gb172, 1, none⟩ = some (.int .i64 ((rd_T36 l0 x7_2).f1)) := (blk_cell BK172.out 1).trans rfl
                                                        have hcz106_2 : wc.cell? ⟨gb172, 2, none⟩ = some (.int .i64 ((rd_T36 l0 x7_2).f2)) := (blk_cell BK172.out 2).trans rfl
                                                        have hcz106_3 : wc.cell? ⟨gb172, 3, none⟩ = some (.string ((rd_T36 l0 x7_2).f3)) := (blk_cell BK172.out 3).trans rfl
                                                        have hfz106_0 := blk_frozen BK172.out 0
                                                        have hfz106_1 := blk_frozen BK172.out 1
                                                        have hfz106_2 := blk_frozen BK172.out 2
                                                        have hfz106_3 := blk_frozen BK172.out 3
                                                        have p192 : 0 ≤ ((ji97) : Int) := of_decide_eq_true (by first | (with_reducible assumption) | assumption)
                                                        have q192 : (ji97) < (x4_62.length : Int) := of_decide_eq_true (by first | (with_reducible assumption) | assumption)
                                                        obtain ⟨ad192, e192, hx192_0⟩ := Kd.at_int (Kd.R_reads' HO_4.out).2.2 (ji97) p192 q192
                                                        obtain rfl : (⟨go16, 0, none⟩ : Addr) = ad192 := (by injection e192)
                                                        (first | simp only [add_plain] at hx192_0 | simp only [add_at] at hx192_0 | simp only [Addr.add, Nat.zero_add] at hx192_0 | skip)
                                                        replace p192 := eq_true p192
                                                        replace q192 := eq_true q192
                                                        have p101 : 0 ≤ ((ji97) : Int) := of_decide_eq_true (by first | (with_reducible assumption) | assumption)
                                                        have q101 : ((ji97) : Int) < ((x4_62.length : Int) : Int) := of_decide_eq_true (by first | (with_reducible assumption) | assumption)
                                                        obtain ⟨hx101_0, hf101_0⟩ := Kd.R_celln 0 HO_4.out ((ji97) : Int) p101 q101
                                                        replace p101 := eq_true p101
                                                        replace q101 := eq_true q101
                                                        have HP107 := Kd.R_putg HO_4.out ((ji97) : Int) t180
                                                        go_wp2_with (first | ((with_reducible refine gate_store (t := 3) (p := 133) rfl ?_); refine store_event (t := 3) (p := 133) (v := ?vo_w108) (w1 := (wc.setCell ⟨go16, ((ji97) : Int).toNat, none⟩ (.int .i64 t180))) ?hg ?ho ?hn ?hr ?_; (case ho => rfl); (case hg => rfl); (case hn => rfl); (case hr => first | (go_simp; done) | (go_simp; rfl)); intro w108 hw; have hg : wc.grownBy w108 (some go16) := (by rw [hw]; exact HP107.2); have hp_ : Kd.R (Kd.int .i64) 3 w108 w.heap.size (fun _ => True) (.slice (some ⟨go16, 0, none⟩) x4_62.length co17) y193 := (by rw [hw, Ny193.out]; exact HP107.1); clear HP107; have n0_ := Aside0.mk (hp_); have n1_ := Aside0.mk (Kd.R_over' (v := (.slice (some ⟨go16, 0, none⟩) x4_62.length co17)) (by (with_reducible repeat (first | apply Kd.R_alloc | apply Kd.R_drewN | apply Kd.R_drew)); exact HO_5.out) (Kd.R_typed HO_4.out) (by decide) hg); have n2_ := Aside0.mk (blk_grown (g := gb172) (o := .cells #[.int .u8 ((rd_T36 l0 x7_2).f0), .int .i64 ((rd_T36 l0 x7_2).f1), .int .i64 ((rd_T36 l0 x7_2).f2), .string ((rd_T36 l0 x7_2).f3)] 36 (0, 0)) (by (with_reducible repeat (first | refine blk_drewN ?_ _ | refine blk_drew ?_ | refine blk_alloc ?_ _)); exact BK172.out) hg (Kd.R_ne HO_4.out BK172.out (by decide))); have n3_ := Aside0.mk ((by rw [hw]; exact below_set (HB.out) GB16.out : Below w.heap.size w w108)); clear HO_4; clear HO_5; clear BK172; clear HB; have HO_4 := n0_; have HO_5 := n1_; have BK172 := n2_; have HB := n3_; clear n0_ n1_ n2_ n3_; clear hg hw hp_; have p194 : 0 ≤ ((ji97) : Int) := of_decide_eq_true (by first | (with_reducible assumption) | assumption); have q194 : (ji97) < (y193.length : Int) := (by have h_ : ((ji97) : Int) < ((x4_62.length : Int) : Int) := of_decide_eq_true (by first | (with_reducible assumption) | assumption); first | (have e_ := (Kd.R_reads' HO_4.out).1; omega) | simpa only [Ny193.out, List.length_set] using h_); have ql194 : (((ji97) : Int) < ((x4_62.length : Int) : Int)) = True := eq_true (of_decide_eq_true (by first | (with_reducible assumption) | assumption)); obtain ⟨ad194, e194, hx194_0⟩ := Kd.at_int (Kd.R_reads' HO_4.out).2.2 (ji97) p194 q194; obtain rfl : (⟨go16, 0, none⟩ : Addr) = ad194 := (by injection e194); (first | simp only [add_plain] at hx194_0 | simp only [add_at] at hx194_0 | simp only [Addr.add, Nat.zero_add] at hx194_0 | skip); replace p194 := eq_true p194; replace q194 := eq_true q194))
                                                        go_ret2
                                                        exact ⟨_, by first | rfl | (simp [errW_none, errW_some] <;> rfl) | (simp only [← hji97]; first | rfl | (simp [errW_none, errW_some] <;> rfl)) | (simp [*, errW_none, errW_some] <;> rfl), by (with_reducible repeat (first | apply Kd.R_alloc | apply Kd.R_drewN | apply Kd.R_drew)); exact HO_4.out, by repeat (first | (with_reducible first | exact HB.out | apply below_alloc | apply pw_below_drewN | apply below_drew1 | refine below_set ?_ GE172.out) | exact HB.out)⟩
                                                    · rw [if_neg c100] at H
                                                      have c100b0 : decide ((rd x4_62 (ji97)) < 0) = false := decide_eq_false c100
                                                      clear c100
                                                      by_cases c109 : (rd x4_62 (ji97)) = t180
                                                      · rw [if_pos c109] at H
                                                        have c109b0 : ((rd x4_62 (ji97)) == t180) = true := beq_iff_eq.mpr c109
                                                        have c109b1 : ((rd x4_62 (ji97)) != t180) = false := bne_eq_false_iff_eq.mpr c109
                                                        clear c109
                                                        have H' := Aside0.mk H
                                                        clear H
                                                        have hcz110_0 : wc.cell? ⟨gb172, 0, none⟩ = some (.int .u8 ((rd_T36 l0 x7_2).f0)) := (blk_cell BK172.out 0).trans rfl
                                                        have hcz110_1 : wc.cell? ⟨gb172, 1, none⟩ = some (.int .i64 ((rd_T36 l0 x7_2).f1)) := (blk_cell BK172.out 1).trans rfl
                                                        have hcz110_2 : wc.cell? ⟨gb172, 2, none⟩ = some (.int .i64 ((rd_T36 l0 x7_2).f2)) := (blk_cell BK172.out 2).trans rfl
                                                        have hcz110_3 : wc.cell? ⟨gb172, 3, none⟩ = some (.string ((rd_T36 l0 x7_2).f3)) := (blk_cell BK172.out 3).trans rfl
                                                        have hfz110_0 := blk_frozen BK172.out 0
                                                        have hfz110_1 := blk_frozen BK172.out 1
                                                        have hfz110_2 := blk_frozen BK172.out 2
                                                        have hfz110_3 := blk_frozen BK172.out 3
                                                        have p192 : 0 ≤ ((ji97) : Int) := of_decide_eq_true (by first | (with_reducible assumption) | assumption)
                                                        have q192 : (ji97) < (x4_62.length : Int) := of_decide_eq_true (by first | (with_reducible assumption) | assumption)
                                                        obtain ⟨ad192, e192, hx192_0⟩ := Kd.at_int (Kd.R_reads' HO_4.out).2.2 (ji97) p192 q192
                                                        obtain rfl : (⟨go16, 0, none⟩ : Addr) = ad192 := (by injection e192)
                                                        (first | simp only [add_plain] at hx192_0 | simp only [add_at] at hx192_0 | simp only [Addr.add, Nat.zero_add] at hx192_0 | skip)
                                                        replace p192 := eq_true p192
                                                        replace q192 := eq_true q192
                                                        have p195 : 0 ≤ ((ji97) : Int) := of_decide_eq_true (by first | (with_reducible assumption) | assumption)
                                                        have q195 : (ji97) < (x4_62.length : Int) := of_decide_eq_true (by first | (with_reducible assumption) | assumption)
                                                        obtain ⟨ad195, e195, hx195_0⟩ := Kd.at_int (Kd.R_reads' HO_4.out).2.2 (ji97) p195 q195
                                                        obtain rfl : (⟨go16, 0, none⟩ : Addr) = ad195 := (by injection e195)
                                                        (first | simp only [add_plain] at hx195_0 | simp only [add_at] at hx195_0 | simp only [Addr.add, Nat.zero_add] at hx195_0 | skip)
                                                        replace p195 := eq_true p195
                                                        replace q195 := eq_true q195
                                                        go_wp2
                                                        (try simp only [← hl4_2, ← hl4_62, ← hl5_62])
                                                        go_roundg kj62
                                                        case measure => have := HK1.out; have := HK2.out; have := HJ20.out; have := HJ62.out; omega
                                                        case rel => exact ⟨(x4_62), (y170), (x7_62), (by first | rfl | (simp; done) | (simp [*]; done)), H', ⟨by have := HK1.out; have := HK2.out; have := HJ20.out; have := HJ62.out; omega⟩, ⟨by (try simp only [hl4_2]); (try simp only [hl4_62]); (try simp only [hl5_62]); (with_reducible repeat (first | apply Kd.R_alloc | apply Kd.R_drewN | apply Kd.R_drew)); exact HO_4.out⟩, ⟨by (try simp only [hl4_2]); (try simp only [hl4_62]); (try simp only [hl5_62]); (with_reducible repeat (first | apply Kd.R_alloc | apply Kd.R_drewN | apply Kd.R_drew)); exact HO_5.out⟩, ⟨by repeat (first | (with_reducible first | exact HB.out | apply below_alloc | apply pw_below_drewN | apply below_drew1 | refine below_set ?_ GE172.out) | exact HB.out)⟩⟩
                                                      · rw [if_neg c109] at H
                                                        have c109b0 : ((rd x4_62 (ji97)) == t180) = false := beq_eq_false_iff_ne.mpr c109
                                                        have c109b1 : ((rd x4_62 (ji97)) != t180) = true := bne_iff_ne.mpr c109
                                                        simp only [Option.some.injEq, Prod.mk.injEq] at H
                                                        obtain ⟨rfl, rfl⟩ := H
                                                        have hcz111_0 : wc.cell? ⟨gb172, 0, none⟩ = some (.int .u8 ((rd_T36 l0 x7_2).f0)) := (blk_cell BK172.out 0).trans rfl
                                                        have hcz111_1 : wc.cell? ⟨gb172, 1, none⟩ = some (.int .i64 ((rd_T36 l0 x7_2).f1)) := (blk_cell BK172.out 1).trans rfl
                                                        have hcz111_2 : wc.cell? ⟨gb172, 2, none⟩ = some (.int .i64 ((rd_T36 l0 x7_2).f2)) := (blk_cell BK172.out 2).trans rfl
                                                        have hcz111_3 : wc.cell? ⟨gb172, 3, none⟩ = some (.string ((rd_T36 l0 x7_2).f3)) := (blk_cell BK172.out 3).trans rfl
                                                        have hfz111_0 := blk_frozen BK172.out 0
                                                        have hfz111_1 := blk_frozen BK172.out 1
                                                        have hfz111_2 := blk_frozen BK172.out 2
                                                        have hfz111_3 := blk_frozen BK172.out 3
                                                        have p192 : 0 ≤ ((ji97) : Int) := of_decide_eq_true (by first | (with_reducible assumption) | assumption)
                                                        have q192 : (ji97) < (x4_62.length : Int) := of_decide_eq_true (by first | (with_reducible assumption) | assumption)
                                                        obtain ⟨ad192, e192, hx192_0⟩ := Kd.at_int (Kd.R_reads' HO_4.out).2.2 (ji97) p192 q192
                                                        obtain rfl : (⟨go16, 0, none⟩ : Addr) = ad192 := (by injection e192)
                                                        (first | simp only [add_plain] at hx192_0 | simp only [add_at] at hx192_0 | simp only [Addr.add, Nat.zero_add] at hx192_0 | skip)
                                                        replace p192 := eq_true p192
                                                        replace q192 := eq_true q192
                                                        have p195 : 0 ≤ ((ji97) : Int) := of_decide_eq_true (by first | (with_reducible assumption) | assumption)
                                                        have q195 : (ji97) < (x4_62.length : Int) := of_decide_eq_true (by first | (with_reducible assumption) | assumption)
                                                        obtain ⟨ad195, e195, hx195_0⟩ := Kd.at_int (Kd.R_reads' HO_4.out).2.2 (ji97) p195 q195
                                                        obtain rfl : (⟨go16, 0, none⟩ : Addr) = ad195 := (by injection e195)
                                                        (first | simp only [add_plain] at hx195_0 | simp only [add_at] at hx195_0 | simp only [Addr.add, Nat.zero_add] at hx195_0 | skip)
                                                        replace p195 := eq_true p195
                                                        replace q195 := eq_true q195
                                                        go_wp2
                                                        go_ret2
                                                        exact ⟨_, by first | rfl | (simp [errW_none, errW_some] <;> rfl) | (simp only [← hji97]; first | rfl | (simp [errW_none, errW_some] <;> rfl)) | (simp [*, errW_none, errW_some] <;> rfl), by (with_reducible repeat (first | apply Kd.R_alloc | apply Kd.R_drewN | apply Kd.R_drew)); exact HO_4.out, by repeat (first | (with_reducible first | exact HB.out | apply below_alloc | apply pw_below_drewN | apply below_drew1 | refine below_set ?_ GE172.out) | exact HB.out)⟩
                                                  · rw [if_neg c99] at H
                                                    exact absurd H (by simp)
                                                · rw [if_neg c98] at H
                                                  exact absurd H (by simp)
                                    · rw [if_neg c51] at H
                                      exact absurd H (by simp)
                                · rw [if_neg c31] at H
                                  exact absurd H (by simp)
                              · rw [if_neg c29] at H
                                exact absurd H (by simp)
                            · rw [if_neg c28] at H
                              exact absurd H (by simp)
                    · rw [if_neg c20] at H
                      have c20b0 : decide (x7_2 < (l0.length : Int)) = false := decide_eq_false c20
                      clear c20
                      simp only [Option.some.injEq, Prod.mk.injEq] at H
                      obtain ⟨rfl, rfl⟩ := H
                      go_wp2
                      go_ret2
                      exact ⟨_, by first | rfl | (simp [errW_none, errW_some] <;> rfl) | (simp [*, errW_none, errW_some] <;> rfl), by (with_reducible repeat (first | apply Kd.R_alloc | apply Kd.R_drewN | apply Kd.R_drew)); exact HO_4.out, by repeat (first | (with_reducible first | exact HB.out | apply below_alloc | apply pw_below_drewN | apply below_drew1) | exact HB.out)⟩
              · rw [if_neg c15] at H
                exact absurd H (by simp)
      · rw [if_neg c4] at H
        exact absurd H (by simp)
    · rw [if_neg c3] at H
      exact absurd H (by simp)
  · rw [if_neg c2] at H
    exact absurd H (by simp)

end Go.Proofs.Ytcpjjnikehcleaa.PChk
