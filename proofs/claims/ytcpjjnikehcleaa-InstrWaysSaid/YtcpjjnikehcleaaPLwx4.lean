-- Written by a program of this session, out of the translation, with what this session proved by hand taken in.
import Derived.Test.YtcpjjnikehcleaaPLwx0
import Derived.Test.YtcpjjnikehcleaaPLwx1
import Derived.Test.YtcpjjnikehcleaaPChkx8
import Derived.Test.YtcpjjnikehcleaaPChkx9
namespace Go.Proofs.Ytcpjjnikehcleaa.PChk
open Go.RowKit Go.Proofs.YtcpjjnikehcleaaW.PrintWords Go.Proofs.YtcpjjnikehcleaaW.PrintLast Go.Proofs.YtcpjjnikehcleaaW.PrintMore
attribute [local go_sem] max2_int min2_int max_two min_two max_three min_three max_four min_four   -- for this text's walks alone
set_option linter.unusedVariables false
set_option linter.unusedSimpArgs false

/-! ### prompterlaw14_InstrWays: function 4 -/
mutual
def prompterlaw14_InstrWays.j0 : Nat → List (S36) → Int → List Bool → Bool → Option (Bool)
  | 0, _, _, _, _ => none
  | k + 1, x0, x1, x2, x28 => if x28 = true then (some true) else ((instr_Depths.f x0 x1).bind fun bt131 => (if bt131.2 = 0 then (if (bt131.1.length : Int) = (x0.length : Int) then (prompterlaw14_InstrWays.l0 k x0 x2 bt131.1 0 0 0 0 0) else (some false)) else (some ((bt131.1.length : Int) == 0))))
def prompterlaw14_InstrWays.l0 : Nat → List (S36) → List Bool → List Int → Int → Int → Int → Int → Int → Option (Bool)
  | 0, _, _, _, _, _, _, _, _ => none
  | k + 1, x0, x2, x7, x9, x10, x11, x12, x13 => if x13 < (x2.length : Int) then (if x9 < 0 then (prompterlaw14_InstrWays.j2 k x0 x2 x7 x9 x10 x11 x12 x13 true) else (if x9 ≥ (x0.length : Int) then (prompterlaw14_InstrWays.j2 k x0 x2 x7 x9 x10 x11 x12 x13 true) else (if 0 ≤ x9 then (if x9 < (x7.length : Int) then (prompterlaw14_InstrWays.j2 k x0 x2 x7 x9 x10 x11 x12 x13 ((rd x7 x9) != x10)) else (none)) else (none)))) else (some true)
def prompterlaw14_InstrWays.j2 : Nat → List (S36) → List Bool → List Int → Int → Int → Int → Int → Int → Bool → Option (Bool)
  | 0, _, _, _, _, _, _, _, _, _ => none
  | k + 1, x0, x2, x7, x9, x10, x11, x12, x13, x66 => if x66 = true then (some false) else (if 0 ≤ x9 then (if x9 < (x0.length : Int) then (if ((rd_T36 x0 x9).f0) = 1 then (prompterlaw14_InstrWays.j3 k x0 x2 x7 x9 x10 x11 (wrap64 (x12 + 1)) x13 false ((rd_T36 x0 x9).f0) ((rd_T36 x0 x9).f1) ((rd_T36 x0 x9).f2) ((rd_T36 x0 x9).f3)) else (prompterlaw14_InstrWays.j3 k x0 x2 x7 x9 x10 x11 (wrap64 (x12 + 1)) x13 (((rd_T36 x0 x9).f0) != 5) ((rd_T36 x0 x9).f0) ((rd_T36 x0 x9).f1) ((rd_T36 x0 x9).f2) ((rd_T36 x0 x9).f3))) else (none)) else (none))
def prompterlaw14_InstrWays.j3 : Nat → List (S36) → List Bool → List Int → Int → Int → Int → Int → Int → Bool → Int → Int → Int → ByteArray → Option (Bool)
  | 0, _, _, _, _, _, _, _, _, _, _, _, _, _ => none
  | k + 1, x0, x2, x7, x9, x10, x11, x12, x13, x80, x138000, x138001, x138002, x138003 => if x80 = true then (prompterlaw14_InstrWays.j4 k x0 x2 x7 x9 x10 x11 0 x13 x138000 x138001 x138002 x138003) else (prompterlaw14_InstrWays.j4 k x0 x2 x7 x9 x10 x11 x12 x13 x138000 x138001 x138002 x138003)
def prompterlaw14_InstrWays.j4 : Nat → List (S36) → List Bool → List Int → Int → Int → Int → Int → Int → Int → Int → Int → ByteArray → Option (Bool)
  | 0, _, _, _, _, _, _, _, _, _, _, _, _ => none
  | k + 1, x0, x2, x7, x9, x10, x11, x12, x13, x138000, x138001, x138002, x138003 => if x12 > (x0.length : Int) then (some false) else ((prompterref14_Takes.f k x138000 x138001 x138002 x138003).bind fun t138 => (if x10 < t138 then (some false) else ((prompterref14_Ends.f x138000).bind fun t139 => (if t139 = true then (if x10 = t138 then (if 0 ≤ x13 then (if x13 < (x2.length : Int) then (if rdOf false x2 x13 = true then (prompterlaw14_InstrWays.l0 k x0 x2 x7 x11 0 x11 x12 (wrap64 (x13 + 1))) else (prompterlaw14_InstrWays.l0 k x0 x2 x7 0 0 x11 x12 (wrap64 (x13 + 1)))) else (none)) else (none)) else (some false)) else ((prompterref14_Behind.f k x138000 x138001 x138002 x138003 x10).bind fun bt141 => (if x138000 = 53 then (if x138000 = 1 then (prompterlaw14_InstrWays.l0 k x0 x2 x7 x138001 bt141.1 x138001 x12 (wrap64 (x13 + 1))) else (if 0 ≤ x13 then (if x13 < (x2.length : Int) then (if rdOf false x2 x13 = true then (prompterlaw14_InstrWays.l0 k x0 x2 x7 (wrap64 (x9 + 1)) bt141.2 x138001 x12 (wrap64 (x13 + 1))) else (prompterlaw14_InstrWays.l0 k x0 x2 x7 (wrap64 (x9 + 1)) bt141.2 x138001 x12 (wrap64 (x13 + 1)))) else (none)) else (none))) else (if x138000 = 1 then (prompterlaw14_InstrWays.l0 k x0 x2 x7 x138001 bt141.1 x11 x12 (wrap64 (x13 + 1))) else (if 0 ≤ x13 then (if x13 < (x2.length : Int) then (if rdOf false x2 x13 = true then ((prompterref14_Of.f k x138000).bind fun bt145 => (if bt145.2.1 = 1 then (prompterlaw14_InstrWays.l0 k x0 x2 x7 x138001 bt141.1 x11 x12 (wrap64 (x13 + 1))) else (prompterlaw14_InstrWays.l0 k x0 x2 x7 (wrap64 (x9 + 1)) bt141.2 x11 x12 (wrap64 (x13 + 1))))) else (prompterlaw14_InstrWays.l0 k x0 x2 x7 (wrap64 (x9 + 1)) bt141.2 x11 x12 (wrap64 (x13 + 1)))) else (none)) else (none)))))))))
end
def prompterlaw14_InstrWays.f (k : Nat) (l0 : List (S36)) (a1 : Int) (l2 : List Bool) : Option (Bool) := (prompterlaw14_awake.f).bind fun t130 => (if t130 = true then (if (l0.length : Int) > 400 then (prompterlaw14_InstrWays.j0 k l0 a1 l2 true) else (prompterlaw14_InstrWays.j0 k l0 a1 l2 (decide ((l2.length : Int) > 300)))) else (some false))
theorem prompterlaw14_InstrWays.mono_l : ∀ k, (∀ y0 y1 y2 y3, LeO (prompterlaw14_InstrWays.j0 k y0 y1 y2 y3) (prompterlaw14_InstrWays.j0 (k + 1) y0 y1 y2 y3)) ∧ (∀ y0 y1 y2 y3 y4 y5 y6 y7, LeO (prompterlaw14_InstrWays.l0 k y0 y1 y2 y3 y4 y5 y6 y7) (prompterlaw14_InstrWays.l0 (k + 1) y0 y1 y2 y3 y4 y5 y6 y7)) ∧ (∀ y0 y1 y2 y3 y4 y5 y6 y7 y8, LeO (prompterlaw14_InstrWays.j2 k y0 y1 y2 y3 y4 y5 y6 y7 y8) (prompterlaw14_InstrWays.j2 (k + 1) y0 y1 y2 y3 y4 y5 y6 y7 y8)) ∧ (∀ y0 y1 y2 y3 y4 y5 y6 y7 y8 y9 y10 y11 y12, LeO (prompterlaw14_InstrWays.j3 k y0 y1 y2 y3 y4 y5 y6 y7 y8 y9 y10 y11 y12) (prompterlaw14_InstrWays.j3 (k + 1) y0 y1 y2 y3 y4 y5 y6 y7 y8 y9 y10 y11 y12)) ∧ (∀ y0 y1 y2 y3 y4 y5 y6 y7 y8 y9 y10 y11, LeO (prompterlaw14_InstrWays.j4 k y0 y1 y2 y3 y4 y5 y6 y7 y8 y9 y10 y11) (prompterlaw14_InstrWays.j4 (k + 1) y0 y1 y2 y3 y4 y5 y6 y7 y8 y9 y10 y11))
  | 0 => ⟨fun _ _ _ _ r h => by simp [prompterlaw14_InstrWays.j0] at h, fun _ _ _ _ _ _ _ _ r h => by simp [prompterlaw14_InstrWays.l0] at h, fun _ _ _ _ _ _ _ _ _ r h => by simp [prompterlaw14_InstrWays.j2] at h, fun _ _ _ _ _ _ _ _ _ _ _ _ _ r h => by simp [prompterlaw14_InstrWays.j3] at h, fun _ _ _ _ _ _ _ _ _ _ _ _ r h => by simp [prompterlaw14_InstrWays.j4] at h⟩
  | k + 1 => by
    obtain ⟨ih0, ih1, ih2, ih3, ih4⟩ := prompterlaw14_InstrWays.mono_l k
    refine ⟨?_, ?_, ?_, ?_, ?_⟩
    · intro y0 y1 y2 y3
      unfold prompterlaw14_InstrWays.j0
      repeat' first
      | (with_reducible exact ih0 _ _ _ _)
      | (with_reducible exact ih1 _ _ _ _ _ _ _ _)
      | (with_reducible exact ih2 _ _ _ _ _ _ _ _ _)
      | (with_reducible exact ih3 _ _ _ _ _ _ _ _ _ _ _ _ _)
      | (with_reducible exact ih4 _ _ _ _ _ _ _ _ _ _ _ _)
      | (with_reducible exact prompterref14_Behind.mono _ _ _ _ _ _)
      | (with_reducible exact prompterref14_Of.mono _ _)
      | (with_reducible exact prompterref14_Takes.mono _ _ _ _ _)
      | (with_reducible exact LeO.refl _)
      | (with_reducible exact LeO.none _)
      | (with_reducible refine LeO.ite ?_ ?_)
      | (with_reducible refine LeO.bind ?_ (fun _ => ?_))
      | exact ih0 _ _ _ _
      | exact ih1 _ _ _ _ _ _ _ _
      | exact ih2 _ _ _ _ _ _ _ _ _
      | exact ih3 _ _ _ _ _ _ _ _ _ _ _ _ _
      | exact ih4 _ _ _ _ _ _ _ _ _ _ _ _
      | exact prompterref14_Behind.mono _ _ _ _ _ _
      | exact prompterref14_Of.mono _ _
      | exact prompterref14_Takes.mono _ _ _ _ _
      | exact LeO.none _
      | refine LeO.ite ?_ ?_
      | refine LeO.bind ?_ (fun _ => ?_)
    · intro y0 y1 y2 y3 y4 y5 y6 y7
      unfold prompterlaw14_InstrWays.l0
      repeat' first
      | (with_reducible exact ih0 _ _ _ _)
      | (with_reducible exact ih1 _ _ _ _ _ _ _ _)
      | (with_reducible exact ih2 _ _ _ _ _ _ _ _ _)
      | (with_reducible exact ih3 _ _ _ _ _ _ _ _ _ _ _ _ _)
      | (with_reducible exact ih4 _ _ _ _ _ _ _ _ _ _ _ _)
      | (with_reducible exact prompterref14_Behind.mono _ _ _ _ _ _)
      | (with_reducible exact prompterref14_Of.mono _ _)
      | (with_reducible exact prompterref14_Takes.mono _ _ _ _ _)
      | (with_reducible exact LeO.refl _)
      | (with_reducible exact LeO.none _)
      | (with_reducible refine LeO.ite ?_ ?_)
      | (with_reducible refine LeO.bind ?_ (fun _ => ?_))
      | exact ih0 _ _ _ _
      | exact ih1 _ _ _ _ _ _ _ _
      | exact ih2 _ _ _ _ _ _ _ _ _
      | exact ih3 _ _ _ _ _ _ _ _ _ _ _ _ _
      | exact ih4 _ _ _ _ _ _ _ _ _ _ _ _
      | exact prompterref14_Behind.mono _ _ _ _ _ _
      | exact prompterref14_Of.mono _ _
      | exact prompterref14_Takes.mono _ _ _ _ _
      | exact LeO.none _
      | refine LeO.ite ?_ ?_
      | refine LeO.bind ?_ (fun _ => ?_)
    · intro y0 y1 y2 y3 y4 y5 y6 y7 y8
      unfold prompterlaw14_InstrWays.j2
      repeat' first
      | (with_reducible exact ih0 _ _ _ _)
      | (with_reducible exact ih1 _ _ _ _ _ _ _ _)
      | (with_reducible exact ih2 _ _ _ _ _ _ _ _ _)
      | (with_reducible exact ih3 _ _ _ _ _ _ _ _ _ _ _ _ _)
      | (with_reducible exact ih4 _ _ _ _ _ _ _ _ _ _ _ _)
      | (with_reducible exact prompterref14_Behind.mono _ _ _ _ _ _)
      | (with_reducible exact prompterref14_Of.mono _ _)
      | (with_reducible exact prompterref14_Takes.mono _ _ _ _ _)
      | (with_reducible exact LeO.refl _)
      | (with_reducible exact LeO.none _)
      | (with_reducible refine LeO.ite ?_ ?_)
      | (with_reducible refine LeO.bind ?_ (fun _ => ?_))
      | exact ih0 _ _ _ _
      | exact ih1 _ _ _ _ _ _ _ _
      | exact ih2 _ _ _ _ _ _ _ _ _
      | exact ih3 _ _ _ _ _ _ _ _ _ _ _ _ _
      | exact ih4 _ _ _ _ _ _ _ _ _ _ _ _
      | exact prompterref14_Behind.mono _ _ _ _ _ _
      | exact prompterref14_Of.mono _ _
      | exact prompterref14_Takes.mono _ _ _ _ _
      | exact LeO.none _
      | refine LeO.ite ?_ ?_
      | refine LeO.bind ?_ (fun _ => ?_)
    · intro y0 y1 y2 y3 y4 y5 y6 y7 y8 y9 y10 y11 y12
      unfold prompterlaw14_InstrWays.j3
      repeat' first
      | (with_reducible exact ih0 _ _ _ _)
      | (with_reducible exact ih1 _ _ _ _ _ _ _ _)
      | (with_reducible exact ih2 _ _ _ _ _ _ _ _ _)
      | (with_reducible exact ih3 _ _ _ _ _ _ _ _ _ _ _ _ _)
      | (with_reducible exact ih4 _ _ _ _ _ _ _ _ _ _ _ _)
      | (with_reducible exact prompterref14_Behind.mono _ _ _ _ _ _)
      | (with_reducible exact prompterref14_Of.mono _ _)
      | (with_reducible exact prompterref14_Takes.mono _ _ _ _ _)
      | (with_reducible exact LeO.refl _)
      | (with_reducible exact LeO.none _)
      | (with_reducible refine LeO.ite ?_ ?_)
      | (with_reducible refine LeO.bind ?_ (fun _ => ?_))
      | exact ih0 _ _ _ _
      | exact ih1 _ _ _ _ _ _ _ _
      | exact ih2 _ _ _ _ _ _ _ _ _
      | exact ih3 _ _ _ _ _ _ _ _ _ _ _ _ _
      | exact ih4 _ _ _ _ _ _ _ _ _ _ _ _
      | exact prompterref14_Behind.mono _ _ _ _ _ _
      | exact prompterref14_Of.mono _ _
      | exact prompterref14_Takes.mono _ _ _ _ _
      | exact LeO.none _
      | refine LeO.ite ?_ ?_
      | refine LeO.bind ?_ (fun _ => ?_)
    · intro y0 y1 y2 y3 y4 y5 y6 y7 y8 y9 y10 y11
      unfold prompterlaw14_InstrWays.j4
      repeat' first
      | (with_reducible exact ih0 _ _ _ _)
      | (with_reducible exact ih1 _ _ _ _ _ _ _ _)
      | (with_reducible exact ih2 _ _ _ _ _ _ _ _ _)
      | (with_reducible exact ih3 _ _ _ _ _ _ _ _ _ _ _ _ _)
      | (with_reducible exact ih4 _ _ _ _ _ _ _ _ _ _ _ _)
      | (with_reducible exact prompterref14_Behind.mono _ _ _ _ _ _)
      | (with_reducible exact prompterref14_Of.mono _ _)
      | (with_reducible exact prompterref14_Takes.mono _ _ _ _ _)
      | (with_reducible exact LeO.refl _)
      | (with_reducible exact LeO.none _)
      | (with_reducible refine LeO.ite ?_ ?_)
      | (with_reducible refine LeO.bind ?_ (fun _ => ?_))
      | exact ih0 _ _ _ _
      | exact ih1 _ _ _ _ _ _ _ _
      | exact ih2 _ _ _ _ _ _ _ _ _
      | exact ih3 _ _ _ _ _ _ _ _ _ _ _ _ _
      | exact ih4 _ _ _ _ _ _ _ _ _ _ _ _
      | exact prompterref14_Behind.mono _ _ _ _ _ _
      | exact prompterref14_Of.mono _ _
      | exact prompterref14_Takes.mono _ _ _ _ _
      | exact LeO.none _
      | refine LeO.ite ?_ ?_
      | refine LeO.bind ?_ (fun _ => ?_)
theorem prompterlaw14_InstrWays.mono : ∀ a0 a1 a2 k, LeO (prompterlaw14_InstrWays.f k a0 a1 a2) (prompterlaw14_InstrWays.f (k + 1) a0 a1 a2) := by
  intro a0 a1 a2 k
  obtain ⟨ih0, ih1, ih2, ih3, ih4⟩ := prompterlaw14_InstrWays.mono_l k
  unfold prompterlaw14_InstrWays.f
  repeat' first
      | (with_reducible exact ih0 _ _ _ _)
      | (with_reducible exact ih1 _ _ _ _ _ _ _ _)
      | (with_reducible exact ih2 _ _ _ _ _ _ _ _ _)
      | (with_reducible exact ih3 _ _ _ _ _ _ _ _ _ _ _ _ _)
      | (with_reducible exact ih4 _ _ _ _ _ _ _ _ _ _ _ _)
      | (with_reducible exact prompterref14_Behind.mono _ _ _ _ _ _)
      | (with_reducible exact prompterref14_Of.mono _ _)
      | (with_reducible exact prompterref14_Takes.mono _ _ _ _ _)
      | (with_reducible exact LeO.refl _)
      | (with_reducible exact LeO.none _)
      | (with_reducible refine LeO.ite ?_ ?_)
      | (with_reducible refine LeO.bind ?_ (fun _ => ?_))
      | exact ih0 _ _ _ _
      | exact ih1 _ _ _ _ _ _ _ _
      | exact ih2 _ _ _ _ _ _ _ _ _
      | exact ih3 _ _ _ _ _ _ _ _ _ _ _ _ _
      | exact ih4 _ _ _ _ _ _ _ _ _ _ _ _
      | exact prompterref14_Behind.mono _ _ _ _ _ _
      | exact prompterref14_Of.mono _ _
      | exact prompterref14_Takes.mono _ _ _ _ _
      | exact LeO.none _
      | refine LeO.ite ?_ ?_
      | refine LeO.bind ?_ (fun _ => ?_)
set_option maxHeartbeats 8000000 in
set_option maxRecDepth 100000 in
theorem prompterlaw14_InstrWays.calls (k : Nat) (A0 : Option Addr) (c0 : Nat) (l0 : List (S36)) (a1 : Int) (A2 : Option Addr) (c2 : Nat) (l2 : List Bool) (r : Bool) (w : World) (hr0 : Kd.C k36 w A0 l0.length l0) (hc0 : l0.length ≤ c0) (hr2 : Kd.C Kd.bool w A2 l2.length l2) (hc2 : l2.length ≤ c2) (h : prompterlaw14_InstrWays.f k l0 a1 l2 = some r) :
    Calls Try.prog 4 #[.slice A0 l0.length c0, .int .i64 a1, .slice A2 l2.length c2] w fun e w' => e = .returned (.bool r) ∧ Below w.heap.size w w' := by
  have hu36 := Try.underlying36
  have hu42 := Try.underlying42
  have hfd1 : ∀ (t1 : ByteArray) (t2 : Int) (t3 t4 t5 : Bool) (t6 t7 : Int) (w' : World), (Instr.field 42 (.agg #[.string t1, .int .i64 t2, .bool t3, .bool t4, .bool t5, .int .i64 t6, .int .i64 t7]) 1).run Try.prog w' = .ok (.int .i64 t2) w' := fun _ _ _ _ _ _ _ _ => by kernel_rfl
  have HR0 := Aside0.mk hr0
  have HC0 := Aside0.mk hc0
  clear hr0 hc0
  have HR2 := Aside0.mk hr2
  have HC2 := Aside0.mk hc2
  clear hr2 hc2
  have HB := Aside0.mk (Below.refl w.heap.size w)
  have H : ((prompterlaw14_awake.f).bind fun t130 => (if t130 = true then (if (l0.length : Int) > 400 then (prompterlaw14_InstrWays.j0 k l0 a1 l2 true) else (prompterlaw14_InstrWays.j0 k l0 a1 l2 (decide ((l2.length : Int) > 300)))) else (some false))) = some r := h
  clear h
  replace H := Option.bind_eq_some_iff.mp H
  obtain ⟨t130, A40, H⟩ := H
  replace H : (if t130 = true then (if (l0.length : Int) > 400 then (prompterlaw14_InstrWays.j0 k l0 a1 l2 true) else (prompterlaw14_InstrWays.j0 k l0 a1 l2 (decide ((l2.length : Int) > 300)))) else (some false)) = some r := H
  have A4 := Aside0.mk A40
  clear A40
  by_cases c5 : t130 = true
  · subst c5
    have H1 : (if (l0.length : Int) > 400 then (prompterlaw14_InstrWays.j0 k l0 a1 l2 true) else (prompterlaw14_InstrWays.j0 k l0 a1 l2 (decide ((l2.length : Int) > 300)))) = some r := by rw [if_pos rfl] at H; exact H
    clear H
    have H := H1
    clear H1
    have HC6 := Aside0.mk H
    clear H
    go_enter Try.func4, Try.ntmps4
    go_upto_region 3 with (first | ((with_reducible refine gate_callee (f := 6) rfl ?_); refine goesL_ (some 19) rfl rfl Try.func6 (by kernel_rfl) rfl #[] rfl (by (try simp only [List.map_toArray, List.map_cons, List.map_nil]); first | done | rfl | (simp only [List.length_drop, List.length_take]; rfl)) ?_; (with_reducible refine (prompterlaw14_awake.calls  true _ A4.out).mono ?_); rintro e w7 ⟨rfl, hb⟩; refine ⟨_, rfl, ?_⟩; have n0_ := Aside0.mk (below_step (by repeat (first | (with_reducible first | exact HB.out | apply below_alloc | apply pw_below_drewN | apply below_drew1) | exact HB.out)) hb); clear HB; have HB := n0_; clear n0_; (try clear hb); (try clear hb2); (try clear hk); (try clear hi)))
    (try simp only [Act.put, List.setIfInBounds_toArray, List.set_cons_zero, List.set_cons_succ])
    go_cut [28] (fun v28 wc => ∃ (kq : Nat) (x28_5 : Bool), v28 = .bool x28_5 ∧ Aside0 (prompterlaw14_InstrWays.j0 kq l0 a1 l2 x28_5 = some r) ∧ Aside0 (kq ≤ k) ∧ Aside0 (Below w.heap.size w wc))
    case first =>
      have H := HC6.out
      clear HC6
      by_cases c8 : (l0.length : Int) > 400
      · rw [if_pos c8] at H
        have c8b0 : decide (400 < (l0.length : Int)) = true := decide_eq_true c8
        have c8b1 : decide (400 < l0.length) = true := decide_eq_true (by omega)
        clear c8
        (first | rw [c8b0] | (simp only [i64_w, i32_w]; rw [c8b0]) | skip)
        have H' := Aside0.mk H
        clear H
        go_wp2
        go_meet
        case rel => exact ⟨_, (true), (by first | rfl | (simp; done) | (simp [*]; done)), H', ⟨by first | omega | exact Nat.le_refl _⟩, ⟨by repeat (first | (with_reducible first | exact HB.out | apply below_alloc | apply pw_below_drewN | apply below_drew1) | exact HB.out)⟩⟩
      · rw [if_neg c8] at H
        have c8b0 : decide (400 < (l0.length : Int)) = false := decide_eq_false c8
        have c8b1 : decide (400 < l0.length) = false := decide_eq_false (by omega)
        clear c8
        (first | rw [c8b0] | (simp only [i64_w, i32_w]; rw [c8b0]) | skip)
        have H' := Aside0.mk H
        clear H
        go_wp2
        go_meet
        case rel => exact ⟨_, (decide ((l2.length : Int) > 300)), (by first | rfl | (simp; done) | (simp [*]; done)), H', ⟨by first | omega | exact Nat.le_refl _⟩, ⟨by repeat (first | (with_reducible first | exact HB.out | apply below_alloc | apply pw_below_drewN | apply below_drew1) | exact HB.out)⟩⟩
    case rest =>
      clear HC6
      try clear c2
      try clear p2
      try clear c4
      try clear c5
      try clear c6
      try clear c8
      try clear c8b0
      try clear c8b1
      obtain ⟨kq, x28_5, rfl, HA, HJ5, HB⟩ := hcut
      cases kq with
      | zero => exact absurd HA.out (by simp [prompterlaw14_InstrWays.j0])
      | succ kj5 =>
        have H := HA.out
        clear HA
        simp only [prompterlaw14_InstrWays.j0] at H
        by_cases c9 : x28_5 = true
        · subst c9
          have H1 : (some true) = some r := by rw [if_pos rfl] at H; exact H
          clear H
          have H := H1
          clear H1
          obtain rfl := Option.some.inj H
          go_wp2
          go_ret
          exact ⟨by first | rfl | (simp [errW_none, errW_some] <;> rfl) | (simp [*, errW_none, errW_some] <;> rfl), by repeat (first | (with_reducible first | exact HB.out | apply below_alloc | apply pw_below_drewN | apply below_drew1) | exact HB.out)⟩
        · replace c9 := Bool.eq_false_iff.mpr c9
          subst c9
          have H1 : ((instr_Depths.f l0 a1).bind fun bt131 => (if bt131.2 = 0 then (if (bt131.1.length : Int) = (l0.length : Int) then (prompterlaw14_InstrWays.l0 kj5 l0 l2 bt131.1 0 0 0 0 0) else (some false)) else (some ((bt131.1.length : Int) == 0)))) = some r := by rw [if_neg (show ¬ (false = true) by decide)] at H; exact H
          clear H
          have H := H1
          clear H1
          replace H := Option.bind_eq_some_iff.mp H
          obtain ⟨⟨t131, t132⟩, A100, H⟩ := H
          replace H : (if t132 = 0 then (if (t131.length : Int) = (l0.length : Int) then (prompterlaw14_InstrWays.l0 kj5 l0 l2 t131 0 0 0 0 0) else (some false)) else (some ((t131.length : Int) == 0))) = some r := H
          have A10 := Aside0.mk A100
          clear A100
          by_cases c11 : t132 = 0
          · rw [if_pos c11] at H
            have c11b0 : (t132 == 0) = true := beq_iff_eq.mpr c11
            have c11b1 : (t132 != 0) = false := bne_eq_false_iff_eq.mpr c11
            clear c11
            by_cases c12 : (t131.length : Int) = (l0.length : Int)
            · rw [if_pos c12] at H
              have c12b0 : ((t131.length : Int) == (l0.length : Int)) = true := beq_iff_eq.mpr c12
              have c12b1 : ((t131.length : Int) != (l0.length : Int)) = false := bne_eq_false_iff_eq.mpr c12
              have c12b2 : (t131.length == l0.length) = true := by first | simpa using c12 | (simp at c12 ⊢; omega)
              clear c12
              have H' := Aside0.mk H
              clear H
              go_wp2_with (first | ((with_reducible refine gate_callee (f := 10) rfl ?_); refine goesL_ (some 32) rfl rfl Try.func10 (by kernel_rfl) rfl #[.slice A0 l0.length c0, .int .i64 a1] rfl (by (try simp only [List.map_toArray, List.map_cons, List.map_nil]); first | done | rfl | (simp only [List.length_drop, List.length_take]; rfl)) ?_; (with_reducible refine (instr_Depths.calls _ _ l0 a1 t131 t132 _ ?side1 ?side2 A10.out).mono ?_); (case side1 => repeat (first | exact (Kd.C_below HR0.out HB.out) | (with_reducible refine Kd.C_alloc ?_ _) | (with_reducible refine Kd.C_drewN ?_ _) | (with_reducible refine Kd.C_drew ?_))); (case side2 => exact HC0.out); rintro e w13 ⟨v133, rfl, ho0, hb⟩; refine ⟨_, rfl, ?_⟩; have n0_ := Aside0.mk (Kd.R_lower ho0 (below_size (by repeat (first | (with_reducible first | exact HB.out | apply below_alloc | apply pw_below_drewN | apply below_drew1) | exact HB.out)))); have n1_ := Aside0.mk (below_step (by repeat (first | (with_reducible first | exact HB.out | apply below_alloc | apply pw_below_drewN | apply below_drew1) | exact HB.out)) hb); clear HB; have HO134 := n0_; have HB := n1_; clear n0_ n1_; (try clear hb); (try clear hb2); (try clear hk); (try clear hi); (try clear ho0); obtain ⟨Ao14, co14, eo14⟩ := Kd.R_slice HO134.out; subst eo14))
              go_loopg [9, 10, 11, 12, 13] kj5 (fun kq v9 v10 v11 v12 v13 w' => ∃ (x9_2 : Int) (x10_2 : Int) (x11_2 : Int) (x12_2 : Int) (x13_2 : Int), v9 = .int .i64 x9_2 ∧ v10 = .int .i64 x10_2 ∧ v11 = .int .i64 x11_2 ∧ v12 = .int .i64 x12_2 ∧ v13 = .int .i64 x13_2 ∧ Aside0 (prompterlaw14_InstrWays.l0 kq l0 l2 t131 x9_2 x10_2 x11_2 x12_2 x13_2 = some r) ∧ Aside0 (kq ≤ kj5) ∧ Aside0 (Kd.R (Kd.int .i64) 3 w' w.heap.size (fun _ => True) (.slice Ao14 t131.length co14) t131) ∧ Aside0 (Below w.heap.size w w'))
              case atStart => exact ⟨(0), (0), (0), (0), (0), (by first | rfl | (simp; done) | (simp [*]; done)), (by first | rfl | (simp; done) | (simp [*]; done)), (by first | rfl | (simp; done) | (simp [*]; done)), (by first | rfl | (simp; done) | (simp [*]; done)), (by first | rfl | (simp; done) | (simp [*]; done)), H', ⟨Nat.le_refl _⟩, ⟨by (with_reducible repeat (first | apply Kd.R_alloc | apply Kd.R_drewN | apply Kd.R_drew)); exact HO134.out⟩, ⟨by repeat (first | (with_reducible first | exact HB.out | apply below_alloc | apply pw_below_drewN | apply below_drew1) | exact HB.out)⟩⟩
              case round =>
                clear H'
                try clear c1
                try clear c2
                try clear p2
                try clear c4
                try clear c5
                try clear c6
                try clear c8
                try clear c8b0
                try clear c8b1
                try clear c9
                try clear c10
                try clear c11
                try clear c11b0
                try clear c11b1
                try clear c12
                try clear c12b0
                try clear c12b1
                try clear c12b2
                try clear p2
                obtain ⟨x9_2, x10_2, x11_2, x12_2, x13_2, rfl, rfl, rfl, rfl, rfl, HA, HK2, HO_7, HB⟩ := hrel
                cases gk with
                | zero => exact absurd HA.out (by simp [prompterlaw14_InstrWays.l0])
                | succ k2 =>
                  have H := HA.out
                  clear HA
                  simp only [prompterlaw14_InstrWays.l0] at H
                  by_cases c15 : x13_2 < (l2.length : Int)
                  · rw [if_pos c15] at H
                    have c15b0 : decide (x13_2 < (l2.length : Int)) = true := decide_eq_true c15
                    clear c15
                    have HC16 := Aside0.mk H
                    clear H
                    go_upto_region 17 with (fail)
                    go_cut [66] (fun v66 wc => ∃ (kq : Nat) (x66_15 : Bool), v66 = .bool x66_15 ∧ Aside0 (prompterlaw14_InstrWays.j2 kq l0 l2 t131 x9_2 x10_2 x11_2 x12_2 x13_2 x66_15 = some r) ∧ Aside0 (kq ≤ k2) ∧ Aside0 (Kd.R (Kd.int .i64) 3 wc w.heap.size (fun _ => True) (.slice Ao14 t131.length co14) t131) ∧ Aside0 (Below w.heap.size w wc))
                    case first =>
                      have H := HC16.out
                      clear HC16
                      by_cases c17 : x9_2 < 0
                      · rw [if_pos c17] at H
                        have c17b0 : decide (x9_2 < 0) = true := decide_eq_true c17
                        clear c17
                        (first | rw [c17b0] | (simp only [i64_w, i32_w]; rw [c17b0]) | skip)
                        have H' := Aside0.mk H
                        clear H
                        go_wp2
                        go_meet
                        case rel => exact ⟨_, (true), (by first | rfl | (simp; done) | (simp [*]; done)), H', ⟨by have := HJ5.out; have := HK2.out; first | omega | exact Nat.le_refl _⟩, ⟨by (with_reducible repeat (first | apply Kd.R_alloc | apply Kd.R_drewN | apply Kd.R_drew)); exact HO_7.out⟩, ⟨by repeat (first | (with_reducible first | exact HB.out | apply below_alloc | apply pw_below_drewN | apply below_drew1) | exact HB.out)⟩⟩
                      · rw [if_neg c17] at H
                        have c17b0 : decide (x9_2 < 0) = false := decide_eq_false c17
                        clear c17
                        (first | rw [c17b0] | (simp only [i64_w, i32_w]; rw [c17b0]) | skip)
                        by_cases c18 : x9_2 ≥ (l0.length : Int)
                        · rw [if_pos c18] at H
                          have c18b0 : decide ((l0.length : Int) ≤ x9_2) = true := decide_eq_true c18
                          clear c18
                          have H' := Aside0.mk H
                          clear H
                          go_wp2
                          go_meet
                          case rel => exact ⟨_, (true), (by first | rfl | (simp; done) | (simp [*]; done)), H', ⟨by have := HJ5.out; have := HK2.out; first | omega | exact Nat.le_refl _⟩, ⟨by (with_reducible repeat (first | apply Kd.R_alloc | apply Kd.R_drewN | apply Kd.R_drew)); exact HO_7.out⟩, ⟨by repeat (first | (with_reducible first | exact HB.out | apply below_alloc | apply pw_below_drewN | apply below_drew1) | exact HB.out)⟩⟩
                        · rw [if_neg c18] at H
                          have c18b0 : decide ((l0.length : Int) ≤ x9_2) = false := decide_eq_false c18
                          clear c18
                          by_cases c19 : 0 ≤ x9_2
                          · rw [if_pos c19] at H
                            have c19b0 : decide (0 ≤ x9_2) = true := decide_eq_true c19
                            clear c19
                            by_cases c20 : x9_2 < (t131.length : Int)
                            · rw [if_pos c20] at H
                              have c20b0 : decide (x9_2 < (t131.length : Int)) = true := decide_eq_true c20
                              clear c20
                              have H' := Aside0.mk H
                              clear H
                              have p135 : 0 ≤ (x9_2 : Int) := of_decide_eq_true (by first | (with_reducible assumption) | assumption)
                              have q135 : x9_2 < (t131.length : Int) := of_decide_eq_true (by first | (with_reducible assumption) | assumption)
                              obtain ⟨ad135, e135, hx135_0⟩ := Kd.at_int (Kd.R_reads' HO_7.out).2.2 x9_2 p135 q135
                              cases e135
                              replace p135 := eq_true p135
                              replace q135 := eq_true q135
                              go_wp2
                              go_meet
                              case rel => exact ⟨_, (((rd t131 x9_2) != x10_2)), (by first | rfl | (simp; done) | (simp [*]; done)), H', ⟨by have := HJ5.out; have := HK2.out; first | omega | exact Nat.le_refl _⟩, ⟨by (with_reducible repeat (first | apply Kd.R_alloc | apply Kd.R_drewN | apply Kd.R_drew)); exact HO_7.out⟩, ⟨by repeat (first | (with_reducible first | exact HB.out | apply below_alloc | apply pw_below_drewN | apply below_drew1) | exact HB.out)⟩⟩
                            · rw [if_neg c20] at H
                              exact absurd H (by simp)
                          · rw [if_neg c19] at H
                            exact absurd H (by simp)
                    case rest =>
                      clear HC16
                      try clear c1
                      try clear p1
                      try clear q1
                      try clear hx1
                      try clear c2
                      try clear p2
                      try clear c4
                      try clear c5
                      try clear c6
                      try clear c8
                      try clear c8b0
                      try clear c8b1
                      try clear c9
                      try clear c10
                      try clear c11
                      try clear c11b0
                      try clear c11b1
                      try clear c12
                      try clear c12b0
                      try clear c12b1
                      try clear c12b2
                      try clear p13
                      try clear q13
                      try clear hx13
                      try clear c15
                      try clear c15b0
                      try clear c17
                      try clear c17b0
                      try clear c18
                      try clear c18b0
                      try clear c19
                      try clear c19b0
                      try clear c20
                      try clear c20b0
                      try clear hx135_0
                      try clear p135
                      try clear p2
                      try clear q135
                      obtain ⟨kq, x66_15, rfl, HA, HJ15, HO_7, HB⟩ := hcut
                      cases kq with
                      | zero => exact absurd HA.out (by simp [prompterlaw14_InstrWays.j2])
                      | succ kj15 =>
                        have H := HA.out
                        clear HA
                        simp only [prompterlaw14_InstrWays.j2] at H
                        by_cases c21 : x66_15 = true
                        · subst c21
                          have H1 : (some false) = some r := by rw [if_pos rfl] at H; exact H
                          clear H
                          have H := H1
                          clear H1
                          obtain rfl := Option.some.inj H
                          go_wp2
                          go_ret
                          exact ⟨by first | rfl | (simp [errW_none, errW_some] <;> rfl) | (simp [*, errW_none, errW_some] <;> rfl), by repeat (first | (with_reducible first | exact HB.out | apply below_alloc | apply pw_below_drewN | apply below_drew1) | exact HB.out)⟩
                        · replace c21 := Bool.eq_false_iff.mpr c21
                          subst c21
                          have H1 : (if 0 ≤ x9_2 then (if x9_2 < (l0.length : Int) then (if ((rd_T36 l0 x9_2).f0) = 1 then (prompterlaw14_InstrWays.j3 kj15 l0 l2 t131 x9_2 x10_2 x11_2 (wrap64 (x12_2 + 1)) x13_2 false ((rd_T36 l0 x9_2).f0) ((rd_T36 l0 x9_2).f1) ((rd_T36 l0 x9_2).f2) ((rd_T36 l0 x9_2).f3)) else (prompterlaw14_InstrWays.j3 kj15 l0 l2 t131 x9_2 x10_2 x11_2 (wrap64 (x12_2 + 1)) x13_2 (((rd_T36 l0 x9_2).f0) != 5) ((rd_T36 l0 x9_2).f0) ((rd_T36 l0 x9_2).f1) ((rd_T36 l0 x9_2).f2) ((rd_T36 l0 x9_2).f3))) else (none)) else (none)) = some r := by rw [if_neg (show ¬ (false = true) by decide)] at H; exact H
                          clear H
                          have H := H1
                          clear H1
                          by_cases c22 : 0 ≤ x9_2
                          · rw [if_pos c22] at H
                            have c22b0 : decide (0 ≤ x9_2) = true := decide_eq_true c22
                            clear c22
                            by_cases c23 : x9_2 < (l0.length : Int)
                            · rw [if_pos c23] at H
                              have c23b0 : decide (x9_2 < (l0.length : Int)) = true := decide_eq_true c23
                              clear c23
                              have HC24 := Aside0.mk H
                              clear H
                              have p136 : 0 ≤ (x9_2 : Int) := of_decide_eq_true (by first | (with_reducible assumption) | assumption)
                              have q136 : x9_2 < (l0.length : Int) := of_decide_eq_true (by first | (with_reducible assumption) | assumption)
                              obtain ⟨ad136, e136, hx136_0, hx136_1, hx136_2, hx136_3⟩ := at_T36 HR0.out x9_2 p136 q136
                              cases e136
                              replace hx136_0 := (HB.out.cell (World.block_lt_of_cell? w _ hx136_0)).trans hx136_0
                              replace hx136_1 := (HB.out.cell (World.block_lt_of_cell? w _ hx136_1)).trans hx136_1
                              replace hx136_2 := (HB.out.cell (World.block_lt_of_cell? w _ hx136_2)).trans hx136_2
                              replace hx136_3 := (HB.out.cell (World.block_lt_of_cell? w _ hx136_3)).trans hx136_3
                              replace p136 := eq_true p136
                              replace q136 := eq_true q136
                              go_upto_region 21 with (first | ((with_reducible refine gate_dst (N := 14) rfl ?_); (try (refine gate_guard (by rfl) ?_; dsimp only)); refine box_event ?hg (N := 14) ?hd (cs := #[.int .u8 0, .int .i64 0, .int .i64 0, .string (⟨#[]⟩ : ByteArray)]) (t := 36) ?hr ?_; (case hd => rfl); (case hg => rfl); (case hr => first | (go_simp; done) | (go_simp; rfl)); intro gb137 hg w25 hbox hb; have n0_ := Aside0.mk (Kd.R_below (by (with_reducible repeat (first | apply Kd.R_alloc | apply Kd.R_drewN | apply Kd.R_drew)); exact HO_7.out) hb); have n1_ := Aside0.mk (below_step (by repeat (first | (with_reducible first | exact HB.out | apply below_alloc | apply pw_below_drewN | apply below_drew1) | exact HB.out)) hb); have n2_ := Aside0.mk (hbox); have n3_ := Aside0.mk ((by rw [hg]; exact (below_size (by repeat (first | (with_reducible first | exact HB.out | apply below_alloc | apply pw_below_drewN | apply below_drew1) | exact HB.out))) : w.heap.size ≤ gb137)); have n4_ := Aside0.mk ((by rw [hg]; exact (below_size (by repeat (first | (with_reducible first | exact HB.out | apply below_alloc | apply pw_below_drewN | apply below_drew1) | exact HB.out))) : w.heap.size ≤ gb137)); clear HO_7; clear HB; have HO_7 := n0_; have HB := n1_; have BK137 := n2_; have GW137 := n3_; have GE137 := n4_; clear n0_ n1_ n2_ n3_ n4_; clear hb hbox hg; have hcz26_0 : w25.cell? ⟨gb137, 0, none⟩ = some (.int .u8 0) := (blk_cell BK137.out 0).trans rfl; have hcz26_1 : w25.cell? ⟨gb137, 1, none⟩ = some (.int .i64 0) := (blk_cell BK137.out 1).trans rfl; have hcz26_2 : w25.cell? ⟨gb137, 2, none⟩ = some (.int .i64 0) := (blk_cell BK137.out 2).trans rfl; have hcz26_3 : w25.cell? ⟨gb137, 3, none⟩ = some (.string (⟨#[]⟩ : ByteArray)) := (blk_cell BK137.out 3).trans rfl; have hfz26_0 := blk_frozen BK137.out 0; have hfz26_1 := blk_frozen BK137.out 1; have hfz26_2 := blk_frozen BK137.out 2; have hfz26_3 := blk_frozen BK137.out 3))
                              (try simp only [Act.put, List.setIfInBounds_toArray, List.set_cons_zero, List.set_cons_succ])
                              go_cut [80] (fun v80 wc => ∃ (kq : Nat) (x80_23 : Bool), v80 = .bool x80_23 ∧ Aside0 (prompterlaw14_InstrWays.j3 kq l0 l2 t131 x9_2 x10_2 x11_2 (wrap64 (x12_2 + 1)) x13_2 x80_23 ((rd_T36 l0 x9_2).f0) ((rd_T36 l0 x9_2).f1) ((rd_T36 l0 x9_2).f2) ((rd_T36 l0 x9_2).f3) = some r) ∧ Aside0 (kq ≤ kj15) ∧ Aside0 (Kd.R (Kd.int .i64) 3 wc w.heap.size (fun _ => True) (.slice Ao14 t131.length co14) t131) ∧ Aside0 (wc.heap[gb137]? = some (.cells #[.int .u8 ((rd_T36 l0 x9_2).f0), .int .i64 ((rd_T36 l0 x9_2).f1), .int .i64 ((rd_T36 l0 x9_2).f2), .string ((rd_T36 l0 x9_2).f3)] 36 (0, 0))) ∧ Aside0 (Below w.heap.size w wc))
                              case first =>
                                have H := HC24.out
                                clear HC24
                                by_cases c27 : ((rd_T36 l0 x9_2).f0) = 1
                                · rw [if_pos c27] at H
                                  have c27b0 : (((rd_T36 l0 x9_2).f0) == 1) = true := beq_iff_eq.mpr c27
                                  have c27b1 : (((rd_T36 l0 x9_2).f0) != 1) = false := bne_eq_false_iff_eq.mpr c27
                                  clear c27
                                  (first | rw [c27b0] | (simp only [i64_w, i32_w]; rw [c27b0]) | skip)
                                  have H' := Aside0.mk H
                                  clear H
                                  have hcz28_0 : w25.cell? ⟨gb137, 0, none⟩ = some (.int .u8 0) := (blk_cell BK137.out 0).trans rfl
                                  have hcz28_1 : w25.cell? ⟨gb137, 1, none⟩ = some (.int .i64 0) := (blk_cell BK137.out 1).trans rfl
                                  have hcz28_2 : w25.cell? ⟨gb137, 2, none⟩ = some (.int .i64 0) := (blk_cell BK137.out 2).trans rfl
                                  have hcz28_3 : w25.cell? ⟨gb137, 3, none⟩ = some (.string (⟨#[]⟩ : ByteArray)) := (blk_cell BK137.out 3).trans rfl
                                  have hfz28_0 := blk_frozen BK137.out 0
                                  have hfz28_1 := blk_frozen BK137.out 1
                                  have hfz28_2 := blk_frozen BK137.out 2
                                  have hfz28_3 := blk_frozen BK137.out 3
                                  go_wp2
                                  go_meet
                                  case rel => exact ⟨_, (false), (by first | rfl | (simp; done) | (simp [*]; done)), H', ⟨by have := HJ5.out; have := HK2.out; have := HJ15.out; first | omega | exact Nat.le_refl _⟩, ⟨by (with_reducible repeat (first | apply Kd.R_alloc | apply Kd.R_drewN | apply Kd.R_drew)); exact Kd.R_mono (Kd.R_far (p := ⟨gb137, 3, none⟩) (Kd.R_far (p := ⟨gb137, 2, none⟩) (Kd.R_far (p := ⟨gb137, 1, none⟩) (Kd.R_far (p := ⟨gb137, 0, none⟩) (Kd.R_types HO_7.out BK137.out (by decide)) (fun _ hk => hk.2) (.int .u8 ((rd_T36 l0 x9_2).f0))) (fun _ hk => hk.2) (.int .i64 ((rd_T36 l0 x9_2).f1))) (fun _ hk => hk.2) (.int .i64 ((rd_T36 l0 x9_2).f2))) (fun _ hk => hk.2) (.string ((rd_T36 l0 x9_2).f3))) (fun _ hk => trivial)⟩, ⟨by (with_reducible repeat (first | refine blk_drewN ?_ _ | refine blk_drew ?_ | refine blk_alloc ?_ _)); refine blk_put (cs := #[.int .u8 ((rd_T36 l0 x9_2).f0), .int .i64 ((rd_T36 l0 x9_2).f1), .int .i64 ((rd_T36 l0 x9_2).f2), .string (⟨#[]⟩ : ByteArray)]) ?_ 3 _ rfl; (with_reducible repeat (first | refine blk_drewN ?_ _ | refine blk_drew ?_ | refine blk_alloc ?_ _)); refine blk_put (cs := #[.int .u8 ((rd_T36 l0 x9_2).f0), .int .i64 ((rd_T36 l0 x9_2).f1), .int .i64 0, .string (⟨#[]⟩ : ByteArray)]) ?_ 2 _ rfl; (with_reducible repeat (first | refine blk_drewN ?_ _ | refine blk_drew ?_ | refine blk_alloc ?_ _)); refine blk_put (cs := #[.int .u8 ((rd_T36 l0 x9_2).f0), .int .i64 0, .int .i64 0, .string (⟨#[]⟩ : ByteArray)]) ?_ 1 _ rfl; (with_reducible repeat (first | refine blk_drewN ?_ _ | refine blk_drew ?_ | refine blk_alloc ?_ _)); refine blk_put (cs := #[.int .u8 0, .int .i64 0, .int .i64 0, .string (⟨#[]⟩ : ByteArray)]) ?_ 0 _ rfl; (with_reducible repeat (first | refine blk_drewN ?_ _ | refine blk_drew ?_ | refine blk_alloc ?_ _)); exact BK137.out⟩, ⟨by repeat (first | (with_reducible first | exact HB.out | apply below_alloc | apply pw_below_drewN | apply below_drew1 | refine below_set ?_ GE137.out) | exact HB.out)⟩⟩
                                · rw [if_neg c27] at H
                                  have c27b0 : (((rd_T36 l0 x9_2).f0) == 1) = false := beq_eq_false_iff_ne.mpr c27
                                  have c27b1 : (((rd_T36 l0 x9_2).f0) != 1) = true := bne_iff_ne.mpr c27
                                  (first | rw [c27b0] | (simp only [i64_w, i32_w]; rw [c27b0]) | skip)
                                  have H' := Aside0.mk H
                                  clear H
                                  have hcz29_0 : w25.cell? ⟨gb137, 0, none⟩ = some (.int .u8 0) := (blk_cell BK137.out 0).trans rfl
                                  have hcz29_1 : w25.cell? ⟨gb137, 1, none⟩ = some (.int .i64 0) := (blk_cell BK137.out 1).trans rfl
                                  have hcz29_2 : w25.cell? ⟨gb137, 2, none⟩ = some (.int .i64 0) := (blk_cell BK137.out 2).trans rfl
                                  have hcz29_3 : w25.cell? ⟨gb137, 3, none⟩ = some (.string (⟨#[]⟩ : ByteArray)) := (blk_cell BK137.out 3).trans rfl
                                  have hfz29_0 := blk_frozen BK137.out 0
                                  have hfz29_1 := blk_frozen BK137.out 1
                                  have hfz29_2 := blk_frozen BK137.out 2
                                  have hfz29_3 := blk_frozen BK137.out 3
                                  go_wp2
                                  go_meet
                                  case rel => exact ⟨_, ((((rd_T36 l0 x9_2).f0) != 5)), (by first | rfl | (simp; done) | (simp [*]; done)), H', ⟨by have := HJ5.out; have := HK2.out; have := HJ15.out; first | omega | exact Nat.le_refl _⟩, ⟨by (with_reducible repeat (first | apply Kd.R_alloc | apply Kd.R_drewN | apply Kd.R_drew)); exact Kd.R_mono (Kd.R_far (p := ⟨gb137, 3, none⟩) (Kd.R_far (p := ⟨gb137, 2, none⟩) (Kd.R_far (p := ⟨gb137, 1, none⟩) (Kd.R_far (p := ⟨gb137, 0, none⟩) (Kd.R_types HO_7.out BK137.out (by decide)) (fun _ hk => hk.2) (.int .u8 ((rd_T36 l0 x9_2).f0))) (fun _ hk => hk.2) (.int .i64 ((rd_T36 l0 x9_2).f1))) (fun _ hk => hk.2) (.int .i64 ((rd_T36 l0 x9_2).f2))) (fun _ hk => hk.2) (.string ((rd_T36 l0 x9_2).f3))) (fun _ hk => trivial)⟩, ⟨by (with_reducible repeat (first | refine blk_drewN ?_ _ | refine blk_drew ?_ | refine blk_alloc ?_ _)); refine blk_put (cs := #[.int .u8 ((rd_T36 l0 x9_2).f0), .int .i64 ((rd_T36 l0 x9_2).f1), .int .i64 ((rd_T36 l0 x9_2).f2), .string (⟨#[]⟩ : ByteArray)]) ?_ 3 _ rfl; (with_reducible repeat (first | refine blk_drewN ?_ _ | refine blk_drew ?_ | refine blk_alloc ?_ _)); refine blk_put (cs := #[.int .u8 ((rd_T36 l0 x9_2).f0), .int .i64 ((rd_T36 l0 x9_2).f1), .int .i64 0, .string (⟨#[]⟩ : ByteArray)]) ?_ 2 _ rfl; (with_reducible repeat (first | refine blk_drewN ?_ _ | refine blk_drew ?_ | refine blk_alloc ?_ _)); refine blk_put (cs := #[.int .u8 ((rd_T36 l0 x9_2).f0), .int .i64 0, .int .i64 0, .string (⟨#[]⟩ : ByteArray)]) ?_ 1 _ rfl; (with_reducible repeat (first | refine blk_drewN ?_ _ | refine blk_drew ?_ | refine blk_alloc ?_ _)); refine blk_put (cs := #[.int .u8 0, .int .i64 0, .int .i64 0, .string (⟨#[]⟩ : ByteArray)]) ?_ 0 _ rfl; (with_reducible repeat (first | refine blk_drewN ?_ _ | refine blk_drew ?_ | refine blk_alloc ?_ _)); exact BK137.out⟩, ⟨by repeat (first | (with_reducible first | exact HB.out | apply below_alloc | apply pw_below_drewN | apply below_drew1 | refine below_set ?_ GE137.out) | exact HB.out)⟩⟩
                              case rest =>
                                clear HC24
                                try clear c1
                                try clear p1
                                try clear q1
                                try clear hx1
                                try clear c2
                                try clear p2
                                try clear c4
                                try clear c5
                                try clear c6
                                try clear p6
                                try clear c8
                                try clear c8b0
                                try clear c8b1
                                try clear c9
                                try clear c10
                                try clear c11
                                try clear c11b0
                                try clear c11b1
                                try clear c12
                                try clear c12b0
                                try clear c12b1
                                try clear c12b2
                                try clear p13
                                try clear q13
                                try clear hx13
                                try clear c15
                                try clear c15b0
                                try clear c17
                                try clear c17b0
                                try clear c18
                                try clear c18b0
                                try clear c19
                                try clear c19b0
                                try clear c20
                                try clear c20b0
                                try clear c21
                                try clear c22
                                try clear c22b0
                                try clear c23
                                try clear c23b0
                                try clear c27
                                try clear c27b0
                                try clear c27b1
                                try clear hcz26_0
                                try clear hcz26_1
                                try clear hcz26_2
                                try clear hcz26_3
                                try clear hcz28_0
                                try clear hcz28_1
                                try clear hcz28_2
                                try clear hcz28_3
                                try clear hcz29_0
                                try clear hcz29_1
                                try clear hcz29_2
                                try clear hcz29_3
                                try clear hfz26_0
                                try clear hfz26_1
                                try clear hfz26_2
                                try clear hfz26_3
                                try clear hfz28_0
                                try clear hfz28_1
                                try clear hfz28_2
                                try clear hfz28_3
                                try clear hfz29_0
                                try clear hfz29_1
                                try clear hfz29_2
                                try clear hfz29_3
                                try clear hx135_0
                                try clear hx136_0
                                try clear hx136_1
                                try clear hx136_2
                                try clear hx136_3
                                try clear p1
                                try clear p13
                                try clear p135
                                try clear p136
                                try clear p2
                                try clear q1
                                try clear q13
                                try clear q135
                                try clear q136
                                obtain ⟨kq, x80_23, rfl, HA, HJ23, HO_7, BK137, HB⟩ := hcut
                                cases kq with
                                | zero => exact absurd HA.out (by simp [prompterlaw14_InstrWays.j3])
                                | succ kj23 =>
                                  have H := HA.out
                                  clear HA
                                  simp only [prompterlaw14_InstrWays.j3] at H
                                  have HC30 := Aside0.mk H
                                  clear H
                                  go_upto_if 80 with (fail)
                                  go_cut [12] (fun v12 wc => ∃ (kq : Nat) (x12_29 : Int), v12 = .int .i64 x12_29 ∧ Aside0 (prompterlaw14_InstrWays.j4 kq l0 l2 t131 x9_2 x10_2 x11_2 x12_29 x13_2 ((rd_T36 l0 x9_2).f0) ((rd_T36 l0 x9_2).f1) ((rd_T36 l0 x9_2).f2) ((rd_T36 l0 x9_2).f3) = some r) ∧ Aside0 (kq ≤ kj23) ∧ Aside0 (Kd.R (Kd.int .i64) 3 wc w.heap.size (fun _ => True) (.slice Ao14 t131.length co14) t131) ∧ Aside0 (wc.heap[gb137]? = some (.cells #[.int .u8 ((rd_T36 l0 x9_2).f0), .int .i64 ((rd_T36 l0 x9_2).f1), .int .i64 ((rd_T36 l0 x9_2).f2), .string ((rd_T36 l0 x9_2).f3)] 36 (0, 0))) ∧ Aside0 (Below w.heap.size w wc))
                                  case first =>
                                    have H := HC30.out
                                    clear HC30
                                    by_cases c31 : x80_23 = true
                                    · subst c31
                                      have H1 : (prompterlaw14_InstrWays.j4 kj23 l0 l2 t131 x9_2 x10_2 x11_2 0 x13_2 ((rd_T36 l0 x9_2).f0) ((rd_T36 l0 x9_2).f1) ((rd_T36 l0 x9_2).f2) ((rd_T36 l0 x9_2).f3)) = some r := by rw [if_pos rfl] at H; exact H
                                      clear H
                                      have H := H1
                                      clear H1
                                      have H' := Aside0.mk H
                                      clear H
                                      go_wp2
                                      go_meet
                                      case rel => exact ⟨_, (0), (by first | rfl | (simp; done) | (simp [*]; done)), H', ⟨by have := HJ5.out; have := HK2.out; have := HJ15.out; have := HJ23.out; first | omega | exact Nat.le_refl _⟩, ⟨by (with_reducible repeat (first | apply Kd.R_alloc | apply Kd.R_drewN | apply Kd.R_drew)); exact HO_7.out⟩, ⟨by (with_reducible repeat (first | refine blk_drewN ?_ _ | refine blk_drew ?_ | refine blk_alloc ?_ _)); exact BK137.out⟩, ⟨by repeat (first | (with_reducible first | exact HB.out | apply below_alloc | apply pw_below_drewN | apply below_drew1 | refine below_set ?_ GE137.out) | exact HB.out)⟩⟩
                                    · replace c31 := Bool.eq_false_iff.mpr c31
                                      subst c31
                                      have H1 : (prompterlaw14_InstrWays.j4 kj23 l0 l2 t131 x9_2 x10_2 x11_2 (wrap64 (x12_2 + 1)) x13_2 ((rd_T36 l0 x9_2).f0) ((rd_T36 l0 x9_2).f1) ((rd_T36 l0 x9_2).f2) ((rd_T36 l0 x9_2).f3)) = some r := by rw [if_neg (show ¬ (false = true) by decide)] at H; exact H
                                      clear H
                                      have H := H1
                                      clear H1
                                      have H' := Aside0.mk H
                                      clear H
                                      go_wp2
                                      go_meet
                                      case rel => exact ⟨_, ((wrap64 (x12_2 + 1))), (by first | rfl | (simp; done) | (simp [*]; done)), H', ⟨by have := HJ5.out; have := HK2.out; have := HJ15.out; have := HJ23.out; first | omega | exact Nat.le_refl _⟩, ⟨by (with_reducible repeat (first | apply Kd.R_alloc | apply Kd.R_drewN | apply Kd.R_drew)); exact HO_7.out⟩, ⟨by (with_reducible repeat (first | refine blk_drewN ?_ _ | refine blk_drew ?_ | refine blk_alloc ?_ _)); exact BK137.out⟩, ⟨by repeat (first | (with_reducible first | exact HB.out | apply below_alloc | apply pw_below_drewN | apply below_drew1 | refine below_set ?_ GE137.out) | exact HB.out)⟩⟩
                                  case rest =>
                                    clear HC30
                                    try clear c1
                                    try clear p1
                                    try clear q1
                                    try clear hx1
                                    try clear c2
                                    try clear p2
                                    try clear c3
                                    try clear c4
                                    try clear c5
                                    try clear c6
                                    try clear p6
                                    try clear c8
                                    try clear c8b0
                                    try clear c8b1
                                    try clear c9
                                    try clear c10
                                    try clear c11
                                    try clear c11b0
                                    try clear c11b1
                                    try clear c12
                                    try clear c12b0
                                    try clear c12b1
                                    try clear c12b2
                                    try clear p13
                                    try clear q13
                                    try clear hx13
                                    try clear c15
                                    try clear c15b0
                                    try clear c17
                                    try clear c17b0
                                    try clear c18
                                    try clear c18b0
                                    try clear c19
                                    try clear c19b0
                                    try clear c20
                                    try clear c20b0
                                    try clear c21
                                    try clear c22
                                    try clear c22b0
                                    try clear c23
                                    try clear c23b0
                                    try clear c27
                                    try clear c27b0
                                    try clear c27b1
                                    try clear c31
                                    try clear hcz26_0
                                    try clear hcz26_1
                                    try clear hcz26_2
                                    try clear hcz26_3
                                    try clear hcz28_0
                                    try clear hcz28_1
                                    try clear hcz28_2
                                    try clear hcz28_3
                                    try clear hcz29_0
                                    try clear hcz29_1
                                    try clear hcz29_2
                                    try clear hcz29_3
                                    try clear hfz26_0
                                    try clear hfz26_1
                                    try clear hfz26_2
                                    try clear hfz26_3
                                    try clear hfz28_0
                                    try clear hfz28_1
                                    try clear hfz28_2
                                    try clear hfz28_3
                                    try clear hfz29_0
                                    try clear hfz29_1
                                    try clear hfz29_2
                                    try clear hfz29_3
                                    try clear hx135_0
                                    try clear hx136_0
                                    try clear hx136_1
                                    try clear hx136_2
                                    try clear hx136_3
                                    try clear p1
                                    try clear p13
                                    try clear p135
                                    try clear p136
                                    try clear p2
                                    try clear p6
                                    try clear q1
                                    try clear q13
                                    try clear q135
                                    try clear q136
                                    obtain ⟨kq, x12_29, rfl, HA, HJ29, HO_7, BK137, HB⟩ := hcut
                                    cases kq with
                                    | zero => exact absurd HA.out (by simp [prompterlaw14_InstrWays.j4])
                                    | succ kj29 =>
                                      have H := HA.out
                                      clear HA
                                      simp only [prompterlaw14_InstrWays.j4] at H
                                      by_cases c32 : x12_29 > (l0.length : Int)
                                      · rw [if_pos c32] at H
                                        have c32b0 : decide ((l0.length : Int) < x12_29) = true := decide_eq_true c32
                                        clear c32
                                        obtain rfl := Option.some.inj H
                                        go_wp2
                                        go_ret
                                        exact ⟨by first | rfl | (simp [errW_none, errW_some] <;> rfl) | (simp [*, errW_none, errW_some] <;> rfl), by repeat (first | (with_reducible first | exact HB.out | apply below_alloc | apply pw_below_drewN | apply below_drew1 | refine below_set ?_ GE137.out) | exact HB.out)⟩
                                      · rw [if_neg c32] at H
                                        have c32b0 : decide ((l0.length : Int) < x12_29) = false := decide_eq_false c32
                                        clear c32
                                        replace H := Option.bind_eq_some_iff.mp H
                                        obtain ⟨t138, A330, H⟩ := H
                                        replace H : (if x10_2 < t138 then (some false) else ((prompterref14_Ends.f ((rd_T36 l0 x9_2).f0)).bind fun t139 => (if t139 = true then (if x10_2 = t138 then (if 0 ≤ x13_2 then (if x13_2 < (l2.length : Int) then (if rdOf false l2 x13_2 = true then (prompterlaw14_InstrWays.l0 kj29 l0 l2 t131 x11_2 0 x11_2 x12_29 (wrap64 (x13_2 + 1))) else (prompterlaw14_InstrWays.l0 kj29 l0 l2 t131 0 0 x11_2 x12_29 (wrap64 (x13_2 + 1)))) else (none)) else (none)) else (some false)) else ((prompterref14_Behind.f kj29 ((rd_T36 l0 x9_2).f0) ((rd_T36 l0 x9_2).f1) ((rd_T36 l0 x9_2).f2) ((rd_T36 l0 x9_2).f3) x10_2).bind fun bt141 => (if ((rd_T36 l0 x9_2).f0) = 53 then (if ((rd_T36 l0 x9_2).f0) = 1 then (prompterlaw14_InstrWays.l0 kj29 l0 l2 t131 ((rd_T36 l0 x9_2).f1) bt141.1 ((rd_T36 l0 x9_2).f1) x12_29 (wrap64 (x13_2 + 1))) else (if 0 ≤ x13_2 then (if x13_2 < (l2.length : Int) then (if rdOf false l2 x13_2 = true then (prompterlaw14_InstrWays.l0 kj29 l0 l2 t131 (wrap64 (x9_2 + 1)) bt141.2 ((rd_T36 l0 x9_2).f1) x12_29 (wrap64 (x13_2 + 1))) else (prompterlaw14_InstrWays.l0 kj29 l0 l2 t131 (wrap64 (x9_2 + 1)) bt141.2 ((rd_T36 l0 x9_2).f1) x12_29 (wrap64 (x13_2 + 1)))) else (none)) else (none))) else (if ((rd_T36 l0 x9_2).f0) = 1 then (prompterlaw14_InstrWays.l0 kj29 l0 l2 t131 ((rd_T36 l0 x9_2).f1) bt141.1 x11_2 x12_29 (wrap64 (x13_2 + 1))) else (if 0 ≤ x13_2 then (if x13_2 < (l2.length : Int) then (if rdOf false l2 x13_2 = true then ((prompterref14_Of.f kj29 ((rd_T36 l0 x9_2).f0)).bind fun bt145 => (if bt145.2.1 = 1 then (prompterlaw14_InstrWays.l0 kj29 l0 l2 t131 ((rd_T36 l0 x9_2).f1) bt141.1 x11_2 x12_29 (wrap64 (x13_2 + 1))) else (prompterlaw14_InstrWays.l0 kj29 l0 l2 t131 (wrap64 (x9_2 + 1)) bt141.2 x11_2 x12_29 (wrap64 (x13_2 + 1))))) else (prompterlaw14_InstrWays.l0 kj29 l0 l2 t131 (wrap64 (x9_2 + 1)) bt141.2 x11_2 x12_29 (wrap64 (x13_2 + 1)))) else (none)) else (none)))))))) = some r := H
                                        have A33 := Aside0.mk A330
                                        clear A330
                                        by_cases c34 : x10_2 < t138
                                        · rw [if_pos c34] at H
                                          have c34b0 : decide (x10_2 < t138) = true := decide_eq_true c34
                                          clear c34
                                          obtain rfl := Option.some.inj H
                                          have hcz35_0 : wc.cell? ⟨gb137, 0, none⟩ = some (.int .u8 ((rd_T36 l0 x9_2).f0)) := (blk_cell BK137.out 0).trans rfl
                                          have hcz35_1 : wc.cell? ⟨gb137, 1, none⟩ = some (.int .i64 ((rd_T36 l0 x9_2).f1)) := (blk_cell BK137.out 1).trans rfl
                                          have hcz35_2 : wc.cell? ⟨gb137, 2, none⟩ = some (.int .i64 ((rd_T36 l0 x9_2).f2)) := (blk_cell BK137.out 2).trans rfl
                                          have hcz35_3 : wc.cell? ⟨gb137, 3, none⟩ = some (.string ((rd_T36 l0 x9_2).f3)) := (blk_cell BK137.out 3).trans rfl
                                          have hfz35_0 := blk_frozen BK137.out 0
                                          have hfz35_1 := blk_frozen BK137.out 1
                                          have hfz35_2 := blk_frozen BK137.out 2
                                          have hfz35_3 := blk_frozen BK137.out 3
                                          go_wp2_with (first | ((with_reducible refine gate_callee (f := 11) rfl ?_); refine goesL_ (some 86) rfl rfl Try.func11 (by kernel_rfl) rfl #[.agg #[.int .u8 ((rd_T36 l0 x9_2).f0), .int .i64 ((rd_T36 l0 x9_2).f1), .int .i64 ((rd_T36 l0 x9_2).f2), .string ((rd_T36 l0 x9_2).f3)]] rfl (by (try simp only [List.map_toArray, List.map_cons, List.map_nil]); first | done | rfl | (simp only [List.length_drop, List.length_take]; rfl)) ?_; (with_reducible refine (prompterref14_Takes.calls kj29 ((rd_T36 l0 x9_2).f0) ((rd_T36 l0 x9_2).f1) ((rd_T36 l0 x9_2).f2) ((rd_T36 l0 x9_2).f3) t138 _ A33.out).mono ?_); rintro e w36 ⟨rfl, hb⟩; refine ⟨_, rfl, ?_⟩; have n0_ := Aside0.mk (Kd.R_below (by (with_reducible repeat (first | apply Kd.R_alloc | apply Kd.R_drewN | apply Kd.R_drew)); exact HO_7.out) hb); have n1_ := Aside0.mk (blk_below (g := gb137) (o := .cells #[.int .u8 ((rd_T36 l0 x9_2).f0), .int .i64 ((rd_T36 l0 x9_2).f1), .int .i64 ((rd_T36 l0 x9_2).f2), .string ((rd_T36 l0 x9_2).f3)] 36 (0, 0)) (by (with_reducible repeat (first | refine blk_drewN ?_ _ | refine blk_drew ?_ | refine blk_alloc ?_ _)); exact BK137.out) hb); have n2_ := Aside0.mk (below_step (by repeat (first | (with_reducible first | exact HB.out | apply below_alloc | apply pw_below_drewN | apply below_drew1 | refine below_set ?_ GE137.out) | exact HB.out)) hb); clear HO_7; clear BK137; clear HB; have HO_7 := n0_; have BK137 := n1_; have HB := n2_; clear n0_ n1_ n2_; (try clear hb); (try clear hb2); (try clear hk); (try clear hi)))
                                          go_ret
                                          exact ⟨by first | rfl | (simp [errW_none, errW_some] <;> rfl) | (simp [*, errW_none, errW_some] <;> rfl), by repeat (first | (with_reducible first | exact HB.out | apply below_alloc | apply pw_below_drewN | apply below_drew1 | refine below_set ?_ GE137.out) | exact HB.out)⟩
                                        · rw [if_neg c34] at H
                                          have c34b0 : decide (x10_2 < t138) = false := decide_eq_false c34
                                          clear c34
                                          replace H := Option.bind_eq_some_iff.mp H
                                          obtain ⟨t139, A370, H⟩ := H
                                          replace H : (if t139 = true then (if x10_2 = t138 then (if 0 ≤ x13_2 then (if x13_2 < (l2.length : Int) then (if rdOf false l2 x13_2 = true then (prompterlaw14_InstrWays.l0 kj29 l0 l2 t131 x11_2 0 x11_2 x12_29 (wrap64 (x13_2 + 1))) else (prompterlaw14_InstrWays.l0 kj29 l0 l2 t131 0 0 x11_2 x12_29 (wrap64 (x13_2 + 1)))) else (none)) else (none)) else (some false)) else ((prompterref14_Behind.f kj29 ((rd_T36 l0 x9_2).f0) ((rd_T36 l0 x9_2).f1) ((rd_T36 l0 x9_2).f2) ((rd_T36 l0 x9_2).f3) x10_2).bind fun bt141 => (if ((rd_T36 l0 x9_2).f0) = 53 then (if ((rd_T36 l0 x9_2).f0) = 1 then (prompterlaw14_InstrWays.l0 kj29 l0 l2 t131 ((rd_T36 l0 x9_2).f1) bt141.1 ((rd_T36 l0 x9_2).f1) x12_29 (wrap64 (x13_2 + 1))) else (if 0 ≤ x13_2 then (if x13_2 < (l2.length : Int) then (if rdOf false l2 x13_2 = true then (prompterlaw14_InstrWays.l0 kj29 l0 l2 t131 (wrap64 (x9_2 + 1)) bt141.2 ((rd_T36 l0 x9_2).f1) x12_29 (wrap64 (x13_2 + 1))) else (prompterlaw14_InstrWays.l0 kj29 l0 l2 t131 (wrap64 (x9_2 + 1)) bt141.2 ((rd_T36 l0 x9_2).f1) x12_29 (wrap64 (x13_2 + 1)))) else (none)) else (none))) else (if ((rd_T36 l0 x9_2).f0) = 1 then (prompterlaw14_InstrWays.l0 kj29 l0 l2 t131 ((rd_T36 l0 x9_2).f1) bt141.1 x11_2 x12_29 (wrap64 (x13_2 + 1))) else (if 0 ≤ x13_2 then (if x13_2 < (l2.length : Int) then (if rdOf false l2 x13_2 = true then ((prompterref14_Of.f kj29 ((rd_T36 l0 x9_2).f0)).bind fun bt145 => (if bt145.2.1 = 1 then (prompterlaw14_InstrWays.l0 kj29 l0 l2 t131 ((rd_T36 l0 x9_2).f1) bt141.1 x11_2 x12_29 (wrap64 (x13_2 + 1))) else (prompterlaw14_InstrWays.l0 kj29 l0 l2 t131 (wrap64 (x9_2 + 1)) bt141.2 x11_2 x12_29 (wrap64 (x13_2 + 1))))) else (prompterlaw14_InstrWays.l0 kj29 l0 l2 t131 (wrap64 (x9_2 + 1)) bt141.2 x11_2 x12_29 (wrap64 (x13_2 + 1)))) else (none)) else (none)))))) = some r := H
                                          have A37 := Aside0.mk A370
                                          clear A370
                                          by_cases c38 : t139 = true
                                          · subst c38
                                            have H1 : (if x10_2 = t138 then (if 0 ≤ x13_2 then (if x13_2 < (l2.length : Int) then (if rdOf false l2 x13_2 = true then (prompterlaw14_InstrWays.l0 kj29 l0 l2 t131 x11_2 0 x11_2 x12_29 (wrap64 (x13_2 + 1))) else (prompterlaw14_InstrWays.l0 kj29 l0 l2 t131 0 0 x11_2 x12_29 (wrap64 (x13_2 + 1)))) else (none)) else (none)) else (some false)) = some r := by rw [if_pos rfl] at H; exact H
                                            clear H
                                            have H := H1
                                            clear H1
                                            by_cases c39 : x10_2 = t138
                                            · rw [if_pos c39] at H
                                              have c39b0 : (x10_2 == t138) = true := beq_iff_eq.mpr c39
                                              have c39b1 : (x10_2 != t138) = false := bne_eq_false_iff_eq.mpr c39
                                              clear c39
                                              by_cases c40 : 0 ≤ x13_2
                                              · rw [if_pos c40] at H
                                                have c40b0 : decide (0 ≤ x13_2) = true := decide_eq_true c40
                                                clear c40
                                                by_cases c41 : x13_2 < (l2.length : Int)
                                                · rw [if_pos c41] at H
                                                  have c41b0 : decide (x13_2 < (l2.length : Int)) = true := decide_eq_true c41
                                                  clear c41
                                                  obtain ⟨bq42, hbq42⟩ : ∃ b_ : Bool, b_ = (rdOf false l2 x13_2) := ⟨_, rfl⟩
                                                  replace H : (if bq42 = true then (prompterlaw14_InstrWays.l0 kj29 l0 l2 t131 x11_2 0 x11_2 x12_29 (wrap64 (x13_2 + 1))) else (prompterlaw14_InstrWays.l0 kj29 l0 l2 t131 0 0 x11_2 x12_29 (wrap64 (x13_2 + 1)))) = some r := by rw [← hbq42] at H; exact H
                                                  have Nbq42 := Aside0.mk hbq42
                                                  clear hbq42
                                                  by_cases c43 : bq42 = true
                                                  · subst c43
                                                    have H1 : (prompterlaw14_InstrWays.l0 kj29 l0 l2 t131 x11_2 0 x11_2 x12_29 (wrap64 (x13_2 + 1))) = some r := by rw [if_pos rfl] at H; exact H
                                                    clear H
                                                    have H := H1
                                                    clear H1
                                                    have H' := Aside0.mk H
                                                    clear H
                                                    have hcz44_0 : wc.cell? ⟨gb137, 0, none⟩ = some (.int .u8 ((rd_T36 l0 x9_2).f0)) := (blk_cell BK137.out 0).trans rfl
                                                    have hcz44_1 : wc.cell? ⟨gb137, 1, none⟩ = some (.int .i64 ((rd_T36 l0 x9_2).f1)) := (blk_cell BK137.out 1).trans rfl
                                                    have hcz44_2 : wc.cell? ⟨gb137, 2, none⟩ = some (.int .i64 ((rd_T36 l0 x9_2).f2)) := (blk_cell BK137.out 2).trans rfl
                                                    have hcz44_3 : wc.cell? ⟨gb137, 3, none⟩ = some (.string ((rd_T36 l0 x9_2).f3)) := (blk_cell BK137.out 3).trans rfl
                                                    have hfz44_0 := blk_frozen BK137.out 0
                                                    have hfz44_1 := blk_frozen BK137.out 1
                                                    have hfz44_2 := blk_frozen BK137.out 2
                                                    have hfz44_3 := blk_frozen BK137.out 3
                                                    go_wp2_with (first | ((with_reducible refine gate_callee (f := 11) rfl ?_); refine goesL_ (some 86) rfl rfl Try.func11 (by kernel_rfl) rfl #[.agg #[.int .u8 ((rd_T36 l0 x9_2).f0), .int .i64 ((rd_T36 l0 x9_2).f1), .int .i64 ((rd_T36 l0 x9_2).f2), .string ((rd_T36 l0 x9_2).f3)]] rfl (by (try simp only [List.map_toArray, List.map_cons, List.map_nil]); first | done | rfl | (simp only [List.length_drop, List.length_take]; rfl)) ?_; (with_reducible refine (prompterref14_Takes.calls kj29 ((rd_T36 l0 x9_2).f0) ((rd_T36 l0 x9_2).f1) ((rd_T36 l0 x9_2).f2) ((rd_T36 l0 x9_2).f3) t138 _ A33.out).mono ?_); rintro e w45 ⟨rfl, hb⟩; refine ⟨_, rfl, ?_⟩; have n0_ := Aside0.mk (Kd.R_below (by (with_reducible repeat (first | apply Kd.R_alloc | apply Kd.R_drewN | apply Kd.R_drew)); exact HO_7.out) hb); have n1_ := Aside0.mk (blk_below (g := gb137) (o := .cells #[.int .u8 ((rd_T36 l0 x9_2).f0), .int .i64 ((rd_T36 l0 x9_2).f1), .int .i64 ((rd_T36 l0 x9_2).f2), .string ((rd_T36 l0 x9_2).f3)] 36 (0, 0)) (by (with_reducible repeat (first | refine blk_drewN ?_ _ | refine blk_drew ?_ | refine blk_alloc ?_ _)); exact BK137.out) hb); have n2_ := Aside0.mk (below_step (by repeat (first | (with_reducible first | exact HB.out | apply below_alloc | apply pw_below_drewN | apply below_drew1 | refine below_set ?_ GE137.out) | exact HB.out)) hb); clear HO_7; clear BK137; clear HB; have HO_7 := n0_; have BK137 := n1_; have HB := n2_; clear n0_ n1_ n2_; (try clear hb); (try clear hb2); (try clear hk); (try clear hi); have hcz46_0 : w45.cell? ⟨gb137, 0, none⟩ = some (.int .u8 ((rd_T36 l0 x9_2).f0)) := (blk_cell BK137.out 0).trans rfl; have hcz46_1 : w45.cell? ⟨gb137, 1, none⟩ = some (.int .i64 ((rd_T36 l0 x9_2).f1)) := (blk_cell BK137.out 1).trans rfl; have hcz46_2 : w45.cell? ⟨gb137, 2, none⟩ = some (.int .i64 ((rd_T36 l0 x9_2).f2)) := (blk_cell BK137.out 2).trans rfl; have hcz46_3 : w45.cell? ⟨gb137, 3, none⟩ = some (.string ((rd_T36 l0 x9_2).f3)) := (blk_cell BK137.out 3).trans rfl; have hfz46_0 := blk_frozen BK137.out 0; have hfz46_1 := blk_frozen BK137.out 1; have hfz46_2 := blk_frozen BK137.out 2; have hfz46_3 := blk_frozen BK137.out 3) | ((with_reducible refine gate_callee (f := 12) rfl ?_); refine goesL_ (some 92) rfl rfl Try.func12 (by kernel_rfl) rfl #[.int .u8 ((rd_T36 l0 x9_2).f0)] rfl (by (try simp only [List.map_toArray, List.map_cons, List.map_nil]); first | done | rfl | (simp only [List.length_drop, List.length_take]; rfl)) ?_; (with_reducible refine (prompterref14_Ends.calls ((rd_T36 l0 x9_2).f0) true _ A37.out).mono ?_); rintro e w' ⟨rfl, ⟨nd, rfl⟩⟩; refine ⟨_, rfl, ?_⟩; have p140 : 0 ≤ (x13_2 : Int) := of_decide_eq_true (by first | (with_reducible assumption) | assumption); have q140 : x13_2 < (l2.length : Int) := of_decide_eq_true (by first | (with_reducible assumption) | assumption); obtain ⟨ad140, e140, hx140_0⟩ := Kd.at_bool HR2.out x13_2 p140 q140; (try rw [← Nbq42.out] at hx140_0); cases e140; replace hx140_0 := (HB.out.cell (World.block_lt_of_cell? w _ hx140_0)).trans hx140_0; replace p140 := eq_true p140; replace q140 := eq_true q140))
                                                    go_roundg kj29
                                                    case measure => have := HJ5.out; have := HK2.out; have := HJ15.out; have := HJ23.out; have := HJ29.out; omega
                                                    case rel => exact ⟨(x11_2), (0), (x11_2), (x12_29), (wrap64 (x13_2 + 1)), (by first | rfl | (simp; done) | (simp [*]; done)), (by first | rfl | (simp; done) | (simp [*]; done)), (by first | rfl | (simp; done) | (simp [*]; done)), (by first | rfl | (simp; done) | (simp [*]; done)), (by first | rfl | (simp; done) | (simp [*]; done)), H', ⟨by have := HJ5.out; have := HK2.out; have := HJ15.out; have := HJ23.out; have := HJ29.out; omega⟩, ⟨by (with_reducible repeat (first | apply Kd.R_alloc | apply Kd.R_drewN | apply Kd.R_drew)); exact HO_7.out⟩, ⟨by repeat (first | (with_reducible first | exact HB.out | apply below_alloc | apply pw_below_drewN | apply below_drew1 | refine below_set ?_ GE137.out) | exact HB.out)⟩⟩
                                                  · replace c43 := Bool.eq_false_iff.mpr c43
                                                    subst c43
                                                    have H1 : (prompterlaw14_InstrWays.l0 kj29 l0 l2 t131 0 0 x11_2 x12_29 (wrap64 (x13_2 + 1))) = some r := by rw [if_neg (show ¬ (false = true) by decide)] at H; exact H
                                                    clear H
                                                    have H := H1
                                                    clear H1
                                                    have H' := Aside0.mk H
                                                    clear H
                                                    have hcz47_0 : wc.cell? ⟨gb137, 0, none⟩ = some (.int .u8 ((rd_T36 l0 x9_2).f0)) := (blk_cell BK137.out 0).trans rfl
                                                    have hcz47_1 : wc.cell? ⟨gb137, 1, none⟩ = some (.int .i64 ((rd_T36 l0 x9_2).f1)) := (blk_cell BK137.out 1).trans rfl
                                                    have hcz47_2 : wc.cell? ⟨gb137, 2, none⟩ = some (.int .i64 ((rd_T36 l0 x9_2).f2)) := (blk_cell BK137.out 2).trans rfl
                                                    have hcz47_3 : wc.cell? ⟨gb137, 3, none⟩ = some (.string ((rd_T36 l0 x9_2).f3)) := (blk_cell BK137.out 3).trans rfl
                                                    have hfz47_0 := blk_frozen BK137.out 0
                                                    have hfz47_1 := blk_frozen BK137.out 1
                                                    have hfz47_2 := blk_frozen BK137.out 2
                                                    have hfz47_3 := blk_frozen BK137.out 3
                                                    go_wp2_with (first | ((with_reducible refine gate_callee (f := 11) rfl ?_); refine goesL_ (some 86) rfl rfl Try.func11 (by kernel_rfl) rfl #[.agg #[.int .u8 ((rd_T36 l0 x9_2).f0), .int .i64 ((rd_T36 l0 x9_2).f1), .int .i64 ((rd_T36 l0 x9_2).f2), .string ((rd_T36 l0 x9_2).f3)]] rfl (by (try simp only [List.map_toArray, List.map_cons, List.map_nil]); first | done | rfl | (simp only [List.length_drop, List.length_take]; rfl)) ?_; (with_reducible refine (prompterref14_Takes.calls kj29 ((rd_T36 l0 x9_2).f0) ((rd_T36 l0 x9_2).f1) ((rd_T36 l0 x9_2).f2) ((rd_T36 l0 x9_2).f3) t138 _ A33.out).mono ?_); rintro e w48 ⟨rfl, hb⟩; refine ⟨_, rfl, ?_⟩; have n0_ := Aside0.mk (Kd.R_below (by (with_reducible repeat (first | apply Kd.R_alloc | apply Kd.R_drewN | apply Kd.R_drew)); exact HO_7.out) hb); have n1_ := Aside0.mk (blk_below (g := gb137) (o := .cells #[.int .u8 ((rd_T36 l0 x9_2).f0), .int .i64 ((rd_T36 l0 x9_2).f1), .int .i64 ((rd_T36 l0 x9_2).f2), .string ((rd_T36 l0 x9_2).f3)] 36 (0, 0)) (by (with_reducible repeat (first | refine blk_drewN ?_ _ | refine blk_drew ?_ | refine blk_alloc ?_ _)); exact BK137.out) hb); have n2_ := Aside0.mk (below_step (by repeat (first | (with_reducible first | exact HB.out | apply below_alloc | apply pw_below_drewN | apply below_drew1 | refine below_set ?_ GE137.out) | exact HB.out)) hb); clear HO_7; clear BK137; clear HB; have HO_7 := n0_; have BK137 := n1_; have HB := n2_; clear n0_ n1_ n2_; (try clear hb); (try clear hb2); (try clear hk); (try clear hi); have hcz49_0 : w48.cell? ⟨gb137, 0, none⟩ = some (.int .u8 ((rd_T36 l0 x9_2).f0)) := (blk_cell BK137.out 0).trans rfl; have hcz49_1 : w48.cell? ⟨gb137, 1, none⟩ = some (.int .i64 ((rd_T36 l0 x9_2).f1)) := (blk_cell BK137.out 1).trans rfl; have hcz49_2 : w48.cell? ⟨gb137, 2, none⟩ = some (.int .i64 ((rd_T36 l0 x9_2).f2)) := (blk_cell BK137.out 2).trans rfl; have hcz49_3 : w48.cell? ⟨gb137, 3, none⟩ = some (.string ((rd_T36 l0 x9_2).f3)) := (blk_cell BK137.out 3).trans rfl; have hfz49_0 := blk_frozen BK137.out 0; have hfz49_1 := blk_frozen BK137.out 1; have hfz49_2 := blk_frozen BK137.out 2; have hfz49_3 := blk_frozen BK137.out 3) | ((with_reducible refine gate_callee (f := 12) rfl ?_); refine goesL_ (some 92) rfl rfl Try.func12 (by kernel_rfl) rfl #[.int .u8 ((rd_T36 l0 x9_2).f0)] rfl (by (try simp only [List.map_toArray, List.map_cons, List.map_nil]); first | done | rfl | (simp only [List.length_drop, List.length_take]; rfl)) ?_; (with_reducible refine (prompterref14_Ends.calls ((rd_T36 l0 x9_2).f0) true _ A37.out).mono ?_); rintro e w' ⟨rfl, ⟨nd, rfl⟩⟩; refine ⟨_, rfl, ?_⟩; have p140 : 0 ≤ (x13_2 : Int) := of_decide_eq_true (by first | (with_reducible assumption) | assumption); have q140 : x13_2 < (l2.length : Int) := of_decide_eq_true (by first | (with_reducible assumption) | assumption); obtain ⟨ad140, e140, hx140_0⟩ := Kd.at_bool HR2.out x13_2 p140 q140; (try rw [← Nbq42.out] at hx140_0); cases e140; replace hx140_0 := (HB.out.cell (World.block_lt_of_cell? w _ hx140_0)).trans hx140_0; replace p140 := eq_true p140; replace q140 := eq_true q140))
                                                    go_roundg kj29
                                                    case measure => have := HJ5.out; have := HK2.out; have := HJ15.out; have := HJ23.out; have := HJ29.out; omega
                                                    case rel => exact ⟨(0), (0), (x11_2), (x12_29), (wrap64 (x13_2 + 1)), (by first | rfl | (simp; done) | (simp [*]; done)), (by first | rfl | (simp; done) | (simp [*]; done)), (by first | rfl | (simp; done) | (simp [*]; done)), (by first | rfl | (simp; done) | (simp [*]; done)), (by first | rfl | (simp; done) | (simp [*]; done)), H', ⟨by have := HJ5.out; have := HK2.out; have := HJ15.out; have := HJ23.out; have := HJ29.out; omega⟩, ⟨by (with_reducible repeat (first | apply Kd.R_alloc | apply Kd.R_drewN | apply Kd.R_drew)); exact HO_7.out⟩, ⟨by repeat (first | (with_reducible first | exact HB.out | apply below_alloc | apply pw_below_drewN | apply below_drew1 | refine below_set ?_ GE137.out) | exact HB.out)⟩⟩
                                                · rw [if_neg c41] at H
                                                  exact absurd H (by simp)
                                              · rw [if_neg c40] at H
                                                exact absurd H (by simp)
                                            · rw [if_neg c39] at H
                                              have c39b0 : (x10_2 == t138) = false := beq_eq_false_iff_ne.mpr c39
                                              have c39b1 : (x10_2 != t138) = true := bne_iff_ne.mpr c39
                                              obtain rfl := Option.some.inj H
                                              have hcz50_0 : wc.cell? ⟨gb137, 0, none⟩ = some (.int .u8 ((rd_T36 l0 x9_2).f0)) := (blk_cell BK137.out 0).trans rfl
                                              have hcz50_1 : wc.cell? ⟨gb137, 1, none⟩ = some (.int .i64 ((rd_T36 l0 x9_2).f1)) := (blk_cell BK137.out 1).trans rfl
                                              have hcz50_2 : wc.cell? ⟨gb137, 2, none⟩ = some (.int .i64 ((rd_T36 l0 x9_2).f2)) := (blk_cell BK137.out 2).trans rfl
                                              have hcz50_3 : wc.cell? ⟨gb137, 3, none⟩ = some (.string ((rd_T36 l0 x9_2).f3)) := (blk_cell BK137.out 3).trans rfl
                                              have hfz50_0 := blk_frozen BK137.out 0
                                              have hfz50_1 := blk_frozen BK137.out 1
                                              have hfz50_2 := blk_frozen BK137.out 2
                                              have hfz50_3 := blk_frozen BK137.out 3
                                              go_wp2_with (first | ((with_reducible refine gate_callee (f := 11) rfl ?_); refine goesL_ (some 86) rfl rfl Try.func11 (by kernel_rfl) rfl #[.agg #[.int .u8 ((rd_T36 l0 x9_2).f0), .int .i64 ((rd_T36 l0 x9_2).f1), .int .i64 ((rd_T36 l0 x9_2).f2), .string ((rd_T36 l0 x9_2).f3)]] rfl (by (try simp only [List.map_toArray, List.map_cons, List.map_nil]); first | done | rfl | (simp only [List.length_drop, List.length_take]; rfl)) ?_; (with_reducible refine (prompterref14_Takes.calls kj29 ((rd_T36 l0 x9_2).f0) ((rd_T36 l0 x9_2).f1) ((rd_T36 l0 x9_2).f2) ((rd_T36 l0 x9_2).f3) t138 _ A33.out).mono ?_); rintro e w51 ⟨rfl, hb⟩; refine ⟨_, rfl, ?_⟩; have n0_ := Aside0.mk (Kd.R_below (by (with_reducible repeat (first | apply Kd.R_alloc | apply Kd.R_drewN | apply Kd.R_drew)); exact HO_7.out) hb); have n1_ := Aside0.mk (blk_below (g := gb137) (o := .cells #[.int .u8 ((rd_T36 l0 x9_2).f0), .int .i64 ((rd_T36 l0 x9_2).f1), .int .i64 ((rd_T36 l0 x9_2).f2), .string ((rd_T36 l0 x9_2).f3)] 36 (0, 0)) (by (with_reducible repeat (first | refine blk_drewN ?_ _ | refine blk_drew ?_ | refine blk_alloc ?_ _)); exact BK137.out) hb); have n2_ := Aside0.mk (below_step (by repeat (first | (with_reducible first | exact HB.out | apply below_alloc | apply pw_below_drewN | apply below_drew1 | refine below_set ?_ GE137.out) | exact HB.out)) hb); clear HO_7; clear BK137; clear HB; have HO_7 := n0_; have BK137 := n1_; have HB := n2_; clear n0_ n1_ n2_; (try clear hb); (try clear hb2); (try clear hk); (try clear hi); have hcz52_0 : w51.cell? ⟨gb137, 0, none⟩ = some (.int .u8 ((rd_T36 l0 x9_2).f0)) := (blk_cell BK137.out 0).trans rfl; have hcz52_1 : w51.cell? ⟨gb137, 1, none⟩ = some (.int .i64 ((rd_T36 l0 x9_2).f1)) := (blk_cell BK137.out 1).trans rfl; have hcz52_2 : w51.cell? ⟨gb137, 2, none⟩ = some (.int .i64 ((rd_T36 l0 x9_2).f2)) := (blk_cell BK137.out 2).trans rfl; have hcz52_3 : w51.cell? ⟨gb137, 3, none⟩ = some (.string ((rd_T36 l0 x9_2).f3)) := (blk_cell BK137.out 3).trans rfl; have hfz52_0 := blk_frozen BK137.out 0; have hfz52_1 := blk_frozen BK137.out 1; have hfz52_2 := blk_frozen BK137.out 2; have hfz52_3 := blk_frozen BK137.out 3) | ((with_reducible refine gate_callee (f := 12) rfl ?_); refine goesL_ (some 92) rfl rfl Try.func12 (by kernel_rfl) rfl #[.int .u8 ((rd_T36 l0 x9_2).f0)] rfl (by (try simp only [List.map_toArray, List.map_cons, List.map_nil]); first | done | rfl | (simp only [List.length_drop, List.length_take]; rfl)) ?_; (with_reducible refine (prompterref14_Ends.calls ((rd_T36 l0 x9_2).f0) true _ A37.out).mono ?_); rintro e w' ⟨rfl, ⟨nd, rfl⟩⟩; refine ⟨_, rfl, ?_⟩))
                                              go_ret
                                              exact ⟨by first | rfl | (simp [errW_none, errW_some] <;> rfl) | (simp [*, errW_none, errW_some] <;> rfl), by repeat (first | (with_reducible first | exact HB.out | apply below_alloc | apply pw_below_drewN | apply below_drew1 | refine below_set ?_ GE137.out) | exact HB.out)⟩
                                          · replace c38 := Bool.eq_false_iff.mpr c38
                                            subst c38
                                            have H1 : ((prompterref14_Behind.f kj29 ((rd_T36 l0 x9_2).f0) ((rd_T36 l0 x9_2).f1) ((rd_T36 l0 x9_2).f2) ((rd_T36 l0 x9_2).f3) x10_2).bind fun bt141 => (if ((rd_T36 l0 x9_2).f0) = 53 then (if ((rd_T36 l0 x9_2).f0) = 1 then (prompterlaw14_InstrWays.l0 kj29 l0 l2 t131 ((rd_T36 l0 x9_2).f1) bt141.1 ((rd_T36 l0 x9_2).f1) x12_29 (wrap64 (x13_2 + 1))) else (if 0 ≤ x13_2 then (if x13_2 < (l2.length : Int) then (if rdOf false l2 x13_2 = true then (prompterlaw14_InstrWays.l0 kj29 l0 l2 t131 (wrap64 (x9_2 + 1)) bt141.2 ((rd_T36 l0 x9_2).f1) x12_29 (wrap64 (x13_2 + 1))) else (prompterlaw14_InstrWays.l0 kj29 l0 l2 t131 (wrap64 (x9_2 + 1)) bt141.2 ((rd_T36 l0 x9_2).f1) x12_29 (wrap64 (x13_2 + 1)))) else (none)) else (none))) else (if ((rd_T36 l0 x9_2).f0) = 1 then (prompterlaw14_InstrWays.l0 kj29 l0 l2 t131 ((rd_T36 l0 x9_2).f1) bt141.1 x11_2 x12_29 (wrap64 (x13_2 + 1))) else (if 0 ≤ x13_2 then (if x13_2 < (l2.length : Int) then (if rdOf false l2 x13_2 = true then ((prompterref14_Of.f kj29 ((rd_T36 l0 x9_2).f0)).bind fun bt145 => (if bt145.2.1 = 1 then (prompterlaw14_InstrWays.l0 kj29 l0 l2 t131 ((rd_T36 l0 x9_2).f1) bt141.1 x11_2 x12_29 (wrap64 (x13_2 + 1))) else (prompterlaw14_InstrWays.l0 kj29 l0 l2 t131 (wrap64 (x9_2 + 1)) bt141.2 x11_2 x12_29 (wrap64 (x13_2 + 1))))) else (prompterlaw14_InstrWays.l0 kj29 l0 l2 t131 (wrap64 (x9_2 + 1)) bt141.2 x11_2 x12_29 (wrap64 (x13_2 + 1)))) else (none)) else (none))))) = some r := by rw [if_neg (show ¬ (false = true) by decide)] at H; exact H
                                            clear H
                                            have H := H1
                                            clear H1
                                            replace H := Option.bind_eq_some_iff.mp H
                                            obtain ⟨⟨t141, t142⟩, A530, H⟩ := H
                                            replace H : (if ((rd_T36 l0 x9_2).f0) = 53 then (if ((rd_T36 l0 x9_2).f0) = 1 then (prompterlaw14_InstrWays.l0 kj29 l0 l2 t131 ((rd_T36 l0 x9_2).f1) t141 ((rd_T36 l0 x9_2).f1) x12_29 (wrap64 (x13_2 + 1))) else (if 0 ≤ x13_2 then (if x13_2 < (l2.length : Int) then (if rdOf false l2 x13_2 = true then (prompterlaw14_InstrWays.l0 kj29 l0 l2 t131 (wrap64 (x9_2 + 1)) t142 ((rd_T36 l0 x9_2).f1) x12_29 (wrap64 (x13_2 + 1))) else (prompterlaw14_InstrWays.l0 kj29 l0 l2 t131 (wrap64 (x9_2 + 1)) t142 ((rd_T36 l0 x9_2).f1) x12_29 (wrap64 (x13_2 + 1)))) else (none)) else (none))) else (if ((rd_T36 l0 x9_2).f0) = 1 then (prompterlaw14_InstrWays.l0 kj29 l0 l2 t131 ((rd_T36 l0 x9_2).f1) t141 x11_2 x12_29 (wrap64 (x13_2 + 1))) else (if 0 ≤ x13_2 then (if x13_2 < (l2.length : Int) then (if rdOf false l2 x13_2 = true then ((prompterref14_Of.f kj29 ((rd_T36 l0 x9_2).f0)).bind fun bt145 => (if bt145.2.1 = 1 then (prompterlaw14_InstrWays.l0 kj29 l0 l2 t131 ((rd_T36 l0 x9_2).f1) t141 x11_2 x12_29 (wrap64 (x13_2 + 1))) else (prompterlaw14_InstrWays.l0 kj29 l0 l2 t131 (wrap64 (x9_2 + 1)) t142 x11_2 x12_29 (wrap64 (x13_2 + 1))))) else (prompterlaw14_InstrWays.l0 kj29 l0 l2 t131 (wrap64 (x9_2 + 1)) t142 x11_2 x12_29 (wrap64 (x13_2 + 1)))) else (none)) else (none)))) = some r := H
                                            have A53 := Aside0.mk A530
                                            clear A530
                                            by_cases c54 : ((rd_T36 l0 x9_2).f0) = 53
                                            · rw [if_pos c54] at H
                                              have c54b0 : (((rd_T36 l0 x9_2).f0) == 53) = true := beq_iff_eq.mpr c54
                                              have c54b1 : (((rd_T36 l0 x9_2).f0) != 53) = false := bne_eq_false_iff_eq.mpr c54
                                              clear c54
                                              by_cases c55 : ((rd_T36 l0 x9_2).f0) = 1
                                              · rw [if_pos c55] at H
                                                have c55b0 : (((rd_T36 l0 x9_2).f0) == 1) = true := beq_iff_eq.mpr c55
                                                have c55b1 : (((rd_T36 l0 x9_2).f0) != 1) = false := bne_eq_false_iff_eq.mpr c55
                                                clear c55
                                                have H' := Aside0.mk H
                                                clear H
                                                have hcz56_0 : wc.cell? ⟨gb137, 0, none⟩ = some (.int .u8 ((rd_T36 l0 x9_2).f0)) := (blk_cell BK137.out 0).trans rfl
                                                have hcz56_1 : wc.cell? ⟨gb137, 1, none⟩ = some (.int .i64 ((rd_T36 l0 x9_2).f1)) := (blk_cell BK137.out 1).trans rfl
                                                have hcz56_2 : wc.cell? ⟨gb137, 2, none⟩ = some (.int .i64 ((rd_T36 l0 x9_2).f2)) := (blk_cell BK137.out 2).trans rfl
                                                have hcz56_3 : wc.cell? ⟨gb137, 3, none⟩ = some (.string ((rd_T36 l0 x9_2).f3)) := (blk_cell BK137.out 3).trans rfl
                                                have hfz56_0 := blk_frozen BK137.out 0
                                                have hfz56_1 := blk_frozen BK137.out 1
                                                have hfz56_2 := blk_frozen BK137.out 2
                                                have hfz56_3 := blk_frozen BK137.out 3
                                                go_wp2_with (first | ((with_reducible refine gate_callee (f := 11) rfl ?_); refine goesL_ (some 86) rfl rfl Try.func11 (by kernel_rfl) rfl #[.agg #[.int .u8 ((rd_T36 l0 x9_2).f0), .int .i64 ((rd_T36 l0 x9_2).f1), .int .i64 ((rd_T36 l0 x9_2).f2), .string ((rd_T36 l0 x9_2).f3)]] rfl (by (try simp only [List.map_toArray, List.map_cons, List.map_nil]); first | done | rfl | (simp only [List.length_drop, List.length_take]; rfl)) ?_; (with_reducible refine (prompterref14_Takes.calls kj29 ((rd_T36 l0 x9_2).f0) ((rd_T36 l0 x9_2).f1) ((rd_T36 l0 x9_2).f2) ((rd_T36 l0 x9_2).f3) t138 _ A33.out).mono ?_); rintro e w57 ⟨rfl, hb⟩; refine ⟨_, rfl, ?_⟩; have n0_ := Aside0.mk (Kd.R_below (by (with_reducible repeat (first | apply Kd.R_alloc | apply Kd.R_drewN | apply Kd.R_drew)); exact HO_7.out) hb); have n1_ := Aside0.mk (blk_below (g := gb137) (o := .cells #[.int .u8 ((rd_T36 l0 x9_2).f0), .int .i64 ((rd_T36 l0 x9_2).f1), .int .i64 ((rd_T36 l0 x9_2).f2), .string ((rd_T36 l0 x9_2).f3)] 36 (0, 0)) (by (with_reducible repeat (first | refine blk_drewN ?_ _ | refine blk_drew ?_ | refine blk_alloc ?_ _)); exact BK137.out) hb); have n2_ := Aside0.mk (below_step (by repeat (first | (with_reducible first | exact HB.out | apply below_alloc | apply pw_below_drewN | apply below_drew1 | refine below_set ?_ GE137.out) | exact HB.out)) hb); clear HO_7; clear BK137; clear HB; have HO_7 := n0_; have BK137 := n1_; have HB := n2_; clear n0_ n1_ n2_; (try clear hb); (try clear hb2); (try clear hk); (try clear hi); have hcz58_0 : w57.cell? ⟨gb137, 0, none⟩ = some (.int .u8 ((rd_T36 l0 x9_2).f0)) := (blk_cell BK137.out 0).trans rfl; have hcz58_1 : w57.cell? ⟨gb137, 1, none⟩ = some (.int .i64 ((rd_T36 l0 x9_2).f1)) := (blk_cell BK137.out 1).trans rfl; have hcz58_2 : w57.cell? ⟨gb137, 2, none⟩ = some (.int .i64 ((rd_T36 l0 x9_2).f2)) := (blk_cell BK137.out 2).trans rfl; have hcz58_3 : w57.cell? ⟨gb137, 3, none⟩ = some (.string ((rd_T36 l0 x9_2).f3)) := (blk_cell BK137.out 3).trans rfl; have hfz58_0 := blk_frozen BK137.out 0; have hfz58_1 := blk_frozen BK137.out 1; have hfz58_2 := blk_frozen BK137.out 2; have hfz58_3 := blk_frozen BK137.out 3) | ((with_reducible refine gate_callee (f := 12) rfl ?_); refine goesL_ (some 92) rfl rfl Try.func12 (by kernel_rfl) rfl #[.int .u8 ((rd_T36 l0 x9_2).f0)] rfl (by (try simp only [List.map_toArray, List.map_cons, List.map_nil]); first | done | rfl | (simp only [List.length_drop, List.length_take]; rfl)) ?_; (with_reducible refine (prompterref14_Ends.calls ((rd_T36 l0 x9_2).f0) false _ A37.out).mono ?_); rintro e w' ⟨rfl, ⟨nd, rfl⟩⟩; refine ⟨_, rfl, ?_⟩) | ((with_reducible refine gate_callee (f := 13) rfl ?_); refine goesL_ (some 104) rfl rfl Try.func13 (by kernel_rfl) rfl #[.agg #[.int .u8 ((rd_T36 l0 x9_2).f0), .int .i64 ((rd_T36 l0 x9_2).f1), .int .i64 ((rd_T36 l0 x9_2).f2), .string ((rd_T36 l0 x9_2).f3)], .int .i64 x10_2] rfl (by (try simp only [List.map_toArray, List.map_cons, List.map_nil]); first | done | rfl | (simp only [List.length_drop, List.length_take]; rfl)) ?_; (with_reducible refine (prompterref14_Behind.calls kj29 ((rd_T36 l0 x9_2).f0) ((rd_T36 l0 x9_2).f1) ((rd_T36 l0 x9_2).f2) ((rd_T36 l0 x9_2).f3) x10_2 t141 t142 _ A53.out).mono ?_); rintro e w59 ⟨rfl, hb⟩; refine ⟨_, rfl, ?_⟩; have n0_ := Aside0.mk (Kd.R_below (by (with_reducible repeat (first | apply Kd.R_alloc | apply Kd.R_drewN | apply Kd.R_drew)); exact HO_7.out) hb); have n1_ := Aside0.mk (blk_below (g := gb137) (o := .cells #[.int .u8 ((rd_T36 l0 x9_2).f0), .int .i64 ((rd_T36 l0 x9_2).f1), .int .i64 ((rd_T36 l0 x9_2).f2), .string ((rd_T36 l0 x9_2).f3)] 36 (0, 0)) (by (with_reducible repeat (first | refine blk_drewN ?_ _ | refine blk_drew ?_ | refine blk_alloc ?_ _)); exact BK137.out) hb); have n2_ := Aside0.mk (below_step (by repeat (first | (with_reducible first | exact HB.out | apply below_alloc | apply pw_below_drewN | apply below_drew1 | refine below_set ?_ GE137.out) | exact HB.out)) hb); clear HO_7; clear BK137; clear HB; have HO_7 := n0_; have BK137 := n1_; have HB := n2_; clear n0_ n1_ n2_; (try clear hb); (try clear hb2); (try clear hk); (try clear hi); have hcz60_0 : w59.cell? ⟨gb137, 0, none⟩ = some (.int .u8 ((rd_T36 l0 x9_2).f0)) := (blk_cell BK137.out 0).trans rfl; have hcz60_1 : w59.cell? ⟨gb137, 1, none⟩ = some (.int .i64 ((rd_T36 l0 x9_2).f1)) := (blk_cell BK137.out 1).trans rfl; have hcz60_2 : w59.cell? ⟨gb137, 2, none⟩ = some (.int .i64 ((rd_T36 l0 x9_2).f2)) := (blk_cell BK137.out 2).trans rfl; have hcz60_3 : w59.cell? ⟨gb137, 3, none⟩ = some (.string ((rd_T36 l0 x9_2).f3)) := (blk_cell BK137.out 3).trans rfl; have hfz60_0 := blk_frozen BK137.out 0; have hfz60_1 := blk_frozen BK137.out 1; have hfz60_2 := blk_frozen BK137.out 2; have hfz60_3 := blk_frozen BK137.out 3))
                                                go_roundg kj29
                                                case measure => have := HJ5.out; have := HK2.out; have := HJ15.out; have := HJ23.out; have := HJ29.out; omega
                                                case rel => exact ⟨(((rd_T36 l0 x9_2).f1)), (t141), (((rd_T36 l0 x9_2).f1)), (x12_29), (wrap64 (x13_2 + 1)), (by first | rfl | (simp; done) | (simp [*]; done)), (by first | rfl | (simp; done) | (simp [*]; done)), (by first | rfl | (simp; done) | (simp [*]; done)), (by first | rfl | (simp; done) | (simp [*]; done)), (by first | rfl | (simp; done) | (simp [*]; done)), H', ⟨by have := HJ5.out; have := HK2.out; have := HJ15.out; have := HJ23.out; have := HJ29.out; omega⟩, ⟨by (with_reducible repeat (first | apply Kd.R_alloc | apply Kd.R_drewN | apply Kd.R_drew)); exact HO_7.out⟩, ⟨by repeat (first | (with_reducible first | exact HB.out | apply below_alloc | apply pw_below_drewN | apply below_drew1 | refine below_set ?_ GE137.out) | exact HB.out)⟩⟩
                                              · rw [if_neg c55] at H
                                                have c55b0 : (((rd_T36 l0 x9_2).f0) == 1) = false := beq_eq_false_iff_ne.mpr c55
                                                have c55b1 : (((rd_T36 l0 x9_2).f0) != 1) = true := bne_iff_ne.mpr c55
                                                by_cases c61 : 0 ≤ x13_2
                                                · rw [if_pos c61] at H
                                                  have c61b0 : decide (0 ≤ x13_2) = true := decide_eq_true c61
                                                  clear c61
                                                  by_cases c62 : x13_2 < (l2.length : Int)
                                                  · rw [if_pos c62] at H
                                                    have c62b0 : decide (x13_2 < (l2.length : Int)) = true := decide_eq_true c62
                                                    clear c62
                                                    obtain ⟨bq63, hbq63⟩ : ∃ b_ : Bool, b_ = (rdOf false l2 x13_2) := ⟨_, rfl⟩
                                                    replace H : (if bq63 = true then (prompterlaw14_InstrWays.l0 kj29 l0 l2 t131 (wrap64 (x9_2 + 1)) t142 ((rd_T36 l0 x9_2).f1) x12_29 (wrap64 (x13_2 + 1))) else (prompterlaw14_InstrWays.l0 kj29 l0 l2 t131 (wrap64 (x9_2 + 1)) t142 ((rd_T36 l0 x9_2).f1) x12_29 (wrap64 (x13_2 + 1)))) = some r := by rw [← hbq63] at H; exact H
                                                    have Nbq63 := Aside0.mk hbq63
                                                    clear hbq63
                                                    by_cases c64 : bq63 = true
                                                    · subst c64
                                                      have H1 : (prompterlaw14_InstrWays.l0 kj29 l0 l2 t131 (wrap64 (x9_2 + 1)) t142 ((rd_T36 l0 x9_2).f1) x12_29 (wrap64 (x13_2 + 1))) = some r := by rw [if_pos rfl] at H; exact H
                                                      clear H
                                                      have H := H1
                                                      clear H1
                                                      have H' := Aside0.mk H
                                                      clear H
                                                      have hcz65_0 : wc.cell? ⟨gb137, 0, none⟩ = some (.int .u8 ((rd_T36 l0 x9_2).f0)) := (blk_cell BK137.out 0).trans rfl
                                                      have hcz65_1 : wc.cell? ⟨gb137, 1, none⟩ = some (.int .i64 ((rd_T36 l0 x9_2).f1)) := (blk_cell BK137.out 1).trans rfl
                                                      have hcz65_2 : wc.cell? ⟨gb137, 2, none⟩ = some (.int .i64 ((rd_T36 l0 x9_2).f2)) := (blk_cell BK137.out 2).trans rfl
                                                      have hcz65_3 : wc.cell? ⟨gb137, 3, none⟩ = some (.string ((rd_T36 l0 x9_2).f3)) := (blk_cell BK137.out 3).trans rfl
                                                      have hfz65_0 := blk_frozen BK137.out 0
                                                      have hfz65_1 := blk_frozen BK137.out 1
                                                      have hfz65_2 := blk_frozen BK137.out 2
                                                      have hfz65_3 := blk_frozen BK137.out 3
                                                      go_wp2_with (first | ((with_reducible refine gate_callee (f := 11) rfl ?_); refine goesL_ (some 86) rfl rfl Try.func11 (by kernel_rfl) rfl #[.agg #[.int .u8 ((rd_T36 l0 x9_2).f0), .int .i64 ((rd_T36 l0 x9_2).f1), .int .i64 ((rd_T36 l0 x9_2).f2), .string ((rd_T36 l0 x9_2).f3)]] rfl (by (try simp only [List.map_toArray, List.map_cons, List.map_nil]); first | done | rfl | (simp only [List.length_drop, List.length_take]; rfl)) ?_; (with_reducible refine (prompterref14_Takes.calls kj29 ((rd_T36 l0 x9_2).f0) ((rd_T36 l0 x9_2).f1) ((rd_T36 l0 x9_2).f2) ((rd_T36 l0 x9_2).f3) t138 _ A33.out).mono ?_); rintro e w66 ⟨rfl, hb⟩; refine ⟨_, rfl, ?_⟩; have n0_ := Aside0.mk (Kd.R_below (by (with_reducible repeat (first | apply Kd.R_alloc | apply Kd.R_drewN | apply Kd.R_drew)); exact HO_7.out) hb); have n1_ := Aside0.mk (blk_below (g := gb137) (o := .cells #[.int .u8 ((rd_T36 l0 x9_2).f0), .int .i64 ((rd_T36 l0 x9_2).f1), .int .i64 ((rd_T36 l0 x9_2).f2), .string ((rd_T36 l0 x9_2).f3)] 36 (0, 0)) (by (with_reducible repeat (first | refine blk_drewN ?_ _ | refine blk_drew ?_ | refine blk_alloc ?_ _)); exact BK137.out) hb); have n2_ := Aside0.mk (below_step (by repeat (first | (with_reducible first | exact HB.out | apply below_alloc | apply pw_below_drewN | apply below_drew1 | refine below_set ?_ GE137.out) | exact HB.out)) hb); clear HO_7; clear BK137; clear HB; have HO_7 := n0_; have BK137 := n1_; have HB := n2_; clear n0_ n1_ n2_; (try clear hb); (try clear hb2); (try clear hk); (try clear hi); have hcz67_0 : w66.cell? ⟨gb137, 0, none⟩ = some (.int .u8 ((rd_T36 l0 x9_2).f0)) := (blk_cell BK137.out 0).trans rfl; have hcz67_1 : w66.cell? ⟨gb137, 1, none⟩ = some (.int .i64 ((rd_T36 l0 x9_2).f1)) := (blk_cell BK137.out 1).trans rfl; have hcz67_2 : w66.cell? ⟨gb137, 2, none⟩ = some (.int .i64 ((rd_T36 l0 x9_2).f2)) := (blk_cell BK137.out 2).trans rfl; have hcz67_3 : w66.cell? ⟨gb137, 3, none⟩ = some (.string ((rd_T36 l0 x9_2).f3)) := (blk_cell BK137.out 3).trans rfl; have hfz67_0 := blk_frozen BK137.out 0; have hfz67_1 := blk_frozen BK137.out 1; have hfz67_2 := blk_frozen BK137.out 2; have hfz67_3 := blk_frozen BK137.out 3) | ((with_reducible refine gate_callee (f := 12) rfl ?_); refine goesL_ (some 92) rfl rfl Try.func12 (by kernel_rfl) rfl #[.int .u8 ((rd_T36 l0 x9_2).f0)] rfl (by (try simp only [List.map_toArray, List.map_cons, List.map_nil]); first | done | rfl | (simp only [List.length_drop, List.length_take]; rfl)) ?_; (with_reducible refine (prompterref14_Ends.calls ((rd_T36 l0 x9_2).f0) false _ A37.out).mono ?_); rintro e w' ⟨rfl, ⟨nd, rfl⟩⟩; refine ⟨_, rfl, ?_⟩) | ((with_reducible refine gate_callee (f := 13) rfl ?_); refine goesL_ (some 104) rfl rfl Try.func13 (by kernel_rfl) rfl #[.agg #[.int .u8 ((rd_T36 l0 x9_2).f0), .int .i64 ((rd_T36 l0 x9_2).f1), .int .i64 ((rd_T36 l0 x9_2).f2), .string ((rd_T36 l0 x9_2).f3)], .int .i64 x10_2] rfl (by (try simp only [List.map_toArray, List.map_cons, List.map_nil]); first | done | rfl | (simp only [List.length_drop, List.length_take]; rfl)) ?_; (with_reducible refine (prompterref14_Behind.calls kj29 ((rd_T36 l0 x9_2).f0) ((rd_T36 l0 x9_2).f1) ((rd_T36 l0 x9_2).f2) ((rd_T36 l0 x9_2).f3) x10_2 t141 t142 _ A53.out).mono ?_); rintro e w68 ⟨rfl, hb⟩; refine ⟨_, rfl, ?_⟩; have n0_ := Aside0.mk (Kd.R_below (by (with_reducible repeat (first | apply Kd.R_alloc | apply Kd.R_drewN | apply Kd.R_drew)); exact HO_7.out) hb); have n1_ := Aside0.mk (blk_below (g := gb137) (o := .cells #[.int .u8 ((rd_T36 l0 x9_2).f0), .int .i64 ((rd_T36 l0 x9_2).f1), .int .i64 ((rd_T36 l0 x9_2).f2), .string ((rd_T36 l0 x9_2).f3)] 36 (0, 0)) (by (with_reducible repeat (first | refine blk_drewN ?_ _ | refine blk_drew ?_ | refine blk_alloc ?_ _)); exact BK137.out) hb); have n2_ := Aside0.mk (below_step (by repeat (first | (with_reducible first | exact HB.out | apply below_alloc | apply pw_below_drewN | apply below_drew1 | refine below_set ?_ GE137.out) | exact HB.out)) hb); clear HO_7; clear BK137; clear HB; have HO_7 := n0_; have BK137 := n1_; have HB := n2_; clear n0_ n1_ n2_; (try clear hb); (try clear hb2); (try clear hk); (try clear hi); have hcz69_0 : w68.cell? ⟨gb137, 0, none⟩ = some (.int .u8 ((rd_T36 l0 x9_2).f0)) := (blk_cell BK137.out 0).trans rfl; have hcz69_1 : w68.cell? ⟨gb137, 1, none⟩ = some (.int .i64 ((rd_T36 l0 x9_2).f1)) := (blk_cell BK137.out 1).trans rfl; have hcz69_2 : w68.cell? ⟨gb137, 2, none⟩ = some (.int .i64 ((rd_T36 l0 x9_2).f2)) := (blk_cell BK137.out 2).trans rfl; have hcz69_3 : w68.cell? ⟨gb137, 3, none⟩ = some (.string ((rd_T36 l0 x9_2).f3)) := (blk_cell BK137.out 3).trans rfl; have hfz69_0 := blk_frozen BK137.out 0; have hfz69_1 := blk_frozen BK137.out 1; have hfz69_2 := blk_frozen BK137.out 2; have hfz69_3 := blk_frozen BK137.out 3; have p143 : 0 ≤ (x13_2 : Int) := of_decide_eq_true (by first | (with_reducible assumption) | assumption); have q143 : x13_2 < (l2.length : Int) := of_decide_eq_true (by first | (with_reducible assumption) | assumption); obtain ⟨ad143, e143, hx143_0⟩ := Kd.at_bool HR2.out x13_2 p143 q143; (try rw [← Nbq63.out] at hx143_0); cases e143; replace hx143_0 := (HB.out.cell (World.block_lt_of_cell? w _ hx143_0)).trans hx143_0; replace p143 := eq_true p143; replace q143 := eq_true q143))
                                                      go_roundg kj29
                                                      case measure => have := HJ5.out; have := HK2.out; have := HJ15.out; have := HJ23.out; have := HJ29.out; omega
                                                      case rel => exact ⟨(wrap64 (x9_2 + 1)), (t142), (((rd_T36 l0 x9_2).f1)), (x12_29), (wrap64 (x13_2 + 1)), (by first | rfl | (simp; done) | (simp [*]; done)), (by first | rfl | (simp; done) | (simp [*]; done)), (by first | rfl | (simp; done) | (simp [*]; done)), (by first | rfl | (simp; done) | (simp [*]; done)), (by first | rfl | (simp; done) | (simp [*]; done)), H', ⟨by have := HJ5.out; have := HK2.out; have := HJ15.out; have := HJ23.out; have := HJ29.out; omega⟩, ⟨by (with_reducible repeat (first | apply Kd.R_alloc | apply Kd.R_drewN | apply Kd.R_drew)); exact HO_7.out⟩, ⟨by repeat (first | (with_reducible first | exact HB.out | apply below_alloc | apply pw_below_drewN | apply below_drew1 | refine below_set ?_ GE137.out) | exact HB.out)⟩⟩
                                                    · replace c64 := Bool.eq_false_iff.mpr c64
                                                      subst c64
                                                      have H1 : (prompterlaw14_InstrWays.l0 kj29 l0 l2 t131 (wrap64 (x9_2 + 1)) t142 ((rd_T36 l0 x9_2).f1) x12_29 (wrap64 (x13_2 + 1))) = some r := by rw [if_neg (show ¬ (false = true) by decide)] at H; exact H
                                                      clear H
                                                      have H := H1
                                                      clear H1
                                                      have H' := Aside0.mk H
                                                      clear H
                                                      have hcz70_0 : wc.cell? ⟨gb137, 0, none⟩ = some (.int .u8 ((rd_T36 l0 x9_2).f0)) := (blk_cell BK137.out 0).trans rfl
                                                      have hcz70_1 : wc.cell? ⟨gb137, 1, none⟩ = some (.int .i64 ((rd_T36 l0 x9_2).f1)) := (blk_cell BK137.out 1).trans rfl
                                                      have hcz70_2 : wc.cell? ⟨gb137, 2, none⟩ = some (.int .i64 ((rd_T36 l0 x9_2).f2)) := (blk_cell BK137.out 2).trans rfl
                                                      have hcz70_3 : wc.cell? ⟨gb137, 3, none⟩ = some (.string ((rd_T36 l0 x9_2).f3)) := (blk_cell BK137.out 3).trans rfl
                                                      have hfz70_0 := blk_frozen BK137.out 0
                                                      have hfz70_1 := blk_frozen BK137.out 1
                                                      have hfz70_2 := blk_frozen BK137.out 2
                                                      have hfz70_3 := blk_frozen BK137.out 3
                                                      go_wp2_with (first | ((with_reducible refine gate_callee (f := 11) rfl ?_); refine goesL_ (some 86) rfl rfl Try.func11 (by kernel_rfl) rfl #[.agg #[.int .u8 ((rd_T36 l0 x9_2).f0), .int .i64 ((rd_T36 l0 x9_2).f1), .int .i64 ((rd_T36 l0 x9_2).f2), .string ((rd_T36 l0 x9_2).f3)]] rfl (by (try simp only [List.map_toArray, List.map_cons, List.map_nil]); first | done | rfl | (simp only [List.length_drop, List.length_take]; rfl)) ?_; (with_reducible refine (prompterref14_Takes.calls kj29 ((rd_T36 l0 x9_2).f0) ((rd_T36 l0 x9_2).f1) ((rd_T36 l0 x9_2).f2) ((rd_T36 l0 x9_2).f3) t138 _ A33.out).mono ?_); rintro e w71 ⟨rfl, hb⟩; refine ⟨_, rfl, ?_⟩; have n0_ := Aside0.mk (Kd.R_below (by (with_reducible repeat (first | apply Kd.R_alloc | apply Kd.R_drewN | apply Kd.R_drew)); exact HO_7.out) hb); have n1_ := Aside0.mk (blk_below (g := gb137) (o := .cells #[.int .u8 ((rd_T36 l0 x9_2).f0), .int .i64 ((rd_T36 l0 x9_2).f1), .int .i64 ((rd_T36 l0 x9_2).f2), .string ((rd_T36 l0 x9_2).f3)] 36 (0, 0)) (by (with_reducible repeat (first | refine blk_drewN ?_ _ | refine blk_drew ?_ | refine blk_alloc ?_ _)); exact BK137.out) hb); have n2_ := Aside0.mk (below_step (by repeat (first | (with_reducible first | exact HB.out | apply below_alloc | apply pw_below_drewN | apply below_drew1 | refine below_set ?_ GE137.out) | exact HB.out)) hb); clear HO_7; clear BK137; clear HB; have HO_7 := n0_; have BK137 := n1_; have HB := n2_; clear n0_ n1_ n2_; (try clear hb); (try clear hb2); (try clear hk); (try clear hi); have hcz72_0 : w71.cell? ⟨gb137, 0, none⟩ = some (.int .u8 ((rd_T36 l0 x9_2).f0)) := (blk_cell BK137.out 0).trans rfl; have hcz72_1 : w71.cell? ⟨gb137, 1, none⟩ = some (.int .i64 ((rd_T36 l0 x9_2).f1)) := (blk_cell BK137.out 1).trans rfl; have hcz72_2 : w71.cell? ⟨gb137, 2, none⟩ = some (.int .i64 ((rd_T36 l0 x9_2).f2)) := (blk_cell BK137.out 2).trans rfl; have hcz72_3 : w71.cell? ⟨gb137, 3, none⟩ = some (.string ((rd_T36 l0 x9_2).f3)) := (blk_cell BK137.out 3).trans rfl; have hfz72_0 := blk_frozen BK137.out 0; have hfz72_1 := blk_frozen BK137.out 1; have hfz72_2 := blk_frozen BK137.out 2; have hfz72_3 := blk_frozen BK137.out 3) | ((with_reducible refine gate_callee (f := 12) rfl ?_); refine goesL_ (some 92) rfl rfl Try.func12 (by kernel_rfl) rfl #[.int .u8 ((rd_T36 l0 x9_2).f0)] rfl (by (try simp only [List.map_toArray, List.map_cons, List.map_nil]); first | done | rfl | (simp only [List.length_drop, List.length_take]; rfl)) ?_; (with_reducible refine (prompterref14_Ends.calls ((rd_T36 l0 x9_2).f0) false _ A37.out).mono ?_); rintro e w' ⟨rfl, ⟨nd, rfl⟩⟩; refine ⟨_, rfl, ?_⟩) | ((with_reducible refine gate_callee (f := 13) rfl ?_); refine goesL_ (some 104) rfl rfl Try.func13 (by kernel_rfl) rfl #[.agg #[.int .u8 ((rd_T36 l0 x9_2).f0), .int .i64 ((rd_T36 l0 x9_2).f1), .int .i64 ((rd_T36 l0 x9_2).f2), .string ((rd_T36 l0 x9_2).f3)], .int .i64 x10_2] rfl (by (try simp only [List.map_toArray, List.map_cons, List.map_nil]); first | done | rfl | (simp only [List.length_drop, List.length_take]; rfl)) ?_; (with_reducible refine (prompterref14_Behind.calls kj29 ((rd_T36 l0 x9_2).f0) ((rd_T36 l0 x9_2).f1) ((rd_T36 l0 x9_2).f2) ((rd_T36 l0 x9_2).f3) x10_2 t141 t142 _ A53.out).mono ?_); rintro e w73 ⟨rfl, hb⟩; refine ⟨_, rfl, ?_⟩; have n0_ := Aside0.mk (Kd.R_below (by (with_reducible repeat (first | apply Kd.R_alloc | apply Kd.R_drewN | apply Kd.R_drew)); exact HO_7.out) hb); have n1_ := Aside0.mk (blk_below (g := gb137) (o := .cells #[.int .u8 ((rd_T36 l0 x9_2).f0), .int .i64 ((rd_T36 l0 x9_2).f1), .int .i64 ((rd_T36 l0 x9_2).f2), .string ((rd_T36 l0 x9_2).f3)] 36 (0, 0)) (by (with_reducible repeat (first | refine blk_drewN ?_ _ | refine blk_drew ?_ | refine blk_alloc ?_ _)); exact BK137.out) hb); have n2_ := Aside0.mk (below_step (by repeat (first | (with_reducible first | exact HB.out | apply below_alloc | apply pw_below_drewN | apply below_drew1 | refine below_set ?_ GE137.out) | exact HB.out)) hb); clear HO_7; clear BK137; clear HB; have HO_7 := n0_; have BK137 := n1_; have HB := n2_; clear n0_ n1_ n2_; (try clear hb); (try clear hb2); (try clear hk); (try clear hi); have hcz74_0 : w73.cell? ⟨gb137, 0, none⟩ = some (.int .u8 ((rd_T36 l0 x9_2).f0)) := (blk_cell BK137.out 0).trans rfl; have hcz74_1 : w73.cell? ⟨gb137, 1, none⟩ = some (.int .i64 ((rd_T36 l0 x9_2).f1)) := (blk_cell BK137.out 1).trans rfl; have hcz74_2 : w73.cell? ⟨gb137, 2, none⟩ = some (.int .i64 ((rd_T36 l0 x9_2).f2)) := (blk_cell BK137.out 2).trans rfl; have hcz74_3 : w73.cell? ⟨gb137, 3, none⟩ = some (.string ((rd_T36 l0 x9_2).f3)) := (blk_cell BK137.out 3).trans rfl; have hfz74_0 := blk_frozen BK137.out 0; have hfz74_1 := blk_frozen BK137.out 1; have hfz74_2 := blk_frozen BK137.out 2; have hfz74_3 := blk_frozen BK137.out 3; have p143 : 0 ≤ (x13_2 : Int) := of_decide_eq_true (by first | (with_reducible assumption) | assumption); have q143 : x13_2 < (l2.length : Int) := of_decide_eq_true (by first | (with_reducible assumption) | assumption); obtain ⟨ad143, e143, hx143_0⟩ := Kd.at_bool HR2.out x13_2 p143 q143; (try rw [← Nbq63.out] at hx143_0); cases e143; replace hx143_0 := (HB.out.cell (World.block_lt_of_cell? w _ hx143_0)).trans hx143_0; replace p143 := eq_true p143; replace q143 := eq_true q143))
                                                      go_roundg kj29
                                                      case measure => have := HJ5.out; have := HK2.out; have := HJ15.out; have := HJ23.out; have := HJ29.out; omega
                                                      case rel => exact ⟨(wrap64 (x9_2 + 1)), (t142), (((rd_T36 l0 x9_2).f1)), (x12_29), (wrap64 (x13_2 + 1)), (by first | rfl | (simp; done) | (simp [*]; done)), (by first | rfl | (simp; done) | (simp [*]; done)), (by first | rfl | (simp; done) | (simp [*]; done)), (by first | rfl | (simp; done) | (simp [*]; done)), (by first | rfl | (simp; done) | (simp [*]; done)), H', ⟨by have := HJ5.out; have := HK2.out; have := HJ15.out; have := HJ23.out; have := HJ29.out; omega⟩, ⟨by (with_reducible repeat (first | apply Kd.R_alloc | apply Kd.R_drewN | apply Kd.R_drew)); exact HO_7.out⟩, ⟨by repeat (first | (with_reducible first | exact HB.out | apply below_alloc | apply pw_below_drewN | apply below_drew1 | refine below_set ?_ GE137.out) | exact HB.out)⟩⟩
                                                  · rw [if_neg c62] at H
                                                    exact absurd H (by simp)
                                                · rw [if_neg c61] at H
                                                  exact absurd H (by simp)
                                            · rw [if_neg c54] at H
                                              have c54b0 : (((rd_T36 l0 x9_2).f0) == 53) = false := beq_eq_false_iff_ne.mpr c54
                                              have c54b1 : (((rd_T36 l0 x9_2).f0) != 53) = true := bne_iff_ne.mpr c54
                                              by_cases c75 : ((rd_T36 l0 x9_2).f0) = 1
                                              · rw [if_pos c75] at H
                                                have c75b0 : (((rd_T36 l0 x9_2).f0) == 1) = true := beq_iff_eq.mpr c75
                                                have c75b1 : (((rd_T36 l0 x9_2).f0) != 1) = false := bne_eq_false_iff_eq.mpr c75
                                                clear c75
                                                have H' := Aside0.mk H
                                                clear H
                                                have hcz76_0 : wc.cell? ⟨gb137, 0, none⟩ = some (.int .u8 ((rd_T36 l0 x9_2).f0)) := (blk_cell BK137.out 0).trans rfl
                                                have hcz76_1 : wc.cell? ⟨gb137, 1, none⟩ = some (.int .i64 ((rd_T36 l0 x9_2).f1)) := (blk_cell BK137.out 1).trans rfl
                                                have hcz76_2 : wc.cell? ⟨gb137, 2, none⟩ = some (.int .i64 ((rd_T36 l0 x9_2).f2)) := (blk_cell BK137.out 2).trans rfl
                                                have hcz76_3 : wc.cell? ⟨gb137, 3, none⟩ = some (.string ((rd_T36 l0 x9_2).f3)) := (blk_cell BK137.out 3).trans rfl
                                                have hfz76_0 := blk_frozen BK137.out 0
                                                have hfz76_1 := blk_frozen BK137.out 1
                                                have hfz76_2 := blk_frozen BK137.out 2
                                                have hfz76_3 := blk_frozen BK137.out 3
                                                go_wp2_with (first | ((with_reducible refine gate_callee (f := 11) rfl ?_); refine goesL_ (some 86) rfl rfl Try.func11 (by kernel_rfl) rfl #[.agg #[.int .u8 ((rd_T36 l0 x9_2).f0), .int .i64 ((rd_T36 l0 x9_2).f1), .int .i64 ((rd_T36 l0 x9_2).f2), .string ((rd_T36 l0 x9_2).f3)]] rfl (by (try simp only [List.map_toArray, List.map_cons, List.map_nil]); first | done | rfl | (simp only [List.length_drop, List.length_take]; rfl)) ?_; (with_reducible refine (prompterref14_Takes.calls kj29 ((rd_T36 l0 x9_2).f0) ((rd_T36 l0 x9_2).f1) ((rd_T36 l0 x9_2).f2) ((rd_T36 l0 x9_2).f3) t138 _ A33.out).mono ?_); rintro e w77 ⟨rfl, hb⟩; refine ⟨_, rfl, ?_⟩; have n0_ := Aside0.mk (Kd.R_below (by (with_reducible repeat (first | apply Kd.R_alloc | apply Kd.R_drewN | apply Kd.R_drew)); exact HO_7.out) hb); have n1_ := Aside0.mk (blk_below (g := gb137) (o := .cells #[.int .u8 ((rd_T36 l0 x9_2).f0), .int .i64 ((rd_T36 l0 x9_2).f1), .int .i64 ((rd_T36 l0 x9_2).f2), .string ((rd_T36 l0 x9_2).f3)] 36 (0, 0)) (by (with_reducible repeat (first | refine blk_drewN ?_ _ | refine blk_drew ?_ | refine blk_alloc ?_ _)); exact BK137.out) hb); have n2_ := Aside0.mk (below_step (by repeat (first | (with_reducible first | exact HB.out | apply below_alloc | apply pw_below_drewN | apply below_drew1 | refine below_set ?_ GE137.out) | exact HB.out)) hb); clear HO_7; clear BK137; clear HB; have HO_7 := n0_; have BK137 := n1_; have HB := n2_; clear n0_ n1_ n2_; (try clear hb); (try clear hb2); (try clear hk); (try clear hi); have hcz78_0 : w77.cell? ⟨gb137, 0, none⟩ = some (.int .u8 ((rd_T36 l0 x9_2).f0)) := (blk_cell BK137.out 0).trans rfl; have hcz78_1 : w77.cell? ⟨gb137, 1, none⟩ = some (.int .i64 ((rd_T36 l0 x9_2).f1)) := (blk_cell BK137.out 1).trans rfl; have hcz78_2 : w77.cell? ⟨gb137, 2, none⟩ = some (.int .i64 ((rd_T36 l0 x9_2).f2)) := (blk_cell BK137.out 2).trans rfl; have hcz78_3 : w77.cell? ⟨gb137, 3, none⟩ = some (.string ((rd_T36 l0 x9_2).f3)) := (blk_cell BK137.out 3).trans rfl; have hfz78_0 := blk_frozen BK137.out 0; have hfz78_1 := blk_frozen BK137.out 1; have hfz78_2 := blk_frozen BK137.out 2; have hfz78_3 := blk_frozen BK137.out 3) | ((with_reducible refine gate_callee (f := 12) rfl ?_); refine goesL_ (some 92) rfl rfl Try.func12 (by kernel_rfl) rfl #[.int .u8 ((rd_T36 l0 x9_2).f0)] rfl (by (try simp only [List.map_toArray, List.map_cons, List.map_nil]); first | done | rfl | (simp only [List.length_drop, List.length_take]; rfl)) ?_; (with_reducible refine (prompterref14_Ends.calls ((rd_T36 l0 x9_2).f0) false _ A37.out).mono ?_); rintro e w' ⟨rfl, ⟨nd, rfl⟩⟩; refine ⟨_, rfl, ?_⟩) | ((with_reducible refine gate_callee (f := 13) rfl ?_); refine goesL_ (some 104) rfl rfl Try.func13 (by kernel_rfl) rfl #[.agg #[.int .u8 ((rd_T36 l0 x9_2).f0), .int .i64 ((rd_T36 l0 x9_2).f1), .int .i64 ((rd_T36 l0 x9_2).f2), .string ((rd_T36 l0 x9_2).f3)], .int .i64 x10_2] rfl (by (try simp only [List.map_toArray, List.map_cons, List.map_nil]); first | done | rfl | (simp only [List.length_drop, List.length_take]; rfl)) ?_; (with_reducible refine (prompterref14_Behind.calls kj29 ((rd_T36 l0 x9_2).f0) ((rd_T36 l0 x9_2).f1) ((rd_T36 l0 x9_2).f2) ((rd_T36 l0 x9_2).f3) x10_2 t141 t142 _ A53.out).mono ?_); rintro e w79 ⟨rfl, hb⟩; refine ⟨_, rfl, ?_⟩; have n0_ := Aside0.mk (Kd.R_below (by (with_reducible repeat (first | apply Kd.R_alloc | apply Kd.R_drewN | apply Kd.R_drew)); exact HO_7.out) hb); have n1_ := Aside0.mk (blk_below (g := gb137) (o := .cells #[.int .u8 ((rd_T36 l0 x9_2).f0), .int .i64 ((rd_T36 l0 x9_2).f1), .int .i64 ((rd_T36 l0 x9_2).f2), .string ((rd_T36 l0 x9_2).f3)] 36 (0, 0)) (by (with_reducible repeat (first | refine blk_drewN ?_ _ | refine blk_drew ?_ | refine blk_alloc ?_ _)); exact BK137.out) hb); have n2_ := Aside0.mk (below_step (by repeat (first | (with_reducible first | exact HB.out | apply below_alloc | apply pw_below_drewN | apply below_drew1 | refine below_set ?_ GE137.out) | exact HB.out)) hb); clear HO_7; clear BK137; clear HB; have HO_7 := n0_; have BK137 := n1_; have HB := n2_; clear n0_ n1_ n2_; (try clear hb); (try clear hb2); (try clear hk); (try clear hi); have hcz80_0 : w79.cell? ⟨gb137, 0, none⟩ = some (.int .u8 ((rd_T36 l0 x9_2).f0)) := (blk_cell BK137.out 0).trans rfl; have hcz80_1 : w79.cell? ⟨gb137, 1, none⟩ = some (.int .i64 ((rd_T36 l0 x9_2).f1)) := (blk_cell BK137.out 1).trans rfl; have hcz80_2 : w79.cell? ⟨gb137, 2, none⟩ = some (.int .i64 ((rd_T36 l0 x9_2).f2)) := (blk_cell BK137.out 2).trans rfl; have hcz80_3 : w79.cell? ⟨gb137, 3, none⟩ = some (.string ((rd_T36 l0 x9_2).f3)) := (blk_cell BK137.out 3).trans rfl; have hfz80_0 := blk_frozen BK137.out 0; have hfz80_1 := blk_frozen BK137.out 1; have hfz80_2 := blk_frozen BK137.out 2; have hfz80_3 := blk_frozen BK137.out 3))
                                                go_roundg kj29
                                                case measure => have := HJ5.out; have := HK2.out; have := HJ15.out; have := HJ23.out; have := HJ29.out; omega
                                                case rel => exact ⟨(((rd_T36 l0 x9_2).f1)), (t141), (x11_2), (x12_29), (wrap64 (x13_2 + 1)), (by first | rfl | (simp; done) | (simp [*]; done)), (by first | rfl | (simp; done) | (simp [*]; done)), (by first | rfl | (simp; done) | (simp [*]; done)), (by first | rfl | (simp; done) | (simp [*]; done)), (by first | rfl | (simp; done) | (simp [*]; done)), H', ⟨by have := HJ5.out; have := HK2.out; have := HJ15.out; have := HJ23.out; have := HJ29.out; omega⟩, ⟨by (with_reducible repeat (first | apply Kd.R_alloc | apply Kd.R_drewN | apply Kd.R_drew)); exact HO_7.out⟩, ⟨by repeat (first | (with_reducible first | exact HB.out | apply below_alloc | apply pw_below_drewN | apply below_drew1 | refine below_set ?_ GE137.out) | exact HB.out)⟩⟩
                                              · rw [if_neg c75] at H
                                                have c75b0 : (((rd_T36 l0 x9_2).f0) == 1) = false := beq_eq_false_iff_ne.mpr c75
                                                have c75b1 : (((rd_T36 l0 x9_2).f0) != 1) = true := bne_iff_ne.mpr c75
                                                by_cases c81 : 0 ≤ x13_2
                                                · rw [if_pos c81] at H
                                                  have c81b0 : decide (0 ≤ x13_2) = true := decide_eq_true c81
                                                  clear c81
                                                  by_cases c82 : x13_2 < (l2.length : Int)
                                                  · rw [if_pos c82] at H
                                                    have c82b0 : decide (x13_2 < (l2.length : Int)) = true := decide_eq_true c82
                                                    clear c82
                                                    obtain ⟨bq83, hbq83⟩ : ∃ b_ : Bool, b_ = (rdOf false l2 x13_2) := ⟨_, rfl⟩
                                                    replace H : (if bq83 = true then ((prompterref14_Of.f kj29 ((rd_T36 l0 x9_2).f0)).bind fun bt145 => (if bt145.2.1 = 1 then (prompterlaw14_InstrWays.l0 kj29 l0 l2 t131 ((rd_T36 l0 x9_2).f1) t141 x11_2 x12_29 (wrap64 (x13_2 + 1))) else (prompterlaw14_InstrWays.l0 kj29 l0 l2 t131 (wrap64 (x9_2 + 1)) t142 x11_2 x12_29 (wrap64 (x13_2 + 1))))) else (prompterlaw14_InstrWays.l0 kj29 l0 l2 t131 (wrap64 (x9_2 + 1)) t142 x11_2 x12_29 (wrap64 (x13_2 + 1)))) = some r := by rw [← hbq83] at H; exact H
                                                    have Nbq83 := Aside0.mk hbq83
                                                    clear hbq83
                                                    by_cases c84 : bq83 = true
                                                    · subst c84
                                                      have H1 : ((prompterref14_Of.f kj29 ((rd_T36 l0 x9_2).f0)).bind fun bt145 => (if bt145.2.1 = 1 then (prompterlaw14_InstrWays.l0 kj29 l0 l2 t131 ((rd_T36 l0 x9_2).f1) t141 x11_2 x12_29 (wrap64 (x13_2 + 1))) else (prompterlaw14_InstrWays.l0 kj29 l0 l2 t131 (wrap64 (x9_2 + 1)) t142 x11_2 x12_29 (wrap64 (x13_2 + 1))))) = some r := by rw [if_pos rfl] at H; exact H
                                                      clear H
                                                      have H := H1
                                                      clear H1
                                                      replace H := Option.bind_eq_some_iff.mp H
                                                      obtain ⟨⟨t145, t146, t147, t148, t149, t150, t151⟩, A850, H⟩ := H
                                                      replace H : (if t146 = 1 then (prompterlaw14_InstrWays.l0 kj29 l0 l2 t131 ((rd_T36 l0 x9_2).f1) t141 x11_2 x12_29 (wrap64 (x13_2 + 1))) else (prompterlaw14_InstrWays.l0 kj29 l0 l2 t131 (wrap64 (x9_2 + 1)) t142 x11_2 x12_29 (wrap64 (x13_2 + 1)))) = some r := H
                                                      have A85 := Aside0.mk A850
                                                      clear A850
                                                      by_cases c86 : t146 = 1
                                                      · rw [if_pos c86] at H
                                                        have c86b0 : (t146 == 1) = true := beq_iff_eq.mpr c86
                                                        have c86b1 : (t146 != 1) = false := bne_eq_false_iff_eq.mpr c86
                                                        clear c86
                                                        have H' := Aside0.mk H
                                                        clear H
                                                        have hcz87_0 : wc.cell? ⟨gb137, 0, none⟩ = some (.int .u8 ((rd_T36 l0 x9_2).f0)) := (blk_cell BK137.out 0).trans rfl
                                                        have hcz87_1 : wc.cell? ⟨gb137, 1, none⟩ = some (.int .i64 ((rd_T36 l0 x9_2).f1)) := (blk_cell BK137.out 1).trans rfl
                                                        have hcz87_2 : wc.cell? ⟨gb137, 2, none⟩ = some (.int .i64 ((rd_T36 l0 x9_2).f2)) := (blk_cell BK137.out 2).trans rfl
                                                        have hcz87_3 : wc.cell? ⟨gb137, 3, none⟩ = some (.string ((rd_T36 l0 x9_2).f3)) := (blk_cell BK137.out 3).trans rfl
                                                        have hfz87_0 := blk_frozen BK137.out 0
                                                        have hfz87_1 := blk_frozen BK137.out 1
                                                        have hfz87_2 := blk_frozen BK137.out 2
                                                        have hfz87_3 := blk_frozen BK137.out 3
                                                        go_wp2_with (first | ((with_reducible refine gate_callee (f := 11) rfl ?_); refine goesL_ (some 86) rfl rfl Try.func11 (by kernel_rfl) rfl #[.agg #[.int .u8 ((rd_T36 l0 x9_2).f0), .int .i64 ((rd_T36 l0 x9_2).f1), .int .i64 ((rd_T36 l0 x9_2).f2), .string ((rd_T36 l0 x9_2).f3)]] rfl (by (try simp only [List.map_toArray, List.map_cons, List.map_nil]); first | done | rfl | (simp only [List.length_drop, List.length_take]; rfl)) ?_; (with_reducible refine (prompterref14_Takes.calls kj29 ((rd_T36 l0 x9_2).f0) ((rd_T36 l0 x9_2).f1) ((rd_T36 l0 x9_2).f2) ((rd_T36 l0 x9_2).f3) t138 _ A33.out).mono ?_); rintro e w88 ⟨rfl, hb⟩; refine ⟨_, rfl, ?_⟩; have n0_ := Aside0.mk (Kd.R_below (by (with_reducible repeat (first | apply Kd.R_alloc | apply Kd.R_drewN | apply Kd.R_drew)); exact HO_7.out) hb); have n1_ := Aside0.mk (blk_below (g := gb137) (o := .cells #[.int .u8 ((rd_T36 l0 x9_2).f0), .int .i64 ((rd_T36 l0 x9_2).f1), .int .i64 ((rd_T36 l0 x9_2).f2), .string ((rd_T36 l0 x9_2).f3)] 36 (0, 0)) (by (with_reducible repeat (first | refine blk_drewN ?_ _ | refine blk_drew ?_ | refine blk_alloc ?_ _)); exact BK137.out) hb); have n2_ := Aside0.mk (below_step (by repeat (first | (with_reducible first | exact HB.out | apply below_alloc | apply pw_below_drewN | apply below_drew1 | refine below_set ?_ GE137.out) | exact HB.out)) hb); clear HO_7; clear BK137; clear HB; have HO_7 := n0_; have BK137 := n1_; have HB := n2_; clear n0_ n1_ n2_; (try clear hb); (try clear hb2); (try clear hk); (try clear hi); have hcz89_0 : w88.cell? ⟨gb137, 0, none⟩ = some (.int .u8 ((rd_T36 l0 x9_2).f0)) := (blk_cell BK137.out 0).trans rfl; have hcz89_1 : w88.cell? ⟨gb137, 1, none⟩ = some (.int .i64 ((rd_T36 l0 x9_2).f1)) := (blk_cell BK137.out 1).trans rfl; have hcz89_2 : w88.cell? ⟨gb137, 2, none⟩ = some (.int .i64 ((rd_T36 l0 x9_2).f2)) := (blk_cell BK137.out 2).trans rfl; have hcz89_3 : w88.cell? ⟨gb137, 3, none⟩ = some (.string ((rd_T36 l0 x9_2).f3)) := (blk_cell BK137.out 3).trans rfl; have hfz89_0 := blk_frozen BK137.out 0; have hfz89_1 := blk_frozen BK137.out 1; have hfz89_2 := blk_frozen BK137.out 2; have hfz89_3 := blk_frozen BK137.out 3) | ((with_reducible refine gate_callee (f := 12) rfl ?_); refine goesL_ (some 92) rfl rfl Try.func12 (by kernel_rfl) rfl #[.int .u8 ((rd_T36 l0 x9_2).f0)] rfl (by (try simp only [List.map_toArray, List.map_cons, List.map_nil]); first | done | rfl | (simp only [List.length_drop, List.length_take]; rfl)) ?_; (with_reducible refine (prompterref14_Ends.calls ((rd_T36 l0 x9_2).f0) false _ A37.out).mono ?_); rintro e w' ⟨rfl, ⟨nd, rfl⟩⟩; refine ⟨_, rfl, ?_⟩) | ((with_reducible refine gate_callee (f := 13) rfl ?_); refine goesL_ (some 104) rfl rfl Try.func13 (by kernel_rfl) rfl #[.agg #[.int .u8 ((rd_T36 l0 x9_2).f0), .int .i64 ((rd_T36 l0 x9_2).f1), .int .i64 ((rd_T36 l0 x9_2).f2), .string ((rd_T36 l0 x9_2).f3)], .int .i64 x10_2] rfl (by (try simp only [List.map_toArray, List.map_cons, List.map_nil]); first | done | rfl | (simp only [List.length_drop, List.length_take]; rfl)) ?_; (with_reducible refine (prompterref14_Behind.calls kj29 ((rd_T36 l0 x9_2).f0) ((rd_T36 l0 x9_2).f1) ((rd_T36 l0 x9_2).f2) ((rd_T36 l0 x9_2).f3) x10_2 t141 t142 _ A53.out).mono ?_); rintro e w90 ⟨rfl, hb⟩; refine ⟨_, rfl, ?_⟩; have n0_ := Aside0.mk (Kd.R_below (by (with_reducible repeat (first | apply Kd.R_alloc | apply Kd.R_drewN | apply Kd.R_drew)); exact HO_7.out) hb); have n1_ := Aside0.mk (blk_below (g := gb137) (o := .cells #[.int .u8 ((rd_T36 l0 x9_2).f0), .int .i64 ((rd_T36 l0 x9_2).f1), .int .i64 ((rd_T36 l0 x9_2).f2), .string ((rd_T36 l0 x9_2).f3)] 36 (0, 0)) (by (with_reducible repeat (first | refine blk_drewN ?_ _ | refine blk_drew ?_ | refine blk_alloc ?_ _)); exact BK137.out) hb); have n2_ := Aside0.mk (below_step (by repeat (first | (with_reducible first | exact HB.out | apply below_alloc | apply pw_below_drewN | apply below_drew1 | refine below_set ?_ GE137.out) | exact HB.out)) hb); clear HO_7; clear BK137; clear HB; have HO_7 := n0_; have BK137 := n1_; have HB := n2_; clear n0_ n1_ n2_; (try clear hb); (try clear hb2); (try clear hk); (try clear hi); have hcz91_0 : w90.cell? ⟨gb137, 0, none⟩ = some (.int .u8 ((rd_T36 l0 x9_2).f0)) := (blk_cell BK137.out 0).trans rfl; have hcz91_1 : w90.cell? ⟨gb137, 1, none⟩ = some (.int .i64 ((rd_T36 l0 x9_2).f1)) := (blk_cell BK137.out 1).trans rfl; have hcz91_2 : w90.cell? ⟨gb137, 2, none⟩ = some (.int .i64 ((rd_T36 l0 x9_2).f2)) := (blk_cell BK137.out 2).trans rfl; have hcz91_3 : w90.cell? ⟨gb137, 3, none⟩ = some (.string ((rd_T36 l0 x9_2).f3)) := (blk_cell BK137.out 3).trans rfl; have hfz91_0 := blk_frozen BK137.out 0; have hfz91_1 := blk_frozen BK137.out 1; have hfz91_2 := blk_frozen BK137.out 2; have hfz91_3 := blk_frozen BK137.out 3; have p144 : 0 ≤ (x13_2 : Int) := of_decide_eq_true (by first | (with_reducible assumption) | assumption); have q144 : x13_2 < (l2.length : Int) := of_decide_eq_true (by first | (with_reducible assumption) | assumption); obtain ⟨ad144, e144, hx144_0⟩ := Kd.at_bool HR2.out x13_2 p144 q144; (try rw [← Nbq83.out] at hx144_0); cases e144; replace hx144_0 := (HB.out.cell (World.block_lt_of_cell? w _ hx144_0)).trans hx144_0; replace p144 := eq_true p144; replace q144 := eq_true q144) | (go_at_call 14; (with_reducible refine (prompterref14_Of.calls kj29 ((rd_T36 l0 x9_2).f0) t145 t146 t147 t148 t149 t150 t151 _ A85.out).mono ?_); rintro e w92 ⟨rfl, hb⟩; have n0_ := Aside0.mk (Kd.R_below (by (with_reducible repeat (first | apply Kd.R_alloc | apply Kd.R_drewN | apply Kd.R_drew)); exact HO_7.out) hb); have n1_ := Aside0.mk (blk_below (g := gb137) (o := .cells #[.int .u8 ((rd_T36 l0 x9_2).f0), .int .i64 ((rd_T36 l0 x9_2).f1), .int .i64 ((rd_T36 l0 x9_2).f2), .string ((rd_T36 l0 x9_2).f3)] 36 (0, 0)) (by (with_reducible repeat (first | refine blk_drewN ?_ _ | refine blk_drew ?_ | refine blk_alloc ?_ _)); exact BK137.out) hb); have n2_ := Aside0.mk (below_step (by repeat (first | (with_reducible first | exact HB.out | apply below_alloc | apply pw_below_drewN | apply below_drew1 | refine below_set ?_ GE137.out) | exact HB.out)) hb); clear HO_7; clear BK137; clear HB; have HO_7 := n0_; have BK137 := n1_; have HB := n2_; clear n0_ n1_ n2_; (try clear hb); (try clear hb2); (try clear hk); (try clear hi); have hcz93_0 : w92.cell? ⟨gb137, 0, none⟩ = some (.int .u8 ((rd_T36 l0 x9_2).f0)) := (blk_cell BK137.out 0).trans rfl; have hcz93_1 : w92.cell? ⟨gb137, 1, none⟩ = some (.int .i64 ((rd_T36 l0 x9_2).f1)) := (blk_cell BK137.out 1).trans rfl; have hcz93_2 : w92.cell? ⟨gb137, 2, none⟩ = some (.int .i64 ((rd_T36 l0 x9_2).f2)) := (blk_cell BK137.out 2).trans rfl; have hcz93_3 : w92.cell? ⟨gb137, 3, none⟩ = some (.string ((rd_T36 l0 x9_2).f3)) := (blk_cell BK137.out 3).trans rfl; have hfz93_0 := blk_frozen BK137.out 0; have hfz93_1 := blk_frozen BK137.out 1; have hfz93_2 := blk_frozen BK137.out 2; have hfz93_3 := blk_frozen BK137.out 3))
                                                        go_roundg kj29
                                                        case measure => have := HJ5.out; have := HK2.out; have := HJ15.out; have := HJ23.out; have := HJ29.out; omega
                                                        case rel => exact ⟨(((rd_T36 l0 x9_2).f1)), (t141), (x11_2), (x12_29), (wrap64 (x13_2 + 1)), (by first | rfl | (simp; done) | (simp [*]; done)), (by first | rfl | (simp; done) | (simp [*]; done)), (by first | rfl | (simp; done) | (simp [*]; done)), (by first | rfl | (simp; done) | (simp [*]; done)), (by first | rfl | (simp; done) | (simp [*]; done)), H', ⟨by have := HJ5.out; have := HK2.out; have := HJ15.out; have := HJ23.out; have := HJ29.out; omega⟩, ⟨by (with_reducible repeat (first | apply Kd.R_alloc | apply Kd.R_drewN | apply Kd.R_drew)); exact HO_7.out⟩, ⟨by repeat (first | (with_reducible first | exact HB.out | apply below_alloc | apply pw_below_drewN | apply below_drew1 | refine below_set ?_ GE137.out) | exact HB.out)⟩⟩
                                                      · rw [if_neg c86] at H
                                                        have c86b0 : (t146 == 1) = false := beq_eq_false_iff_ne.mpr c86
                                                        have c86b1 : (t146 != 1) = true := bne_iff_ne.mpr c86
                                                        have H' := Aside0.mk H
                                                        clear H
                                                        have hcz94_0 : wc.cell? ⟨gb137, 0, none⟩ = some (.int .u8 ((rd_T36 l0 x9_2).f0)) := (blk_cell BK137.out 0).trans rfl
                                                        have hcz94_1 : wc.cell? ⟨gb137, 1, none⟩ = some (.int .i64 ((rd_T36 l0 x9_2).f1)) := (blk_cell BK137.out 1).trans rfl
                                                        have hcz94_2 : wc.cell? ⟨gb137, 2, none⟩ = some (.int .i64 ((rd_T36 l0 x9_2).f2)) := (blk_cell BK137.out 2).trans rfl
                                                        have hcz94_3 : wc.cell? ⟨gb137, 3, none⟩ = some (.string ((rd_T36 l0 x9_2).f3)) := (blk_cell BK137.out 3).trans rfl
                                                        have hfz94_0 := blk_frozen BK137.out 0
                                                        have hfz94_1 := blk_frozen BK137.out 1
                                                        have hfz94_2 := blk_frozen BK137.out 2
                                                        have hfz94_3 := blk_frozen BK137.out 3
                                                        go_wp2_with (first | ((with_reducible refine gate_callee (f := 11) rfl ?_); refine goesL_ (some 86) rfl rfl Try.func11 (by kernel_rfl) rfl #[.agg #[.int .u8 ((rd_T36 l0 x9_2).f0), .int .i64 ((rd_T36 l0 x9_2).f1), .int .i64 ((rd_T36 l0 x9_2).f2), .string ((rd_T36 l0 x9_2).f3)]] rfl (by (try simp only [List.map_toArray, List.map_cons, List.map_nil]); first | done | rfl | (simp only [List.length_drop, List.length_take]; rfl)) ?_; (with_reducible refine (prompterref14_Takes.calls kj29 ((rd_T36 l0 x9_2).f0) ((rd_T36 l0 x9_2).f1) ((rd_T36 l0 x9_2).f2) ((rd_T36 l0 x9_2).f3) t138 _ A33.out).mono ?_); rintro e w95 ⟨rfl, hb⟩; refine ⟨_, rfl, ?_⟩; have n0_ := Aside0.mk (Kd.R_below (by (with_reducible repeat (first | apply Kd.R_alloc | apply Kd.R_drewN | apply Kd.R_drew)); exact HO_7.out) hb); have n1_ := Aside0.mk (blk_below (g := gb137) (o := .cells #[.int .u8 ((rd_T36 l0 x9_2).f0), .int .i64 ((rd_T36 l0 x9_2).f1), .int .i64 ((rd_T36 l0 x9_2).f2), .string ((rd_T36 l0 x9_2).f3)] 36 (0, 0)) (by (with_reducible repeat (first | refine blk_drewN ?_ _ | refine blk_drew ?_ | refine blk_alloc ?_ _)); exact BK137.out) hb); have n2_ := Aside0.mk (below_step (by repeat (first | (with_reducible first | exact HB.out | apply below_alloc | apply pw_below_drewN | apply below_drew1 | refine below_set ?_ GE137.out) | exact HB.out)) hb); clear HO_7; clear BK137; clear HB; have HO_7 := n0_; have BK137 := n1_; have HB := n2_; clear n0_ n1_ n2_; (try clear hb); (try clear hb2); (try clear hk); (try clear hi); have hcz96_0 : w95.cell? ⟨gb137, 0, none⟩ = some (.int .u8 ((rd_T36 l0 x9_2).f0)) := (blk_cell BK137.out 0).trans rfl; have hcz96_1 : w95.cell? ⟨gb137, 1, none⟩ = some (.int .i64 ((rd_T36 l0 x9_2).f1)) := (blk_cell BK137.out 1).trans rfl; have hcz96_2 : w95.cell? ⟨gb137, 2, none⟩ = some (.int .i64 ((rd_T36 l0 x9_2).f2)) := (blk_cell BK137.out 2).trans rfl; have hcz96_3 : w95.cell? ⟨gb137, 3, none⟩ = some (.string ((rd_T36 l0 x9_2).f3)) := (blk_cell BK137.out 3).trans rfl; have hfz96_0 := blk_frozen BK137.out 0; have hfz96_1 := blk_frozen BK137.out 1; have hfz96_2 := blk_frozen BK137.out 2; have hfz96_3 := blk_frozen BK137.out 3) | ((with_reducible refine gate_callee (f := 12) rfl ?_); refine goesL_ (some 92) rfl rfl Try.func12 (by kernel_rfl) rfl #[.int .u8 ((rd_T36 l0 x9_2).f0)] rfl (by (try simp only [List.map_toArray, List.map_cons, List.map_nil]); first | done | rfl | (simp only [List.length_drop, List.length_take]; rfl)) ?_; (with_reducible refine (prompterref14_Ends.calls ((rd_T36 l0 x9_2).f0) false _ A37.out).mono ?_); rintro e w' ⟨rfl, ⟨nd, rfl⟩⟩; refine ⟨_, rfl, ?_⟩) | ((with_reducible refine gate_callee (f := 13) rfl ?_); refine goesL_ (some 104) rfl rfl Try.func13 (by kernel_rfl) rfl #[.agg #[.int .u8 ((rd_T36 l0 x9_2).f0), .int .i64 ((rd_T36 l0 x9_2).f1), .int .i64 ((rd_T36 l0 x9_2).f2), .string ((rd_T36 l0 x9_2).f3)], .int .i64 x10_2] rfl (by (try simp only [List.map_toArray, List.map_cons, List.map_nil]); first | done | rfl | (simp only [List.length_drop, List.length_take]; rfl)) ?_; (with_reducible refine (prompterref14_Behind.calls kj29 ((rd_T36 l0 x9_2).f0) ((rd_T36 l0 x9_2).f1) ((rd_T36 l0 x9_2).f2) ((rd_T36 l0 x9_2).f3) x10_2 t141 t142 _ A53.out).mono ?_); rintro e w97 ⟨rfl, hb⟩; refine ⟨_, rfl, ?_⟩; have n0_ := Aside0.mk (Kd.R_below (by (with_reducible repeat (first | apply Kd.R_alloc | apply Kd.R_drewN | apply Kd.R_drew)); exact HO_7.out) hb); have n1_ := Aside0.mk (blk_below (g := gb137) (o := .cells #[.int .u8 ((rd_T36 l0 x9_2).f0), .int .i64 ((rd_T36 l0 x9_2).f1), .int .i64 ((rd_T36 l0 x9_2).f2), .string ((rd_T36 l0 x9_2).f3)] 36 (0, 0)) (by (with_reducible repeat (first | refine blk_drewN ?_ _ | refine blk_drew ?_ | refine blk_alloc ?_ _)); exact BK137.out) hb); have n2_ := Aside0.mk (below_step (by repeat (first | (with_reducible first | exact HB.out | apply below_alloc | apply pw_below_drewN | apply below_drew1 | refine below_set ?_ GE137.out) | exact HB.out)) hb); clear HO_7; clear BK137; clear HB; have HO_7 := n0_; have BK137 := n1_; have HB := n2_; clear n0_ n1_ n2_; (try clear hb); (try clear hb2); (try clear hk); (try clear hi); have hcz98_0 : w97.cell? ⟨gb137, 0, none⟩ = some (.int .u8 ((rd_T36 l0 x9_2).f0)) := (blk_cell BK137.out 0).trans rfl; have hcz98_1 : w97.cell? ⟨gb137, 1, none⟩ = some (.int .i64 ((rd_T36 l0 x9_2).f1)) := (blk_cell BK137.out 1).trans rfl; have hcz98_2 : w97.cell? ⟨gb137, 2, none⟩ = some (.int .i64 ((rd_T36 l0 x9_2).f2)) := (blk_cell BK137.out 2).trans rfl; have hcz98_3 : w97.cell? ⟨gb137, 3, none⟩ = some (.string ((rd_T36 l0 x9_2).f3)) := (blk_cell BK137.out 3).trans rfl; have hfz98_0 := blk_frozen BK137.out 0; have hfz98_1 := blk_frozen BK137.out 1; have hfz98_2 := blk_frozen BK137.out 2; have hfz98_3 := blk_frozen BK137.out 3; have p144 : 0 ≤ (x13_2 : Int) := of_decide_eq_true (by first | (with_reducible assumption) | assumption); have q144 : x13_2 < (l2.length : Int) := of_decide_eq_true (by first | (with_reducible assumption) | assumption); obtain ⟨ad144, e144, hx144_0⟩ := Kd.at_bool HR2.out x13_2 p144 q144; (try rw [← Nbq83.out] at hx144_0); cases e144; replace hx144_0 := (HB.out.cell (World.block_lt_of_cell? w _ hx144_0)).trans hx144_0; replace p144 := eq_true p144; replace q144 := eq_true q144) | (go_at_call 14; (with_reducible refine (prompterref14_Of.calls kj29 ((rd_T36 l0 x9_2).f0) t145 t146 t147 t148 t149 t150 t151 _ A85.out).mono ?_); rintro e w99 ⟨rfl, hb⟩; have n0_ := Aside0.mk (Kd.R_below (by (with_reducible repeat (first | apply Kd.R_alloc | apply Kd.R_drewN | apply Kd.R_drew)); exact HO_7.out) hb); have n1_ := Aside0.mk (blk_below (g := gb137) (o := .cells #[.int .u8 ((rd_T36 l0 x9_2).f0), .int .i64 ((rd_T36 l0 x9_2).f1), .int .i64 ((rd_T36 l0 x9_2).f2), .string ((rd_T36 l0 x9_2).f3)] 36 (0, 0)) (by (with_reducible repeat (first | refine blk_drewN ?_ _ | refine blk_drew ?_ | refine blk_alloc ?_ _)); exact BK137.out) hb); have n2_ := Aside0.mk (below_step (by repeat (first | (with_reducible first | exact HB.out | apply below_alloc | apply pw_below_drewN | apply below_drew1 | refine below_set ?_ GE137.out) | exact HB.out)) hb); clear HO_7; clear BK137; clear HB; have HO_7 := n0_; have BK137 := n1_; have HB := n2_; clear n0_ n1_ n2_; (try clear hb); (try clear hb2); (try clear hk); (try clear hi)))
                                                        go_roundg kj29
                                                        case measure => have := HJ5.out; have := HK2.out; have := HJ15.out; have := HJ23.out; have := HJ29.out; omega
                                                        case rel => exact ⟨(wrap64 (x9_2 + 1)), (t142), (x11_2), (x12_29), (wrap64 (x13_2 + 1)), (by first | rfl | (simp; done) | (simp [*]; done)), (by first | rfl | (simp; done) | (simp [*]; done)), (by first | rfl | (simp; done) | (simp [*]; done)), (by first | rfl | (simp; done) | (simp [*]; done)), (by first | rfl | (simp; done) | (simp [*]; done)), H', ⟨by have := HJ5.out; have := HK2.out; have := HJ15.out; have := HJ23.out; have := HJ29.out; omega⟩, ⟨by (with_reducible repeat (first | apply Kd.R_alloc | apply Kd.R_drewN | apply Kd.R_drew)); exact HO_7.out⟩, ⟨by repeat (first | (with_reducible first | exact HB.out | apply below_alloc | apply pw_below_drewN | apply below_drew1 | refine below_set ?_ GE137.out) | exact HB.out)⟩⟩
                                                    · replace c84 := Bool.eq_false_iff.mpr c84
                                                      subst c84
                                                      have H1 : (prompterlaw14_InstrWays.l0 kj29 l0 l2 t131 (wrap64 (x9_2 + 1)) t142 x11_2 x12_29 (wrap64 (x13_2 + 1))) = some r := by rw [if_neg (show ¬ (false = true) by decide)] at H; exact H
                                                      clear H
                                                      have H := H1
                                                      clear H1
                                                      have H' := Aside0.mk H
                                                      clear H
                                                      have hcz100_0 : wc.cell? ⟨gb137, 0, none⟩ = some (.int .u8 ((rd_T36 l0 x9_2).f0)) := (blk_cell BK137.out 0).trans rfl
                                                      have hcz100_1 : wc.cell? ⟨gb137, 1, none⟩ = some (.int .i64 ((rd_T36 l0 x9_2).f1)) := (blk_cell BK137.out 1).trans rfl
                                                      have hcz100_2 : wc.cell? ⟨gb137, 2, none⟩ = some (.int .i64 ((rd_T36 l0 x9_2).f2)) := (blk_cell BK137.out 2).trans rfl
                                                      have hcz100_3 : wc.cell? ⟨gb137, 3, none⟩ = some (.string ((rd_T36 l0 x9_2).f3)) := (blk_cell BK137.out 3).trans rfl
                                                      have hfz100_0 := blk_frozen BK137.out 0
                                                      have hfz100_1 := blk_frozen BK137.out 1
                                                      have hfz100_2 := blk_frozen BK137.out 2
                                                      have hfz100_3 := blk_frozen BK137.out 3
                                                      go_wp2_with (first | ((with_reducible refine gate_callee (f := 11) rfl ?_); refine goesL_ (some 86) rfl rfl Try.func11 (by kernel_rfl) rfl #[.agg #[.int .u8 ((rd_T36 l0 x9_2).f0), .int .i64 ((rd_T36 l0 x9_2).f1), .int .i64 ((rd_T36 l0 x9_2).f2), .string ((rd_T36 l0 x9_2).f3)]] rfl (by (try simp only [List.map_toArray, List.map_cons, List.map_nil]); first | done | rfl | (simp only [List.length_drop, List.length_take]; rfl)) ?_; (with_reducible refine (prompterref14_Takes.calls kj29 ((rd_T36 l0 x9_2).f0) ((rd_T36 l0 x9_2).f1) ((rd_T36 l0 x9_2).f2) ((rd_T36 l0 x9_2).f3) t138 _ A33.out).mono ?_); rintro e w101 ⟨rfl, hb⟩; refine ⟨_, rfl, ?_⟩; have n0_ := Aside0.mk (Kd.R_below (by (with_reducible repeat (first | apply Kd.R_alloc | apply Kd.R_drewN | apply Kd.R_drew)); exact HO_7.out) hb); have n1_ := Aside0.mk (blk_below (g := gb137) (o := .cells #[.int .u8 ((rd_T36 l0 x9_2).f0), .int .i64 ((rd_T36 l0 x9_2).f1), .int .i64 ((rd_T36 l0 x9_2).f2), .string ((rd_T36 l0 x9_2).f3)] 36 (0, 0)) (by (with_reducible repeat (first | refine blk_drewN ?_ _ | refine blk_drew ?_ | refine blk_alloc ?_ _)); exact BK137.out) hb); have n2_ := Aside0.mk (below_step (by repeat (first | (with_reducible first | exact HB.out | apply below_alloc | apply pw_below_drewN | apply below_drew1 | refine below_set ?_ GE137.out) | exact HB.out)) hb); clear HO_7; clear BK137; clear HB; have HO_7 := n0_; have BK137 := n1_; have HB := n2_; clear n0_ n1_ n2_; (try clear hb); (try clear hb2); (try clear hk); (try clear hi); have hcz102_0 : w101.cell? ⟨gb137, 0, none⟩ = some (.int .u8 ((rd_T36 l0 x9_2).f0)) := (blk_cell BK137.out 0).trans rfl; have hcz102_1 : w101.cell? ⟨gb137, 1, none⟩ = some (.int .i64 ((rd_T36 l0 x9_2).f1)) := (blk_cell BK137.out 1).trans rfl; have hcz102_2 : w101.cell? ⟨gb137, 2, none⟩ = some (.int .i64 ((rd_T36 l0 x9_2).f2)) := (blk_cell BK137.out 2).trans rfl; have hcz102_3 : w101.cell? ⟨gb137, 3, none⟩ = some (.string ((rd_T36 l0 x9_2).f3)) := (blk_cell BK137.out 3).trans rfl; have hfz102_0 := blk_frozen BK137.out 0; have hfz102_1 := blk_frozen BK137.out 1; have hfz102_2 := blk_frozen BK137.out 2; have hfz102_3 := blk_frozen BK137.out 3) | ((with_reducible refine gate_callee (f := 12) rfl ?_); refine goesL_ (some 92) rfl rfl Try.func12 (by kernel_rfl) rfl #[.int .u8 ((rd_T36 l0 x9_2).f0)] rfl (by (try simp only [List.map_toArray, List.map_cons, List.map_nil]); first | done | rfl | (simp only [List.length_drop, List.length_take]; rfl)) ?_; (with_reducible refine (prompterref14_Ends.calls ((rd_T36 l0 x9_2).f0) false _ A37.out).mono ?_); rintro e w' ⟨rfl, ⟨nd, rfl⟩⟩; refine ⟨_, rfl, ?_⟩) | ((with_reducible refine gate_callee (f := 13) rfl ?_); refine goesL_ (some 104) rfl rfl Try.func13 (by kernel_rfl) rfl #[.agg #[.int .u8 ((rd_T36 l0 x9_2).f0), .int .i64 ((rd_T36 l0 x9_2).f1), .int .i64 ((rd_T36 l0 x9_2).f2), .string ((rd_T36 l0 x9_2).f3)], .int .i64 x10_2] rfl (by (try simp only [List.map_toArray, List.map_cons, List.map_nil]); first | done | rfl | (simp only [List.length_drop, List.length_take]; rfl)) ?_; (with_reducible refine (prompterref14_Behind.calls kj29 ((rd_T36 l0 x9_2).f0) ((rd_T36 l0 x9_2).f1) ((rd_T36 l0 x9_2).f2) ((rd_T36 l0 x9_2).f3) x10_2 t141 t142 _ A53.out).mono ?_); rintro e w103 ⟨rfl, hb⟩; refine ⟨_, rfl, ?_⟩; have n0_ := Aside0.mk (Kd.R_below (by (with_reducible repeat (first | apply Kd.R_alloc | apply Kd.R_drewN | apply Kd.R_drew)); exact HO_7.out) hb); have n1_ := Aside0.mk (blk_below (g := gb137) (o := .cells #[.int .u8 ((rd_T36 l0 x9_2).f0), .int .i64 ((rd_T36 l0 x9_2).f1), .int .i64 ((rd_T36 l0 x9_2).f2), .string ((rd_T36 l0 x9_2).f3)] 36 (0, 0)) (by (with_reducible repeat (first | refine blk_drewN ?_ _ | refine blk_drew ?_ | refine blk_alloc ?_ _)); exact BK137.out) hb); have n2_ := Aside0.mk (below_step (by repeat (first | (with_reducible first | exact HB.out | apply below_alloc | apply pw_below_drewN | apply below_drew1 | refine below_set ?_ GE137.out) | exact HB.out)) hb); clear HO_7; clear BK137; clear HB; have HO_7 := n0_; have BK137 := n1_; have HB := n2_; clear n0_ n1_ n2_; (try clear hb); (try clear hb2); (try clear hk); (try clear hi); have hcz104_0 : w103.cell? ⟨gb137, 0, none⟩ = some (.int .u8 ((rd_T36 l0 x9_2).f0)) := (blk_cell BK137.out 0).trans rfl; have hcz104_1 : w103.cell? ⟨gb137, 1, none⟩ = some (.int .i64 ((rd_T36 l0 x9_2).f1)) := (blk_cell BK137.out 1).trans rfl; have hcz104_2 : w103.cell? ⟨gb137, 2, none⟩ = some (.int .i64 ((rd_T36 l0 x9_2).f2)) := (blk_cell BK137.out 2).trans rfl; have hcz104_3 : w103.cell? ⟨gb137, 3, none⟩ = some (.string ((rd_T36 l0 x9_2).f3)) := (blk_cell BK137.out 3).trans rfl; have hfz104_0 := blk_frozen BK137.out 0; have hfz104_1 := blk_frozen BK137.out 1; have hfz104_2 := blk_frozen BK137.out 2; have hfz104_3 := blk_frozen BK137.out 3; have p144 : 0 ≤ (x13_2 : Int) := of_decide_eq_true (by first | (with_reducible assumption) | assumption); have q144 : x13_2 < (l2.length : Int) := of_decide_eq_true (by first | (with_reducible assumption) | assumption); obtain ⟨ad144, e144, hx144_0⟩ := Kd.at_bool HR2.out x13_2 p144 q144; (try rw [← Nbq83.out] at hx144_0); cases e144; replace hx144_0 := (HB.out.cell (World.block_lt_of_cell? w _ hx144_0)).trans hx144_0; replace p144 := eq_true p144; replace q144 := eq_true q144))
                                                      go_roundg kj29
                                                      case measure => have := HJ5.out; have := HK2.out; have := HJ15.out; have := HJ23.out; have := HJ29.out; omega
                                                      case rel => exact ⟨(wrap64 (x9_2 + 1)), (t142), (x11_2), (x12_29), (wrap64 (x13_2 + 1)), (by first | rfl | (simp; done) | (simp [*]; done)), (by first | rfl | (simp; done) | (simp [*]; done)), (by first | rfl | (simp; done) | (simp [*]; done)), (by first | rfl | (simp; done) | (simp [*]; done)), (by first | rfl | (simp; done) | (simp [*]; done)), H', ⟨by have := HJ5.out; have := HK2.out; have := HJ15.out; have := HJ23.out; have := HJ29.out; omega⟩, ⟨by (with_reducible repeat (first | apply Kd.R_alloc | apply Kd.R_drewN | apply Kd.R_drew)); exact HO_7.out⟩, ⟨by repeat (first | (with_reducible first | exact HB.out | apply below_alloc | apply pw_below_drewN | apply below_drew1 | refine below_set ?_ GE137.out) | exact HB.out)⟩⟩
                                                  · rw [if_neg c82] at H
                                                    exact absurd H (by simp)
                                                · rw [if_neg c81] at H
                                                  exact absurd H (by simp)
                            · rw [if_neg c23] at H
                              exact absurd H (by simp)
                          · rw [if_neg c22] at H
                            exact absurd H (by simp)
                  · rw [if_neg c15] at H
                    have c15b0 : decide (x13_2 < (l2.length : Int)) = false := decide_eq_false c15
                    clear c15
                    obtain rfl := Option.some.inj H
                    go_wp2
                    go_ret
                    exact ⟨by first | rfl | (simp [errW_none, errW_some] <;> rfl) | (simp [*, errW_none, errW_some] <;> rfl), by repeat (first | (with_reducible first | exact HB.out | apply below_alloc | apply pw_below_drewN | apply below_drew1) | exact HB.out)⟩
            · rw [if_neg c12] at H
              have c12b0 : ((t131.length : Int) == (l0.length : Int)) = false := beq_eq_false_iff_ne.mpr c12
              have c12b1 : ((t131.length : Int) != (l0.length : Int)) = true := bne_iff_ne.mpr c12
              have c12b2 : (t131.length == l0.length) = false := by first | simpa using c12 | (simp at c12 ⊢; omega)
              obtain rfl := Option.some.inj H
              go_wp2_with (first | ((with_reducible refine gate_callee (f := 10) rfl ?_); refine goesL_ (some 32) rfl rfl Try.func10 (by kernel_rfl) rfl #[.slice A0 l0.length c0, .int .i64 a1] rfl (by (try simp only [List.map_toArray, List.map_cons, List.map_nil]); first | done | rfl | (simp only [List.length_drop, List.length_take]; rfl)) ?_; (with_reducible refine (instr_Depths.calls _ _ l0 a1 t131 t132 _ ?side1 ?side2 A10.out).mono ?_); (case side1 => repeat (first | exact (Kd.C_below HR0.out HB.out) | (with_reducible refine Kd.C_alloc ?_ _) | (with_reducible refine Kd.C_drewN ?_ _) | (with_reducible refine Kd.C_drew ?_))); (case side2 => exact HC0.out); rintro e w105 ⟨v133, rfl, ho0, hb⟩; refine ⟨_, rfl, ?_⟩; have n0_ := Aside0.mk (Kd.R_lower ho0 (below_size (by repeat (first | (with_reducible first | exact HB.out | apply below_alloc | apply pw_below_drewN | apply below_drew1) | exact HB.out)))); have n1_ := Aside0.mk (below_step (by repeat (first | (with_reducible first | exact HB.out | apply below_alloc | apply pw_below_drewN | apply below_drew1) | exact HB.out)) hb); clear HB; have HO134 := n0_; have HB := n1_; clear n0_ n1_; (try clear hb); (try clear hb2); (try clear hk); (try clear hi); (try clear ho0); obtain ⟨Ao106, co106, eo106⟩ := Kd.R_slice HO134.out; subst eo106))
              go_ret
              exact ⟨by first | rfl | (simp [errW_none, errW_some] <;> rfl) | (simp [*, errW_none, errW_some] <;> rfl), by repeat (first | (with_reducible first | exact HB.out | apply below_alloc | apply pw_below_drewN | apply below_drew1) | exact HB.out)⟩
          · rw [if_neg c11] at H
            have c11b0 : (t132 == 0) = false := beq_eq_false_iff_ne.mpr c11
            have c11b1 : (t132 != 0) = true := bne_iff_ne.mpr c11
            obtain rfl := Option.some.inj H
            go_wp2_with (first | ((with_reducible refine gate_callee (f := 10) rfl ?_); refine goesL_ (some 32) rfl rfl Try.func10 (by kernel_rfl) rfl #[.slice A0 l0.length c0, .int .i64 a1] rfl (by (try simp only [List.map_toArray, List.map_cons, List.map_nil]); first | done | rfl | (simp only [List.length_drop, List.length_take]; rfl)) ?_; (with_reducible refine (instr_Depths.calls _ _ l0 a1 t131 t132 _ ?side1 ?side2 A10.out).mono ?_); (case side1 => repeat (first | exact (Kd.C_below HR0.out HB.out) | (with_reducible refine Kd.C_alloc ?_ _) | (with_reducible refine Kd.C_drewN ?_ _) | (with_reducible refine Kd.C_drew ?_))); (case side2 => exact HC0.out); rintro e w107 ⟨v133, rfl, ho0, hb⟩; refine ⟨_, rfl, ?_⟩; have n0_ := Aside0.mk (Kd.R_lower ho0 (below_size (by repeat (first | (with_reducible first | exact HB.out | apply below_alloc | apply pw_below_drewN | apply below_drew1) | exact HB.out)))); have n1_ := Aside0.mk (below_step (by repeat (first | (with_reducible first | exact HB.out | apply below_alloc | apply pw_below_drewN | apply below_drew1) | exact HB.out)) hb); clear HB; have HO134 := n0_; have HB := n1_; clear n0_ n1_; (try clear hb); (try clear hb2); (try clear hk); (try clear hi); (try clear ho0); obtain ⟨Ao108, co108, eo108⟩ := Kd.R_slice HO134.out; subst eo108))
            go_ret
            exact ⟨by first | rfl | (simp [errW_none, errW_some] <;> rfl) | (simp [*, errW_none, errW_some] <;> rfl), by repeat (first | (with_reducible first | exact HB.out | apply below_alloc | apply pw_below_drewN | apply below_drew1) | exact HB.out)⟩
  · replace c5 := Bool.eq_false_iff.mpr c5
    subst c5
    have H1 : (some false) = some r := by rw [if_neg (show ¬ (false = true) by decide)] at H; exact H
    clear H
    have H := H1
    clear H1
    obtain rfl := Option.some.inj H
    go_enter Try.func4, Try.ntmps4
    go_wp2_with (first | ((with_reducible refine gate_callee (f := 6) rfl ?_); refine goesL_ (some 19) rfl rfl Try.func6 (by kernel_rfl) rfl #[] rfl (by (try simp only [List.map_toArray, List.map_cons, List.map_nil]); first | done | rfl | (simp only [List.length_drop, List.length_take]; rfl)) ?_; (with_reducible refine (prompterlaw14_awake.calls  false _ A4.out).mono ?_); rintro e w109 ⟨rfl, hb⟩; refine ⟨_, rfl, ?_⟩; have n0_ := Aside0.mk (below_step (by repeat (first | (with_reducible first | exact HB.out | apply below_alloc | apply pw_below_drewN | apply below_drew1) | exact HB.out)) hb); clear HB; have HB := n0_; clear n0_; (try clear hb); (try clear hb2); (try clear hk); (try clear hi)))
    go_ret
    exact ⟨by first | rfl | (simp [errW_none, errW_some] <;> rfl) | (simp [*, errW_none, errW_some] <;> rfl), by repeat (first | (with_reducible first | exact HB.out | apply below_alloc | apply pw_below_drewN | apply below_drew1) | exact HB.out)⟩

end Go.Proofs.Ytcpjjnikehcleaa.PChk
