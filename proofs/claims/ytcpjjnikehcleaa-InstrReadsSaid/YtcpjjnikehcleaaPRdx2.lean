-- Written by a program of this session, out of the translation, with what this session proved by hand taken in.
import Derived.Test.YtcpjjnikehcleaaPRdx0
namespace Go.Proofs.Ytcpjjnikehcleaa.PChk
open Go.RowKit Go.Proofs.YtcpjjnikehcleaaW.PrintWords Go.Proofs.YtcpjjnikehcleaaW.PrintLast Go.Proofs.YtcpjjnikehcleaaW.PrintMore
attribute [local go_sem] max2_int min2_int max_two min_two max_three min_three max_four min_four   -- for this text's walks alone
set_option linter.unusedVariables false
set_option linter.unusedSimpArgs false

/-! ### prompterlaw14_awake: function 6 -/

/-! ### instr_Read: function 15 -/

/-! ### prompterref05_ReadUint: function 28 -/
mutual
def prompterref05_ReadUint.l0 : Nat → List Int → Int → Int → Int → Option (Int × Int × Int)
  | 0, _, _, _, _ => none
  | k + 1, x0, x1, x7, x8 => if x8 < 10 then (if (wrap64 (x1 + x8)) ≥ (x0.length : Int) then (some (0, (x0.length : Int), 4)) else (if 0 ≤ (wrap64 (x1 + x8)) then (if (wrap64 (x1 + x8)) < (x0.length : Int) then (if x8 > 0 then (if (rd x0 (wrap64 (x1 + x8))) = 0 then (prompterref05_ReadUint.j1 k x0 x1 x7 x8 (rd x0 (wrap64 (x1 + x8))) true) else (if x8 = 9 then (prompterref05_ReadUint.j1 k x0 x1 x7 x8 (rd x0 (wrap64 (x1 + x8))) ((rd x0 (wrap64 (x1 + x8))) != 1)) else (prompterref05_ReadUint.j1 k x0 x1 x7 x8 (rd x0 (wrap64 (x1 + x8))) false))) else (if x8 = 9 then (prompterref05_ReadUint.j1 k x0 x1 x7 x8 (rd x0 (wrap64 (x1 + x8))) ((rd x0 (wrap64 (x1 + x8))) != 1)) else (prompterref05_ReadUint.j1 k x0 x1 x7 x8 (rd x0 (wrap64 (x1 + x8))) false))) else (none)) else (none))) else (some (0, x1, 3))
def prompterref05_ReadUint.j1 : Nat → List Int → Int → Int → Int → Int → Bool → Option (Int × Int × Int)
  | 0, _, _, _, _, _, _ => none
  | k + 1, x0, x1, x7, x8, x9, x41 => if x41 = true then (some (0, wrap64 (x1 + x8), 3)) else (if 0 ≤ (IntKind.u64.wrap (wrap64 (7 * x8))) then (if x9 < 128 then (some (IntKind.u64.wrap (x7 + (shl .u64 (IntKind.u64.wrap (Int.tmod x9 128)) (IntKind.u64.wrap (wrap64 (7 * x8))))), wrap64 ((wrap64 (x1 + x8)) + 1), 0)) else (prompterref05_ReadUint.l0 k x0 x1 (IntKind.u64.wrap (x7 + (shl .u64 (IntKind.u64.wrap (Int.tmod x9 128)) (IntKind.u64.wrap (wrap64 (7 * x8)))))) (wrap64 (x8 + 1)))) else (none))
end
def prompterref05_ReadUint.f (k : Nat) (l0 : List Int) (a1 : Int) : Option (Int × Int × Int) := prompterref05_ReadUint.l0 k l0 a1 0 0
theorem prompterref05_ReadUint.mono_l : ∀ k, (∀ y0 y1 y2 y3, LeO (prompterref05_ReadUint.l0 k y0 y1 y2 y3) (prompterref05_ReadUint.l0 (k + 1) y0 y1 y2 y3)) ∧ (∀ y0 y1 y2 y3 y4 y5, LeO (prompterref05_ReadUint.j1 k y0 y1 y2 y3 y4 y5) (prompterref05_ReadUint.j1 (k + 1) y0 y1 y2 y3 y4 y5))
  | 0 => ⟨fun _ _ _ _ r h => by simp [prompterref05_ReadUint.l0] at h, fun _ _ _ _ _ _ r h => by simp [prompterref05_ReadUint.j1] at h⟩
  | k + 1 => by
    obtain ⟨ih0, ih1⟩ := prompterref05_ReadUint.mono_l k
    refine ⟨?_, ?_⟩
    · intro y0 y1 y2 y3
      unfold prompterref05_ReadUint.l0
      repeat' first
      | (with_reducible exact ih0 _ _ _ _)
      | (with_reducible exact ih1 _ _ _ _ _ _)
      | (with_reducible exact LeO.refl _)
      | (with_reducible exact LeO.none _)
      | (with_reducible refine LeO.ite ?_ ?_)
      | (with_reducible refine LeO.bind ?_ (fun _ => ?_))
      | exact ih0 _ _ _ _
      | exact ih1 _ _ _ _ _ _
      | exact LeO.none _
      | refine LeO.ite ?_ ?_
      | refine LeO.bind ?_ (fun _ => ?_)
    · intro y0 y1 y2 y3 y4 y5
      unfold prompterref05_ReadUint.j1
      repeat' first
      | (with_reducible exact ih0 _ _ _ _)
      | (with_reducible exact ih1 _ _ _ _ _ _)
      | (with_reducible exact LeO.refl _)
      | (with_reducible exact LeO.none _)
      | (with_reducible refine LeO.ite ?_ ?_)
      | (with_reducible refine LeO.bind ?_ (fun _ => ?_))
      | exact ih0 _ _ _ _
      | exact ih1 _ _ _ _ _ _
      | exact LeO.none _
      | refine LeO.ite ?_ ?_
      | refine LeO.bind ?_ (fun _ => ?_)
theorem prompterref05_ReadUint.mono : ∀ a0 a1 k, LeO (prompterref05_ReadUint.f k a0 a1) (prompterref05_ReadUint.f (k + 1) a0 a1) := by
  intro a0 a1 k
  obtain ⟨ih0, ih1⟩ := prompterref05_ReadUint.mono_l k
  unfold prompterref05_ReadUint.f
  repeat' first
      | (with_reducible exact ih0 _ _ _ _)
      | (with_reducible exact ih1 _ _ _ _ _ _)
      | (with_reducible exact LeO.refl _)
      | (with_reducible exact LeO.none _)
      | (with_reducible refine LeO.ite ?_ ?_)
      | (with_reducible refine LeO.bind ?_ (fun _ => ?_))
      | exact ih0 _ _ _ _
      | exact ih1 _ _ _ _ _ _
      | exact LeO.none _
      | refine LeO.ite ?_ ?_
      | refine LeO.bind ?_ (fun _ => ?_)
set_option maxHeartbeats 8000000 in
set_option maxRecDepth 100000 in
theorem prompterref05_ReadUint.calls (k : Nat) (A0 : Option Addr) (c0 : Nat) (l0 : List Int) (a1 : Int) (r1 : Int) (r2 : Int) (r3 : Int) (w : World) (hr0 : Kd.C (Kd.int .u8) w A0 l0.length l0) (hc0 : l0.length ≤ c0) (h : prompterref05_ReadUint.f k l0 a1 = some (r1, r2, r3)) :
    Calls Try.prog 28 #[.slice A0 l0.length c0, .int .i64 a1] w fun e w' => e = .returned (.tuple #[.int .u64 r1, .int .i64 r2, .int .i64 r3]) ∧ Drawn0 w w' := by
  have HR0 := Aside0.mk hr0
  have HC0 := Aside0.mk hc0
  clear hr0 hc0
  have H : (prompterref05_ReadUint.l0 k l0 a1 0 0) = some (r1, r2, r3) := h
  clear h
  have H' := Aside0.mk H
  clear H
  go_enter Try.func28, Try.ntmps28
  go_wp2
  go_loopg [7, 8] k (fun kq v7 v8 w' => ∃ (x7_1 : Int) (x8_1 : Int), v7 = .int .u64 x7_1 ∧ v8 = .int .i64 x8_1 ∧ Aside0 (prompterref05_ReadUint.l0 kq l0 a1 x7_1 x8_1 = some (r1, r2, r3)) ∧ Aside0 (kq ≤ k) ∧ Drawn0 w w')
  case atStart => exact ⟨(0), (0), (by first | rfl | (simp; done) | (simp [*]; done)), (by first | rfl | (simp; done) | (simp [*]; done)), H', ⟨Nat.le_refl _⟩, by repeat (first | exact Drawn0.refl _ | apply Drawn0.step)⟩
  case round =>
    clear H'
    try clear c2
    try clear p2
    obtain ⟨x7_1, x8_1, rfl, rfl, HA, HK1, ⟨m1, rfl⟩⟩ := hrel
    cases gk with
    | zero => exact absurd HA.out (by simp [prompterref05_ReadUint.l0])
    | succ k1 =>
      have H := HA.out
      clear HA
      simp only [prompterref05_ReadUint.l0] at H
      by_cases c3 : x8_1 < 10
      · rw [if_pos c3] at H
        have c3b0 : decide (x8_1 < 10) = true := decide_eq_true c3
        clear c3
        by_cases c4 : (wrap64 (a1 + x8_1)) ≥ (l0.length : Int)
        · rw [if_pos c4] at H
          have c4b0 : decide ((l0.length : Int) ≤ (wrap64 (a1 + x8_1))) = true := decide_eq_true c4
          clear c4
          simp only [Option.some.injEq, Prod.mk.injEq] at H
          obtain ⟨rfl, rfl, rfl⟩ := H
          go_wp2
          go_ret3
          exact ⟨by first | rfl | (simp; done) | (simp [*]; done), by repeat (first | exact Drawn0.refl _ | apply Drawn0.step)⟩
        · rw [if_neg c4] at H
          have c4b0 : decide ((l0.length : Int) ≤ (wrap64 (a1 + x8_1))) = false := decide_eq_false c4
          clear c4
          obtain ⟨ji5, hji5⟩ : ∃ j_ : Int, (wrap64 (a1 + x8_1)) = j_ := ⟨_, rfl⟩
          replace H : (if 0 ≤ (ji5) then (if (ji5) < (l0.length : Int) then (if x8_1 > 0 then (if (rd l0 (ji5)) = 0 then (prompterref05_ReadUint.j1 k1 l0 a1 x7_1 x8_1 (rd l0 (ji5)) true) else (if x8_1 = 9 then (prompterref05_ReadUint.j1 k1 l0 a1 x7_1 x8_1 (rd l0 (ji5)) ((rd l0 (ji5)) != 1)) else (prompterref05_ReadUint.j1 k1 l0 a1 x7_1 x8_1 (rd l0 (ji5)) false))) else (if x8_1 = 9 then (prompterref05_ReadUint.j1 k1 l0 a1 x7_1 x8_1 (rd l0 (ji5)) ((rd l0 (ji5)) != 1)) else (prompterref05_ReadUint.j1 k1 l0 a1 x7_1 x8_1 (rd l0 (ji5)) false))) else (none)) else (none)) = some (r1, r2, r3) := by first | (rw [hji5] at H; exact H) | (simp only [hji5] at H ⊢; exact H)
          (try rw [hji5] at c4b0)
          have hji5w : (IntKind.i64.wrap (a1 + x8_1)) = ji5 := (i64_w _).trans hji5
          by_cases c6 : 0 ≤ (ji5)
          · rw [if_pos c6] at H
            have c6b0 : decide (0 ≤ (ji5)) = true := decide_eq_true c6
            clear c6
            by_cases c7 : (ji5) < (l0.length : Int)
            · rw [if_pos c7] at H
              have c7b0 : decide ((ji5) < (l0.length : Int)) = true := decide_eq_true c7
              clear c7
              have HC8 := Aside0.mk H
              clear H
              have p101 : 0 ≤ ((ji5) : Int) := of_decide_eq_true (by first | (with_reducible assumption) | assumption)
              have q101 : (ji5) < (l0.length : Int) := of_decide_eq_true (by first | (with_reducible assumption) | assumption)
              obtain ⟨ad101, e101, hx101_0⟩ := Kd.at_int HR0.out (ji5) p101 q101
              cases e101
              replace p101 := eq_true p101
              replace q101 := eq_true q101
              go_upto_region 8 with (fail)
              go_cut [41] (fun v41 wc => ∃ (kq : Nat) (x41_7 : Bool), v41 = .bool x41_7 ∧ Aside0 (prompterref05_ReadUint.j1 kq l0 a1 x7_1 x8_1 (rd l0 (ji5)) x41_7 = some (r1, r2, r3)) ∧ Aside0 (kq ≤ k1) ∧ Drawn0 w wc)
              case first =>
                have H := HC8.out
                clear HC8
                by_cases c9 : x8_1 > 0
                · rw [if_pos c9] at H
                  have c9b0 : decide (0 < x8_1) = true := decide_eq_true c9
                  clear c9
                  (first | rw [c9b0] | (simp only [i64_w, i32_w]; rw [c9b0]) | skip)
                  by_cases c10 : (rd l0 (ji5)) = 0
                  · rw [if_pos c10] at H
                    have c10b0 : ((rd l0 (ji5)) == 0) = true := beq_iff_eq.mpr c10
                    have c10b1 : ((rd l0 (ji5)) != 0) = false := bne_eq_false_iff_eq.mpr c10
                    clear c10
                    have H' := Aside0.mk H
                    clear H
                    go_wp2
                    go_meet
                    case rel => exact ⟨_, (true), (by first | rfl | (simp; done) | (simp [*]; done)), H', ⟨by have := HK1.out; first | omega | exact Nat.le_refl _⟩, by repeat (first | exact Drawn0.refl _ | apply Drawn0.step)⟩
                  · rw [if_neg c10] at H
                    have c10b0 : ((rd l0 (ji5)) == 0) = false := beq_eq_false_iff_ne.mpr c10
                    have c10b1 : ((rd l0 (ji5)) != 0) = true := bne_iff_ne.mpr c10
                    by_cases c11 : x8_1 = 9
                    · rw [if_pos c11] at H
                      have c11b0 : (x8_1 == 9) = true := beq_iff_eq.mpr c11
                      have c11b1 : (x8_1 != 9) = false := bne_eq_false_iff_eq.mpr c11
                      clear c11
                      have H' := Aside0.mk H
                      clear H
                      go_wp2
                      go_meet
                      case rel => exact ⟨_, (((rd l0 (ji5)) != 1)), (by first | rfl | (simp; done) | (simp only [← hji5] <;> (first | rfl | simp)) | (simp [*]; done)), H', ⟨by have := HK1.out; first | omega | exact Nat.le_refl _⟩, by repeat (first | exact Drawn0.refl _ | apply Drawn0.step)⟩
                    · rw [if_neg c11] at H
                      have c11b0 : (x8_1 == 9) = false := beq_eq_false_iff_ne.mpr c11
                      have c11b1 : (x8_1 != 9) = true := bne_iff_ne.mpr c11
                      have H' := Aside0.mk H
                      clear H
                      go_wp2
                      go_meet
                      case rel => exact ⟨_, (false), (by first | rfl | (simp; done) | (simp [*]; done)), H', ⟨by have := HK1.out; first | omega | exact Nat.le_refl _⟩, by repeat (first | exact Drawn0.refl _ | apply Drawn0.step)⟩
                · rw [if_neg c9] at H
                  have c9b0 : decide (0 < x8_1) = false := decide_eq_false c9
                  clear c9
                  (first | rw [c9b0] | (simp only [i64_w, i32_w]; rw [c9b0]) | skip)
                  by_cases c12 : x8_1 = 9
                  · rw [if_pos c12] at H
                    have c12b0 : (x8_1 == 9) = true := beq_iff_eq.mpr c12
                    have c12b1 : (x8_1 != 9) = false := bne_eq_false_iff_eq.mpr c12
                    clear c12
                    have H' := Aside0.mk H
                    clear H
                    go_wp2
                    go_meet
                    case rel => exact ⟨_, (((rd l0 (ji5)) != 1)), (by first | rfl | (simp; done) | (simp only [← hji5] <;> (first | rfl | simp)) | (simp [*]; done)), H', ⟨by have := HK1.out; first | omega | exact Nat.le_refl _⟩, by repeat (first | exact Drawn0.refl _ | apply Drawn0.step)⟩
                  · rw [if_neg c12] at H
                    have c12b0 : (x8_1 == 9) = false := beq_eq_false_iff_ne.mpr c12
                    have c12b1 : (x8_1 != 9) = true := bne_iff_ne.mpr c12
                    have H' := Aside0.mk H
                    clear H
                    go_wp2
                    go_meet
                    case rel => exact ⟨_, (false), (by first | rfl | (simp; done) | (simp [*]; done)), H', ⟨by have := HK1.out; first | omega | exact Nat.le_refl _⟩, by repeat (first | exact Drawn0.refl _ | apply Drawn0.step)⟩
              case rest =>
                clear HC8
                try clear c1
                try clear p1
                try clear q1
                try clear hx1
                try clear c2
                try clear p2
                try clear c3
                try clear c3b0
                try clear c4
                try clear c4b0
                try clear c6
                try clear c6b0
                try clear p6
                try clear c7
                try clear c7b0
                try clear c9
                try clear c9b0
                try clear c10
                try clear c10b0
                try clear c10b1
                try clear p10
                try clear q10
                try clear hx10
                try clear c11
                try clear c11b0
                try clear c11b1
                try clear c12
                try clear c12b0
                try clear c12b1
                try clear hx101_0
                try clear p101
                try clear p2
                try clear q101
                obtain ⟨kq, x41_7, rfl, HA, HJ7, ⟨mc7, rfl⟩⟩ := hcut
                cases kq with
                | zero => exact absurd HA.out (by simp [prompterref05_ReadUint.j1])
                | succ kj7 =>
                  have H := HA.out
                  clear HA
                  simp only [prompterref05_ReadUint.j1] at H
                  by_cases c13 : x41_7 = true
                  · subst c13
                    have H1 : (some (0, wrap64 (a1 + x8_1), 3)) = some (r1, r2, r3) := by rw [if_pos rfl] at H; exact H
                    clear H
                    have H := H1
                    clear H1
                    simp only [Option.some.injEq, Prod.mk.injEq] at H
                    obtain ⟨rfl, rfl, rfl⟩ := H
                    go_wp2
                    go_ret3
                    exact ⟨by first | rfl | (simp; done) | (simp only [← hji5] <;> (first | rfl | simp)) | (simp [*]; done), by repeat (first | exact Drawn0.refl _ | apply Drawn0.step)⟩
                  · replace c13 := Bool.eq_false_iff.mpr c13
                    subst c13
                    have H1 : (if 0 ≤ (IntKind.u64.wrap (wrap64 (7 * x8_1))) then (if (rd l0 (ji5)) < 128 then (some (IntKind.u64.wrap (x7_1 + (shl .u64 (IntKind.u64.wrap (Int.tmod (rd l0 (ji5)) 128)) (IntKind.u64.wrap (wrap64 (7 * x8_1))))), wrap64 ((wrap64 (a1 + x8_1)) + 1), 0)) else (prompterref05_ReadUint.l0 kj7 l0 a1 (IntKind.u64.wrap (x7_1 + (shl .u64 (IntKind.u64.wrap (Int.tmod (rd l0 (ji5)) 128)) (IntKind.u64.wrap (wrap64 (7 * x8_1)))))) (wrap64 (x8_1 + 1)))) else (none)) = some (r1, r2, r3) := by rw [if_neg (show ¬ (false = true) by decide)] at H; exact H
                    clear H
                    have H := H1
                    clear H1
                    obtain ⟨ji14, hji14⟩ : ∃ j_ : Int, (IntKind.u64.wrap (wrap64 (7 * x8_1))) = j_ := ⟨_, rfl⟩
                    replace H : (if 0 ≤ (ji14) then (if (rd l0 (ji5)) < 128 then (some (IntKind.u64.wrap (x7_1 + (shl .u64 (IntKind.u64.wrap (Int.tmod (rd l0 (ji5)) 128)) (ji14))), wrap64 ((wrap64 (a1 + x8_1)) + 1), 0)) else (prompterref05_ReadUint.l0 kj7 l0 a1 (IntKind.u64.wrap (x7_1 + (shl .u64 (IntKind.u64.wrap (Int.tmod (rd l0 (ji5)) 128)) (ji14)))) (wrap64 (x8_1 + 1)))) else (none)) = some (r1, r2, r3) := by first | (rw [hji14] at H; exact H) | (simp only [hji14] at H ⊢; exact H)
                    by_cases c15 : 0 ≤ (ji14)
                    · rw [if_pos c15] at H
                      have c15b0 := eq_true c15
                      have c15b1 : decide (0 ≤ (ji14)) = true := decide_eq_true c15
                      clear c15
                      obtain ⟨ji16, hji16⟩ : ∃ j_ : Int, (shl .u64 (IntKind.u64.wrap (Int.tmod (rd l0 (ji5)) 128)) (ji14)) = j_ := ⟨_, rfl⟩
                      replace H : (if (rd l0 (ji5)) < 128 then (some (IntKind.u64.wrap (x7_1 + (ji16)), wrap64 ((wrap64 (a1 + x8_1)) + 1), 0)) else (prompterref05_ReadUint.l0 kj7 l0 a1 (IntKind.u64.wrap (x7_1 + (ji16))) (wrap64 (x8_1 + 1)))) = some (r1, r2, r3) := by first | (rw [hji16] at H; exact H) | (simp only [hji16] at H ⊢; exact H)
                      have hji16_ : (IntKind.u64.wrap ((IntKind.u64.wrap (Int.tmod (rd l0 (ji5)) 128)) * 2 ^ min (ji14).toNat 64)) = ji16 := hji16
                      have hji16z : (ji14) ≤ 64 → (IntKind.u64.wrap ((IntKind.u64.wrap (Int.tmod (rd l0 (ji5)) 128)) * 2 ^ (ji14).toNat)) = ji16 := shl_small hji16
                      by_cases c17 : (rd l0 (ji5)) < 128
                      · rw [if_pos c17] at H
                        have c17b0 : decide ((rd l0 (ji5)) < 128) = true := decide_eq_true c17
                        clear c17
                        simp only [Option.some.injEq, Prod.mk.injEq] at H
                        obtain ⟨rfl, rfl, rfl⟩ := H
                        go_wp2
                        go_ret3
                        exact ⟨by first | rfl | (simp; done) | (simp only [← hji5, ← hji14, ← hji16] <;> (first | rfl | simp)) | (simp [*]; done), by repeat (first | exact Drawn0.refl _ | apply Drawn0.step)⟩
                      · rw [if_neg c17] at H
                        have c17b0 : decide ((rd l0 (ji5)) < 128) = false := decide_eq_false c17
                        clear c17
                        have H' := Aside0.mk H
                        clear H
                        go_wp2
                        go_roundg kj7
                        case measure => have := HK1.out; have := HJ7.out; omega
                        case rel => exact ⟨(IntKind.u64.wrap (x7_1 + (ji16))), (wrap64 (x8_1 + 1)), (by first | rfl | (simp; done) | (simp only [← hji16] <;> (first | rfl | simp)) | (simp [*]; done)), (by first | rfl | (simp; done) | (simp [*]; done)), H', ⟨by have := HK1.out; have := HJ7.out; omega⟩, by repeat (first | exact Drawn0.refl _ | apply Drawn0.step)⟩
                    · rw [if_neg c15] at H
                      exact absurd H (by simp)
            · rw [if_neg c7] at H
              exact absurd H (by simp)
          · rw [if_neg c6] at H
            exact absurd H (by simp)
      · rw [if_neg c3] at H
        have c3b0 : decide (x8_1 < 10) = false := decide_eq_false c3
        clear c3
        simp only [Option.some.injEq, Prod.mk.injEq] at H
        obtain ⟨rfl, rfl, rfl⟩ := H
        go_wp2
        go_ret3
        exact ⟨by first | rfl | (simp; done) | (simp [*]; done), by repeat (first | exact Drawn0.refl _ | apply Drawn0.step)⟩

/-! ### prompterref14_Of: function 14 -/

/-! ### prompterref14_Right: function 21 -/

/-! ### prompterref05_ReadInt: function 43 -/
def prompterref05_ReadInt.f (k : Nat) (l0 : List Int) (a1 : Int) : Option (Int × Int × Int) := (prompterref05_ReadUint.f k l0 a1).bind fun bt102 => (if bt102.2.2 = 0 then (if (Int.tmod bt102.1 2) = 1 then (some (wrap64 ((wrap64 (-(wrap64 (IntKind.u64.wrap (Int.tdiv bt102.1 2))))) - 1), bt102.2.1, bt102.2.2)) else (some (wrap64 (IntKind.u64.wrap (Int.tdiv bt102.1 2)), bt102.2.1, bt102.2.2))) else (some (0, bt102.2.1, bt102.2.2)))
theorem prompterref05_ReadInt.mono : ∀ a0 a1 k, LeO (prompterref05_ReadInt.f k a0 a1) (prompterref05_ReadInt.f (k + 1) a0 a1) := by
  intro a0 a1 k
  unfold prompterref05_ReadInt.f
  repeat' first
      | (with_reducible exact prompterref05_ReadUint.mono _ _ _)
      | (with_reducible exact LeO.refl _)
      | (with_reducible exact LeO.none _)
      | (with_reducible refine LeO.ite ?_ ?_)
      | (with_reducible refine LeO.bind ?_ (fun _ => ?_))
      | exact prompterref05_ReadUint.mono _ _ _
      | exact LeO.none _
      | refine LeO.ite ?_ ?_
      | refine LeO.bind ?_ (fun _ => ?_)
set_option maxHeartbeats 8000000 in
set_option maxRecDepth 100000 in
theorem prompterref05_ReadInt.calls (k : Nat) (A0 : Option Addr) (c0 : Nat) (l0 : List Int) (a1 : Int) (r1 : Int) (r2 : Int) (r3 : Int) (w : World) (hr0 : Kd.C (Kd.int .u8) w A0 l0.length l0) (hc0 : l0.length ≤ c0) (h : prompterref05_ReadInt.f k l0 a1 = some (r1, r2, r3)) :
    Calls Try.prog 43 #[.slice A0 l0.length c0, .int .i64 a1] w fun e w' => e = .returned (.tuple #[.int .i64 r1, .int .i64 r2, .int .i64 r3]) ∧ Drawn0 w w' := by
  have HR0 := Aside0.mk hr0
  have HC0 := Aside0.mk hc0
  clear hr0 hc0
  have H : ((prompterref05_ReadUint.f k l0 a1).bind fun bt102 => (if bt102.2.2 = 0 then (if (Int.tmod bt102.1 2) = 1 then (some (wrap64 ((wrap64 (-(wrap64 (IntKind.u64.wrap (Int.tdiv bt102.1 2))))) - 1), bt102.2.1, bt102.2.2)) else (some (wrap64 (IntKind.u64.wrap (Int.tdiv bt102.1 2)), bt102.2.1, bt102.2.2))) else (some (0, bt102.2.1, bt102.2.2)))) = some (r1, r2, r3) := h
  clear h
  replace H := Option.bind_eq_some_iff.mp H
  obtain ⟨⟨t102, t103, t104⟩, A30, H⟩ := H
  replace H : (if t104 = 0 then (if (Int.tmod t102 2) = 1 then (some (wrap64 ((wrap64 (-(wrap64 (IntKind.u64.wrap (Int.tdiv t102 2))))) - 1), t103, t104)) else (some (wrap64 (IntKind.u64.wrap (Int.tdiv t102 2)), t103, t104))) else (some (0, t103, t104))) = some (r1, r2, r3) := H
  have A3 := Aside0.mk A30
  clear A30
  by_cases c4 : t104 = 0
  · rw [if_pos c4] at H
    have c4b0 : (t104 == 0) = true := beq_iff_eq.mpr c4
    have c4b1 : (t104 != 0) = false := bne_eq_false_iff_eq.mpr c4
    clear c4
    by_cases c5 : (Int.tmod t102 2) = 1
    · rw [if_pos c5] at H
      have c5b0 : ((Int.tmod t102 2) == 1) = true := beq_iff_eq.mpr c5
      have c5b1 : ((Int.tmod t102 2) != 1) = false := bne_eq_false_iff_eq.mpr c5
      clear c5
      simp only [Option.some.injEq, Prod.mk.injEq] at H
      obtain ⟨rfl, rfl, rfl⟩ := H
      go_enter Try.func43, Try.ntmps43
      go_wp2_with (first | ((with_reducible refine gate_callee (f := 28) rfl ?_); refine goesL_ (some 13) rfl rfl Try.func28 (by kernel_rfl) rfl #[.slice A0 l0.length c0, .int .i64 a1] rfl (by (try simp only [List.map_toArray, List.map_cons, List.map_nil]); first | done | rfl | (simp only [List.length_drop, List.length_take]; rfl)) ?_; (with_reducible refine (prompterref05_ReadUint.calls k _ _ l0 a1 t102 t103 t104 _ ?side1 ?side2 A3.out).mono ?_); (case side1 => repeat (first | exact HR0.out | (with_reducible refine Kd.C_alloc ?_ _) | (with_reducible refine Kd.C_drewN ?_ _) | (with_reducible refine Kd.C_drew ?_))); (case side2 => exact HC0.out); rintro e w' ⟨rfl, ⟨nd, rfl⟩⟩; refine ⟨_, rfl, ?_⟩))
      go_ret3
      exact ⟨by first | rfl | (simp; done) | (simp [*]; done), by repeat (first | exact Drawn0.refl _ | apply Drawn0.step)⟩
    · rw [if_neg c5] at H
      have c5b0 : ((Int.tmod t102 2) == 1) = false := beq_eq_false_iff_ne.mpr c5
      have c5b1 : ((Int.tmod t102 2) != 1) = true := bne_iff_ne.mpr c5
      simp only [Option.some.injEq, Prod.mk.injEq] at H
      obtain ⟨rfl, rfl, rfl⟩ := H
      go_enter Try.func43, Try.ntmps43
      go_wp2_with (first | ((with_reducible refine gate_callee (f := 28) rfl ?_); refine goesL_ (some 13) rfl rfl Try.func28 (by kernel_rfl) rfl #[.slice A0 l0.length c0, .int .i64 a1] rfl (by (try simp only [List.map_toArray, List.map_cons, List.map_nil]); first | done | rfl | (simp only [List.length_drop, List.length_take]; rfl)) ?_; (with_reducible refine (prompterref05_ReadUint.calls k _ _ l0 a1 t102 t103 t104 _ ?side1 ?side2 A3.out).mono ?_); (case side1 => repeat (first | exact HR0.out | (with_reducible refine Kd.C_alloc ?_ _) | (with_reducible refine Kd.C_drewN ?_ _) | (with_reducible refine Kd.C_drew ?_))); (case side2 => exact HC0.out); rintro e w' ⟨rfl, ⟨nd, rfl⟩⟩; refine ⟨_, rfl, ?_⟩))
      go_ret3
      exact ⟨by first | rfl | (simp; done) | (simp [*]; done), by repeat (first | exact Drawn0.refl _ | apply Drawn0.step)⟩
  · rw [if_neg c4] at H
    have c4b0 : (t104 == 0) = false := beq_eq_false_iff_ne.mpr c4
    have c4b1 : (t104 != 0) = true := bne_iff_ne.mpr c4
    simp only [Option.some.injEq, Prod.mk.injEq] at H
    obtain ⟨rfl, rfl, rfl⟩ := H
    go_enter Try.func43, Try.ntmps43
    go_wp2_with (first | ((with_reducible refine gate_callee (f := 28) rfl ?_); refine goesL_ (some 13) rfl rfl Try.func28 (by kernel_rfl) rfl #[.slice A0 l0.length c0, .int .i64 a1] rfl (by (try simp only [List.map_toArray, List.map_cons, List.map_nil]); first | done | rfl | (simp only [List.length_drop, List.length_take]; rfl)) ?_; (with_reducible refine (prompterref05_ReadUint.calls k _ _ l0 a1 t102 t103 t104 _ ?side1 ?side2 A3.out).mono ?_); (case side1 => repeat (first | exact HR0.out | (with_reducible refine Kd.C_alloc ?_ _) | (with_reducible refine Kd.C_drewN ?_ _) | (with_reducible refine Kd.C_drew ?_))); (case side2 => exact HC0.out); rintro e w' ⟨rfl, ⟨nd, rfl⟩⟩; refine ⟨_, rfl, ?_⟩))
    go_ret3
    exact ⟨by first | rfl | (simp; done) | (simp [*]; done), by repeat (first | exact Drawn0.refl _ | apply Drawn0.step)⟩

/-! ### prompterref05_ReadText: function 44 -/
def prompterref05_ReadText.f (k : Nat) (l0 : List Int) (a1 : Int) : Option (ByteArray × Int × Int) := (prompterref05_ReadUint.f k l0 a1).bind fun bt105 => (if bt105.2.2 = 0 then (if bt105.1 > (IntKind.u64.wrap (wrap64 ((l0.length : Int) - bt105.2.1))) then (some ((⟨#[]⟩ : ByteArray), (l0.length : Int), 4)) else (if 0 ≤ bt105.2.1 then (if bt105.2.1 ≤ (wrap64 (bt105.2.1 + (wrap64 (bt105.1)))) then (if (wrap64 (bt105.2.1 + (wrap64 (bt105.1)))) ≤ (l0.length : Int) then (some (strOfNums ((l0.take ((wrap64 (bt105.2.1 + (wrap64 (bt105.1)))) : Int).toNat).drop (bt105.2.1 : Int).toNat), wrap64 (bt105.2.1 + (wrap64 (bt105.1))), bt105.2.2)) else (none)) else (none)) else (none))) else (some ((⟨#[]⟩ : ByteArray), bt105.2.1, bt105.2.2)))
theorem prompterref05_ReadText.mono : ∀ a0 a1 k, LeO (prompterref05_ReadText.f k a0 a1) (prompterref05_ReadText.f (k + 1) a0 a1) := by
  intro a0 a1 k
  unfold prompterref05_ReadText.f
  repeat' first
      | (with_reducible exact prompterref05_ReadUint.mono _ _ _)
      | (with_reducible exact LeO.refl _)
      | (with_reducible exact LeO.none _)
      | (with_reducible refine LeO.ite ?_ ?_)
      | (with_reducible refine LeO.bind ?_ (fun _ => ?_))
      | exact prompterref05_ReadUint.mono _ _ _
      | exact LeO.none _
      | refine LeO.ite ?_ ?_
      | refine LeO.bind ?_ (fun _ => ?_)
set_option maxHeartbeats 8000000 in
set_option maxRecDepth 100000 in
theorem prompterref05_ReadText.calls (k : Nat) (A0 : Option Addr) (c0 : Nat) (l0 : List Int) (a1 : Int) (r1 : ByteArray) (r2 : Int) (r3 : Int) (w : World) (hr0 : Kd.C (Kd.int .u8) w A0 l0.length l0) (hc0 : l0.length ≤ c0) (h : prompterref05_ReadText.f k l0 a1 = some (r1, r2, r3)) :
    Calls Try.prog 44 #[.slice A0 l0.length c0, .int .i64 a1] w fun e w' => e = .returned (.tuple #[.string r1, .int .i64 r2, .int .i64 r3]) ∧ Drawn0 w w' := by
  have HR0 := Aside0.mk hr0
  have HC0 := Aside0.mk hc0
  clear hr0 hc0
  have H : ((prompterref05_ReadUint.f k l0 a1).bind fun bt105 => (if bt105.2.2 = 0 then (if bt105.1 > (IntKind.u64.wrap (wrap64 ((l0.length : Int) - bt105.2.1))) then (some ((⟨#[]⟩ : ByteArray), (l0.length : Int), 4)) else (if 0 ≤ bt105.2.1 then (if bt105.2.1 ≤ (wrap64 (bt105.2.1 + (wrap64 (bt105.1)))) then (if (wrap64 (bt105.2.1 + (wrap64 (bt105.1)))) ≤ (l0.length : Int) then (some (strOfNums ((l0.take ((wrap64 (bt105.2.1 + (wrap64 (bt105.1)))) : Int).toNat).drop (bt105.2.1 : Int).toNat), wrap64 (bt105.2.1 + (wrap64 (bt105.1))), bt105.2.2)) else (none)) else (none)) else (none))) else (some ((⟨#[]⟩ : ByteArray), bt105.2.1, bt105.2.2)))) = some (r1, r2, r3) := h
  clear h
  replace H := Option.bind_eq_some_iff.mp H
  obtain ⟨⟨t105, t106, t107⟩, A30, H⟩ := H
  replace H : (if t107 = 0 then (if t105 > (IntKind.u64.wrap (wrap64 ((l0.length : Int) - t106))) then (some ((⟨#[]⟩ : ByteArray), (l0.length : Int), 4)) else (if 0 ≤ t106 then (if t106 ≤ (wrap64 (t106 + (wrap64 (t105)))) then (if (wrap64 (t106 + (wrap64 (t105)))) ≤ (l0.length : Int) then (some (strOfNums ((l0.take ((wrap64 (t106 + (wrap64 (t105)))) : Int).toNat).drop (t106 : Int).toNat), wrap64 (t106 + (wrap64 (t105))), t107)) else (none)) else (none)) else (none))) else (some ((⟨#[]⟩ : ByteArray), t106, t107))) = some (r1, r2, r3) := H
  have A3 := Aside0.mk A30
  clear A30
  by_cases c4 : t107 = 0
  · rw [if_pos c4] at H
    have c4b0 : (t107 == 0) = true := beq_iff_eq.mpr c4
    have c4b1 : (t107 != 0) = false := bne_eq_false_iff_eq.mpr c4
    clear c4
    by_cases c5 : t105 > (IntKind.u64.wrap (wrap64 ((l0.length : Int) - t106)))
    · rw [if_pos c5] at H
      have c5b0 : decide ((IntKind.u64.wrap (wrap64 ((l0.length : Int) - t106))) < t105) = true := decide_eq_true c5
      clear c5
      simp only [Option.some.injEq, Prod.mk.injEq] at H
      obtain ⟨rfl, rfl, rfl⟩ := H
      go_enter Try.func44, Try.ntmps44
      go_wp2_with (first | ((with_reducible refine gate_callee (f := 28) rfl ?_); refine goesL_ (some 13) rfl rfl Try.func28 (by kernel_rfl) rfl #[.slice A0 l0.length c0, .int .i64 a1] rfl (by (try simp only [List.map_toArray, List.map_cons, List.map_nil]); first | done | rfl | (simp only [List.length_drop, List.length_take]; rfl)) ?_; (with_reducible refine (prompterref05_ReadUint.calls k _ _ l0 a1 t105 t106 t107 _ ?side1 ?side2 A3.out).mono ?_); (case side1 => repeat (first | exact HR0.out | (with_reducible refine Kd.C_alloc ?_ _) | (with_reducible refine Kd.C_drewN ?_ _) | (with_reducible refine Kd.C_drew ?_))); (case side2 => exact HC0.out); rintro e w' ⟨rfl, ⟨nd, rfl⟩⟩; refine ⟨_, rfl, ?_⟩))
      go_ret3
      exact ⟨by first | rfl | (simp; done) | (simp [*]; done), by repeat (first | exact Drawn0.refl _ | apply Drawn0.step)⟩
    · rw [if_neg c5] at H
      have c5b0 : decide ((IntKind.u64.wrap (wrap64 ((l0.length : Int) - t106))) < t105) = false := decide_eq_false c5
      clear c5
      by_cases c6 : 0 ≤ t106
      · rw [if_pos c6] at H
        have c6b0 := eq_true c6
        have c6b1 : decide (0 ≤ t106) = true := decide_eq_true c6
        clear c6
        by_cases c7 : t106 ≤ (wrap64 (t106 + (wrap64 (t105))))
        · rw [if_pos c7] at H
          have c7b0 := eq_true c7
          have c7b1 : decide (t106 ≤ (wrap64 (t106 + (wrap64 (t105))))) = true := decide_eq_true c7
          by_cases c8 : (wrap64 (t106 + (wrap64 (t105)))) ≤ (l0.length : Int)
          · rw [if_pos c8] at H
            have c8b0 := eq_true c8
            have c8b1 : decide ((wrap64 (t106 + (wrap64 (t105)))) ≤ (l0.length : Int)) = true := decide_eq_true c8
            simp only [Option.some.injEq, Prod.mk.injEq] at H
            obtain ⟨rfl, rfl, rfl⟩ := H
            go_enter Try.func44, Try.ntmps44
            go_wp2_with (first | ((with_reducible refine gate_callee (f := 28) rfl ?_); refine goesL_ (some 13) rfl rfl Try.func28 (by kernel_rfl) rfl #[.slice A0 l0.length c0, .int .i64 a1] rfl (by (try simp only [List.map_toArray, List.map_cons, List.map_nil]); first | done | rfl | (simp only [List.length_drop, List.length_take]; rfl)) ?_; (with_reducible refine (prompterref05_ReadUint.calls k _ _ l0 a1 t105 t106 t107 _ ?side1 ?side2 A3.out).mono ?_); (case side1 => repeat (first | exact HR0.out | (with_reducible refine Kd.C_alloc ?_ _) | (with_reducible refine Kd.C_drewN ?_ _) | (with_reducible refine Kd.C_drew ?_))); (case side2 => exact HC0.out); rintro e w' ⟨rfl, ⟨nd, rfl⟩⟩; refine ⟨_, rfl, ?_⟩; obtain ⟨i09, hi09, _, hsz9, _⟩ := info_parts info5; obtain ⟨A9, hcut9, hA9, hC9⟩ := print_mid_of (P := Try.prog) (Value.int .u8) 0 45 5 .i64 .i64 Try.underlying45 hi09 hsz9 A0 c0 l0 t106 (wrap64 (t106 + (wrap64 (t105)))) (of_decide_eq_true (by first | (with_reducible assumption) | assumption)) (by first | omega | exact of_decide_eq_true (by first | (with_reducible assumption) | assumption)) (of_decide_eq_true (by first | (with_reducible assumption) | assumption)) HC0.out; have HR108 := Aside0.mk (Kd.C_of_reads (h1 := fun _ => rfl) (hA9 _ (Kd.reads_of_C HR0.out))); have HC108 := Aside0.mk hC9; clear hA9 hC9 hi09 hsz9; have hcv10 := Kd.C_string (P := Try.prog) (A := A9) (c := (c0 - t106.toNat)) Try.underlying45 Try.underlying5 Try.underlying9 (Kd.C_drewN HR108.out nd); have hln9 : (List.drop t106.toNat (List.take (wrap64 (t106 + (wrap64 (t105)))).toNat l0)).length = (wrap64 (t106 + (wrap64 (t105)))).toNat - t106.toNat := (by rw [List.length_drop, List.length_take]; omega); rw [hln9] at hcv10; clear hln9))
            go_ret3
            exact ⟨by first | rfl | (simp; done) | (simp [*]; done), by repeat (first | exact Drawn0.refl _ | apply Drawn0.step)⟩
          · rw [if_neg c8] at H
            exact absurd H (by simp)
        · rw [if_neg c7] at H
          exact absurd H (by simp)
      · rw [if_neg c6] at H
        exact absurd H (by simp)
  · rw [if_neg c4] at H
    have c4b0 : (t107 == 0) = false := beq_eq_false_iff_ne.mpr c4
    have c4b1 : (t107 != 0) = true := bne_iff_ne.mpr c4
    simp only [Option.some.injEq, Prod.mk.injEq] at H
    obtain ⟨rfl, rfl, rfl⟩ := H
    go_enter Try.func44, Try.ntmps44
    go_wp2_with (first | ((with_reducible refine gate_callee (f := 28) rfl ?_); refine goesL_ (some 13) rfl rfl Try.func28 (by kernel_rfl) rfl #[.slice A0 l0.length c0, .int .i64 a1] rfl (by (try simp only [List.map_toArray, List.map_cons, List.map_nil]); first | done | rfl | (simp only [List.length_drop, List.length_take]; rfl)) ?_; (with_reducible refine (prompterref05_ReadUint.calls k _ _ l0 a1 t105 t106 t107 _ ?side1 ?side2 A3.out).mono ?_); (case side1 => repeat (first | exact HR0.out | (with_reducible refine Kd.C_alloc ?_ _) | (with_reducible refine Kd.C_drewN ?_ _) | (with_reducible refine Kd.C_drew ?_))); (case side2 => exact HC0.out); rintro e w' ⟨rfl, ⟨nd, rfl⟩⟩; refine ⟨_, rfl, ?_⟩))
    go_ret3
    exact ⟨by first | rfl | (simp; done) | (simp [*]; done), by repeat (first | exact Drawn0.refl _ | apply Drawn0.step)⟩

end Go.Proofs.Ytcpjjnikehcleaa.PChk
