/- Drawn tells the wait less what the draw cuts off, for every policy, wait and draw. -/
import Derived.Test.YtealggjnnihejaaT8
namespace Go.Proofs.Ytealggjnnihejaa.PBase
open Go.RowKit Go.Shelf Go.Proofs.YtealggjnnihejaaW.PrintWords Go.Proofs.YtealggjnnihejaaW.PrintLast Go.Proofs.YtealggjnnihejaaW.PrintMore
set_option linter.unusedVariables false
set_option linter.unusedSimpArgs false

def PartPost (a d : Int) (w : World) (e : Ending) (w' : World) : Prop := e = .returned (.int .i64 (a * d / 4294967296)) ∧ Drawn0 w w'
theorem or32 (h l : Int) (h0 : 0 ≤ h) (h1 : h < 4294967296) (h2 : 0 ≤ l) (h3 : l < 4294967296) : bits .or .u64 (h * 4294967296) l = h * 4294967296 + l :=
  bits_join .u64 64 (by decide) wraps_u64 32 _ _ (by omega) (by omega) (by omega) (by omega) (by omega) (by omega)
set_option maxHeartbeats 2000000 in
set_option maxRecDepth 100000 in
theorem part_calls (a d : Int) (w : World) (h0 : 0 ≤ a) (h1 : a ≤ 9223372036854775807) (h2 : 0 ≤ d) (h3 : d < 4294967296) :
    Calls Try.prog 29 #[.int .i64 a, .int .u32 d] w (PartPost a d w) := by
  have hp : 0 ≤ a * d := Int.mul_nonneg h0 h2
  have hq : a * d ≤ 9223372036854775807 * 4294967295 := Int.mul_le_mul h1 (by omega) h2 (by omega)
  have HM := Aside0.mk (fun W => mul_calls a d W h0 (by omega) h2 (by omega))
  have e1 := or32 (a * d / 18446744073709551616) (a * d % 18446744073709551616 / 4294967296) (by omega) (by omega) (by omega) (by omega)
  have e2 : a * d / 18446744073709551616 * 4294967296 + a * d % 18446744073709551616 / 4294967296 = a * d / 4294967296 := by omega
  rw [e2] at e1
  have b1 : 0 ≤ a * d / 18446744073709551616 := by omega
  have b2 : a * d / 18446744073709551616 < 2147483648 := by omega
  have b3 : 0 ≤ a * d / 4294967296 := by omega
  have b4 : a * d / 4294967296 ≤ 9223372036854775807 := by omega
  clear hp hq e2
  go_enter Try.func29, Try.ntmps29
  go_wp2_with (go_at_call 27; refine (HM.out _).mono ?_; rintro e w' ⟨rfl, ⟨nq, rfl⟩⟩)
  go_ret
  exact ⟨ret_is rfl, by repeat (first | exact Drawn0.refl _ | apply Drawn0.step)⟩

def DrawnPost (p : Rt.Pol) (x d : Int) (w : World) (e : Ending) (w' : World) : Prop := e = .returned (.tuple #[.int .i64 (if Rt.okP p ∧ 0 ≤ x then Rt.drawn p x d else 0), .int .i64 (if Rt.okP p ∧ 0 ≤ x then 0 else 1)]) ∧ Below w.heap.size w w'
theorem no_drawn {p : Rt.Pol} {x d : Int} {w w' : World} (h : ¬ (Rt.okP p ∧ 0 ≤ x)) (hb : Below w.heap.size w w') : DrawnPost p x d w (.returned (.tuple #[.int .i64 0, .int .i64 1])) w' := ⟨by rw [if_neg h, if_neg h], hb⟩
theorem yes_drawn {p : Rt.Pol} {x d y : Int} {w w' : World} (h : Rt.okP p ∧ 0 ≤ x) (hy : y = Rt.drawn p x d) (hb : Below w.heap.size w w') : DrawnPost p x d w (.returned (.tuple #[.int .i64 y, .int .i64 0])) w' := ⟨by rw [if_pos h, if_pos h, hy], hb⟩
set_option maxHeartbeats 2000000 in
set_option maxRecDepth 100000 in
theorem drawn_no (a0_0 : Int) (a0_1 : Int) (a0_2 : Int) (a0_3 : Int) (a0_4 : Int) (a0_5 : Int) (A0_6 : Option Addr) (c0_6 : Nat) (l0_6 : List Int) (x d : Int) (w : World) (hr0_6 : Kd.C (Kd.int .i64) w A0_6 l0_6.length l0_6) (hc0_6 : l0_6.length ≤ c0_6) (hg : a0_1 ≤ Rt.gr)
    (hno : ¬ (Rt.okP ⟨a0_0, a0_1, a0_2, a0_3, a0_4, a0_5, (l0_6.length : Int)⟩ ∧ 0 ≤ x)) :
    Calls Try.prog 17 #[.agg #[.int .i64 a0_0, .int .i64 a0_1, .int .i64 a0_2, .int .i64 a0_3, .int .i64 a0_4, .int .i64 a0_5, .slice A0_6 l0_6.length c0_6], .int .i64 x, .int .u32 d] w (DrawnPost ⟨a0_0, a0_1, a0_2, a0_3, a0_4, a0_5, (l0_6.length : Int)⟩ x d w) := by
  have hu24 := Try.underlying24
  have HC := Aside0.mk (fun W (hb : Below w.heap.size w W) => check_calls a0_0 a0_1 a0_2 a0_3 a0_4 a0_5 A0_6 c0_6 l0_6 W (Kd.C_below hr0_6 hb) hc0_6 hg)
  clear hr0_6 hg
  obtain ⟨p, hp⟩ : ∃ p : Rt.Pol, p = ⟨a0_0, a0_1, a0_2, a0_3, a0_4, a0_5, (l0_6.length : Int)⟩ := ⟨_, rfl⟩
  rw [← hp] at HC hno ⊢
  clear hp
  have HN := Aside0.mk hno
  by_cases hok : Rt.okP p
  · have ha : x < 0 := by have := HN.out; simp only [hok, true_and] at this; omega
    have HK := Aside0.mk (show chk p = 0 from if_pos hok)
    clear hok hno
    go_enter Try.func17, Try.ntmps17
    go_wp2_with (go_at_call 15; refine (HC.out _ (by repeat (first | exact Below.refl _ _ | apply below_alloc | apply pw_below_drewN))).mono ?_; rintro e w' ⟨rfl, hb⟩; rw [HK.out]; have HB := Aside0.mk hb; obtain ⟨hcl, hfr⟩ := bcell hb; clear hb)
    go_ret2
    exact no_drawn HN.out (((Below.refl _ w).alloc (Nat.le_refl _) _).trans (HB.out.mono (by simp)))
  · have HK := Aside0.mk (show chk p = 1 from if_neg hok)
    clear hok hno
    go_enter Try.func17, Try.ntmps17
    go_wp2_with (go_at_call 15; refine (HC.out _ (by repeat (first | exact Below.refl _ _ | apply below_alloc | apply pw_below_drewN))).mono ?_; rintro e w' ⟨rfl, hb⟩; rw [HK.out]; have HB := Aside0.mk hb; obtain ⟨hcl, hfr⟩ := bcell hb; clear hb)
    go_ret2
    exact no_drawn HN.out (((Below.refl _ w).alloc (Nat.le_refl _) _).trans (HB.out.mono (by simp)))
theorem div_any (a0 a1 : Int) (w : World) (h0 : 0 ≤ a0) (h1 : a0 < 100) (h2 : 0 ≤ a1) (h3 : a1 < 18446744073709551616) : Calls Try.prog 28 #[.int .u64 a0, .int .u64 a1, .int .u64 100] w (DivPost a0 a1 w) := by
  by_cases hz : a0 = 0
  · subst hz; exact div_small a1 w h2 h3
  · exact div_great a0 a1 w h0 h1 h2 h3 (beq_eq_false_iff_ne.mpr hz)
set_option maxHeartbeats 2000000 in
set_option maxRecDepth 100000 in
theorem drawn_yes (a0_0 : Int) (a0_1 : Int) (a0_2 : Int) (a0_3 : Int) (a0_4 : Int) (a0_5 : Int) (A0_6 : Option Addr) (c0_6 : Nat) (l0_6 : List Int) (x d : Int) (w : World) (hr0_6 : Kd.C (Kd.int .i64) w A0_6 l0_6.length l0_6) (hc0_6 : l0_6.length ≤ c0_6) (hg : a0_1 ≤ Rt.gr) (hx : x ≤ Rt.gr) (hd0 : 0 ≤ d) (hd1 : d < 4294967296)
    (hyes : Rt.okP ⟨a0_0, a0_1, a0_2, a0_3, a0_4, a0_5, (l0_6.length : Int)⟩ ∧ 0 ≤ x) :
    Calls Try.prog 17 #[.agg #[.int .i64 a0_0, .int .i64 a0_1, .int .i64 a0_2, .int .i64 a0_3, .int .i64 a0_4, .int .i64 a0_5, .slice A0_6 l0_6.length c0_6], .int .i64 x, .int .u32 d] w (DrawnPost ⟨a0_0, a0_1, a0_2, a0_3, a0_4, a0_5, (l0_6.length : Int)⟩ x d w) := by
  have hu24 := Try.underlying24
  have HC := Aside0.mk (fun W (hb : Below w.heap.size w W) => check_calls a0_0 a0_1 a0_2 a0_3 a0_4 a0_5 A0_6 c0_6 l0_6 W (Kd.C_below hr0_6 hb) hc0_6 hg)
  clear hr0_6 hg
  obtain ⟨p, hp⟩ : ∃ p : Rt.Pol, p = ⟨a0_0, a0_1, a0_2, a0_3, a0_4, a0_5, (l0_6.length : Int)⟩ := ⟨_, rfl⟩
  have h8 : 0 ≤ a0_5 := hyes.1.2.2.2.2.2.2.2.1
  have h9 : a0_5 ≤ 100 := hyes.1.2.2.2.2.2.2.2.2.1
  have h0 := hyes.2
  have hs : p.spread = a0_5 := by rw [hp]
  rw [← hp] at HC hyes ⊢
  clear hp
  unfold Rt.gr at hx
  have HN := Aside0.mk hyes
  have HK := Aside0.mk (show chk p = 0 from if_pos hyes.1)
  clear hyes
  have hm := Rt.part_le h0 h8 h9
  have m0 : 0 ≤ x * a0_5 := Int.mul_nonneg h0 h8
  have m1 : x * a0_5 ≤ 922337203685477580700 := by have := Int.mul_le_mul hx h9 h8 (by omega); omega
  have HM := Aside0.mk (fun W => mul_calls x a0_5 W h0 (by omega) h8 (by omega))
  have HD := Aside0.mk (fun W => div_any (x * a0_5 / 18446744073709551616) (x * a0_5 % 18446744073709551616) W (by omega) (by omega) (by omega) (by omega))
  have e1 : x * a0_5 / 18446744073709551616 * 18446744073709551616 + x * a0_5 % 18446744073709551616 = x * a0_5 := by omega
  have HP := Aside0.mk (fun W => part_calls (x * a0_5 / 100) d W hm.1 (by omega) hd0 hd1)
  have hcut := Rt.cut_bd (p := p) (by omega) (by omega) h0 hd0 hd1
  have HF := Aside0.mk (show x - x * a0_5 / 100 * d / 4294967296 = Rt.drawn p x d from by unfold Rt.drawn Rt.cutOf; rw [hs])
  unfold Rt.cutOf at hcut
  rw [hs] at hcut
  obtain ⟨c0, c1⟩ := hcut
  obtain ⟨b0, b1⟩ := hm
  clear hs m0 m1
  go_enter Try.func17, Try.ntmps17
  go_wp2_with (first | (go_at_call 15; refine (HC.out _ (by repeat (first | exact Below.refl _ _ | apply below_alloc | apply pw_below_drewN))).mono ?_; rintro e w' ⟨rfl, hb⟩; rw [HK.out]; have HB := Aside0.mk hb; obtain ⟨hcl, hfr⟩ := bcell hb; clear hb) | (go_at_call 27; refine (HM.out _).mono ?_; rintro e w1 ⟨rfl, ⟨nq, rfl⟩⟩) | (go_at_call 28; refine (HD.out _).mono ?_; rintro e w1 ⟨rfl, ⟨nr, rfl⟩⟩) | (go_at_call 29; refine (HP.out _).mono ?_; rintro e w1 ⟨rfl, ⟨ns, rfl⟩⟩))
  go_ret2
  exact yes_drawn HN.out HF.out (by repeat (first | exact ((Below.refl _ w).alloc (Nat.le_refl _) _).trans (HB.out.mono (by simp)) | apply pw_below_drewN))

end Go.Proofs.Ytealggjnnihejaa.PBase
