/- Wait tells the wait behind an attempt, for every policy and attempt. -/
import Derived.Test.YtealggjnnihejaaT5
import Derived.Test.YtealggjnnihejaaPBasex1
namespace Go.Proofs.Ytealggjnnihejaa.PBase
open Go.RowKit Go.Shelf Go.Proofs.YtealggjnnihejaaW.PrintWords Go.Proofs.YtealggjnnihejaaW.PrintLast Go.Proofs.YtealggjnnihejaaW.PrintMore
set_option linter.unusedVariables false
set_option linter.unusedSimpArgs false
attribute [local go_sem] Oper.semAt_some

/-- Check, plainly. -/
def chk (p : Rt.Pol) : Int := if Rt.okP p then 0 else 1
def ChkPost (p : Rt.Pol) (w : World) (e : Ending) (w' : World) : Prop := e = .returned (.int .i64 (chk p)) ∧ Below w.heap.size w w'
theorem check_calls (a0_0 : Int) (a0_1 : Int) (a0_2 : Int) (a0_3 : Int) (a0_4 : Int) (a0_5 : Int) (A0_6 : Option Addr) (c0_6 : Nat) (l0_6 : List Int) (w : World) (hr0_6 : Kd.C (Kd.int .i64) w A0_6 l0_6.length l0_6) (hc0_6 : l0_6.length ≤ c0_6) (hg : a0_1 ≤ Rt.gr) :
    Calls Try.prog 15 #[.agg #[.int .i64 a0_0, .int .i64 a0_1, .int .i64 a0_2, .int .i64 a0_3, .int .i64 a0_4, .int .i64 a0_5, .slice A0_6 l0_6.length c0_6]] w (ChkPost ⟨a0_0, a0_1, a0_2, a0_3, a0_4, a0_5, (l0_6.length : Int)⟩ w) := by
  refine retry_Check.calls 1 a0_0 a0_1 a0_2 a0_3 a0_4 a0_5 A0_6 c0_6 l0_6 _ w hr0_6 hc0_6 ?_
  unfold retry_Check.f retry_Check.j0 chk Rt.okP
  dsimp only
  by_cases c1 : a0_0 < 0
  · simp [c1]; omega
  by_cases c2 : a0_1 < a0_0
  · simp [c1, c2]; omega
  by_cases c3 : a0_3 < 1
  · simp [c1, c2, c3]; omega
  by_cases c4 : a0_2 < a0_3
  · simp [c1, c2, c3, c4]; omega
  by_cases c5 : a0_2 > 1000
  · simp [c1, c2, c3, c4, c5]; omega
  simp only [if_neg c1, if_neg c2, if_neg c3, if_neg c4, decide_eq_true_eq, if_neg c5]
  by_cases c6 : a0_4 < 1
  · simp [c6]; omega
  by_cases c7 : a0_4 > 1000
  · simp [c6, c7]; omega
  by_cases c8 : a0_5 < 0
  · simp [c6, c7, c8]; omega
  by_cases c9 : a0_5 > 100
  · simp [c6, c7, c8, c9]; omega
  by_cases c10 : (l0_6.length : Int) > 100
  · simp [c6, c7, c8, c9, c10]; omega
  simp only [if_neg c6, if_neg c7, if_neg c8, if_neg c9, if_neg c10]
  exact congrArg some (if_pos (show Rt.okP ⟨a0_0, a0_1, a0_2, a0_3, a0_4, a0_5, (l0_6.length : Int)⟩ from by unfold Rt.okP; dsimp only; omega)).symm

def WaitPost (p : Rt.Pol) (a : Int) (w : World) (e : Ending) (w' : World) : Prop := e = .returned (.tuple #[.int .i64 (if Rt.okP p ∧ 1 ≤ a then Rt.it p (a - 1).toNat else 0), .int .i64 (if Rt.okP p ∧ 1 ≤ a then 0 else 1)]) ∧ Below w.heap.size w w'

/-- What lay ahead of a call lies behind it. -/
theorem bcell {W w1 : World} (hb : Below W.heap.size W w1) : (∀ b o, b < W.heap.size → w1.cell? ⟨b, o, none⟩ = W.cell? ⟨b, o, none⟩) ∧ (∀ b o, b < W.heap.size → w1.frozen? ⟨b, o, none⟩ = W.frozen? ⟨b, o, none⟩) :=
  ⟨fun b o h => hb.cell (p := ⟨b, o, none⟩) h, fun b o h => hb.frozen (p := ⟨b, o, none⟩) h⟩
theorem no_wait {p : Rt.Pol} {a : Int} {w w' : World} (h : ¬ (Rt.okP p ∧ 1 ≤ a)) (hb : Below w.heap.size w w') : WaitPost p a w (.returned (.tuple #[.int .i64 0, .int .i64 1])) w' := ⟨by rw [if_neg h, if_neg h], hb⟩

set_option maxHeartbeats 2000000 in
set_option maxRecDepth 100000 in
theorem wait_no (a0_0 : Int) (a0_1 : Int) (a0_2 : Int) (a0_3 : Int) (a0_4 : Int) (a0_5 : Int) (A0_6 : Option Addr) (c0_6 : Nat) (l0_6 : List Int) (a1 : Int) (w : World) (hr0_6 : Kd.C (Kd.int .i64) w A0_6 l0_6.length l0_6) (hc0_6 : l0_6.length ≤ c0_6) (hg : a0_1 ≤ Rt.gr)
    (hno : ¬ (Rt.okP ⟨a0_0, a0_1, a0_2, a0_3, a0_4, a0_5, (l0_6.length : Int)⟩ ∧ 1 ≤ a1)) :
    Calls Try.prog 10 #[.agg #[.int .i64 a0_0, .int .i64 a0_1, .int .i64 a0_2, .int .i64 a0_3, .int .i64 a0_4, .int .i64 a0_5, .slice A0_6 l0_6.length c0_6], .int .i64 a1] w (WaitPost ⟨a0_0, a0_1, a0_2, a0_3, a0_4, a0_5, (l0_6.length : Int)⟩ a1 w) := by
  have hu24 := Try.underlying24
  have HC := Aside0.mk (fun W (hb : Below w.heap.size w W) => check_calls a0_0 a0_1 a0_2 a0_3 a0_4 a0_5 A0_6 c0_6 l0_6 W (Kd.C_below hr0_6 hb) hc0_6 hg)
  clear hr0_6 hg
  obtain ⟨p, hp⟩ : ∃ p : Rt.Pol, p = ⟨a0_0, a0_1, a0_2, a0_3, a0_4, a0_5, (l0_6.length : Int)⟩ := ⟨_, rfl⟩
  rw [← hp] at HC hno ⊢
  clear hp
  have HN := Aside0.mk hno
  by_cases hok : Rt.okP p
  · have ha : a1 < 1 := by have := HN.out; simp only [hok, true_and] at this; omega
    have HK := Aside0.mk (show chk p = 0 from if_pos hok)
    clear hok hno
    go_enter Try.func10, Try.ntmps10
    go_wp2_with (go_at_call 15; refine (HC.out _ (by repeat (first | exact Below.refl _ _ | apply below_alloc | apply pw_below_drewN))).mono ?_; rintro e w' ⟨rfl, hb⟩; rw [HK.out]; have HB := Aside0.mk hb; obtain ⟨hcl, hfr⟩ := bcell hb; clear hb)
    go_ret2
    exact no_wait HN.out (((((Below.refl _ w).alloc (Nat.le_refl _) _).alloc (by simp) _).trans (HB.out.mono (by simp; omega))))
  · have HK := Aside0.mk (show chk p = 1 from if_neg hok)
    clear hok hno
    go_enter Try.func10, Try.ntmps10
    go_wp2_with (go_at_call 15; refine (HC.out _ (by repeat (first | exact Below.refl _ _ | apply below_alloc | apply pw_below_drewN))).mono ?_; rintro e w' ⟨rfl, hb⟩; rw [HK.out]; have HB := Aside0.mk hb; obtain ⟨hcl, hfr⟩ := bcell hb; clear hb)
    go_ret2
    exact no_wait HN.out (((((Below.refl _ w).alloc (Nat.le_refl _) _).alloc (by simp) _).trans (HB.out.mono (by simp; omega))))

theorem below_two (w : World) (a b : Obj) : Below w.heap.size w ((w.alloc a).alloc b) := ((Below.refl _ w).alloc (Nat.le_refl _) _).alloc (by simp) _
/-- Between two rounds of Wait. -/
structure WI (p : Rt.Pol) (a1 : Int) (w : World) (g : Nat) (pre : List Int) (W : World) : Prop where
  last : W.cell? ⟨g, 0, none⟩ = some (.int .i64 (Rt.lastOf pre))
  lastf : W.frozen? ⟨g, 0, none⟩ = false
  left : W.cell? ⟨w.heap.size + 1, 0, none⟩ = some (.int .i64 (a1 - pre.length))
  leftf : W.frozen? ⟨w.heap.size + 1, 0, none⟩ = false
  all : pre = Rt.upto p pre.length
  bel : Below w.heap.size w W
theorem WI.step {p : Rt.Pol} {a1 : Int} {w A B : World} {g B0 : Nat} {pre : List Int} (h : WI p a1 w g pre A) (hb : Below B0 A B) (h1 : g < B0) (h2 : w.heap.size + 1 < B0) : WI p a1 w g pre B :=
  ⟨(hb.cell (p := ⟨g, 0, none⟩) h1).trans h.last, (hb.frozen (p := ⟨g, 0, none⟩) h1).trans h.lastf, (hb.cell (p := ⟨w.heap.size + 1, 0, none⟩) h2).trans h.left, (hb.frozen (p := ⟨w.heap.size + 1, 0, none⟩) h2).trans h.leftf, h.all, h.bel.trans (hb.mono (by omega))⟩
theorem WI.next {p : Rt.Pol} {a1 : Int} {w W : World} {g : Nat} {pre : List Int} {x : Int} (h : WI p a1 w g pre W) (hok : Ok p pre x) (h1 : g ≠ w.heap.size + 1) (h2 : w.heap.size ≤ g) :
    WI p a1 w g (pre ++ [x]) ((W.setCell ⟨g, 0, none⟩ (.int .i64 x)).setCell ⟨w.heap.size + 1, 0, none⟩ (.int .i64 (a1 - (pre.length : Int) - 1))) := by
  have e1 : (⟨g, 0, none⟩ : Addr) ≠ ⟨w.heap.size + 1, 0, none⟩ := by intro e; cases e; exact h1 rfl
  refine ⟨?_, ?_, ?_, ?_, ?_, (h.bel.setCell h2 _).setCell (by simp) _⟩
  · rw [Rt.lastOf_snoc, World.cell?_setCell_other _ _ _ _ e1.symm]
    exact World.cell?_setCell_same' _ _ _ (by rw [h.last]; rfl)
  · rw [World.frozen?_setCell, World.frozen?_setCell]; exact h.lastf
  · rw [World.cell?_setCell_same' _ _ _ (by rw [World.cell?_setCell_other _ _ _ _ e1, h.left]; rfl)]
    simp; omega
  · rw [World.frozen?_setCell, World.frozen?_setCell]; exact h.leftf
  · obtain ⟨ha, hx⟩ := hok
    rw [List.length_append, List.length_singleton, Rt.upto_succ, ← ha, hx]
theorem yes_wait {p : Rt.Pol} {a x : Int} {w w' : World} (h : Rt.okP p) (h1 : 1 ≤ a) (hx : x = Rt.it p (a - 1).toNat) (hb : Below w.heap.size w w') : WaitPost p a w (.returned (.tuple #[.int .i64 x, .int .i64 0])) w' :=
  ⟨by rw [if_pos ⟨h, h1⟩, if_pos ⟨h, h1⟩, hx], hb⟩
theorem last_upto (p : Rt.Pol) (n : Nat) : Rt.lastOf (Rt.upto p (n + 1)) = Rt.it p n := by rw [Rt.upto_succ, Rt.lastOf_snoc]
theorem last_done {p : Rt.Pol} {xs : List Int} {a : Int} (h : Fin p xs) (hl : (xs.length : Int) < a) : Rt.lastOf xs = Rt.it p (a - 1).toNat := by
  obtain ⟨n, rfl, hs⟩ := h
  rw [last_upto, Rt.upto_length] at *
  obtain ⟨k, hk⟩ : ∃ k : Nat, (a - 1).toNat = n + k := ⟨(a - 1).toNat - n, by omega⟩
  rw [hk, Rt.it_stays hs]
theorem last_stop {p : Rt.Pol} {xs : List Int} {a : Int} (h : xs = Rt.upto p xs.length) (hl : (xs.length : Int) = a) (h1 : 1 ≤ a) : Rt.lastOf xs = Rt.it p (a - 1).toNat := by
  obtain ⟨n, hn⟩ : ∃ n, xs.length = n + 1 := ⟨xs.length - 1, by omega⟩
  rw [hn] at h
  rw [h, last_upto, show (a - 1).toNat = n from by omega]
set_option maxHeartbeats 2000000 in
set_option maxRecDepth 100000 in
theorem wait_yes (a0_0 : Int) (a0_1 : Int) (a0_2 : Int) (a0_3 : Int) (a0_4 : Int) (a0_5 : Int) (A0_6 : Option Addr) (c0_6 : Nat) (l0_6 : List Int) (a1 : Int) (w : World) (hr0_6 : Kd.C (Kd.int .i64) w A0_6 l0_6.length l0_6) (hc0_6 : l0_6.length ≤ c0_6) (hg : a0_1 ≤ Rt.gr) (ha : a1 ≤ Rt.gr)
    (hyes : Rt.okP ⟨a0_0, a0_1, a0_2, a0_3, a0_4, a0_5, (l0_6.length : Int)⟩ ∧ 1 ≤ a1) :
    Calls Try.prog 10 #[.agg #[.int .i64 a0_0, .int .i64 a0_1, .int .i64 a0_2, .int .i64 a0_3, .int .i64 a0_4, .int .i64 a0_5, .slice A0_6 l0_6.length c0_6], .int .i64 a1] w (WaitPost ⟨a0_0, a0_1, a0_2, a0_3, a0_4, a0_5, (l0_6.length : Int)⟩ a1 w) := by
  have hu24 := Try.underlying24
  have HC := Aside0.mk (fun W (hb : Below w.heap.size w W) => check_calls a0_0 a0_1 a0_2 a0_3 a0_4 a0_5 A0_6 c0_6 l0_6 W (Kd.C_below hr0_6 hb) hc0_6 hg)
  have HG := Aside0.mk (waits_gives a0_0 a0_1 a0_2 a0_3 a0_4 a0_5 (l0_6.length : Int) (.slice A0_6 l0_6.length c0_6) 3 (by omega) hyes.1)
  clear hr0_6 hg
  have h1 := hyes.2
  have hd1 : decide (a1 < 1) = false := decide_eq_false (by omega)
  unfold Rt.gr at ha
  obtain ⟨p, hp⟩ : ∃ p : Rt.Pol, p = ⟨a0_0, a0_1, a0_2, a0_3, a0_4, a0_5, (l0_6.length : Int)⟩ := ⟨_, rfl⟩
  rw [← hp] at HC HG hyes ⊢
  clear hp
  have HK := Aside0.mk (show chk p = 0 from if_pos hyes.1)
  have HY := Aside0.mk hyes
  clear hyes
  refine (callsIn_wide (n := 4)).1 ?_
  refine callsIn_of_wp_marks Try.func10 rfl trivial ?_ rfl
  simp only [Try.ntmps10, List.size_toArray, List.length_cons, List.length_nil, Nat.reduceAdd, Nat.reduceSub, Array.replicate_succ, Array.replicate_zero, List.push_toArray, List.append_toArray, List.nil_append, List.cons_append]
  gi_wp2_with (refine ⟨trivial, ?_⟩; gi_at_call 15; refine (callsIn_wide.2 (HC.out _ (by repeat (first | exact Below.refl _ _ | apply below_alloc | apply pw_below_drewN)))).mono ?_; rintro e w' ⟨rfl, hb⟩; rw [HK.out]; have HB := Aside0.mk hb; obtain ⟨hcl, hfr⟩ := bcell hb; have hz := hb.size; have hz1 : w.heap.size < w'.heap.size := (by simp at hz; omega); have hz2 : w.heap.size + 1 < w'.heap.size := (by simp at hz; omega); clear hb hz)
  have HB0 := Aside0.mk ((below_two w _ _).trans (HB.out.mono (by simp; omega)))
  refine Rg.range_bound (gf := 23) (bnd := #[.agg #[.int .i64 a0_0, .int .i64 a0_1, .int .i64 a0_2, .int .i64 a0_3, .int .i64 a0_4, .int .i64 a0_5, .slice A0_6 l0_6.length c0_6]]) rfl (enters_of Try.func23 (by kernel_rfl) rfl) HG.out
    (fun pre W => WI p a1 w w'.heap.size pre W ∧ (pre.length : Int) < a1)
    (fun c pre W => c = .exit 0 ∧ WI p a1 w w'.heap.size pre W ∧ (pre.length : Int) = a1)
    (fun pre A B h hb => ⟨h.1.step hb (by simp) (by simp; omega), h.2⟩) (fun c pre A B h hb => ⟨h.1, h.2.1.step hb (by simp) (by simp; omega), h.2.2⟩)
    ?start
    (fun x => { tmps := #[.agg #[.int .i64 a0_0, .int .i64 a0_1, .int .i64 a0_2, .int .i64 a0_3, .int .i64 a0_4, .int .i64 a0_5, .slice A0_6 l0_6.length c0_6], .int .i64 a1, .pointer (some ⟨w.heap.size, 0, none⟩), .pointer (some ⟨w.heap.size + 1, 0, none⟩), .int .i64 0, .int .i64 0, .pointer (some ⟨w'.heap.size, 0, none⟩), .int .i64 x,
      .agg #[.int .i64 a0_0, .int .i64 a0_1, .int .i64 a0_2, .int .i64 a0_3, .int .i64 a0_4, .int .i64 a0_5, .slice A0_6 l0_6.length c0_6], .int .i64 0, .bool false, .bool false, .int .i64 a1, .bool false, .bool false,
      .agg #[.int .i64 a0_0, .int .i64 a0_1, .int .i64 a0_2, .int .i64 a0_3, .int .i64 a0_4, .int .i64 a0_5, .slice A0_6 l0_6.length c0_6], .agg #[.int .i64 a0_0, .int .i64 a0_1, .int .i64 a0_2, .int .i64 a0_3, .int .i64 a0_4, .int .i64 a0_5, .slice A0_6 l0_6.length c0_6],
      .func (.func 23) #[.agg #[.int .i64 a0_0, .int .i64 a0_1, .int .i64 a0_2, .int .i64 a0_3, .int .i64 a0_4, .int .i64 a0_5, .slice A0_6 l0_6.length c0_6]] #[], .int .i64 x, undef, undef, undef, undef, undef, undef], defers := [] }) ?assign ?body ?done ?stop
  case start =>
    exact ⟨⟨by simp [Rt.lastOf], by simp, (((Below.refl _ w').alloc (Nat.le_refl _) _).cell (p := ⟨w.heap.size + 1, 0, none⟩) hz2).trans (by simpa using (hcl (w.heap.size + 1) 0 (by simp))), (((Below.refl _ w').alloc (Nat.le_refl _) _).frozen (p := ⟨w.heap.size + 1, 0, none⟩) hz2).trans (by simpa using (hfr (w.heap.size + 1) 0 (by simp))), rfl, HB0.out.alloc (by omega) _⟩, by simp; omega⟩
  case assign =>
    intro l x W K hK
    gi_wp2
    exact hK
  case body =>
    rintro l pre x W hz3 ⟨hi, hl⟩ hok
    have hc1 := hi.last
    have hf1 := hi.lastf
    have hc2 := hi.left
    have hf2 := hi.leftf
    have HI := Aside0.mk hi
    have HOK := Aside0.mk hok
    have HZ3 := Aside0.mk hz3
    clear hi hok hz3 hcl hfr hc0_6 hu24 HC HK HB
    by_cases hq : a1 - (pre.length : Int) - 1 = 0
    · have hq1 : (a1 - (pre.length : Int) - 1 == 0) = true := beq_iff_eq.mpr hq
      have HQ := Aside0.mk hq
      clear hq
      gi_wp2
      exact ⟨((Rg.Keeps.refl _ _).setCell (by simp) _).setCell (by simp; omega) _, rfl, HI.out.next HOK.out (by omega) (by omega), by have := HQ.out; simp; omega⟩
    · have hq1 : (a1 - (pre.length : Int) - 1 == 0) = false := beq_eq_false_iff_ne.mpr hq
      have HQ := Aside0.mk hq
      clear hq
      gi_wp2
      exact ⟨((Rg.Keeps.refl _ _).setCell (by simp) _).setCell (by simp; omega) _, HI.out.next HOK.out (by omega) (by omega), by have := HQ.out; simp; omega⟩
  case done =>
    rintro D xs W hD hfin ⟨hi, hl⟩ hK
    have hc1 := hi.last
    have HI := Aside0.mk hi
    clear hi hcl hfr hc0_6 hu24 HC HB
    gi_wp2
    have hbel : Below w.heap.size w (W.putObj D (.deferred none)) := HI.out.bel.trans (Rg.below_putObj (by simp at hD; omega))
    refine ⟨by simp, .inl ⟨_, _, rfl, run_takeDeferred hK, ?_⟩⟩
    exact ⟨_, results_tmp2 (t := 4) (u := 5) rfl _ _ _, yes_wait HY.out.1 h1 (last_done hfin hl) hbel⟩
  case stop =>
    rintro D c pre W hD ⟨rfl, hi, hl⟩ hK
    have hc1 := hi.last
    have HI := Aside0.mk hi
    have HL := Aside0.mk hl
    clear hi hcl hfr hc0_6 hu24 HC HB hl
    gi_wp2
    have hbel : Below w.heap.size w (W.putObj D (.deferred none)) := HI.out.bel.trans (Rg.below_putObj (by simp at hD; omega))
    refine ⟨by simp, .inl ⟨_, _, rfl, run_takeDeferred hK, ?_⟩⟩
    exact ⟨_, results_tmp2 (t := 4) (u := 5) rfl _ _ _, yes_wait HY.out.1 h1 (last_stop HI.out.all HL.out h1) hbel⟩


end Go.Proofs.Ytealggjnnihejaa.PBase
