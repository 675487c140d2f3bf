/- Total tells the sum of the waits, for every policy. -/
import Derived.Test.YtealggjnnihejaaT7
import Derived.Sort.QuietIn
namespace Go.Proofs.Ytealggjnnihejaa.PBase
open Go.RowKit Go.Shelf Go.Proofs.YtealggjnnihejaaW.PrintWords Go.Proofs.YtealggjnnihejaaW.PrintLast Go.Proofs.YtealggjnnihejaaW.PrintMore
set_option linter.unusedVariables false
set_option linter.unusedSimpArgs false
attribute [local go_sem] Oper.semAt_some

def TotalPost (p : Rt.Pol) (w : World) (e : Ending) (w' : World) : Prop := e = .returned (.tuple #[.int .i64 (if Rt.okP p then Rt.tot p (p.most - 1).toNat else 0), .int .i64 (if Rt.okP p then 0 else 1)]) ∧ Below w.heap.size w w'
theorem no_total {p : Rt.Pol} {w w' : World} (h : ¬ Rt.okP p) (hb : Below w.heap.size w w') : TotalPost p w (.returned (.tuple #[.int .i64 0, .int .i64 1])) w' := ⟨by rw [if_neg h, if_neg h], hb⟩
theorem yes_total {p : Rt.Pol} {x : Int} {w w' : World} (h : Rt.okP p) (hx : x = Rt.tot p (p.most - 1).toNat) (hb : Below w.heap.size w w') : TotalPost p w (.returned (.tuple #[.int .i64 x, .int .i64 0])) w' := ⟨by rw [if_pos h, if_pos h, hx], hb⟩

set_option maxHeartbeats 2000000 in
set_option maxRecDepth 100000 in
theorem total_no (a0_0 : Int) (a0_1 : Int) (a0_2 : Int) (a0_3 : Int) (a0_4 : Int) (a0_5 : Int) (A0_6 : Option Addr) (c0_6 : Nat) (l0_6 : List Int) (w : World) (hr0_6 : Kd.C (Kd.int .i64) w A0_6 l0_6.length l0_6) (hc0_6 : l0_6.length ≤ c0_6) (hg : a0_1 ≤ Rt.gr)
    (hno : ¬ Rt.okP ⟨a0_0, a0_1, a0_2, a0_3, a0_4, a0_5, (l0_6.length : Int)⟩) :
    Calls Try.prog 12 #[.agg #[.int .i64 a0_0, .int .i64 a0_1, .int .i64 a0_2, .int .i64 a0_3, .int .i64 a0_4, .int .i64 a0_5, .slice A0_6 l0_6.length c0_6]] w (TotalPost ⟨a0_0, a0_1, a0_2, a0_3, a0_4, a0_5, (l0_6.length : Int)⟩ w) := by
  have hu24 := Try.underlying24
  have HC := Aside0.mk (fun W (hb : Below w.heap.size w W) => check_calls a0_0 a0_1 a0_2 a0_3 a0_4 a0_5 A0_6 c0_6 l0_6 W (Kd.C_below hr0_6 hb) hc0_6 hg)
  clear hr0_6 hg
  obtain ⟨p, hp⟩ : ∃ p : Rt.Pol, p = ⟨a0_0, a0_1, a0_2, a0_3, a0_4, a0_5, (l0_6.length : Int)⟩ := ⟨_, rfl⟩
  rw [← hp] at HC hno ⊢
  clear hp
  have HN := Aside0.mk hno
  have HK := Aside0.mk (show chk p = 1 from if_neg hno)
  clear hno
  go_enter Try.func12, Try.ntmps12
  go_wp2_with (go_at_call 15; refine (HC.out _ (by repeat (first | exact Below.refl _ _ | apply below_alloc | apply pw_below_drewN))).mono ?_; rintro e w' ⟨rfl, hb⟩; rw [HK.out]; have HB := Aside0.mk hb; obtain ⟨hcl, hfr⟩ := bcell hb; clear hb)
  go_ret2
  exact no_total HN.out (((Below.refl _ w).alloc (Nat.le_refl _) _).trans (HB.out.mono (by simp)))

/-- Between two rounds of Total. -/
structure TI (p : Rt.Pol) (most : Int) (w : World) (g : Nat) (pre : List Int) (W : World) : Prop where
  sum : W.cell? ⟨g, 0, none⟩ = some (.int .i64 (Rt.sums pre))
  sumf : W.frozen? ⟨g, 0, none⟩ = false
  last : W.cell? ⟨g + 1, 0, none⟩ = some (.int .i64 (Rt.lastOf pre))
  lastf : W.frozen? ⟨g + 1, 0, none⟩ = false
  left : W.cell? ⟨g + 1 + 1, 0, none⟩ = some (.int .i64 (most - 1 - pre.length))
  leftf : W.frozen? ⟨g + 1 + 1, 0, none⟩ = false
  all : pre = Rt.upto p pre.length
  bel : Below w.heap.size w W
theorem TI.step {p : Rt.Pol} {a1 : Int} {w A B : World} {g B0 : Nat} {pre : List Int} (h : TI p a1 w g pre A) (hb : Below B0 A B) (h1 : g + 2 < B0) (h2 : w.heap.size ≤ g) : TI p a1 w g pre B :=
  ⟨(hb.cell (p := ⟨g, 0, none⟩) (by show g < B0; omega)).trans h.sum, (hb.frozen (p := ⟨g, 0, none⟩) (by show g < B0; omega)).trans h.sumf, (hb.cell (p := ⟨g + 1, 0, none⟩) (by show g + 1 < B0; omega)).trans h.last, (hb.frozen (p := ⟨g + 1, 0, none⟩) (by show g + 1 < B0; omega)).trans h.lastf,
    (hb.cell (p := ⟨g + 1 + 1, 0, none⟩) h1).trans h.left, (hb.frozen (p := ⟨g + 1 + 1, 0, none⟩) h1).trans h.leftf, h.all, h.bel.trans (hb.mono (by omega))⟩
theorem ne_addr {a b : Nat} (h : a ≠ b) : (⟨a, 0, none⟩ : Addr) ≠ ⟨b, 0, none⟩ := by intro e; cases e; exact h rfl
theorem TI.next {p : Rt.Pol} {a1 : Int} {w W : World} {g : Nat} {pre : List Int} {x : Int} (h : TI p a1 w g pre W) (hok : Ok p pre x) (h2 : w.heap.size ≤ g) (n : Nat) :
    TI p a1 w g (pre ++ [x]) ((((W.drewN n).setCell ⟨g, 0, none⟩ (.int .i64 (Rt.sadd (Rt.sums pre) x))).setCell ⟨g + 1, 0, none⟩ (.int .i64 x)).setCell ⟨g + 1 + 1, 0, none⟩ (.int .i64 (a1 - 1 - (pre.length : Int) - 1))) := by
  have e1 : (⟨g, 0, none⟩ : Addr) ≠ ⟨g + 1, 0, none⟩ := ne_addr (by omega)
  have e2 : (⟨g, 0, none⟩ : Addr) ≠ ⟨g + 1 + 1, 0, none⟩ := ne_addr (by omega)
  have e3 : (⟨g + 1, 0, none⟩ : Addr) ≠ ⟨g + 1 + 1, 0, none⟩ := ne_addr (by omega)
  have hb : Below g W (W.drewN n) := pw_below_drewN (Below.refl _ _) n
  have c1 : (W.drewN n).cell? ⟨g, 0, none⟩ = some (.int .i64 (Rt.sums pre)) := by simpa using h.sum
  have c2 : (W.drewN n).cell? ⟨g + 1, 0, none⟩ = some (.int .i64 (Rt.lastOf pre)) := by simpa using h.last
  have c3 : (W.drewN n).cell? ⟨g + 1 + 1, 0, none⟩ = some (.int .i64 (a1 - 1 - pre.length)) := by simpa using h.left
  refine ⟨?_, ?_, ?_, ?_, ?_, ?_, ?_, (((pw_below_drewN h.bel n).setCell h2 _).setCell (by show w.heap.size ≤ g + 1; omega) _).setCell (by show w.heap.size ≤ g + 1 + 1; omega) _⟩
  · rw [Rt.sums_snoc, World.cell?_setCell_other _ _ _ _ e2.symm, World.cell?_setCell_other _ _ _ _ e1.symm]
    exact World.cell?_setCell_same' _ _ _ (by rw [c1]; rfl)
  · simpa using h.sumf
  · rw [Rt.lastOf_snoc, World.cell?_setCell_other _ _ _ _ e3.symm]
    exact World.cell?_setCell_same' _ _ _ (by rw [World.cell?_setCell_other _ _ _ _ e1, c2]; rfl)
  · simpa using h.lastf
  · rw [World.cell?_setCell_same' _ _ _ (by rw [World.cell?_setCell_other _ _ _ _ e3, World.cell?_setCell_other _ _ _ _ e2, c3]; rfl)]
    simp; omega
  · simpa using h.leftf
  · obtain ⟨ha, hx⟩ := hok
    rw [List.length_append, List.length_singleton, Rt.upto_succ, ← ha, hx]
theorem tot_done {p : Rt.Pol} {xs : List Int} (hp : Rt.okP p) (h : Fin p xs) (hl : (xs.length : Int) ≤ p.most - 1) : Rt.sadd (Rt.sums xs) (Rt.smul (Rt.lastOf xs) (p.most - 1 - xs.length)) = Rt.tot p (p.most - 1).toNat := by
  obtain ⟨n, rfl, hs⟩ := h
  rw [last_upto, Rt.sums_upto, Rt.upto_length] at *
  obtain ⟨k, hk⟩ : ∃ k : Nat, (p.most - 1).toNat = n + 1 + k := ⟨(p.most - 1).toNat - (n + 1), by omega⟩
  have hs2 : Rt.it p (n + 1 + 1) = Rt.it p (n + 1) := (Rt.it_stays hs 2).trans hs.symm
  rw [hk, Rt.tot_stays hp hs2, hs, show p.most - 1 - ((n + 1 : Nat) : Int) = (k : Int) from by omega]
theorem tot_stop {p : Rt.Pol} {xs : List Int} (hp : Rt.okP p) (h : xs = Rt.upto p xs.length) (hl : p.most - 1 - (xs.length : Int) = 0) : Rt.sadd (Rt.sums xs) (Rt.smul (Rt.lastOf xs) (p.most - 1 - xs.length)) = Rt.tot p (p.most - 1).toNat := by
  have ht := Rt.tot_bd hp xs.length
  have hg : ¬ (0 : Int) > Rt.gr := by unfold Rt.gr; omega
  rw [hl, show (p.most - 1).toNat = xs.length from by omega]
  rw [show Rt.sums xs = Rt.tot p xs.length from by conv => lhs; rw [h, Rt.sums_upto]]
  simp only [Rt.smul, Int.mul_zero, if_neg hg, Rt.sadd, Int.add_zero]
  rw [if_neg (by omega)]
theorem sum_bd {p : Rt.Pol} {xs : List Int} (hp : Rt.okP p) (h : xs = Rt.upto p xs.length) : 0 ≤ Rt.sums xs ∧ Rt.sums xs ≤ Rt.gr ∧ 0 ≤ Rt.lastOf xs ∧ Rt.lastOf xs ≤ Rt.gr := by
  have ht := Rt.tot_bd hp xs.length
  have e : Rt.sums xs = Rt.tot p xs.length := by conv => lhs; rw [h, Rt.sums_upto]
  refine ⟨by rw [e]; exact ht.1, by rw [e]; exact ht.2, ?_⟩
  rcases Nat.eq_zero_or_pos xs.length with h0 | h0
  · rw [List.eq_nil_of_length_eq_zero h0]; unfold Rt.lastOf Rt.gr; simp
  · obtain ⟨n, hn⟩ : ∃ n, xs.length = n + 1 := ⟨xs.length - 1, by omega⟩
    rw [hn] at h
    rw [h, last_upto]
    have := Rt.it_bd hp n
    obtain ⟨h1, _, _, _, _, _, _, _, _, _, h6⟩ := hp
    omega
theorem smul_bd {a b : Int} (h0 : 0 ≤ a) (h1 : 0 ≤ b) : 0 ≤ Rt.smul a b ∧ Rt.smul a b ≤ Rt.gr := by
  have := Int.mul_nonneg h0 h1
  have hg : 0 ≤ Rt.gr := by unfold Rt.gr; omega
  unfold Rt.smul
  split <;> omega
set_option maxHeartbeats 4000000 in
set_option maxRecDepth 100000 in
theorem total_yes (a0_0 : Int) (a0_1 : Int) (a0_2 : Int) (a0_3 : Int) (a0_4 : Int) (a0_5 : Int) (A0_6 : Option Addr) (c0_6 : Nat) (l0_6 : List Int) (w : World) (hr0_6 : Kd.C (Kd.int .i64) w A0_6 l0_6.length l0_6) (hc0_6 : l0_6.length ≤ c0_6) (hg : a0_1 ≤ Rt.gr)
    (hyes : Rt.okP ⟨a0_0, a0_1, a0_2, a0_3, a0_4, a0_5, (l0_6.length : Int)⟩) :
    Calls Try.prog 12 #[.agg #[.int .i64 a0_0, .int .i64 a0_1, .int .i64 a0_2, .int .i64 a0_3, .int .i64 a0_4, .int .i64 a0_5, .slice A0_6 l0_6.length c0_6]] w (TotalPost ⟨a0_0, a0_1, a0_2, a0_3, a0_4, a0_5, (l0_6.length : Int)⟩ w) := by
  have hu24 := Try.underlying24
  have HC := Aside0.mk (fun W (hb : Below w.heap.size w W) => check_calls a0_0 a0_1 a0_2 a0_3 a0_4 a0_5 A0_6 c0_6 l0_6 W (Kd.C_below hr0_6 hb) hc0_6 hg)
  have HG := Aside0.mk (waits_gives a0_0 a0_1 a0_2 a0_3 a0_4 a0_5 (l0_6.length : Int) (.slice A0_6 l0_6.length c0_6) 3 (by omega) hyes)
  clear hr0_6 hg
  have hm1 : 1 ≤ a0_4 := hyes.2.2.2.2.2.1
  have hm2 : a0_4 ≤ 1000 := hyes.2.2.2.2.2.2.1
  obtain ⟨p, hp⟩ : ∃ p : Rt.Pol, p = ⟨a0_0, a0_1, a0_2, a0_3, a0_4, a0_5, (l0_6.length : Int)⟩ := ⟨_, rfl⟩
  rw [← hp] at HC HG hyes ⊢
  have HM := Aside0.mk (show p.most = a0_4 from by rw [hp])
  clear hp
  have HK := Aside0.mk (show chk p = 0 from if_pos hyes)
  have HY := Aside0.mk hyes
  clear hyes
  refine (callsIn_wide (n := 4)).1 ?_
  refine callsIn_of_wp_marks Try.func12 rfl trivial ?_ rfl
  simp only [Try.ntmps12, List.size_toArray, List.length_cons, List.length_nil, Nat.reduceAdd, Nat.reduceSub, Array.replicate_succ, Array.replicate_zero, List.push_toArray, List.append_toArray, List.nil_append, List.cons_append]
  gi_wp2_with (refine ⟨trivial, ?_⟩; gi_at_call 15; refine (callsIn_wide.2 (HC.out _ (by repeat (first | exact Below.refl _ _ | apply below_alloc | apply pw_below_drewN)))).mono ?_; rintro e w' ⟨rfl, hb⟩; rw [HK.out]; have HB := Aside0.mk hb; obtain ⟨hcl, hfr⟩ := bcell hb; have hz := hb.size; have hz1 : w.heap.size < w'.heap.size := (by simp at hz; omega); have hz2 : w.heap.size < w'.heap.size + 1 := (by omega); have hz3 : w.heap.size < w'.heap.size + 1 + 1 := (by omega); have hz4 : w.heap.size < w'.heap.size + 1 + 1 + 1 := (by omega); clear hb hz)
  have HB0 := Aside0.mk (((Below.refl _ w).alloc (Nat.le_refl _) _).trans (HB.out.mono (by simp)))
  refine Rg.range_bound (gf := 23) (bnd := #[.agg #[.int .i64 a0_0, .int .i64 a0_1, .int .i64 a0_2, .int .i64 a0_3, .int .i64 a0_4, .int .i64 a0_5, .slice A0_6 l0_6.length c0_6]]) rfl (enters_of Try.func23 (by kernel_rfl) rfl) HG.out
    (fun pre W => TI p a0_4 w w'.heap.size pre W ∧ (pre.length : Int) ≤ a0_4 - 1)
    (fun c xs W => c = .exit 0 ∧ ∃ pre, TI p a0_4 w w'.heap.size pre W ∧ a0_4 - 1 - (pre.length : Int) = 0)
    (fun pre A B h hb => ⟨h.1.step hb (by simp) (by omega), h.2⟩) (fun c pre A B h hb => by obtain ⟨h1, q, h2, h3⟩ := h; exact ⟨h1, q, h2.step hb (by simp) (by omega), h3⟩)
    ?start
    (fun x => { tmps := #[.agg #[.int .i64 a0_0, .int .i64 a0_1, .int .i64 a0_2, .int .i64 a0_3, .int .i64 a0_4, .int .i64 a0_5, .slice A0_6 l0_6.length c0_6], .pointer (some ⟨w.heap.size, 0, none⟩), .int .i64 0, .int .i64 0, .int .i64 0, .pointer (some ⟨w'.heap.size, 0, none⟩), .pointer (some ⟨w'.heap.size + 1, 0, none⟩), .pointer (some ⟨w'.heap.size + 1 + 1, 0, none⟩), .int .i64 x,
      .agg #[.int .i64 a0_0, .int .i64 a0_1, .int .i64 a0_2, .int .i64 a0_3, .int .i64 a0_4, .int .i64 a0_5, .slice A0_6 l0_6.length c0_6], .int .i64 0, .int .i64 0, .bool false, undef, .pointer (some ⟨w.heap.size, 4, none⟩), .int .i64 a0_4, .int .i64 (a0_4 - 1), .agg #[.int .i64 a0_0, .int .i64 a0_1, .int .i64 a0_2, .int .i64 a0_3, .int .i64 a0_4, .int .i64 a0_5, .slice A0_6 l0_6.length c0_6], .agg #[.int .i64 a0_0, .int .i64 a0_1, .int .i64 a0_2, .int .i64 a0_3, .int .i64 a0_4, .int .i64 a0_5, .slice A0_6 l0_6.length c0_6], .func (.func 23) #[.agg #[.int .i64 a0_0, .int .i64 a0_1, .int .i64 a0_2, .int .i64 a0_3, .int .i64 a0_4, .int .i64 a0_5, .slice A0_6 l0_6.length c0_6]] #[], .int .i64 x, undef, undef, undef, undef, undef, undef, undef, undef, undef, undef, undef, undef, undef], defers := [] }) ?assign ?body ?done ?stop
  case start =>
    refine ⟨⟨?_, ?_, ?_, ?_, ?_, ?_, rfl, ((HB0.out.alloc (by omega) _).alloc (by simp; omega) _).alloc (by simp; omega) _⟩, by simp; omega⟩
    all_goals ((try simp only [Rt.sums, Rt.lastOf, List.foldl_nil, List.getLastD_nil, List.length_nil]); go_simp)
  case assign =>
    intro l x W K hK
    gi_wp2
    exact hK
  case body =>
    rintro l pre x W hz5 ⟨hi, hl⟩ hok
    have hc1 := hi.sum
    have hf1 := hi.sumf
    have hc2 := hi.last
    have hf2 := hi.lastf
    have hc3 := hi.left
    have hf3 := hi.leftf
    have HI := Aside0.mk hi
    have HOK := Aside0.mk hok
    have HZ5 := Aside0.mk hz5
    clear hi hok hz5 hcl hfr hc0_6 hu24 HC HK HB
    by_cases hq : a0_4 - 1 - (pre.length : Int) = 0
    · have hq1 : (a0_4 - 1 - (pre.length : Int) == 0) = true := beq_iff_eq.mpr hq
      have HQ := Aside0.mk hq
      clear hq
      gi_wp2
      exact ⟨Rg.Keeps.refl _ _, rfl, pre, HI.out, HQ.out⟩
    · have hq1 : (a0_4 - 1 - (pre.length : Int) == 0) = false := beq_eq_false_iff_ne.mpr hq
      have HQ := Aside0.mk hq
      clear hq
      have hs := Aside0.mk (sum_bd HY.out HI.out.all)
      have hx := Aside0.mk (show 0 ≤ x ∧ x ≤ Rt.gr from by
        have h1 := HOK.out.2
        have := Rt.it_bd HY.out pre.length
        obtain ⟨h0, _, _, _, _, _, _, _, _, _, h6⟩ := HY.out
        omega)
      gi_wp2_with (refine ⟨trivial, ?_⟩; gi_at_call 22; refine (CallsIn.inRound l (callsIn_wide.2 (add_calls _ hs.out.1 hs.out.2.1 hx.out.1 hx.out.2))).mono ?_; rintro e w1 ⟨rfl, ⟨nq, rfl⟩⟩)
      exact ⟨((((Rg.Keeps.refl _ W).drewN nq).setCell (by simp; omega) _).setCell (by simp) _).setCell (by simp) _, HI.out.next HOK.out (by omega) nq, by have := HQ.out; simp; omega⟩
  case done =>
    rintro D xs W hD hfin ⟨hi, hl⟩ hK
    have hc1 := hi.sum
    have hc2 := hi.last
    have hc3 := hi.left
    have HI := Aside0.mk hi
    have hs := Aside0.mk (sum_bd HY.out hi.all)
    have hm := Aside0.mk (Rt.sadd_bd (a := 0) (b := Rt.lastOf xs) (by omega) hs.out.2.2.1 (by unfold Rt.gr; omega))
    have HF := Aside0.mk hfin
    have HK5 := Aside0.mk hK
    have HD := Aside0.mk hD
    clear hi hfin hK hD hcl hfr hc0_6 hu24 HC HB HK
    have hl2 : 0 ≤ a0_4 - 1 - (xs.length : Int) := by omega
    have hl3 : a0_4 - 1 - (xs.length : Int) ≤ 1000 := by omega
    have HS := Aside0.mk (smul_bd hs.out.2.2.1 hl2)
    gi_wp2
    refine wpIn_region_quiet_lit rfl (by kernel_rfl) (by kernel_rfl) ?_
    repeat (refine wpQuietIn_step (fun _ _ _ _ => trivial) (fun K hK => ?_); go_simp; first | (refine hK _ ?_; clear hK K) | (apply Exists.intro; refine ⟨fun _ => ?_, hK _ ?_⟩; (first | (gi_at_call 25; exact CallsIn.quiet_of ((callsIn_wide.2 (mul2_calls _ hs.out.2.2.1 hs.out.2.2.2 hl2 hl3)).mono fun _ _ ⟨h1, h2⟩ => ⟨h1, h2.out⟩)) | (gi_at_call 22; exact CallsIn.quiet_of ((callsIn_wide.2 (add_calls _ hs.out.1 hs.out.2.1 HS.out.1 HS.out.2)).mono fun _ _ ⟨h1, h2⟩ => ⟨h1, h2.out⟩))); clear hK K))
    refine wpQuietIn_nil ?_
    rintro _ ⟨nq, rfl⟩
    gi_wp2
    have hbel : Below w.heap.size w ((W.drewN nq).putObj D (.deferred none)) := (pw_below_drewN HI.out.bel nq).trans (Rg.below_putObj (by have := HD.out; simp at this; omega))
    refine ⟨by simp, .inl ⟨_, _, rfl, run_takeDeferred (b := D) (by simpa using HK5.out), ?_⟩⟩
    exact ⟨_, results_tmp2 (t := 2) (u := 3) rfl _ _ _, yes_total HY.out (by have := tot_done HY.out HF.out (by rw [HM.out]; exact hl); rw [HM.out] at this ⊢; exact this) hbel⟩
  case stop =>
    rintro D c xs0 W hD ⟨rfl, xs, hi, hl⟩ hK
    have hc1 := hi.sum
    have hc2 := hi.last
    have hc3 := hi.left
    have HI := Aside0.mk hi
    have hs := Aside0.mk (sum_bd HY.out hi.all)
    have hm := Aside0.mk (Rt.sadd_bd (a := 0) (b := Rt.lastOf xs) (by omega) hs.out.2.2.1 (by unfold Rt.gr; omega))
    have HF := Aside0.mk hl
    have HK5 := Aside0.mk hK
    have HD := Aside0.mk hD
    clear hi hK hD hcl hfr hc0_6 hu24 HC HB HK
    have hl2 : 0 ≤ a0_4 - 1 - (xs.length : Int) := by omega
    have hl3 : a0_4 - 1 - (xs.length : Int) ≤ 1000 := by omega
    clear hl
    have HS := Aside0.mk (smul_bd hs.out.2.2.1 hl2)
    gi_wp2
    refine wpIn_region_quiet_lit rfl (by kernel_rfl) (by kernel_rfl) ?_
    repeat (refine wpQuietIn_step (fun _ _ _ _ => trivial) (fun K hK => ?_); go_simp; first | (refine hK _ ?_; clear hK K) | (apply Exists.intro; refine ⟨fun _ => ?_, hK _ ?_⟩; (first | (gi_at_call 25; exact CallsIn.quiet_of ((callsIn_wide.2 (mul2_calls _ hs.out.2.2.1 hs.out.2.2.2 hl2 hl3)).mono fun _ _ ⟨h1, h2⟩ => ⟨h1, h2.out⟩)) | (gi_at_call 22; exact CallsIn.quiet_of ((callsIn_wide.2 (add_calls _ hs.out.1 hs.out.2.1 HS.out.1 HS.out.2)).mono fun _ _ ⟨h1, h2⟩ => ⟨h1, h2.out⟩))); clear hK K))
    refine wpQuietIn_nil ?_
    rintro _ ⟨nq, rfl⟩
    gi_wp2
    have hbel : Below w.heap.size w ((W.drewN nq).putObj D (.deferred none)) := (pw_below_drewN HI.out.bel nq).trans (Rg.below_putObj (by have := HD.out; simp at this; omega))
    refine ⟨by simp, .inl ⟨_, _, rfl, run_takeDeferred (b := D) (by simpa using HK5.out), ?_⟩⟩
    exact ⟨_, results_tmp2 (t := 2) (u := 3) rfl _ _ _, yes_total HY.out (by have := tot_stop HY.out HI.out.all (by rw [HM.out]; exact HF.out); rw [HM.out] at this ⊢; exact this) hbel⟩

end Go.Proofs.Ytealggjnnihejaa.PBase
