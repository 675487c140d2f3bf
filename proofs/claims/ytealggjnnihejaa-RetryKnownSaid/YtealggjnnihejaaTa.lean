/- Next tells whether there is another attempt, and the wait ahead of it, for every policy. -/
import Derived.Test.YtealggjnnihejaaT9
namespace Go.Proofs.Ytealggjnnihejaa.PBase
open Go.RowKit Go.Shelf Go.Proofs.YtealggjnnihejaaW.PrintWords Go.Proofs.YtealggjnnihejaaW.PrintLast Go.Proofs.YtealggjnnihejaaW.PrintMore
set_option linter.unusedVariables false
set_option linter.unusedSimpArgs false

theorem wait_calls (a0_0 : Int) (a0_1 : Int) (a0_2 : Int) (a0_3 : Int) (a0_4 : Int) (a0_5 : Int) (A0_6 : Option Addr) (c0_6 : Nat) (l0_6 : List Int) (a1 : Int) (w : World) (hr0_6 : Kd.C (Kd.int .i64) w A0_6 l0_6.length l0_6) (hc0_6 : l0_6.length ≤ c0_6) (hg : a0_1 ≤ Rt.gr) (ha : a1 ≤ Rt.gr) :
    Calls Try.prog 10 #[.agg #[.int .i64 a0_0, .int .i64 a0_1, .int .i64 a0_2, .int .i64 a0_3, .int .i64 a0_4, .int .i64 a0_5, .slice A0_6 l0_6.length c0_6], .int .i64 a1] w (WaitPost ⟨a0_0, a0_1, a0_2, a0_3, a0_4, a0_5, (l0_6.length : Int)⟩ a1 w) := by
  by_cases h : Rt.okP ⟨a0_0, a0_1, a0_2, a0_3, a0_4, a0_5, (l0_6.length : Int)⟩ ∧ 1 ≤ a1
  · exact wait_yes _ _ _ _ _ _ _ _ _ _ _ hr0_6 hc0_6 hg ha h
  · exact wait_no _ _ _ _ _ _ _ _ _ _ _ hr0_6 hc0_6 hg h
theorem total_calls (a0_0 : Int) (a0_1 : Int) (a0_2 : Int) (a0_3 : Int) (a0_4 : Int) (a0_5 : Int) (A0_6 : Option Addr) (c0_6 : Nat) (l0_6 : List Int) (w : World) (hr0_6 : Kd.C (Kd.int .i64) w A0_6 l0_6.length l0_6) (hc0_6 : l0_6.length ≤ c0_6) (hg : a0_1 ≤ Rt.gr) :
    Calls Try.prog 12 #[.agg #[.int .i64 a0_0, .int .i64 a0_1, .int .i64 a0_2, .int .i64 a0_3, .int .i64 a0_4, .int .i64 a0_5, .slice A0_6 l0_6.length c0_6]] w (TotalPost ⟨a0_0, a0_1, a0_2, a0_3, a0_4, a0_5, (l0_6.length : Int)⟩ w) := by
  by_cases h : Rt.okP ⟨a0_0, a0_1, a0_2, a0_3, a0_4, a0_5, (l0_6.length : Int)⟩
  · exact total_yes _ _ _ _ _ _ _ _ _ _ hr0_6 hc0_6 hg h
  · exact total_no _ _ _ _ _ _ _ _ _ _ hr0_6 hc0_6 hg h
theorem drawn_calls (a0_0 : Int) (a0_1 : Int) (a0_2 : Int) (a0_3 : Int) (a0_4 : Int) (a0_5 : Int) (A0_6 : Option Addr) (c0_6 : Nat) (l0_6 : List Int) (x d : Int) (w : World) (hr0_6 : Kd.C (Kd.int .i64) w A0_6 l0_6.length l0_6) (hc0_6 : l0_6.length ≤ c0_6) (hg : a0_1 ≤ Rt.gr) (hx : x ≤ Rt.gr) (hd0 : 0 ≤ d) (hd1 : d < 4294967296) :
    Calls Try.prog 17 #[.agg #[.int .i64 a0_0, .int .i64 a0_1, .int .i64 a0_2, .int .i64 a0_3, .int .i64 a0_4, .int .i64 a0_5, .slice A0_6 l0_6.length c0_6], .int .i64 x, .int .u32 d] w (DrawnPost ⟨a0_0, a0_1, a0_2, a0_3, a0_4, a0_5, (l0_6.length : Int)⟩ x d w) := by
  by_cases h : Rt.okP ⟨a0_0, a0_1, a0_2, a0_3, a0_4, a0_5, (l0_6.length : Int)⟩ ∧ 0 ≤ x
  · exact drawn_yes _ _ _ _ _ _ _ _ _ _ _ _ hr0_6 hc0_6 hg hx hd0 hd1 h
  · exact drawn_no _ _ _ _ _ _ _ _ _ _ _ _ hr0_6 hc0_6 hg h

theorem index_is (l : List Int) (c : Int) (hl : (l.length : Int) ≤ 9223372036854775807) (d : Nat) : ∀ (k : Nat) (i : Int), 0 ≤ i → (l.length : Int) - i = d → d < k →
    ∃ r, slices_Index_int64_int64.l0 k l c (l.length : Int) i = some r ∧ (r ≥ 0 ↔ c ∈ l.drop i.toNat) := by
  induction d with
  | zero =>
    intro k i h0 hd hk
    obtain ⟨k, rfl⟩ : ∃ m, k = m + 1 := ⟨k - 1, by omega⟩
    refine ⟨-1, by simp only [slices_Index_int64_int64.l0]; rw [if_neg (by omega)], ?_⟩
    rw [List.drop_eq_nil_of_le (by omega)]
    simp
  | succ d ih =>
    intro k i h0 hd hk
    obtain ⟨k, rfl⟩ : ∃ m, k = m + 1 := ⟨k - 1, by omega⟩
    have hlt : i.toNat < l.length := by omega
    have hrd : rd l i = l[i.toNat] := by simp [rd, List.getD, hlt]
    have hdr : l.drop i.toNat = l[i.toNat] :: l.drop (i.toNat + 1) := List.drop_eq_getElem_cons hlt
    by_cases hc : c = rd l i
    · refine ⟨i, by simp only [slices_Index_int64_int64.l0]; rw [if_pos (by omega), if_pos h0, if_pos (by omega), if_pos hc], ?_⟩
      rw [hdr, ← hrd, ← hc]
      simp [h0]
    · obtain ⟨r, hr, hm⟩ := ih k (i + 1) (by omega) (by omega) (by omega)
      have hw : wrap64 (i + 1) = i + 1 := by unfold wrap64; omega
      refine ⟨r, by simp only [slices_Index_int64_int64.l0]; rw [if_pos (by omega), if_pos h0, if_pos (by omega), if_neg hc, hw]; exact hr, ?_⟩
      rw [hm, show (i + 1).toNat = i.toNat + 1 from by omega, hdr, List.mem_cons, ← hrd]
      simp [hc]
theorem fatal_is (a0_0 a0_1 a0_2 a0_3 a0_4 a0_5 : Int) (l : List Int) (c : Int) (hl : l.length ≤ 1000) : retry_codes_fatal.f 1001 a0_0 a0_1 a0_2 a0_3 a0_4 a0_5 l c = some (decide (c ∈ l)) := by
  obtain ⟨r, hr, hm⟩ := index_is l c (by omega) l.length 1001 0 (by omega) (by omega) (by omega)
  unfold retry_codes_fatal.f slices_Contains_int64_int64.f slices_Index_int64_int64.f
  rw [hr]
  simp only [Option.bind_some]
  refine congrArg some ?_
  simp at hm
  simp [hm]

def NextPost19 (p : Rt.Pol) (l : List Int) (a code draw : Int) (w : World) (e : Ending) (w' : World) : Prop :=
  e = .returned (if Rt.okP p ∧ 1 ≤ a then (if p.most ≤ a ∨ code ∈ l then .tuple #[.int .i64 0, .bool false, .int .i64 0] else .tuple #[.int .i64 (Rt.drawn p (Rt.it p (a - 1).toNat) draw), .bool true, .int .i64 0]) else .tuple #[.int .i64 0, .bool false, .int .i64 1]) ∧ Below w.heap.size w w'
theorem below_box {w w' : World} {o : Obj} (hb : Below (w.alloc o).heap.size (w.alloc o) w') : Below w.heap.size w w' := ((Below.refl _ w).alloc (Nat.le_refl _) _).trans (hb.mono (by simp))
theorem below_then {w W w' : World} (h : Below w.heap.size w W) (hb : Below W.heap.size W w') : Below w.heap.size w w' := h.trans (hb.mono h.size)
theorem hbsz {W w1 : World} (hb : Below W.heap.size W w1) : W.heap.size ≤ w1.heap.size := hb.size
theorem n_no {p : Rt.Pol} {l : List Int} {a c d : Int} {w w' : World} (h : ¬ (Rt.okP p ∧ 1 ≤ a)) (hb : Below w.heap.size w w') : NextPost19 p l a c d w (.returned (.tuple #[.int .i64 0, .bool false, .int .i64 1])) w' := ⟨by rw [if_neg h], hb⟩
theorem n_over {p : Rt.Pol} {l : List Int} {a c d : Int} {w w' : World} (h : Rt.okP p ∧ 1 ≤ a) (h2 : p.most ≤ a ∨ c ∈ l) (hb : Below w.heap.size w w') : NextPost19 p l a c d w (.returned (.tuple #[.int .i64 0, .bool false, .int .i64 0])) w' := ⟨by rw [if_pos h, if_pos h2], hb⟩
theorem n_yes {p : Rt.Pol} {l : List Int} {a c d : Int} {w w' : World} (h : Rt.okP p ∧ 1 ≤ a) (h2 : ¬ (p.most ≤ a ∨ c ∈ l)) (hb : Below w.heap.size w w') : NextPost19 p l a c d w (.returned (.tuple #[.int .i64 (Rt.drawn p (Rt.it p (a - 1).toNat) d), .bool true, .int .i64 0])) w' := ⟨by rw [if_pos h, if_neg h2], hb⟩
theorem n_yes' {p : Rt.Pol} {l : List Int} {a c d x : Int} {w w' : World} (hx : Rt.it p (a - 1).toNat = x) (h : Rt.okP p ∧ 1 ≤ a) (h2 : ¬ (p.most ≤ a ∨ c ∈ l)) (hb : Below w.heap.size w w') : NextPost19 p l a c d w (.returned (.tuple #[.int .i64 (Rt.drawn p x d), .bool true, .int .i64 0])) w' := by subst hx; exact n_yes h h2 hb
set_option maxHeartbeats 2000000 in
set_option maxRecDepth 100000 in
theorem next19_no (a0_0 : Int) (a0_1 : Int) (a0_2 : Int) (a0_3 : Int) (a0_4 : Int) (a0_5 : Int) (A0_6 : Option Addr) (c0_6 : Nat) (l0_6 : List Int) (a1 a2 a3 : Int) (w : World) (hr0_6 : Kd.C (Kd.int .i64) w A0_6 l0_6.length l0_6) (hc0_6 : l0_6.length ≤ c0_6) (hg : a0_1 ≤ Rt.gr) (ha : a1 ≤ Rt.gr)
    (hno : ¬ (Rt.okP ⟨a0_0, a0_1, a0_2, a0_3, a0_4, a0_5, (l0_6.length : Int)⟩ ∧ 1 ≤ a1)) :
    Calls Try.prog 19 #[.agg #[.int .i64 a0_0, .int .i64 a0_1, .int .i64 a0_2, .int .i64 a0_3, .int .i64 a0_4, .int .i64 a0_5, .slice A0_6 l0_6.length c0_6], .int .i64 a1, .int .i64 a2, .int .u32 a3] w (NextPost19 ⟨a0_0, a0_1, a0_2, a0_3, a0_4, a0_5, (l0_6.length : Int)⟩ l0_6 a1 a2 a3 w) := by
  have hu24 := Try.underlying24
  have hu53 := Try.underlying53
  have HW := Aside0.mk (fun W (hb : Below w.heap.size w W) => wait_calls a0_0 a0_1 a0_2 a0_3 a0_4 a0_5 A0_6 c0_6 l0_6 a1 W (Kd.C_below hr0_6 hb) hc0_6 hg ha)
  clear hr0_6 hg
  obtain ⟨p, hp⟩ : ∃ p : Rt.Pol, p = ⟨a0_0, a0_1, a0_2, a0_3, a0_4, a0_5, (l0_6.length : Int)⟩ := ⟨_, rfl⟩
  rw [← hp] at HW hno ⊢
  clear hp
  have HN := Aside0.mk hno
  clear hno
  go_enter Try.func19, Try.ntmps19
  go_wp2_with (go_at_call 10; refine (HW.out _ (by repeat (first | exact Below.refl _ _ | apply below_alloc | apply pw_below_drewN))).mono ?_; rintro e w' ⟨rfl, hb⟩; rw [if_neg HN.out, if_neg HN.out]; have HB := Aside0.mk (below_box hb); obtain ⟨hcl, hfr⟩ := bcell hb; clear hb)
  go_ret3
  exact n_no HN.out (by repeat (first | (with_reducible exact HB.out) | (with_reducible apply pw_below_drewN)))
set_option maxHeartbeats 2000000 in
set_option maxRecDepth 100000 in
theorem next19_over (a0_0 : Int) (a0_1 : Int) (a0_2 : Int) (a0_3 : Int) (a0_4 : Int) (a0_5 : Int) (A0_6 : Option Addr) (c0_6 : Nat) (l0_6 : List Int) (a1 a2 a3 : Int) (w : World) (hr0_6 : Kd.C (Kd.int .i64) w A0_6 l0_6.length l0_6) (hc0_6 : l0_6.length ≤ c0_6) (hg : a0_1 ≤ Rt.gr) (ha : a1 ≤ Rt.gr)
    (hyes : Rt.okP ⟨a0_0, a0_1, a0_2, a0_3, a0_4, a0_5, (l0_6.length : Int)⟩ ∧ 1 ≤ a1) (hov : a0_4 ≤ a1) :
    Calls Try.prog 19 #[.agg #[.int .i64 a0_0, .int .i64 a0_1, .int .i64 a0_2, .int .i64 a0_3, .int .i64 a0_4, .int .i64 a0_5, .slice A0_6 l0_6.length c0_6], .int .i64 a1, .int .i64 a2, .int .u32 a3] w (NextPost19 ⟨a0_0, a0_1, a0_2, a0_3, a0_4, a0_5, (l0_6.length : Int)⟩ l0_6 a1 a2 a3 w) := by
  have hu24 := Try.underlying24
  have hu53 := Try.underlying53
  have HW := Aside0.mk (fun W (hb : Below w.heap.size w W) => wait_calls a0_0 a0_1 a0_2 a0_3 a0_4 a0_5 A0_6 c0_6 l0_6 a1 W (Kd.C_below hr0_6 hb) hc0_6 hg ha)
  clear hr0_6 hg
  obtain ⟨p, hp⟩ : ∃ p : Rt.Pol, p = ⟨a0_0, a0_1, a0_2, a0_3, a0_4, a0_5, (l0_6.length : Int)⟩ := ⟨_, rfl⟩
  have HO := Aside0.mk (show p.most ≤ a1 from by rw [hp]; exact hov)
  rw [← hp] at HW hyes ⊢
  clear hp
  have HN := Aside0.mk hyes
  clear hyes
  have hov1 : decide (a0_4 ≤ a1) = true := decide_eq_true hov
  go_enter Try.func19, Try.ntmps19
  go_wp2_with (go_at_call 10; refine (HW.out _ (by repeat (first | exact Below.refl _ _ | apply below_alloc | apply pw_below_drewN))).mono ?_; rintro e w' ⟨rfl, hb⟩; rw [if_pos HN.out, if_pos HN.out]; have HB := Aside0.mk (below_box hb); obtain ⟨hcl, hfr⟩ := bcell hb; have hz0 : w.heap.size < w'.heap.size := (by have := hbsz hb; simp at this; omega); clear hb)
  go_ret3
  exact n_over HN.out (.inl HO.out) (by repeat (first | (with_reducible exact HB.out) | (with_reducible apply pw_below_drewN)))
set_option maxHeartbeats 2000000 in
set_option maxRecDepth 100000 in
theorem next19_in (a0_0 : Int) (a0_1 : Int) (a0_2 : Int) (a0_3 : Int) (a0_4 : Int) (a0_5 : Int) (A0_6 : Option Addr) (c0_6 : Nat) (l0_6 : List Int) (a1 a2 a3 : Int) (w : World) (hr0_6 : Kd.C (Kd.int .i64) w A0_6 l0_6.length l0_6) (hc0_6 : l0_6.length ≤ c0_6) (hg : a0_1 ≤ Rt.gr) (ha : a1 ≤ Rt.gr) (hd0 : 0 ≤ a3) (hd1 : a3 < 4294967296)
    (hyes : Rt.okP ⟨a0_0, a0_1, a0_2, a0_3, a0_4, a0_5, (l0_6.length : Int)⟩ ∧ 1 ≤ a1) (hov : a1 < a0_4) :
    Calls Try.prog 19 #[.agg #[.int .i64 a0_0, .int .i64 a0_1, .int .i64 a0_2, .int .i64 a0_3, .int .i64 a0_4, .int .i64 a0_5, .slice A0_6 l0_6.length c0_6], .int .i64 a1, .int .i64 a2, .int .u32 a3] w (NextPost19 ⟨a0_0, a0_1, a0_2, a0_3, a0_4, a0_5, (l0_6.length : Int)⟩ l0_6 a1 a2 a3 w) := by
  have hu24 := Try.underlying24
  have hu53 := Try.underlying53
  have HW := Aside0.mk (fun W (hb : Below w.heap.size w W) => wait_calls a0_0 a0_1 a0_2 a0_3 a0_4 a0_5 A0_6 c0_6 l0_6 a1 W (Kd.C_below hr0_6 hb) hc0_6 hg ha)
  have hlen : (l0_6.length : Int) ≤ 100 := hyes.1.2.2.2.2.2.2.2.2.2.1
  have HF := Aside0.mk (fun W (hb : Below w.heap.size w W) => retry_codes_fatal.calls 1001 a0_0 a0_1 a0_2 a0_3 a0_4 a0_5 A0_6 c0_6 l0_6 a2 _ W (Kd.C_below hr0_6 hb) hc0_6 (fatal_is a0_0 a0_1 a0_2 a0_3 a0_4 a0_5 l0_6 a2 (by omega)))
  have hib := Rt.it_bd hyes.1 (a1 - 1).toNat
  have hcap := hyes.1.2.2.2.2.2.2.2.2.2.2
  have hf0 := hyes.1.1
  have HD := Aside0.mk (fun W (hb : Below w.heap.size w W) => drawn_calls a0_0 a0_1 a0_2 a0_3 a0_4 a0_5 A0_6 c0_6 l0_6 (Rt.it ⟨a0_0, a0_1, a0_2, a0_3, a0_4, a0_5, (l0_6.length : Int)⟩ (a1 - 1).toNat) a3 W (Kd.C_below hr0_6 hb) hc0_6 hg (Int.le_trans hib.2 hcap) hd0 hd1)
  have HI := Aside0.mk (show Rt.okP ⟨a0_0, a0_1, a0_2, a0_3, a0_4, a0_5, (l0_6.length : Int)⟩ ∧ 0 ≤ Rt.it ⟨a0_0, a0_1, a0_2, a0_3, a0_4, a0_5, (l0_6.length : Int)⟩ (a1 - 1).toNat from ⟨hyes.1, Int.le_trans hf0 hib.1⟩)
  clear hr0_6 hg hib hcap hf0
  obtain ⟨p, hp⟩ : ∃ p : Rt.Pol, p = ⟨a0_0, a0_1, a0_2, a0_3, a0_4, a0_5, (l0_6.length : Int)⟩ := ⟨_, rfl⟩
  have HO := Aside0.mk (show ¬ p.most ≤ a1 from by rw [hp]; show ¬ a0_4 ≤ a1; omega)
  rw [← hp] at HW hyes HD HI ⊢
  clear hp
  have HN := Aside0.mk hyes
  obtain ⟨x, hx⟩ : ∃ x, Rt.it p (a1 - 1).toNat = x := ⟨_, rfl⟩
  rw [hx] at HD HI
  have HX := Aside0.mk hx
  clear hyes hx
  have hov1 : decide (a0_4 ≤ a1) = false := decide_eq_false (by omega)
  by_cases hm : a2 ∈ l0_6
  · have HM := Aside0.mk hm
    have HMD := Aside0.mk (decide_eq_true hm)
    clear hm
    go_enter Try.func19, Try.ntmps19
    go_wp2_with (first | (go_at_call 10; refine (HW.out _ (by repeat (first | exact Below.refl _ _ | apply below_alloc | apply pw_below_drewN))).mono ?_; rintro e w' ⟨rfl, hb⟩; rw [if_pos HN.out, if_pos HN.out, HX.out]; have HB := Aside0.mk (below_box hb); obtain ⟨hcl, hfr⟩ := bcell hb; have hz0 : w.heap.size < w'.heap.size := (by have := hbsz hb; simp at this; omega); clear hb) | (go_at_call 30; refine (HF.out _ (by repeat (first | (with_reducible exact HB.out) | (with_reducible apply pw_below_drewN)))).mono ?_; rintro e w2 ⟨rfl, hb⟩; rw [HMD.out]; have HB2 := Aside0.mk (below_then (W := _) (by repeat (first | (with_reducible exact HB.out) | (with_reducible apply pw_below_drewN))) hb); obtain ⟨hcl2, hfr2⟩ := bcell hb; clear hb))
    go_ret3
    exact n_over HN.out (.inr HM.out) (by repeat (first | (with_reducible exact HB2.out) | (with_reducible apply pw_below_drewN)))
  · have HM := Aside0.mk hm
    have HMD := Aside0.mk (decide_eq_false hm)
    clear hm
    go_enter Try.func19, Try.ntmps19
    go_wp2_with (first | (go_at_call 10; refine (HW.out _ (by repeat (first | exact Below.refl _ _ | apply below_alloc | apply pw_below_drewN))).mono ?_; rintro e w' ⟨rfl, hb⟩; rw [if_pos HN.out, if_pos HN.out, HX.out]; have HB := Aside0.mk (below_box hb); obtain ⟨hcl, hfr⟩ := bcell hb; have hz0 : w.heap.size < w'.heap.size := (by have := hbsz hb; simp at this; omega); clear hb) | (go_at_call 30; refine (HF.out _ (by repeat (first | (with_reducible exact HB.out) | (with_reducible apply pw_below_drewN)))).mono ?_; rintro e w2 ⟨rfl, hb⟩; rw [HMD.out]; have HB2 := Aside0.mk (below_then (W := _) (by repeat (first | (with_reducible exact HB.out) | (with_reducible apply pw_below_drewN))) hb); obtain ⟨hcl2, hfr2⟩ := bcell hb; clear hb) | (go_at_call 17; refine (HD.out _ (by repeat (first | (with_reducible exact HB2.out) | (with_reducible apply pw_below_drewN)))).mono ?_; rintro e w3 ⟨rfl, hb⟩; rw [if_pos HI.out, if_pos HI.out]; have HB3 := Aside0.mk (below_then (W := _) (by repeat (first | (with_reducible exact HB2.out) | (with_reducible apply pw_below_drewN))) hb); clear hb))
    go_ret3
    exact n_yes' HX.out HN.out (by rintro (h | h); exact absurd h (by have := HO.out; omega); exact HM.out h) (by repeat (first | (with_reducible exact HB3.out) | (with_reducible apply pw_below_drewN)))
theorem next19_calls (a0_0 : Int) (a0_1 : Int) (a0_2 : Int) (a0_3 : Int) (a0_4 : Int) (a0_5 : Int) (A0_6 : Option Addr) (c0_6 : Nat) (l0_6 : List Int) (a1 a2 a3 : Int) (w : World) (hr0_6 : Kd.C (Kd.int .i64) w A0_6 l0_6.length l0_6) (hc0_6 : l0_6.length ≤ c0_6) (hg : a0_1 ≤ Rt.gr) (ha : a1 ≤ Rt.gr) (hd0 : 0 ≤ a3) (hd1 : a3 < 4294967296) :
    Calls Try.prog 19 #[.agg #[.int .i64 a0_0, .int .i64 a0_1, .int .i64 a0_2, .int .i64 a0_3, .int .i64 a0_4, .int .i64 a0_5, .slice A0_6 l0_6.length c0_6], .int .i64 a1, .int .i64 a2, .int .u32 a3] w (NextPost19 ⟨a0_0, a0_1, a0_2, a0_3, a0_4, a0_5, (l0_6.length : Int)⟩ l0_6 a1 a2 a3 w) := by
  by_cases h : Rt.okP ⟨a0_0, a0_1, a0_2, a0_3, a0_4, a0_5, (l0_6.length : Int)⟩ ∧ 1 ≤ a1
  · by_cases ho : a0_4 ≤ a1
    · exact next19_over _ _ _ _ _ _ _ _ _ _ _ _ _ hr0_6 hc0_6 hg ha h ho
    · exact next19_in _ _ _ _ _ _ _ _ _ _ _ _ _ hr0_6 hc0_6 hg ha hd0 hd1 h (by omega)
  · exact next19_no _ _ _ _ _ _ _ _ _ _ _ _ _ hr0_6 hc0_6 hg ha h
end Go.Proofs.Ytealggjnnihejaa.PBase
