/- The heap's steps, walked: drop, Pop. -/
import Derived.Test.YtcpjjnikehcleaaHb
/- The heap's steps, walked: drop, Pop. -/
namespace Go.Proofs.Ytcpjjnikehcleaa.Hq
open Go.RowKit PChk Go.Proofs.YtcpjjnikehcleaaW.PrintWords Go.Proofs.YtcpjjnikehcleaaW.PrintLast Go.Proofs.YtcpjjnikehcleaaW.PrintMore
open Go.Maps (Keyed)
set_option linter.unusedVariables false
set_option linter.unusedSimpArgs false

theorem zero3 (w : World) : (zeroValue 3).run Try.prog w = .ok (.int .i64 0) w := by kernel_rfl
theorem flat_take : ∀ (l : List Th) (n : Nat), (flat l).take (n * 3) = flat (l.take n)
  | [], n => by simp [flat]
  | x :: l, 0 => by simp [flat]
  | x :: l, n + 1 => by
    simp only [flat, List.take_succ_cons]
    rw [List.take_append, List.take_of_length_le (by simp [Th.cells]; omega)]
    congr 1
    rw [show (n + 1) * 3 - x.cells.length = n * 3 from by simp [Th.cells]; omega]
    exact flat_take l n
theorem row_cut {W : World} {B g N n cap : Nat} {l : List Th} (h : W.ownsRow B 115 3 (.slice (some ⟨g, 0, none⟩) N cap) N (flat l)) (hn : n ≤ N) : W.ownsRow B 115 3 (.slice (some ⟨g, 0, none⟩) n cap) n (flat (l.take n)) := by
  obtain ⟨hl, h1⟩ := h
  rw [flat_length] at hl
  rcases h1 with ⟨e, _⟩ | ⟨g', cap', cur, e, h1, h2, h3, h4, h5, h6⟩
  · cases e
  · simp only [Value.slice.injEq, Option.some.injEq, Addr.mk.injEq] at e
    obtain ⟨⟨rfl, -⟩, -, rfl⟩ := e
    refine ⟨by rw [flat_length, List.length_take]; omega, .inr ⟨_, _, cur, rfl, h1, h2, by omega, h4, h5, ?_⟩⟩
    rw [← flat_take, ← h6, List.take_take, Nat.min_eq_left (by omega)]
theorem row_cap {W : World} {B e size g N cap : Nat} {xs : List Value} (h : W.ownsRow B e size (.slice (some ⟨g, 0, none⟩) N cap) N xs) : N ≤ cap := by
  rcases h.2 with ⟨e, _⟩ | ⟨g', cap', cur, e, h1, h2, h3, h4, h5, h6⟩
  · cases e
  · simp only [Value.slice.injEq, Option.some.injEq, Addr.mk.injEq] at e
    obtain ⟨⟨rfl, -⟩, -, rfl⟩ := e
    exact h3
theorem grown_refl (W : World) (r : Option Nat) : W.grownBy W r := ⟨rfl, rfl, rfl, Nat.le_refl _, fun _ _ _ => rfl⟩
theorem take_set (l : List Th) (n : Nat) (x : Th) : (l.set n x).take n = l.take n := by
  apply List.ext_getElem?
  intro i
  by_cases h : i < n
  · rw [List.getElem?_take_of_lt h, List.getElem?_take_of_lt h, List.getElem?_set_ne (by omega)]
  · rw [List.getElem?_eq_none (by simp; omega), List.getElem?_eq_none (by simp; omega)]
abbrev zeroed (W : World) (g n : Nat) : World := ((W.setCell ⟨g, n * 3, none⟩ (.int .i64 0)).setCell ⟨g, n * 3 + 1, none⟩ (.int .i64 0)).setCell ⟨g, n * 3 + 2, none⟩ (.int .i64 0)
theorem HAt.cut {B : Nat} {W : World} {y : Lay} {s : HS} (h : HAt B W y s) {g N n cap : Nat} (hv : y.v = .slice (some ⟨g, 0, none⟩) N cap) (hN : s.l.length = N) (hn : N = n + 1) :
    HAt B ((zeroed W g n).setCell ⟨y.g, 1, none⟩ (.slice (some ⟨g, 0, none⟩) n cap)) { y with v := .slice (some ⟨g, 0, none⟩) n cap } { s with l := s.l.take n } ∧ Ch y.own W ((zeroed W g n).setCell ⟨y.g, 1, none⟩ (.slice (some ⟨g, 0, none⟩) n cap)) ∧ (∀ k, Lay.own { y with v := .slice (some ⟨g, 0, none⟩) n cap } k → y.own k) := by
  have hb : y.v.ownBlock = some g := by rw [hv]; rfl
  have hr := h.row
  rw [hv, hN] at hr
  have hr3 := row_set hr hN.symm (i := n) (by omega) zt
  have hs3 : Ch (fun k => y.v.ownBlock = some k) W (zeroed W g n) := (((Ch.refl _ W).set (.inl hb) _).set (.inl hb) _).set (.inl hb) _
  have h1 : HAt B (zeroed W g n) y { s with l := s.l.set n zt } := h.rowed (by simp) hs3 (by rw [hv, hN]; exact hr3)
  have hc : (zeroed W g n).ownsRow B 115 3 (.slice (some ⟨g, 0, none⟩) n cap) n (flat (s.l.take n)) := by
    have h2 := h1.row
    rw [hv] at h2
    have h2' : (zeroed W g n).ownsRow B 115 3 (.slice (some ⟨g, 0, none⟩) N cap) N (flat (s.l.set n zt)) := by
      have e : ({ s with l := s.l.set n zt } : HS).l.length = N := by simp [hN]
      rw [e] at h2; exact h2
    have h3 := row_cut h2' (n := n) (by omega)
    have e : (s.l.set n zt).take n = s.l.take n := take_set _ _ _
    rw [e] at h3; exact h3
  obtain ⟨-, -, -, a4, a5, a6⟩ := h1.grew (l := s.l.take n) (grown_refl _ _) hc (.inl hb)
  exact ⟨a4, (hs3.mono (T := y.own) (fun k _ hk => .inr (.inr hk))).trans a5 (fun _ _ hk => hk), fun k hk => hk.imp id (Or.imp id (fun e => by simp only [Value.ownBlock, Option.some.injEq] at e; rw [hb, e]))⟩
set_option maxHeartbeats 4000000 in
set_option maxRecDepth 100000 in
theorem drop_calls (B : Nat) (w : World) (y : Lay) (s : HS) (n : Nat) (h : HAt B w y s) (hI : HInv s) (hn : s.l.length = n + 1) (hl : s.l.length < 200000) (hx : s.next < 1000000) :
    Calls Try.prog 59 #[.pointer (some ⟨y.g, 0, none⟩), .int .i64 0] w (Next B y (popS s) (.tuple #[]) w) := by
  have hu94 := Try.underlying94
  have hu92 := Try.underlying92
  have hu115 := Try.underlying115
  have hu91 := Try.underlying91
  obtain ⟨N, hN⟩ : ∃ N, s.l.length = N := ⟨_, rfl⟩
  obtain ⟨g, cap, hv, -, -, -, -, hgy, hgm, hgl⟩ := h.at_ (i := 0) (by omega)
  rw [hN] at hv
  obtain ⟨g1, a0, a1, a2, fz⟩ := h.atv hv (i := 0) (by omega)
  rw [Nat.zero_mul] at a0 a1 a2
  have q5 : (n ≤ cap) = True := eq_true (by have := row_cap (by have := h.row; rw [hv, hN] at this; exact this); omega)
  have q6 : ((n : Int) ≤ (cap : Int)) = True := eq_true (by have := of_eq_true q5; omega)
  have q3 : (0 ≤ (n : Int)) = True := eq_true (by omega)
  have q4 : ((n : Int) < (N : Int)) = True := eq_true (by omega)
  have hcap : N ≤ cap := row_cap (by have := h.row; rw [hv, hN] at this; exact this)
  have w1 : IntKind.i64.wrap ((N : Int) - 1) = n := by rw [IntKind.wrap_i64]; omega
  have q1 : (0 < N) = True := eq_true (by omega)
  have q2 : ((0 : Int) < (N : Int)) = True := eq_true (by omega)
  have H := Aside0.mk h
  have HV := Aside0.mk hv
  have HI := Aside0.mk hI
  have HN := Aside0.mk hN
  have Hn := Aside0.mk hn
  have HL := Aside0.mk hl
  have HX := Aside0.mk hx
  have HC := Aside0.mk hcap
  have W1 := Aside0.mk (hI.w64 (by omega) 0)
  clear h hv hI hN hn hl hx hcap
  have HE1 := Aside0.mk (show pop1 s = { s with l := s.l.take n, D := s.D.del (ik (at_ s.l 0).num) } from by unfold pop1; rw [show s.l.length - 1 = n from by have := Hn.out; omega])
  have HT := Aside0.mk (HI.out.w64 (by have := HX.out; omega) n)
  generalize hxe : at_ s.l 0 = x at *
  have HXE := Aside0.mk hxe
  clear hxe
  by_cases h0 : n = 0
  · have d1 : decide (0 = n) = true := decide_eq_true h0.symm
    have d2 : ((0 : Int) == (n : Int)) = true := by simp [h0]
    have HZ := Aside0.mk h0
    clear h0
    go_enter Try.func59, Try.ntmps59
    go_wp2
    have hb1 := blk_new w (.cells #[.int .i64 x.key, .int .i64 x.num, .int .i64 x.v] 115)
    have n1 := (blk_cell hb1 1).trans rfl
    have C1 := Aside0.mk ((Ch.refl (fun _ => False) w).alloc (.cells #[.int .i64 x.key, .int .i64 x.num, .int .i64 x.v] 115))
    have H1 := Aside0.mk (H.out.same C1.out)
    have g2 := (blk_cell H1.out.blk 2).trans rfl
    clear hb1 g1 a0 a1 a2 fz
    generalize w.heap.size = b1 at *
    generalize hW1 : (w.alloc (.cells #[.int .i64 x.key, .int .i64 x.num, .int .i64 x.v] 115)) = W2 at *
    go_still_tail 6, (by kernel_rfl)
    go_wp2_with (at_delete; go_loud (refine wpList_delete_own _ rfl _ _ 91 3 rfl 3 (Maps.int_keyed Try.underlying3) Try.underlying91 _ y.gm _ s.D rfl H1.out.map.drew _ (ik x.num) rfl (Maps.keyOf_int_mk Try.underlying3 W1.out) ?_; intro w3 hown3 hturn3; have H3 := Aside0.mk ((H1.out.same (Ch.refl (fun _ => False) W2).drew).mapped (ch_turned hturn3) hown3); have C3 := Aside0.mk ((C1.out.mono (T := y.own) (fun _ _ hk => hk.elim)).drew.trans ((ch_turned hturn3).mono (T := y.own) (fun k _ hk => .inr (.inl hk))) (fun _ _ hk => hk)); clear hown3 hturn3; obtain ⟨g3, b0, b1, b2, fz3⟩ := H3.out.atv HV.out (i := n) (by show n < s.l.length; have := Hn.out; omega); have hb3 := blk_lt H3.out.blk; have f3 := blk_frozen H3.out.blk 1; have hl3 := (H3.out.lt (.inr (.inr (by rw [HV.out]; rfl : y.v.ownBlock = some g)))).2))
    obtain ⟨h5, c5, o5⟩ := H3.out.cut (n := n) HV.out HN.out (by have := HN.out; have := Hn.out; omega)
    refine bodyPost_ret (results_none rfl _ _ _) rfl ?_
    have hS : popS s = { s with l := s.l.take n, D := s.D.del (ik x.num) } := by
      unfold popS; rw [if_pos (by have := Hn.out; have := HZ.out; omega), HE1.out]
    refine ⟨rfl, ⟨y.g, y.gm, .slice (some ⟨g, 0, none⟩) n cap⟩, ?_, rfl, fun k hk => .inl (o5 k hk), (C3.out.trans c5 (fun _ _ hk => hk)).alloc _⟩
    rw [hS]
    exact h5.same ((Ch.refl (fun _ => False) _).alloc _)
  · have d1 : decide (0 = n) = false := decide_eq_false (fun e => h0 e.symm)
    have d2 : ((0 : Int) == (n : Int)) = false := beq_eq_false_iff_ne.mpr (by omega)
    have HZ := Aside0.mk (show 0 < n by omega)
    clear h0
    go_enter Try.func59, Try.ntmps59
    go_wp2
    have hb1 := blk_new w (.cells #[.int .i64 x.key, .int .i64 x.num, .int .i64 x.v] 115)
    have n1 := (blk_cell hb1 1).trans rfl
    have C1 := Aside0.mk ((Ch.refl (fun _ => False) w).alloc (.cells #[.int .i64 x.key, .int .i64 x.num, .int .i64 x.v] 115))
    have H1 := Aside0.mk (H.out.same C1.out)
    have g2 := (blk_cell H1.out.blk 2).trans rfl
    clear hb1 g1 a0 a1 a2 fz
    generalize w.heap.size = b1 at *
    generalize hW1 : (w.alloc (.cells #[.int .i64 x.key, .int .i64 x.num, .int .i64 x.v] 115)) = W2 at *
    go_still_tail 6, (by kernel_rfl)
    have PM := Aside0.mk (pop_mid HI.out Hn.out HZ.out)
    have PP := Aside0.mk (HI.out.popped Hn.out HZ.out)
    generalize hte : at_ s.l n = t at *
    have HTE := Aside0.mk hte
    clear hte
    have Q1 := Aside0.mk (show (pop1 s).l.length = n by rw [HE1.out]; show (s.l.take n).length = n; rw [List.length_take]; have := Hn.out; omega)
    have Q2 := Aside0.mk (show Maps.size (pop1 s).D ≤ n + 1 by have := Maps.size_del (k := ik x.num) HI.out.kn.tidy; rw [HI.out.kn.size, Hn.out] at this; rw [HE1.out]; show Maps.size (s.D.del _) ≤ _; omega)
    have Q3 := Aside0.mk (show ∀ j, W64 (at_ (layS (pop1 s) 0 t).l j).num from fun j => by
      show W64 (at_ ((pop1 s).l.set 0 t) j).num
      rw [at_set (by rw [Q1.out]; exact HZ.out)]
      split
      · exact HT.out
      · rw [HE1.out]
        show W64 (at_ (s.l.take n) j).num
        by_cases hj : j < n
        · rw [at_take hj]; exact HI.out.w64 (by have := HX.out; omega) j
        · have e : at_ (s.l.take n) j = zt := by simp [at_]; rw [List.getElem?_eq_none (by simp; omega)]; rfl
          rw [e]; exact w64_nat (n := 0) (by omega))
    have Q4 := Aside0.mk (show at_ (layS (pop1 s) 0 t).l 0 = t by show at_ ((pop1 s).l.set 0 t) 0 = t; rw [at_set (by rw [Q1.out]; exact HZ.out), if_pos rfl])
    have E3 := Aside0.mk (show pop3 s = sinkS (layS (pop1 s) 0 t) t 0 by unfold pop3; rw [show s.l.length - 1 = n from by have := Hn.out; omega, HTE.out])
    have Q5 := Aside0.mk (show ∀ j, W64 (at_ (pop3 s).l j).num from fun j => by
      by_cases hj : j < (pop3 s).l.length
      · have hm := PP.out.perm.mem_iff.1 (List.mem_cons_of_mem _ (at_mem hj))
        have := HI.out.nums _ hm
        have := HX.out
        simp [W64, Lit.wf, IntKind.min, IntKind.max, IntKind.bits, IntKind.signed]; omega
      · have e : at_ (pop3 s).l j = zt := by simp [at_]; rw [List.getElem?_eq_none (by omega)]; rfl
        rw [e]; exact w64_nat (n := 0) (by omega))
    have Q6 := Aside0.mk (show (pop3 s).l.length = n by have := PP.out.perm.length_eq; rw [List.length_cons, Hn.out] at this; omega)
    have HPN := Aside0.mk (show popS s = riseS (pop3 s) (at_ (pop3 s).l (popJ s)) (popJ s) by unfold popS; rw [if_neg (by have := Hn.out; have := HZ.out; omega)])
    go_wp2_with (first
      | (at_delete; go_loud (refine wpList_delete_own _ rfl _ _ 91 3 rfl 3 (Maps.int_keyed Try.underlying3) Try.underlying91 _ y.gm _ s.D rfl H1.out.map.drew _ (ik x.num) rfl (Maps.keyOf_int_mk Try.underlying3 W1.out) ?_; intro w3 hown3 hturn3; have H3 := Aside0.mk ((H1.out.same (Ch.refl (fun _ => False) W2).drew).mapped (ch_turned hturn3) hown3); have C3 := Aside0.mk ((C1.out.mono (T := y.own) (fun _ _ hk => hk.elim)).drew.trans ((ch_turned hturn3).mono (T := y.own) (fun k _ hk => .inr (.inl hk))) (fun _ _ hk => hk)); clear hown3 hturn3; obtain ⟨g3, b0, b1, b2, fz3⟩ := H3.out.atv HV.out (i := n) (by show n < s.l.length; have := Hn.out; omega); rw [HTE.out] at b0 b1 b2; have hb3 := blk_lt H3.out.blk; have f3 := blk_frozen H3.out.blk 1; have hl3 := (H3.out.lt (.inr (.inr (by rw [HV.out]; rfl : y.v.ownBlock = some g)))).2))
      | (go_at_call 64; go_loud (obtain ⟨h5, c5, o5⟩ := H3.out.cut (n := n) HV.out HN.out (by have := HN.out; have := Hn.out; omega); rw [← HE1.out] at h5; have H5 := Aside0.mk (h5.same ((Ch.refl (fun _ => False) _).alloc (.cells #[.int .i64 t.key, .int .i64 t.num, .int .i64 t.v] 115))); have C5 := Aside0.mk ((C3.out.trans c5 (fun _ _ hk => hk)).alloc (.cells #[.int .i64 t.key, .int .i64 t.num, .int .i64 t.v] 115)); have O5 := Aside0.mk o5; have hb5 := (blk_new ((zeroed w3 g n).setCell ⟨y.g, 1, none⟩ (.slice (some ⟨g, 0, none⟩) n cap)) (.cells #[.int .i64 t.key, .int .i64 t.num, .int .i64 t.v] 115)); rw [show ((zeroed w3 g n).setCell ⟨y.g, 1, none⟩ (.slice (some ⟨g, 0, none⟩) n cap)).heap.size = w3.heap.size from by simp [World.setCell]] at hb5; have B5 := Aside0.mk hb5; have HO := Aside0.mk (show ¬ Lay.own ⟨y.g, y.gm, .slice (some ⟨g, 0, none⟩) n cap⟩ w3.heap.size from fun hk => by have h1 := (H.out.lt (O5.out _ hk)).2; have h2 := C3.out.size; exact absurd (Nat.lt_of_lt_of_le h1 h2) (Nat.lt_irrefl _)); clear h5 c5 o5 hb5; have L5 := Aside0.mk (show Calls Try.prog 64 #[.pointer (some ⟨y.g, 0, none⟩), .int .i64 0, .agg #[.int .i64 t.key, .int .i64 t.num, .int .i64 t.v]] (((((w3.setCell ⟨g, n * 3, none⟩ (.int .i64 0)).setCell ⟨g, n * 3 + 1, none⟩ (.int .i64 0)).setCell ⟨g, n * 3 + 2, none⟩ (.int .i64 0)).setCell ⟨y.g, 1, none⟩ (.slice (some ⟨g, 0, none⟩) n cap)).alloc (.cells #[.int .i64 t.key, .int .i64 t.num, .int .i64 t.v] 115)) _ from lay_calls B _ ⟨y.g, y.gm, .slice (some ⟨g, 0, none⟩) n cap⟩ (pop1 s) 0 t H5.out (by rw [Q1.out]; exact HZ.out) HT.out (by rw [Q1.out]; have := HL.out; have := Hn.out; omega) (by have := Q2.out; have := HL.out; have := Hn.out; omega)); refine L5.out.mono ?_; rintro e w6 ⟨rfl, h6, c6⟩; have H6 := Aside0.mk h6; have C6 := Aside0.mk (C5.out.trans c6 (fun k _ hk => O5.out k hk)); have B6 := Aside0.mk (c6.keep B5.out HO.out); have SC := sink_calls B w6 ⟨y.g, y.gm, .slice (some ⟨g, 0, none⟩) n cap⟩ (layS (pop1 s) 0 t) 0 H6.out PM.out.lt (by show ((pop1 s).l.set 0 t).length < 400000; rw [List.length_set, Q1.out]; have := HL.out; have := Hn.out; omega) (by have := PM.out.size; have := HL.out; have := Hn.out; have e : (layS (pop1 s) 0 t).l.length = n := (by show ((pop1 s).l.set 0 t).length = n; rw [List.length_set, Q1.out]); omega) Q3.out PM.out.tidy; rw [Q4.out, ← E3.out] at SC; have SC := Aside0.mk SC; clear h6 c6))
      | (go_at_call 65; go_loud (refine SC.out.mono ?_); rintro e w7 ⟨rfl, h7, c7⟩; have H7 := Aside0.mk h7; have C7 := Aside0.mk (C6.out.trans c7 (fun k _ hk => O5.out k hk)); have B7 := Aside0.mk (c7.keep B6.out HO.out); have u2 := (blk_cell h7.blk 2).trans rfl; have v1 := (blk_cell B7.out 1).trans rfl; clear h7 c7))
    have hlk : (Instr.lookup 91 (.map (some y.gm)) (.int .i64 t.num) false).run Try.prog w7.drew = .ok (.int .i64 (popJ s : Int)) w7.drew := by
      have hm := (H7.out.same (V := w7.drew) (Ch.refl (fun _ => False) w7).drew).map
      obtain ⟨c, hrun, hat, -⟩ := hm.lookup_int (Maps.int_keyed Try.underlying3) Try.underlying91 Try.underlying3 (zero3 _) (Maps.keyOf_int_mk Try.underlying3 HT.out)
      obtain rfl : c = (popJ s : Int) := (by have h1 := PP.out.ix; rw [HTE.out] at h1; have h2 := h1.symm.trans hat; injection h2 with h3; injection h3 with h4 h5; exact h5.symm)
      exact hrun
    go_still_tail 8, (by kernel_rfl)
    go_wp2_with (first
      | (go_at_call 62; go_loud (have RC := rise_calls B w7.drew ⟨y.g, y.gm, .slice (some ⟨g, 0, none⟩) n cap⟩ (pop3 s) (popJ s) (H7.out.same (Ch.refl (fun _ => False) w7).drew) PP.out.j (by rw [Q6.out]; have := HL.out; have := Hn.out; omega) (by have := PP.out.kn.size; have := PP.out.j; have := Q6.out; have := HL.out; have := Hn.out; omega) Q5.out PP.out.kn.tidy; rw [← HPN.out] at RC; refine RC.mono ?_; rintro e w8 ⟨rfl, h8, c8⟩; have H8 := Aside0.mk h8; have C8 := Aside0.mk (C7.out.drew.trans c8 (fun k _ hk => O5.out k hk)); clear h8 c8 RC)))
    go_end0
    exact ⟨rfl, _, H8.out, rfl, fun k hk => .inl (O5.out k hk), C8.out⟩

end Go.Proofs.Ytcpjjnikehcleaa.Hq
/- The heap's steps, walked: Pop. -/
namespace Go.Proofs.Ytcpjjnikehcleaa.Hq
open Go.RowKit PChk Go.Proofs.YtcpjjnikehcleaaW.PrintWords Go.Proofs.YtcpjjnikehcleaaW.PrintLast Go.Proofs.YtcpjjnikehcleaaW.PrintMore
open Go.Maps (Keyed)
set_option linter.unusedVariables false
set_option linter.unusedSimpArgs false

theorem pop_none (B : Nat) (w : World) (y : Lay) (s : HS) (h : HAt B w y s) (hl : s.l = []) :
    Calls Try.prog 47 #[.pointer (some ⟨y.g, 0, none⟩)] w (Next B y s (.tuple #[.int .i64 0, .int .i64 0, .int .i64 0, .bool false]) w) := by
  have PC := peek_calls B w y s h
  rw [hl] at PC
  have PC := Aside0.mk PC
  have H := Aside0.mk h
  clear h
  go_enter Try.func47, Try.ntmps47
  go_wp2_with (go_at_call 58; go_loud (refine PC.out.mono ?_; rintro e w1 ⟨rfl, hc⟩; simp only [peekV]; have C1 := Aside0.mk hc; clear hc))
  (refine bodyPost_ret (results_tmp4 rfl _ _ _) rfl ?_; try simp only [List.getD_eq_getElem?_getD, Array.getD_eq_getD_getElem?, List.getElem?_toArray, List.getElem?_cons_succ, List.getElem?_cons_zero, Option.getD_some])
  exact ⟨rfl, y, H.out.same C1.out, rfl, fun _ hk => .inl hk, C1.out.mono (fun _ _ hk => hk.elim)⟩
theorem pop_some (B : Nat) (w : World) (y : Lay) (s : HS) (x : Th) (l : List Th) (h : HAt B w y s) (hI : HInv s) (hl : s.l = x :: l) (hlen : s.l.length < 200000) (hx : s.next < 1000000) :
    Calls Try.prog 47 #[.pointer (some ⟨y.g, 0, none⟩)] w (Next B y (popS s) (.tuple #[.int .i64 x.key, .int .i64 x.v, .int .i64 x.num, .bool true]) w) := by
  have PC := peek_calls B w y s h
  rw [hl] at PC
  have PC := Aside0.mk PC
  have DC := Aside0.mk (fun w1 (h1 : HAt B w1 y s) => drop_calls B w1 y s l.length h1 hI (by rw [hl]; rfl) hlen hx)
  have H := Aside0.mk h
  clear h
  go_enter Try.func47, Try.ntmps47
  go_wp2_with (first
    | (go_at_call 58; go_loud (refine PC.out.mono ?_; rintro e w1 ⟨rfl, hc⟩; simp only [peekV]; have C1 := Aside0.mk hc; clear hc))
    | (go_at_call 59; go_loud (refine (DC.out _ (H.out.same C1.out)).mono ?_; rintro e w2 ⟨rfl, y2, h2, hg, ho, hc⟩; have H2 := Aside0.mk h2; have G2 := Aside0.mk hg; have O2 := Aside0.mk ho; have C2 := Aside0.mk hc; clear h2 hg ho hc)))
  (refine bodyPost_ret (results_tmp4 rfl _ _ _) rfl ?_; try simp only [List.getD_eq_getElem?_getD, Array.getD_eq_getD_getElem?, List.getElem?_toArray, List.getElem?_cons_succ, List.getElem?_cons_zero, Option.getD_some])
  exact ⟨rfl, y2, H2.out, G2.out, fun k hk => (O2.out k hk).imp id (fun h => Nat.le_trans C1.out.size h), (C1.out.mono (fun _ _ hk => hk.elim)).trans C2.out (fun _ _ hk => hk)⟩
end Go.Proofs.Ytcpjjnikehcleaa.Hq
