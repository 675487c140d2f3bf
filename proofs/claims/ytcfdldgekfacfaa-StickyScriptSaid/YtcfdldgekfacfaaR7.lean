/- StickyScript, walked. -/
import Derived.Test.YtcfdldgekfacfaaR5
import Derived.Test.YtcfdldgekfacfaaQ4
namespace Go.Proofs.Ytcfdldgekfacfaa.Rf
open Go.RowKit Sk PRef Go.Proofs.YtcfdldgekfacfaaW.PrintWords Go.Proofs.YtcfdldgekfacfaaW.PrintLast Go.Proofs.YtcfdldgekfacfaaW.PrintMore
set_option linter.unusedVariables false
set_option linter.unusedSimpArgs false

/-- The two at the start. -/
theorem two_start {N : Nat} {W : World} {g : Nat} {room : Int} (h : Cw N W g room 0 0 []) : Two N (W.alloc (.cells #[.int .i64 room, .slice none 0 0, .int .i64 0, .int .i64 0] 45)) g W.heap.size ⟨room, 0, 0, []⟩ ⟨room, 0, 0, []⟩ := by
  obtain ⟨y, hg, hN, ha⟩ := h
  refine ⟨y, .slice none 0 0, hg, by simp; omega, ha.ch ((Ch.refl (fun _ => False) W).alloc _) (fun _ _ hk => hk), ⟨blk_new W _, Kd.R_nil _ _ _ _ _, hN⟩⟩
/-- A step, copied. -/
theorem step_new (W : World) (x : Stp) : (W.alloc (.cells #[.int .u8 x.what, .string x.nm, .int .i64 x.v] 29)).heap[W.heap.size]? = some (Obj.cells #[.int .u8 x.what, .string x.nm, .int .i64 x.v] 29 (0, 0)) := blk_new W _
theorem Row.slice' {B : Nat} {W : World} {A : Option Addr} {n c : Nat} {l : List ByteArray} (h : Row B W (.slice A n c) l) : Kd.C Kd.string W A l.length l ∧ l.length ≤ c := by
  obtain ⟨A', c', e, hl, hC⟩ := Row.slice h
  simp only [Value.slice.injEq] at e
  obtain ⟨rfl, -, rfl⟩ := e
  exact ⟨hC, hl⟩
theorem gone_small (l : Things) (r : Int) (h : l.length < 1000000) : (goneL l r).length < 1000000 := by
  unfold goneL
  split
  · unfold gone; rw [List.length_map, List.length_reverse, List.length_drop]; omega
  · simp
set_option maxHeartbeats 4000000 in
set_option maxRecDepth 100000 in
theorem script_in (w : World) (room : Int) (A : Option Addr) (cp : Nat) (l : List Stp) (hl : l.length ≤ 150) (h1 : 1 ≤ room ∧ room ≤ 4096) (hs : Sk.Steps w A l) :
    Calls Try.prog 5 #[.int .i64 room, .slice A l.length cp] w (Yes w) := by
  have hu22 := Try.underlying22
  have hu29 := Try.underlying29
  have hu45 := Try.underlying45
  have d1 : decide ((l.length : Int) > 150) = false := decide_eq_false (by omega)
  have e1 : decide (1 ≤ room ∧ room ≤ 4096) = true := decide_eq_true h1
  have HS := Aside0.mk hs
  have R1 := Aside0.mk h1
  have HLen := Aside0.mk hl
  clear hs h1 hl
  go_enter Try.func5, Try.ntmps5
  go_wp2_with (first
    | (go_at_call 7; go_loud (refine (awake_calls _).mono ?_); rintro e w1 ⟨rfl, hb⟩; have B1 := Aside0.mk hb; clear hb)
    | (go_at_call 8; go_loud (refine (new_cw _ room R1.out).mono ?_); rintro e w2 ⟨g, rfl, hc, hb⟩; have C2 := Aside0.mk hc; have B2 := Aside0.mk (B1.out.trans (hb.mono B1.out.size)); clear hc hb)
    | (go_at_call 15; go_loud (refine (may15 _ room).mono ?_); rintro e w3 ⟨rfl, hc⟩; rw [e1]; have hb := hc.below (Nat.le_refl _) (fun _ hk => hk.elim); have C3 := Aside0.mk (C2.out.below hb); have B3 := Aside0.mk (B2.out.trans (hb.mono B2.out.size)); clear hc hb))
  have T3 := Aside0.mk (two_start C3.out)
  have B4 := Aside0.mk (below_alloc B3.out (.cells #[.int .i64 room, .slice none 0 0, .int .i64 0, .int .i64 0] 45))
  generalize w3.heap.size = gr at *
  go_loopg [8] l.length (fun kq v8 w' => ∃ (i : Nat) (c : Cs), v8 = .int .i64 (i : Int) ∧ Aside0 (i + kq = l.length) ∧ Aside0 (Two w1.heap.size w' g gr c c) ∧ Aside0 (Below w.heap.size w w'))
  case atStart => exact ⟨0, ⟨room, 0, 0, []⟩, rfl, ⟨by omega⟩, T3, B4⟩
  case round =>
    have N1 := Aside0.mk B1.out.size
    clear T3 B4 B3 C3 B2 C2 B1
    obtain ⟨i, c, rfl, HI, HT, HB⟩ := hrel
    by_cases hi : i < l.length
    · have p0 : decide ((i : Int) < (l.length : Int)) = true := decide_eq_true (by omega)
      have p1 : (0 ≤ (i : Int)) = True := eq_true (by omega)
      have p2 : ((i : Int) < (l.length : Int)) = True := eq_true (by omega)
      obtain ⟨ad, hA, s0, s1, s2, hnm⟩ := HS.out.at_ HB.out hi
      have HN := Aside0.mk hnm
      have HF := Aside0.mk HT.out.facts
      have HI2 := Aside0.mk hi
      clear hnm hi
      subst hA
      have X0 := Aside0.mk (step_new wr (stp l i))
      have T0 := Aside0.mk (HT.out.below (below_alloc (Below.refl _ _) (.cells #[.int .u8 (stp l i).what, .string (stp l i).nm, .int .i64 (stp l i).v] 29)))
      have B0 := Aside0.mk (below_alloc HB.out (.cells #[.int .u8 (stp l i).what, .string (stp l i).nm, .int .i64 (stp l i).v] 29))
      by_cases k0 : (stp l i).what = 0
      · have e0 : ((stp l i).what == 0) = true := beq_iff_eq.mpr k0
        clear k0
        go_wp2_with (first
          | (go_at_call 9; go_loud (refine (putC T0.out _ _ HN.out).mono ?_); rintro e w4 ⟨rfl, ht, hb, hk⟩; have T4 := Aside0.mk ht; have B4 := Aside0.mk (B0.out.trans (hb.mono N1.out)); have X4 := Aside0.mk (hk _ _ _ (.inl rfl) X0.out); have x0 := (blk_cell X4.out 0).trans rfl; have x1 := (blk_cell X4.out 1).trans rfl; have x2 := (blk_cell X4.out 2).trans rfl; clear ht hb hk)
          | (go_at_call 16; go_loud (refine (putR T4.out _ _ HF.out.2.1 HF.out.1 HF.out.2.2.1).mono ?_); rintro e w5 ⟨rfl, ht, hb, hk⟩; have T5 := Aside0.mk ht; have B5 := Aside0.mk (B4.out.trans (hb.mono N1.out)); clear ht hb hk)
          | (go_at_call 25; go_loud (refine (told_calls _ _ g gr _ T5.out).mono ?_); rintro e w6 ⟨rfl, ht, hb, hk⟩; have T6 := Aside0.mk ht; have B6 := Aside0.mk (B5.out.trans (hb.mono N1.out)); clear ht hb hk))
        go_roundg (gk - 1)
        case measure => have := HI.out; have := HI2.out; omega
        case rel => exact ⟨i + 1, c.put (stp l i).nm (stp l i).v, by rw [wr1 (by have := HLen.out; have := HI2.out; omega)], ⟨by have := HI.out; have := HI2.out; omega⟩, T6, B6⟩
      · have e0 : ((stp l i).what == 0) = false := beq_eq_false_iff_ne.mpr k0
        clear k0
        by_cases k1 : (stp l i).what = 1
        · have e1 : ((stp l i).what == 1) = true := beq_iff_eq.mpr k1
          clear k1
          go_wp2_with (first
            | (go_at_call 10; go_loud (refine (getC T0.out _ HN.out).mono ?_); rintro e w4 ⟨rfl, ht, hb, hk⟩; have T4 := Aside0.mk ht; have B4 := Aside0.mk (B0.out.trans (hb.mono N1.out)); have X4 := Aside0.mk (hk _ _ _ (.inl rfl) X0.out); have x0 := (blk_cell X4.out 0).trans rfl; have x1 := (blk_cell X4.out 1).trans rfl; have x2 := (blk_cell X4.out 2).trans rfl; clear ht hb hk)
            | (go_at_call 17; go_loud (refine (getR T4.out _ HF.out.2.1 HF.out.1).mono ?_); rintro e w5 ⟨rfl, ht, hb, hk⟩; have T5 := Aside0.mk ht; have B5 := Aside0.mk (B4.out.trans (hb.mono N1.out)); clear ht hb hk)
            | (go_at_call 25; go_loud (refine (told_calls _ _ g gr _ T5.out).mono ?_); rintro e w6 ⟨rfl, ht, hb, hk⟩; have T6 := Aside0.mk ht; have B6 := Aside0.mk (B5.out.trans (hb.mono N1.out)); clear ht hb hk))
          go_roundg (gk - 1)
          case measure => have := HI.out; have := HI2.out; omega
          case rel => exact ⟨i + 1, c.get (stp l i).nm, by rw [wr1 (by have := HLen.out; have := HI2.out; omega)], ⟨by have := HI.out; have := HI2.out; omega⟩, T6, B6⟩
        · have e1 : ((stp l i).what == 1) = false := beq_eq_false_iff_ne.mpr k1
          clear k1
          by_cases k2 : (stp l i).what = 2
          · have e2 : ((stp l i).what == 2) = true := beq_iff_eq.mpr k2
            clear k2
            go_wp2_with (first
              | (go_at_call 18; go_loud (refine (peekC T0.out _ HN.out).mono ?_); rintro e w4 ⟨rfl, ht, hb, hk⟩; have T4 := Aside0.mk ht; have B4 := Aside0.mk (B0.out.trans (hb.mono N1.out)); have X4 := Aside0.mk (hk _ _ _ (.inl rfl) X0.out); have x0 := (blk_cell X4.out 0).trans rfl; have x1 := (blk_cell X4.out 1).trans rfl; have x2 := (blk_cell X4.out 2).trans rfl; clear ht hb hk)
              | (go_at_call 19; go_loud (refine (peekR T4.out _ HF.out.2.1 HF.out.1).mono ?_); rintro e w5 ⟨rfl, ht, hb, hk⟩; have T5 := Aside0.mk ht; have B5 := Aside0.mk (B4.out.trans (hb.mono N1.out)); clear ht hb hk)
              | (go_at_call 25; go_loud (refine (told_calls _ _ g gr _ T5.out).mono ?_); rintro e w6 ⟨rfl, ht, hb, hk⟩; have T6 := Aside0.mk ht; have B6 := Aside0.mk (B5.out.trans (hb.mono N1.out)); clear ht hb hk))
            go_roundg (gk - 1)
            case measure => have := HI.out; have := HI2.out; omega
            case rel => exact ⟨i + 1, c, by rw [wr1 (by have := HLen.out; have := HI2.out; omega)], ⟨by have := HI.out; have := HI2.out; omega⟩, T6, B6⟩
          · have e2 : ((stp l i).what == 2) = false := beq_eq_false_iff_ne.mpr k2
            clear k2
            by_cases k3 : (stp l i).what = 3
            · have e3 : ((stp l i).what == 3) = true := beq_iff_eq.mpr k3
              clear k3
              go_wp2_with (first
                | (go_at_call 20; go_loud (refine (dropC T0.out _ HN.out).mono ?_); rintro e w4 ⟨rfl, ht, hb, hk⟩; have T4 := Aside0.mk ht; have B4 := Aside0.mk (B0.out.trans (hb.mono N1.out)); have X4 := Aside0.mk (hk _ _ _ (.inl rfl) X0.out); have x0 := (blk_cell X4.out 0).trans rfl; have x1 := (blk_cell X4.out 1).trans rfl; have x2 := (blk_cell X4.out 2).trans rfl; clear ht hb hk)
                | (go_at_call 21; go_loud (refine (dropR T4.out _ HF.out.2.1 HF.out.1).mono ?_); rintro e w5 ⟨rfl, ht, hb, hk⟩; have T5 := Aside0.mk ht; have B5 := Aside0.mk (B4.out.trans (hb.mono N1.out)); clear ht hb hk)
                | (go_at_call 25; go_loud (refine (told_calls _ _ g gr _ T5.out).mono ?_); rintro e w6 ⟨rfl, ht, hb, hk⟩; have T6 := Aside0.mk ht; have B6 := Aside0.mk (B5.out.trans (hb.mono N1.out)); clear ht hb hk))
              go_roundg (gk - 1)
              case measure => have := HI.out; have := HI2.out; omega
              case rel => exact ⟨i + 1, Cs.drop c (stp l i).nm, by rw [wr1 (by have := HLen.out; have := HI2.out; omega)], ⟨by have := HI.out; have := HI2.out; omega⟩, T6, B6⟩
            · have e3 : ((stp l i).what == 3) = false := beq_eq_false_iff_ne.mpr k3
              clear k3
              by_cases k4 : (stp l i).what = 4
              · have e4 : ((stp l i).what == 4) = true := beq_iff_eq.mpr k4
                clear k4
                have GL := Aside0.mk (gone_small c.l (stp l i).v HF.out.2.1)
                go_wp2_with (first
                  | (go_at_call 22; go_loud (refine (shrinkC T0.out _).mono ?_); rintro e w4 ⟨v4, rfl, hr, ht, hb, hk⟩; obtain ⟨A4, c4, rfl, kl4, hC4⟩ := hr.slice; have K4 := Aside0.mk (And.intro hC4 kl4); have T4 := Aside0.mk ht; have B4 := Aside0.mk (B0.out.trans (hb.mono N1.out)); have X4 := Aside0.mk (hk _ _ _ (.inl rfl) X0.out); have x0 := (blk_cell X4.out 0).trans rfl; have x1 := (blk_cell X4.out 1).trans rfl; have x2 := (blk_cell X4.out 2).trans rfl; have R4 := Aside0.mk hr; clear ht hb hk hC4 kl4 hr)
                  | (go_at_call 23; go_loud (refine (shrinkR T4.out _ HF.out.2.1).mono ?_); rintro e w5 ⟨v5, rfl, hr, ht, hb, hk⟩; obtain ⟨A5, c5, rfl, kl5, hC5⟩ := hr.slice; have K5 := Aside0.mk (And.intro hC5 kl5); have T5 := Aside0.mk ht; have B5 := Aside0.mk (B4.out.trans (hb.mono N1.out)); have J4 := Aside0.mk (Row.slice' (hk.row R4.out)); clear ht hb hk hC5 kl5 hr)
                  | (go_at_call 24; go_loud (refine (names_same J4.out.1 J4.out.2 K5.out.1 K5.out.2 rfl rfl GL.out).mono ?_); rintro e w7 ⟨rfl, m, rfl⟩; have T7 := Aside0.mk (T5.out.drewN m); have B7 := Aside0.mk (pw_below_drewN B5.out m))
                  | (go_at_call 25; go_loud (refine (told_calls _ _ g gr _ T7.out).mono ?_); rintro e w6 ⟨rfl, ht, hb, hk⟩; have T6 := Aside0.mk ht; have B6 := Aside0.mk (B7.out.trans (hb.mono N1.out)); clear ht hb hk))
                go_roundg (gk - 1)
                case measure => have := HI.out; have := HI2.out; omega
                case rel => exact ⟨i + 1, Cs.shrink c (stp l i).v, by rw [wr1 (by have := HLen.out; have := HI2.out; omega)], ⟨by have := HI.out; have := HI2.out; omega⟩, T6, B6⟩
              · have e4 : ((stp l i).what == 4) = false := beq_eq_false_iff_ne.mpr k4
                clear k4
                have T5 := T0
                have B5 := B0
                go_wp2_with (first
                  | (go_at_call 25; go_loud (refine (told_calls _ _ g gr _ T5.out).mono ?_); rintro e w6 ⟨rfl, ht, hb, hk⟩; have T6 := Aside0.mk ht; have B6 := Aside0.mk (B5.out.trans (hb.mono N1.out)); clear ht hb hk))
                go_roundg (gk - 1)
                case measure => have := HI.out; have := HI2.out; omega
                case rel => exact ⟨i + 1, c, by rw [wr1 (by have := HLen.out; have := HI2.out; omega)], ⟨by have := HI.out; have := HI2.out; omega⟩, T6, B6⟩
    · have p0 : decide ((i : Int) < (l.length : Int)) = false := decide_eq_false (by omega)
      go_wp2
      go_ret
      exact ⟨rfl, HB.out⟩
set_option maxHeartbeats 1000000 in
set_option maxRecDepth 100000 in
theorem script_long (w : World) (room : Int) (A : Option Addr) (cp n : Nat) (h : 150 < n) : Calls Try.prog 5 #[.int .i64 room, .slice A n cp] w (Yes w) := by
  have d1 : decide ((n : Int) > 150) = true := decide_eq_true (by omega)
  clear h
  go_enter Try.func5, Try.ntmps5
  go_wp2_with (go_at_call 7; go_loud (refine (awake_calls _).mono ?_); rintro e w1 ⟨rfl, hb⟩; have B1 := Aside0.mk hb; clear hb)
  go_ret
  exact ⟨rfl, B1.out⟩
set_option maxHeartbeats 1000000 in
set_option maxRecDepth 100000 in
theorem script_no (w : World) (room : Int) (A : Option Addr) (cp n : Nat) (hn : n ≤ 150) (h : ¬ (1 ≤ room ∧ room ≤ 4096)) : Calls Try.prog 5 #[.int .i64 room, .slice A n cp] w (Yes w) := by
  have d1 : decide ((n : Int) > 150) = false := decide_eq_false (by omega)
  have e1 : decide (1 ≤ room ∧ room ≤ 4096) = false := decide_eq_false h
  have HH := Aside0.mk h
  clear h hn
  go_enter Try.func5, Try.ntmps5
  go_wp2_with (first
    | (go_at_call 7; go_loud (refine (awake_calls _).mono ?_); rintro e w1 ⟨rfl, hb⟩; have B1 := Aside0.mk hb; clear hb)
    | (go_at_call 8; go_loud (refine (newL_no _ room HH.out).mono ?_); rintro e w2 ⟨rfl, hc⟩; have hb := hc.below (Nat.le_refl _) (fun _ hk => hk.elim); have B2 := Aside0.mk (B1.out.trans (hb.mono B1.out.size)); clear hc hb)
    | (go_at_call 15; go_loud (refine (may15 _ room).mono ?_); rintro e w3 ⟨rfl, hc⟩; rw [e1]; have hb := hc.below (Nat.le_refl _) (fun _ hk => hk.elim); have B3 := Aside0.mk (B2.out.trans (hb.mono B2.out.size)); clear hc hb))
  go_ret
  exact ⟨by simp, B3.out⟩
theorem script_calls (w : World) (room : Int) (A : Option Addr) (cp : Nat) (l : List Stp) (hs : Sk.Steps w A l) : Calls Try.prog 5 #[.int .i64 room, .slice A l.length cp] w (Yes w) := by
  by_cases h1 : l.length ≤ 150
  · by_cases h3 : 1 ≤ room ∧ room ≤ 4096
    · exact script_in w room A cp l h1 h3 hs
    · exact script_no w room A cp _ h1 h3
  · exact script_long w room A cp _ (by omega)
end Go.Proofs.Ytcfdldgekfacfaa.Rf
