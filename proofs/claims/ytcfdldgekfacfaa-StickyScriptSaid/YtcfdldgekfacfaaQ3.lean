/- StickyWider, walked. -/
import Derived.Test.YtcfdldgekfacfaaQ2
import Derived.StillTailTactics
import Derived.Deep.RegionWith
namespace Go.Proofs.Ytcfdldgekfacfaa.Sk
open Go.RowKit Go.Proofs.YtcfdldgekfacfaaW.PrintWords Go.Proofs.YtcfdldgekfacfaaW.PrintLast Go.Proofs.YtcfdldgekfacfaaW.PrintMore
set_option linter.unusedVariables false
set_option linter.unusedSimpArgs false

/-- A step of a script. -/
structure Stp where
  what : Int
  nm : ByteArray
  v : Int
def zs : Stp := ⟨0, ⟨#[]⟩, 0⟩
def stp (l : List Stp) (i : Nat) : Stp := l.getD i zs
/-- The steps as they lie in memory. -/
def Steps (W : World) (A : Option Addr) (l : List Stp) : Prop :=
  0 < l.length → ∃ ad, A = some ad ∧ ad.block < W.heap.size ∧ ∀ i, i < l.length → W.cell? (ad.add (i * 3)) = some (.int .u8 (stp l i).what) ∧ W.cell? ⟨(ad.add (i * 3)).block, (ad.add (i * 3)).off + 1, none⟩ = some (.string (stp l i).nm) ∧
    W.cell? ⟨(ad.add (i * 3)).block, (ad.add (i * 3)).off + 2, none⟩ = some (.int .i64 (stp l i).v) ∧ (stp l i).nm.size ≤ maxLen
theorem Steps.at_ {W V : World} {A : Option Addr} {l : List Stp} (h : Steps W A l) (hb : Below W.heap.size W V) {i : Nat} (hi : i < l.length) : ∃ ad, A = some ad ∧ V.cell? (ad.add (i * 3)) = some (.int .u8 (stp l i).what) ∧ V.cell? ⟨(ad.add (i * 3)).block, (ad.add (i * 3)).off + 1, none⟩ = some (.string (stp l i).nm) ∧
    V.cell? ⟨(ad.add (i * 3)).block, (ad.add (i * 3)).off + 2, none⟩ = some (.int .i64 (stp l i).v) ∧ (stp l i).nm.size ≤ maxLen := by
  obtain ⟨ad, hA, hlt, hc⟩ := h (by omega)
  obtain ⟨h1, h2, h3, h4⟩ := hc i hi
  have hbl : (ad.add (i * 3)).block = ad.block := by unfold Addr.add; split <;> rfl
  exact ⟨ad, hA, (hb.cell (by rw [hbl]; exact hlt)).trans h1, (hb.cell (by rw [hbl]; exact hlt)).trans h2, (hb.cell (by rw [hbl]; exact hlt)).trans h3, h4⟩

theorem Cw2.rooms {N : Nat} {W : World} {g1 g2 : Nat} {c d : Cs} (h : Cw2 N W g1 g2 c d) : c.room ≤ 4096 ∧ d.room ≤ 4096 := by
  obtain ⟨y, z, h1, h2, h3, ⟨s, L, a1, a2, a3, a4, a5, a6, a7, a8, a9⟩, ⟨s', L', b1, b2, b3, b4, b5, b6, b7, b8, b9⟩, h6⟩ := h
  exact ⟨a8, b8⟩
theorem names_small {c : Cs} {l : Things} (h : (l.length : Int) ≤ c.room) (hm : c.room ≤ 4096) : (l.map (·.1)).length < 1000000 := by rw [List.length_map]; omega
theorem among_any {w : World} {A1 A2 : Option Addr} {c1 c2 : Nat} {a b : List ByteArray} (h1 : Kd.C Kd.string w A1 a.length a) (k1 : a.length ≤ c1) (h2 : Kd.C Kd.string w A2 b.length b) (k2 : b.length ≤ c2)
    (ha : a.length < 1000000) (hb : b.length < 1000000) (hs : a.Sublist b) : Calls Try.prog 11 #[.slice A1 a.length c1, .slice A2 b.length c2] w fun e w' => e = .returned (.bool true) ∧ Drawn0 w w' := by
  have hf := PRef.among_is a b ha hb hs
  generalize 2 * b.length + 2 = k at hf
  exact PRef.prompterlaw19_among.calls k A1 c1 a A2 c2 b true w h1 k1 h2 k2 hf
theorem among_yes {w : World} {A1 A2 : Option Addr} {c1 c2 : Nat} {c d : Cs} (h1 : Kd.C Kd.string w A1 (c.l.map (·.1)).length (c.l.map (·.1))) (k1 : (c.l.map (·.1)).length ≤ c1) (h2 : Kd.C Kd.string w A2 (d.l.map (·.1)).length (d.l.map (·.1))) (k2 : (d.l.map (·.1)).length ≤ c2)
    (hr : Rel c d) (hm : c.room ≤ 4096 ∧ d.room ≤ 4096) : Calls Try.prog 11 #[.slice A1 c.l.length c1, .slice A2 d.l.length c2] w fun e w' => e = .returned (.bool true) ∧ Below w.heap.size w w' := by
  have := among_any h1 k1 h2 k2 (names_small hr.lc hm.1) (names_small hr.ld hm.2) (hr.sub.map _)
  rw [List.length_map, List.length_map] at this
  exact this.mono fun e w' ⟨he, hd⟩ => ⟨he, hd.below⟩
def Yes (w : World) (e : Ending) (w' : World) : Prop := e = .returned (.bool true) ∧ Below w.heap.size w w'
set_option maxHeartbeats 2000000 in
set_option maxRecDepth 100000 in
theorem wider_in (w : World) (room more : Int) (A : Option Addr) (cp : Nat) (l : List Stp) (hl : l.length ≤ 100) (h1 : 1 ≤ room) (h2 : room ≤ more) (h3 : more ≤ 4096) (hs : Steps w A l) :
    Calls Try.prog 3 #[.int .i64 room, .int .i64 more, .slice A l.length cp] w (Yes w) := by
  have hu22 := Try.underlying22
  have hu29 := Try.underlying29
  have d1 : decide ((l.length : Int) > 100) = false := decide_eq_false (by omega)
  have d2 : decide (more < room) = false := decide_eq_false (by omega)
  have HS := Aside0.mk hs
  have R1 := Aside0.mk (show 1 ≤ room ∧ room ≤ 4096 from ⟨h1, by omega⟩)
  have R2 := Aside0.mk (show 1 ≤ more ∧ more ≤ 4096 from ⟨by omega, h3⟩)
  have RR := Aside0.mk (show room ≤ more from h2)
  have HLen := Aside0.mk hl
  clear hs h1 h2 h3 hl
  go_enter Try.func3, Try.ntmps3
  go_wp2_with (first
    | (go_at_call 7; go_loud (refine (awake_calls _).mono ?_); rintro e w1 ⟨rfl, hb⟩; have B1 := Aside0.mk hb; clear hb; have T1 := trivial)
    | (clear T1; go_at_call 8; go_loud (refine (new_cw _ room R1.out).mono ?_); rintro e w2 ⟨g1, rfl, hc, hb⟩; have C2 := Aside0.mk hc; have B2 := Aside0.mk (B1.out.trans (hb.mono B1.out.size)); clear hc hb)
    | (go_at_call 8; go_loud (refine (new_2 (c := ⟨room, 0, 0, []⟩) C2.out more R2.out).mono ?_); rintro e w3 ⟨g2, rfl, hc, hb⟩; have C3 := Aside0.mk hc; have B3 := Aside0.mk (B2.out.trans (hb.mono B2.out.size)); clear hc hb))
  go_loopg [11] l.length (fun kq v11 w' => ∃ (i : Nat) (c d : Cs), v11 = .int .i64 (i : Int) ∧ Aside0 (i + kq = l.length) ∧ Aside0 (Cw2 w1.heap.size w' g1 g2 c d) ∧ Aside0 (Rel c d) ∧ Aside0 (Below w.heap.size w w'))
  case atStart => exact ⟨0, _, _, rfl, ⟨by omega⟩, C3, ⟨Rel.start room more RR.out R1.out.1⟩, B3⟩
  case round =>
    have N1 := Aside0.mk B1.out.size
    clear C3 B3 C2 B2 B1
    obtain ⟨i, c, d, rfl, HI, HC, HR, HB⟩ := hrel
    by_cases hi : i < l.length
    · have p0 : decide ((i : Int) < (l.length : Int)) = true := decide_eq_true (by omega)
      have p1 : (0 ≤ (i : Int)) = True := eq_true (by omega)
      have p2 : ((i : Int) < (l.length : Int)) = True := eq_true (by omega)
      obtain ⟨ad, hA, s0, s1, s2, hnm⟩ := HS.out.at_ HB.out hi
      have HN := Aside0.mk hnm
      clear hnm
      subst hA
      by_cases k0 : (stp l i).what = 0
      · have e0 : ((stp l i).what == 0) = true := beq_iff_eq.mpr k0
        clear k0
        go_wp2
        go_still_tail 11, (by kernel_rfl)
        go_wp2_with (go_at_call 9; go_loud (refine (put_c HC.out.drew _ _ HN.out).mono ?_); rintro e w4 ⟨rfl, hc, hb⟩; have C4 := Aside0.mk hc; have B4 := Aside0.mk (HB.out.trans ((below_drew1 (Below.refl _ _)).trans (hb.mono N1.out))); clear hc hb)
        obtain ⟨ad2, hA2, t0, t1, t2, -⟩ := HS.out.at_ B4.out hi
        obtain rfl := Option.some.inj hA2
        clear s0 s1 s2
        go_still_tail 11, (by kernel_rfl)
        go_wp2_with (go_at_call 9; go_loud (refine (put_d C4.out.drew _ _ HN.out).mono ?_); rintro e w5 ⟨rfl, hc, hb⟩; have C5 := Aside0.mk hc; have B5 := Aside0.mk (B4.out.trans ((below_drew1 (Below.refl _ _)).trans (hb.mono N1.out))); clear hc hb)
        go_wp2_with (first
          | (go_at_call 12; go_loud (refine (names_c C5.out).mono ?_); rintro e w6 ⟨v6, rfl, hr, hc, hb⟩; obtain ⟨A6, c6, rfl, kl6, hC6⟩ := hr.slice; have K6 := Aside0.mk (And.intro hC6 kl6); have C6 := Aside0.mk hc; have D6 := Aside0.mk (B5.out.trans (hb.mono B5.out.size)); clear hr hc hb hC6 kl6 C5)
          | (go_at_call 12; go_loud (refine (names_d C6.out).mono ?_); rintro e w7 ⟨v7, rfl, hr, hc, hb⟩; obtain ⟨A7, c7, rfl, kl7, hC7⟩ := hr.slice; have K7 := Aside0.mk (And.intro hC7 kl7); have L7 := Aside0.mk (Kd.C_below K6.out.1 hb); have C7 := Aside0.mk hc; have D7 := Aside0.mk (D6.out.trans (hb.mono D6.out.size)); clear hr hc hb hC7 kl7)
          | (go_at_call 11; go_loud (refine (among_yes L7.out K6.out.2 K7.out.1 K7.out.2 (HR.out.put _ _) C7.out.rooms).mono ?_); rintro e w8 ⟨rfl, hdr⟩; have hbz := hdr; have C8 := Aside0.mk (C7.out.below hbz); have D8 := Aside0.mk (D7.out.trans (hbz.mono D7.out.size)); clear hbz))
        go_roundg (gk - 1)
        case measure => have := HI.out; omega
        case rel => exact ⟨i + 1, _, _, by rw [PRef.wr1 hi (by have := HLen.out; omega)], ⟨by have := HI.out; omega⟩, C8, ⟨(HR.out.put _ _)⟩, D8⟩
      · have e0 : ((stp l i).what == 0) = false := beq_eq_false_iff_ne.mpr k0
        clear k0
        by_cases k1 : (stp l i).what = 1
        · have e1 : ((stp l i).what == 1) = true := beq_iff_eq.mpr k1
          clear k1
          by_cases hb : inB c.l (stp l i).nm = true
          · obtain ⟨hb2, hv⟩ := (HR.out.get (stp l i).nm).2 hb
            have GB := Aside0.mk (And.intro hb (And.intro hb2 hv))
            clear hb hb2 hv
            have T1 := trivial
            go_wp2_with (first
              | (clear T1; go_at_call 10; go_loud (refine (get_c HC.out _ HN.out).mono ?_); rintro e w4 ⟨rfl, hc, hb⟩; rw [GB.out.1, GB.out.2.2]; have C4 := Aside0.mk hc; have B4 := Aside0.mk (HB.out.trans (hb.mono N1.out)); clear hc hb; obtain ⟨ad2, hA2, t0, t1, t2, -⟩ := HS.out.at_ B4.out hi; obtain rfl := Option.some.inj hA2; clear s0 s1 s2)
              | (go_at_call 10; go_loud (refine (get_d C4.out _ HN.out).mono ?_); rintro e w5 ⟨rfl, hc, hb⟩; rw [GB.out.2.1]; have C5 := Aside0.mk hc; have B5 := Aside0.mk (B4.out.trans (hb.mono N1.out)); clear hc hb))
            go_wp2_with (first
              | (go_at_call 12; go_loud (refine (names_c C5.out).mono ?_); rintro e w6 ⟨v6, rfl, hr, hc, hb⟩; obtain ⟨A6, c6, rfl, kl6, hC6⟩ := hr.slice; have K6 := Aside0.mk (And.intro hC6 kl6); have C6 := Aside0.mk hc; have D6 := Aside0.mk (B5.out.trans (hb.mono B5.out.size)); clear hr hc hb hC6 kl6 C5)
              | (go_at_call 12; go_loud (refine (names_d C6.out).mono ?_); rintro e w7 ⟨v7, rfl, hr, hc, hb⟩; obtain ⟨A7, c7, rfl, kl7, hC7⟩ := hr.slice; have K7 := Aside0.mk (And.intro hC7 kl7); have L7 := Aside0.mk (Kd.C_below K6.out.1 hb); have C7 := Aside0.mk hc; have D7 := Aside0.mk (D6.out.trans (hb.mono D6.out.size)); clear hr hc hb hC7 kl7)
              | (go_at_call 11; go_loud (refine (among_yes L7.out K6.out.2 K7.out.1 K7.out.2 (HR.out.get _).1 C7.out.rooms).mono ?_); rintro e w8 ⟨rfl, hdr⟩; have hbz := hdr; have C8 := Aside0.mk (C7.out.below hbz); have D8 := Aside0.mk (D7.out.trans (hbz.mono D7.out.size)); clear hbz))
            go_roundg (gk - 1)
            case measure => have := HI.out; omega
            case rel => exact ⟨i + 1, _, _, by rw [PRef.wr1 hi (by have := HLen.out; omega)], ⟨by have := HI.out; omega⟩, C8, ⟨(HR.out.get _).1⟩, D8⟩
          · have hb' : inB c.l (stp l i).nm = false := by simpa using hb
            have GB := Aside0.mk hb'
            clear hb hb'
            have T1 := trivial
            go_wp2_with (first
              | (clear T1; go_at_call 10; go_loud (refine (get_c HC.out _ HN.out).mono ?_); rintro e w4 ⟨rfl, hc, hb⟩; rw [GB.out]; have C4 := Aside0.mk hc; have B4 := Aside0.mk (HB.out.trans (hb.mono N1.out)); clear hc hb; obtain ⟨ad2, hA2, t0, t1, t2, -⟩ := HS.out.at_ B4.out hi; obtain rfl := Option.some.inj hA2; clear s0 s1 s2)
              | (go_at_call 10; go_loud (refine (get_d C4.out _ HN.out).mono ?_); rintro e w5 ⟨rfl, hc, hb⟩; skip; have C5 := Aside0.mk hc; have B5 := Aside0.mk (B4.out.trans (hb.mono N1.out)); clear hc hb))
            go_wp2_with (first
              | (go_at_call 12; go_loud (refine (names_c C5.out).mono ?_); rintro e w6 ⟨v6, rfl, hr, hc, hb⟩; obtain ⟨A6, c6, rfl, kl6, hC6⟩ := hr.slice; have K6 := Aside0.mk (And.intro hC6 kl6); have C6 := Aside0.mk hc; have D6 := Aside0.mk (B5.out.trans (hb.mono B5.out.size)); clear hr hc hb hC6 kl6 C5)
              | (go_at_call 12; go_loud (refine (names_d C6.out).mono ?_); rintro e w7 ⟨v7, rfl, hr, hc, hb⟩; obtain ⟨A7, c7, rfl, kl7, hC7⟩ := hr.slice; have K7 := Aside0.mk (And.intro hC7 kl7); have L7 := Aside0.mk (Kd.C_below K6.out.1 hb); have C7 := Aside0.mk hc; have D7 := Aside0.mk (D6.out.trans (hb.mono D6.out.size)); clear hr hc hb hC7 kl7)
              | (go_at_call 11; go_loud (refine (among_yes L7.out K6.out.2 K7.out.1 K7.out.2 (HR.out.get _).1 C7.out.rooms).mono ?_); rintro e w8 ⟨rfl, hdr⟩; have hbz := hdr; have C8 := Aside0.mk (C7.out.below hbz); have D8 := Aside0.mk (D7.out.trans (hbz.mono D7.out.size)); clear hbz))
            go_roundg (gk - 1)
            case measure => have := HI.out; omega
            case rel => exact ⟨i + 1, _, _, by rw [PRef.wr1 hi (by have := HLen.out; omega)], ⟨by have := HI.out; omega⟩, C8, ⟨(HR.out.get _).1⟩, D8⟩
        · have e1 : ((stp l i).what == 1) = false := beq_eq_false_iff_ne.mpr k1
          clear k1
          have C5 := HC.out
          have B5 := HB.out
          have C5 := Aside0.mk C5
          have B5 := Aside0.mk B5
          go_wp2_with (first
            | (go_at_call 12; go_loud (refine (names_c C5.out).mono ?_); rintro e w6 ⟨v6, rfl, hr, hc, hb⟩; obtain ⟨A6, c6, rfl, kl6, hC6⟩ := hr.slice; have K6 := Aside0.mk (And.intro hC6 kl6); have C6 := Aside0.mk hc; have D6 := Aside0.mk (B5.out.trans (hb.mono B5.out.size)); clear hr hc hb hC6 kl6 C5)
            | (go_at_call 12; go_loud (refine (names_d C6.out).mono ?_); rintro e w7 ⟨v7, rfl, hr, hc, hb⟩; obtain ⟨A7, c7, rfl, kl7, hC7⟩ := hr.slice; have K7 := Aside0.mk (And.intro hC7 kl7); have L7 := Aside0.mk (Kd.C_below K6.out.1 hb); have C7 := Aside0.mk hc; have D7 := Aside0.mk (D6.out.trans (hb.mono D6.out.size)); clear hr hc hb hC7 kl7)
            | (go_at_call 11; go_loud (refine (among_yes L7.out K6.out.2 K7.out.1 K7.out.2 HR.out C7.out.rooms).mono ?_); rintro e w8 ⟨rfl, hdr⟩; have hbz := hdr; have C8 := Aside0.mk (C7.out.below hbz); have D8 := Aside0.mk (D7.out.trans (hbz.mono D7.out.size)); clear hbz))
          go_roundg (gk - 1)
          case measure => have := HI.out; omega
          case rel => exact ⟨i + 1, _, _, by rw [PRef.wr1 hi (by have := HLen.out; omega)], ⟨by have := HI.out; omega⟩, C8, ⟨HR.out⟩, D8⟩
    · have p0 : decide ((i : Int) < (l.length : Int)) = false := decide_eq_false (by omega)
      go_wp2
      go_ret
      exact ⟨rfl, HB.out⟩
end Go.Proofs.Ytcfdldgekfacfaa.Sk
