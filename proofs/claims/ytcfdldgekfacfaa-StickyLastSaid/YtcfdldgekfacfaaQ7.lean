/- StickyLast, walked. -/
import Derived.Test.YtcfdldgekfacfaaQ6
import Derived.SliceStrings
namespace Go.Proofs.Ytcfdldgekfacfaa.Lr
open Go.RowKit Sk Go.Proofs.YtcfdldgekfacfaaW.PrintWords Go.Proofs.YtcfdldgekfacfaaW.PrintLast Go.Proofs.YtcfdldgekfacfaaW.PrintMore
set_option linter.unusedVariables false
set_option linter.unusedSimpArgs false

theorem str_at {w W : World} {A : Option Addr} {l : List ByteArray} (h : Kd.C Kd.string w A l.length l) (hb : Below w.heap.size w W) {i : Nat} (hi : i < l.length) : ∃ ad, A = some ad ∧ W.cell? (ad.add i) = some (.string l[i]) := by
  obtain ⟨ad, hA, hc⟩ := Kd.at_string (Kd.C_below h hb) (i : Int) (by omega) (by omega)
  rw [rd_eq hi] at hc
  exact ⟨ad, hA, hc⟩
theorem names_cw {N : Nat} {w : World} {g : Nat} {c : Cs} (h : Cw N w g c.room c.hits c.misses c.l) :
    Calls Try.prog 12 #[.pointer (some ⟨g, 0, none⟩)] w fun e w' => ∃ v, e = .returned v ∧ Row w.heap.size w' v (c.l.map (·.1)) ∧ Cw N w' g c.room c.hits c.misses c.l ∧ Below w.heap.size w w' := by
  have h0 := h
  obtain ⟨y, rfl, hN, hc⟩ := h
  refine (namesL_calls N w y c.room c.hits c.misses c.l hc).mono fun e w' ⟨v, he, hr, hch⟩ => ?_
  have hb := hch.below (Nat.le_refl _) (fun _ hk => hk.elim)
  exact ⟨v, he, hr, h0.below hb, hb⟩
theorem len_cw {N : Nat} {w : World} {g : Nat} {c : Cs} (h : Cw N w g c.room c.hits c.misses c.l) :
    Calls Try.prog 14 #[.pointer (some ⟨g, 0, none⟩)] w fun e w' => e = .returned (.int .i64 (c.l.length : Int)) ∧ Cw N w' g c.room c.hits c.misses c.l ∧ Below w.heap.size w w' := by
  have h0 := h
  obtain ⟨y, rfl, hN, hc⟩ := h
  refine (lenL_calls N w y c.room c.hits c.misses c.l hc).mono fun e w' ⟨he, hch⟩ => ?_
  have hb := hch.below (Nat.le_refl _) (fun _ hk => hk.elim)
  exact ⟨he, h0.below hb, hb⟩
theorem fresh_at {w W : World} {ad : Addr} {l : List ByteArray} {cp k kf n : Nat} {q : Nat} (h : Kd.C Kd.string w (some ad) l.length l) (hb : Below w.heap.size w W) (hk : k < l.length) (hc : l.length ≤ cp) (hf : PRef.prompterlaw19_fresh.f kf (l.take k) q = some (n : Int)) :
    Calls Try.prog 13 #[.slice (some ad) k cp, .int .i64 (q : Int)] W fun e w' => e = .returned (.int .i64 (n : Int)) ∧ Below W.heap.size W w' := by
  have hlen : (l.take k).length = k := by simp; omega
  have h1 := Kd.C_take (m := k) (Kd.C_below h hb) (by omega)
  have := PRef.prompterlaw19_fresh.calls kf (some ad) cp (l.take k) q n W h1 (by omega) hf
  rw [hlen] at this
  exact this.mono fun e w' ⟨he, hd⟩ => ⟨he, hd.below⟩
set_option maxHeartbeats 2000000 in
set_option maxRecDepth 100000 in
theorem last_in (w : World) (r : Nat) (A : Option Addr) (cp : Nat) (l : List ByteArray) (hm : r + 1 ≤ 4096) (hl : l.length ≤ 100) (hs : Kd.C Kd.string w A l.length l) (hcp : l.length ≤ cp) (hsz : ∀ i (h : i < l.length), (l[i]).size ≤ maxLen) :
    Calls Try.prog 4 #[.int .i64 ((r + 1 : Nat) : Int), .slice A l.length cp] w (Yes w) := by
  have hu35 := Try.underlying35
  have d1 : decide ((l.length : Int) > 100) = false := decide_eq_false (by omega)
  have HS := Aside0.mk hs
  have R1 := Aside0.mk (show 1 ≤ ((r + 1 : Nat) : Int) ∧ ((r + 1 : Nat) : Int) ≤ 4096 from ⟨by omega, by omega⟩)
  have HLen := Aside0.mk hl
  have HCp := Aside0.mk hcp
  have HSz := Aside0.mk hsz
  clear hs hl hm hcp hsz
  generalize hrr : ((r + 1 : Nat) : Int) = room at *
  have HRR := Aside0.mk hrr
  clear hrr
  go_enter Try.func4, Try.ntmps4
  go_wp2_with (first
    | (go_at_call 7; go_loud (refine (awake_calls _).mono ?_); rintro e w1 ⟨rfl, hb⟩; have B1 := Aside0.mk hb; clear hb)
    | (go_at_call 8; go_loud (refine (new_cw _ room R1.out).mono ?_); rintro e w2 ⟨g, rfl, hc, hb⟩; have C2 := Aside0.mk hc; have B2 := Aside0.mk (B1.out.trans (hb.mono B1.out.size)); clear hc hb))
  go_loopg [7] l.length (fun kq v7 w' => ∃ (i : Nat) (c : Cs), v7 = .int .i64 (i : Int) ∧ Aside0 (i + kq = l.length) ∧ Aside0 (Cw w1.heap.size w' g c.room c.hits c.misses c.l) ∧ Aside0 (Lru l r i c) ∧ Aside0 (Below w.heap.size w w'))
  case atStart => exact ⟨0, ⟨room, 0, 0, []⟩, rfl, ⟨by omega⟩, C2, ⟨by rw [← HRR.out]; exact Lru.start l r⟩, B2⟩
  case round =>
    have N1 := Aside0.mk B1.out.size
    clear C2 B2 B1
    obtain ⟨i, c, rfl, HI, HC, HL, HB⟩ := hrel
    obtain ⟨go, hgo⟩ : ∃ z, z = gk - 1 := ⟨_, rfl⟩
    have HG := Aside0.mk hgo
    clear hgo
    by_cases hi : i < l.length
    · have p0 : decide ((i : Int) < (l.length : Int)) = true := decide_eq_true (by omega)
      have p1 : (0 ≤ (i : Int)) = True := eq_true (by omega)
      have p2 : ((i : Int) < (l.length : Int)) = True := eq_true (by omega)
      obtain ⟨ad, hA, s0⟩ := str_at HS.out HB.out hi
      have HN := Aside0.mk (HSz.out i hi)
      have HW := Aside0.mk (HL.out.want hi (by have := HLen.out; omega))
      have HHit := Aside0.mk (fun hb => HL.out.hit hi hb)
      have HMiss := Aside0.mk (fun hb => HL.out.miss hi hb)
      generalize hx : l[i] = x at *
      have HX := Aside0.mk hx
      clear hx
      subst hA
      go_wp2_with (go_at_call 10; go_loud (refine (get_cw HC.out _ HN.out).mono ?_); rintro e w4 ⟨rfl, hc, hb⟩; have C4 := Aside0.mk (show Cw w1.heap.size w4 g (c.get x).room (c.get x).hits (c.get x).misses (c.get x).l from hc); have B4 := Aside0.mk (HB.out.trans (hb.mono N1.out)); clear hc hb)
      go_loopg [10, 11] i (fun kq v10 v11 w' => ∃ (k : Nat), v10 = .int .i64 (lastIx l x k) ∧ v11 = .int .i64 (k : Int) ∧ Aside0 (k + kq = i) ∧ Drawn0 w4 w')
      case atStart => exact ⟨0, rfl, rfl, ⟨by omega⟩, Drawn0.refl _⟩
      case round =>
        obtain ⟨k, rfl, rfl, HK, ⟨m, rfl⟩⟩ := hrel
        by_cases hk : k < i
        · have q0 : decide ((k : Int) < (i : Int)) = true := decide_eq_true (by omega)
          have q1 : (0 ≤ (k : Int)) = True := eq_true (by omega)
          have q2 : ((k : Int) < (l.length : Int)) = True := eq_true (by omega)
          obtain ⟨ad', hA', t0⟩ := str_at HS.out B4.out (show k < l.length by omega)
          obtain rfl := Option.some.inj hA'
          obtain ⟨ad', hA', t1⟩ := str_at HS.out B4.out hi
          obtain rfl := Option.some.inj hA'
          rw [HX.out] at t1
          by_cases he : l[k]'(by omega) = x
          · rw [he] at t0
            go_wp2
            go_region
            go_wp2
            go_roundg (gk - 1)
            case measure => have := HK.out; omega
            case rel => exact ⟨k + 1, by simp only [lastIx]; rw [List.getElem?_eq_getElem (by omega), he, if_pos rfl], by rw [wr1 (by have := HLen.out; omega)], ⟨by have := HK.out; omega⟩, _, rfl⟩
          · have e0 : ((l[k]'(by omega)).toList == x.toList) = false := beq_eq_false_iff_ne.mpr (fun h => he (toList_inj h))
            generalize hz : (l[k]'(by omega)) = z at *
            go_wp2
            go_region
            go_wp2
            go_roundg (gk - 1)
            case measure => have := HK.out; omega
            case rel => exact ⟨k + 1, by simp only [lastIx]; rw [List.getElem?_eq_getElem (by omega), hz, if_neg (fun h => he (Option.some.inj h))], by rw [wr1 (by have := HLen.out; omega)], ⟨by have := HK.out; omega⟩, _, rfl⟩
        · have q0 : decide ((k : Int) < (i : Int)) = false := decide_eq_false (by omega)
          obtain rfl : k = i := by have := HK.out; omega
          have hw := HW.out
          have C5 := Aside0.mk (C4.out.below (pw_below_drewN (Below.refl _ _) m))
          have B5 := Aside0.mk (B4.out.trans ((pw_below_drewN (Below.refl _ _) m).mono (by have := B4.out.size; omega)))
          clear C4 HC
          rcases hw with ⟨hq, hb⟩ | ⟨q, n, kf, hq, hf, hb⟩
          · have HM := Aside0.mk (HMiss.out hb)
            rw [hq]
            generalize inB c.l x = bb at *
            subst hb
            obtain ⟨ad', hA', t1⟩ := str_at HS.out B5.out hi
            obtain rfl := Option.some.inj hA'
            rw [HX.out] at t1
            go_wp2_with (go_at_call 9; go_loud (refine (put_cw C5.out _ _ HN.out).mono ?_); rintro e w6 ⟨rfl, hc, hb⟩; have C6 := Aside0.mk hc; have B6 := Aside0.mk (B5.out.trans (hb.mono N1.out)); clear hc hb)
            go_roundg go
            case rel => exact ⟨k + 1, (c.get x).put x k, by rw [wr1 (by have := HLen.out; omega)], ⟨by have := HI.out; have := HG.out; omega⟩, C6, HM, B6⟩
            case measure => have := HI.out; have := HG.out; omega
          · rw [hq]
            have e1 : decide ((q : Int) ≥ 0) = true := decide_eq_true (by omega)
            have FR := Aside0.mk (fresh_at (cp := cp) (k := k) HS.out B5.out hi HCp.out hf)
            have k0 : ((k : Int) ≤ (cp : Int)) = True := eq_true (by have := HCp.out; omega)
            have RN := HRR.out
            by_cases hn : (n : Int) < ((r + 1 : Nat) : Int)
            · have hb' : inB c.l x = true := by rw [hb]; exact decide_eq_true hn
              rw [RN] at hn
              have e2 : decide ((n : Int) < room) = true := decide_eq_true hn
              have HM := HHit.out hb'
              have e3 : decide (val c.l x ≥ (k : Int)) = false := decide_eq_false (by have := HM.2; omega)
              have HM := Aside0.mk HM.1
              clear hn RN hb hf
              generalize inB c.l x = bb at *
              subst hb'
              go_wp2_with (go_at_call 13; go_loud (refine FR.out.mono ?_); rintro e w6 ⟨rfl, hb⟩; have C6 := Aside0.mk (C5.out.below hb); have B6 := Aside0.mk (B5.out.trans (hb.mono B5.out.size)); clear hb)
              go_roundg go
              case rel => exact ⟨k + 1, c.get x, by rw [wr1 (by have := HLen.out; omega)], ⟨by have := HI.out; have := HG.out; omega⟩, C6, HM, B6⟩
              case measure => have := HI.out; have := HG.out; omega
            · have hb' : inB c.l x = false := by rw [hb]; exact decide_eq_false hn
              rw [RN] at hn
              have e2 : decide ((n : Int) < room) = false := decide_eq_false hn
              have HM := Aside0.mk (HMiss.out hb')
              clear hn RN hb hf
              generalize inB c.l x = bb at *
              subst hb'
              obtain ⟨ad', hA', t1⟩ := str_at HS.out B5.out hi
              obtain rfl := Option.some.inj hA'
              rw [HX.out] at t1
              go_wp2_with (first
                | (go_at_call 13; go_loud (refine FR.out.mono ?_); rintro e w6 ⟨rfl, hb⟩; have C6 := Aside0.mk (C5.out.below hb); have B6 := Aside0.mk (B5.out.trans (hb.mono B5.out.size)); clear hb; obtain ⟨ad', hA', t1⟩ := str_at HS.out B6.out hi; obtain rfl := Option.some.inj hA'; rw [HX.out] at t1)
                | (go_at_call 9; go_loud (refine (put_cw C6.out _ _ HN.out).mono ?_); rintro e w7 ⟨rfl, hc, hb⟩; have C7 := Aside0.mk hc; have B7 := Aside0.mk (B6.out.trans (hb.mono N1.out)); clear hc hb))
              go_roundg go
              case rel => exact ⟨k + 1, (c.get x).put x k, by rw [wr1 (by have := HLen.out; omega)], ⟨by have := HI.out; have := HG.out; omega⟩, C7, HM, B7⟩
              case measure => have := HI.out; have := HG.out; omega
    · have p0 : decide ((i : Int) < (l.length : Int)) = false := decide_eq_false (by omega)
      obtain rfl : i = l.length := by have := HI.out; omega
      obtain ⟨e1, e2, e3⟩ := HL.out.ends
      rw [HRR.out] at e2
      have E1 := Aside0.mk e1
      have E2 := Aside0.mk e2
      have E3 := Aside0.mk e3
      have e4 : decide ((c.l.length : Int) > room) = false := decide_eq_false (by omega)
      clear e1 e2 e3 HL HI HG go
      go_wp2_with (first
        | (go_at_call 12; go_loud (refine (names_cw HC.out).mono ?_); rintro e w6 ⟨v6, rfl, hr, hc, hb⟩; obtain ⟨A6, c6, rfl, kl6, hC6⟩ := hr.slice; have K6 := Aside0.mk (And.intro hC6 kl6); have C6 := Aside0.mk hc; have B6 := Aside0.mk (HB.out.trans (hb.mono HB.out.size)); clear hr hc hb hC6 kl6)
        | (go_at_call 14; go_loud (refine (len_cw C6.out).mono ?_); rintro e w7 ⟨rfl, hc, hb⟩; have C7 := Aside0.mk hc; have B7 := Aside0.mk (B6.out.trans (hb.mono B6.out.size)); have K7 := Aside0.mk (Kd.C_below K6.out.1 hb); clear hc hb))
      clear C6 B6 HC HB
      have K8 := Aside0.mk (And.intro K7.out K6.out.2)
      clear K6 K7
      have hll : c.l.length = (c.l.map (·.1)).length := (List.length_map _).symm
      have E3' := E3.out
      rw [hll] at E3'
      have E3 := Aside0.mk E3'
      have E2' := E2.out
      rw [hll] at E2'
      have E2 := Aside0.mk E2'
      clear E3' E2' e4
      generalize c.l.map (·.1) = nn at *
      rw [hll]
      clear hll
      go_loopg [14] nn.length (fun kq v14 w' => ∃ (a : Nat), v14 = .int .i64 (a : Int) ∧ Aside0 (a + kq = nn.length) ∧ Drawn0 w7 w')
      case atStart => exact ⟨0, rfl, ⟨by omega⟩, Drawn0.refl _⟩
      case round =>
        obtain ⟨a, rfl, HA, ⟨m, rfl⟩⟩ := hrel
        obtain ⟨go, hgo⟩ : ∃ z, z = gk - 1 := ⟨_, rfl⟩
        have HG := Aside0.mk hgo
        clear hgo
        by_cases ha : a < nn.length
        · have a0 : decide ((a : Int) < (nn.length : Int)) = true := decide_eq_true (by omega)
          have a1 : (0 ≤ (a : Int)) = True := eq_true (by omega)
          have a2 : ((a : Int) < (nn.length : Int)) = True := eq_true (by omega)
          have hsm : nn.length < 1000000 := by have := E2.out; have := R1.out; omega
          go_wp2
          go_loopg [15] a (fun kq v15 w' => ∃ (b : Nat), v15 = .int .i64 (b : Int) ∧ Aside0 (b + kq = a) ∧ Drawn0 w7 w')
          case atStart => exact ⟨0, rfl, ⟨by omega⟩, _, rfl⟩
          case round =>
            obtain ⟨b, rfl, HBk, ⟨m', rfl⟩⟩ := hrel
            by_cases hb : b < a
            · have b0 : decide ((b : Int) < (a : Int)) = true := decide_eq_true (by omega)
              have b1 : (0 ≤ (b : Int)) = True := eq_true (by omega)
              have b2 : ((b : Int) < (nn.length : Int)) = True := eq_true (by omega)
              obtain ⟨ad6, hA6, t0⟩ := str_at K8.out.1 (Below.refl _ _) ha
              obtain ⟨ad', hA', t1⟩ := str_at K8.out.1 (Below.refl _ _) (show b < nn.length by omega)
              subst hA6
              obtain rfl := Option.some.inj hA'
              have hne : nn[a] ≠ nn[b] := fun h => (List.pairwise_iff_getElem.1 E1.out) b a (by omega) ha hb h.symm
              have e0 : ((nn[a]).toList == (nn[b]).toList) = false := beq_eq_false_iff_ne.mpr (fun h => hne (toList_inj h))
              clear hne
              generalize nn[a] = za at *
              generalize nn[b] = zb at *
              go_wp2
              go_region
              go_wp2
              go_roundg (gk - 1)
              case measure => have := HBk.out; omega
              case rel => exact ⟨b + 1, by simp, ⟨by have := HBk.out; omega⟩, _, rfl⟩
            · have b0 : decide ((b : Int) < (a : Int)) = false := decide_eq_false (by omega)
              go_wp2
              go_roundg go
              case rel => exact ⟨a + 1, by simp, ⟨by have := HA.out; have := HG.out; omega⟩, _, rfl⟩
              case measure => have := HA.out; have := HG.out; omega
        · have a0 : decide ((a : Int) < (nn.length : Int)) = false := decide_eq_false (by omega)
          by_cases h0 : l.length = 0
          · have z0 : ((l.length : Int) == 0) = true := by rw [h0]; rfl
            go_wp2
            go_quiet (fail)
            go_wp2
            go_ret
            exact ⟨rfl, B7.out.trans ((pw_below_drewN (pw_below_drewN (Below.refl _ _) m) _).mono (by have := B7.out.size; omega))⟩
          · have z0 : ((l.length : Int) == 0) = false := beq_eq_false_iff_ne.mpr (by omega)
            obtain ⟨hp, he⟩ := E3.out (by omega)
            have z1 : decide ((nn.length : Int) > 0) = true := decide_eq_true (by omega)
            have z2 : wrap64 ((l.length : Int) - 1) = ((l.length - 1 : Nat) : Int) := by have := HLen.out; unfold wrap64; omega
            have z3 : (0 ≤ ((l.length - 1 : Nat) : Int)) = True := eq_true (by omega)
            have z4 : (((l.length - 1 : Nat) : Int) < (l.length : Int)) = True := eq_true (by omega)
            have z5 : (0 < (nn.length : Int)) = True := eq_true (by omega)
            obtain ⟨ad6, hA6, t0⟩ := str_at K8.out.1 (Below.refl _ _) hp
            obtain ⟨ad7, hA7, t1⟩ := str_at HS.out B7.out (show l.length - 1 < l.length by omega)
            subst hA6
            have he' : nn[0] = l[l.length - 1] := by
              rw [List.getElem?_eq_getElem hp, List.getElem?_eq_getElem (by omega)] at he
              exact Option.some.inj he
            rw [he'] at t0
            clear he he'
            generalize l[l.length - 1] = z at *
            subst hA7
            rw [Addr.add, if_pos rfl] at t0
            go_wp2
            go_quiet (fail)
            go_wp2
            go_ret
            refine ⟨?_, B7.out.trans ((pw_below_drewN (pw_below_drewN (Below.refl _ _) m) _).mono (by have := B7.out.size; omega))⟩
            simp
set_option maxHeartbeats 1000000 in
set_option maxRecDepth 100000 in
/-- Nothing is asked of a long row. -/
theorem last_long (w : World) (room : Int) (A : Option Addr) (cp n : Nat) (h : 100 < n) : Calls Try.prog 4 #[.int .i64 room, .slice A n cp] w (Yes w) := by
  have d1 : decide ((n : Int) > 100) = true := decide_eq_true (by omega)
  clear h
  go_enter Try.func4, Try.ntmps4
  go_wp2_with (go_at_call 7; go_loud (refine (awake_calls _).mono ?_); rintro e w1 ⟨rfl, hb⟩; have B1 := Aside0.mk hb; clear hb)
  go_ret
  exact ⟨rfl, B1.out⟩
set_option maxHeartbeats 1000000 in
set_option maxRecDepth 100000 in
/-- There may not be so much room. -/
theorem last_no (w : World) (room : Int) (A : Option Addr) (cp n : Nat) (hn : n ≤ 100) (h : ¬ (1 ≤ room ∧ room ≤ 4096)) : Calls Try.prog 4 #[.int .i64 room, .slice A n cp] w (Yes w) := by
  have d1 : decide ((n : Int) > 100) = false := decide_eq_false (by omega)
  have e1 : decide (1 ≤ room ∧ room ≤ 4096) = false := decide_eq_false h
  have e2 : decide (room < 1) = true ∨ (decide (room < 1) = false ∧ decide (room > 4096) = true) := by
    by_cases h1 : room < 1
    · exact .inl (decide_eq_true h1)
    · exact .inr ⟨decide_eq_false h1, decide_eq_true (by omega)⟩
  clear h hn
  rcases e2 with e2 | ⟨e2, e2'⟩
  all_goals
    go_enter Try.func4, Try.ntmps4
    go_wp2_with (first
      | (go_at_call 7; go_loud (refine (awake_calls _).mono ?_); rintro e w1 ⟨rfl, hb⟩; have B1 := Aside0.mk hb; clear hb)
      | (go_at_call 8; go_loud (refine (mk_calls _ room).mono ?_); rintro e w2 ⟨hb, p2, rfl⟩; simp only [e1, cond_true, cond_false]; have B2 := Aside0.mk (B1.out.trans (hb.mono B1.out.size)); clear hb))
    go_ret
    exact ⟨by simp [*], B2.out⟩
theorem last_calls (w : World) (room : Int) (A : Option Addr) (cp : Nat) (l : List ByteArray) (hs : Kd.C Kd.string w A l.length l) (hcp : l.length ≤ cp) (hsz : ∀ x, x ∈ l → x.size ≤ maxLen) :
    Calls Try.prog 4 #[.int .i64 room, .slice A l.length cp] w (Yes w) := by
  by_cases h1 : l.length ≤ 100
  · by_cases h3 : 1 ≤ room ∧ room ≤ 4096
    · have hr : room = ((room.toNat - 1 + 1 : Nat) : Int) := by omega
      rw [hr]
      exact last_in w (room.toNat - 1) A cp l (by omega) h1 hs hcp (fun i h => hsz _ (List.getElem_mem h))
    · exact last_no w room A cp _ h1 h3
  · exact last_long w room A cp _ (by omega)
section
open Go.ChangeShapes Go.WideShapes
variable {H : Type} {enc : TypeId × Value → H}
/-- A row of names that reads. -/
theorem open_names {W : World} {base : Nat} {spare : Nat → Bool} {held : Bool} {a : Option Addr} {n c : Nat} {d : DataW H} {p : List MemPlace} (h : DataW.Trod enc Try.prog W base spare held 35 (.slice a n c) d p) :
    ∃ (A : Option Addr) (c' : Nat) (l : List ByteArray), Value.slice a n c = .slice A l.length c' ∧ l.length ≤ c' ∧ (Kd.C Kd.string W A l.length l ∧ ∀ x, x ∈ l → x.size ≤ maxLen) := by
  obtain ⟨fuel, hf⟩ := h
  rcases open_strings Try.underlying35 Try.underlying9 (by kernel_rfl) (show DataW.trod enc Try.prog W base spare held fuel 35 [.slice a n c] = some (d, p) by simpa [Value.cells] using hf) with ⟨hcs, _⟩ | ⟨x, len, cap, ss, hcs, _, hl, hm, hz, hx, hcell, hs⟩
  · simp at hcs
    obtain ⟨rfl, rfl, rfl⟩ := hcs
    exact ⟨none, 0, [], rfl, Nat.le_refl _, Kd.C_nil _ _, by simp⟩
  · simp at hcs
    obtain ⟨rfl, rfl, rfl⟩ := hcs
    have hl2 : n ≤ ss.length := by rw [hz]; split <;> omega
    have e1 : (ss.take n).length = n := by rw [List.length_take]; omega
    refine ⟨some x, c, ss.take n, by rw [e1], by rw [e1]; exact hl, ?_, fun q hq => hs q (List.mem_of_mem_take hq)⟩
    rw [e1]
    refine Kd.C_of_reads (d := ByteArray.empty) (h1 := fun _ => rfl) ⟨e1, by unfold maxLen at hm; omega, fun hp => ⟨x, rfl, fun j hj => ?_⟩⟩
    rw [hcell j (by omega)]
    simp [List.getD_eq_getElem?_getD, hj]
end
end Go.Proofs.Ytcfdldgekfacfaa.Lr
