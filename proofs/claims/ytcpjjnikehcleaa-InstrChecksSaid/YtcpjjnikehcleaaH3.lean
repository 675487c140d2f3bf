/- The heap's steps, walked: sink. -/
import Derived.Test.YtcpjjnikehcleaaH2
namespace Go.Proofs.Ytcpjjnikehcleaa.Hq
open Go.RowKit PChk Go.Proofs.YtcpjjnikehcleaaW.PrintWords Go.Proofs.YtcpjjnikehcleaaW.PrintLast Go.Proofs.YtcpjjnikehcleaaW.PrintMore
open Go.Maps (Keyed)
set_option linter.unusedVariables false
set_option linter.unusedSimpArgs false

def sinkS (s : HS) (x : Th) (i : Nat) : HS :=
  if h : 2 * i + 1 < s.l.length then
    if lt x (at_ s.l (low s.l (2 * i + 1))) then layS s i x
    else sinkS (layS s i (at_ s.l (low s.l (2 * i + 1)))) x (low s.l (2 * i + 1))
  else layS s i x
termination_by s.l.length - i
decreasing_by
  have h1 := low_ge s.l (2 * i + 1)
  have h2 := low_lt s.l (2 * i + 1) h
  simp only [layS, List.length_set]
  omega
theorem sinkS_l (s : HS) (x : Th) (i : Nat) : (sinkS s x i).l = sinkL s.l x i := by
  rw [sinkS, sinkL]
  by_cases h : 2 * i + 1 < s.l.length
  · rw [dif_pos h, dif_pos h]
    by_cases h2 : lt x (at_ s.l (low s.l (2 * i + 1)))
    · rw [if_pos h2, if_pos h2]; rfl
    · rw [if_neg h2, if_neg h2, sinkS_l]; rfl
  · rw [dif_neg h, dif_neg h]; rfl
termination_by s.l.length - i
decreasing_by
  have h1 := low_ge s.l (2 * i + 1)
  have h2 := low_lt s.l (2 * i + 1) h
  simp only [layS, List.length_set]
  omega
/-- Before each round of sink. -/
structure SInv (B : Nat) (w : World) (y : Lay) (s : HS) (x : Th) (i0 b i gk : Nat) (W : World) (s' : HS) : Prop where
  cat : HAt B W y s'
  eq : sinkS s x i0 = sinkS s' x i
  lt : i < s'.l.length
  len : s'.l.length = s.l.length
  sum : i + gk = s'.l.length
  size : Maps.size s'.D + gk < 900000
  nums : ∀ j, W64 (at_ s'.l j).num
  tidy : Maps.Tidy s'.D
  blk : W.heap[b]? = some (.cells #[.int .i64 x.key, .int .i64 x.num, .int .i64 x.v] 115 (0, 0))
  ch : Ch y.own w W
set_option maxHeartbeats 8000000 in
set_option maxRecDepth 100000 in
theorem sink_calls (B : Nat) (w : World) (y : Lay) (s : HS) (i : Nat) (h : HAt B w y s) (hi : i < s.l.length) (hl : s.l.length < 400000) (hD : Maps.size s.D + (s.l.length - i) < 900000) (hn : ∀ j, W64 (at_ s.l j).num) (ht : Maps.Tidy s.D) :
    Calls Try.prog 65 #[.pointer (some ⟨y.g, 0, none⟩), .int .i64 (i : Int)] w (Stay B y (sinkS s (at_ s.l i) i) (.tuple #[]) w) := by
  have hu94 := Try.underlying94
  have hu92 := Try.underlying92
  have hu115 := Try.underlying115
  obtain ⟨g, cap, hv, a0, a1, a2, fz, hgy, hgm, hgl⟩ := h.at_ hi
  have g1 := (blk_cell h.blk 1).trans rfl
  rw [hv] at g1
  have hblt := blk_lt h.blk
  have p1 : (0 ≤ (i : Int)) = True := eq_true (by omega)
  have p2 : ((i : Int) < (s.l.length : Int)) = True := eq_true (by omega)
  have H := Aside0.mk h
  have HI := Aside0.mk hi
  have HL := Aside0.mk hl
  have HD := Aside0.mk hD
  have HN := Aside0.mk hn
  have HT := Aside0.mk ht
  have hx := Aside0.mk (hn i)
  clear h hi hl hD hn ht
  generalize hxe : at_ s.l i = x at *
  have HXE := Aside0.mk hxe
  clear hxe
  go_enter Try.func65, Try.ntmps65
  go_wp2
  have hb2 := Aside0.mk (blk_new w (.cells #[.int .i64 x.key, .int .i64 x.num, .int .i64 x.v] 115))
  have C1 := Aside0.mk ((Ch.refl (fun _ => False) w).alloc (.cells #[.int .i64 x.key, .int .i64 x.num, .int .i64 x.v] 115))
  have H1 := Aside0.mk (H.out.same C1.out)
  have HB := Aside0.mk (show ∀ k, y.own k → k ≠ w.heap.size from fun k hk => by have := (H.out.lt hk).2; omega)
  clear g1 a0 a1 a2 fz hgy hgm hgl hblt p1 p2
  generalize hW1 : w.alloc (.cells #[.int .i64 x.key, .int .i64 x.num, .int .i64 x.v] 115) = W1 at *
  generalize hbb : w.heap.size = b at *
  go_loopg [1] (s.l.length - i) (fun kq v1 w' => ∃ (j : Nat) (s' : HS), v1 = .int .i64 (j : Int) ∧ Aside0 (SInv B w y s x i b j kq w' s'))
  case atStart =>
    exact ⟨i, s, rfl, ⟨⟨H1.out, rfl, HI.out, rfl, by have := HI.out; omega, HD.out, HN.out, HT.out, hb2.out, C1.out.mono (fun _ _ hk => hk.elim)⟩⟩⟩
  case round =>
    clear H1 hb2 C1 H hW1
    obtain ⟨j, s', rfl, HV⟩ := hrel
    obtain ⟨n, hn⟩ : ∃ n, s'.l.length = n := ⟨_, rfl⟩
    obtain ⟨m, hm⟩ : ∃ m, 2 * j = m := ⟨_, rfl⟩
    obtain ⟨k, hk⟩ : ∃ k, m + 1 = k := ⟨_, rfl⟩
    obtain ⟨k1, hk1⟩ : ∃ k1, k + 1 = k1 := ⟨_, rfl⟩
    have hb : n < 400000 := by have := HV.out.len; have := HL.out; omega
    have hj : j < n := by have := HV.out.lt; omega
    have w1 : IntKind.i64.wrap (2 * (j : Int)) = m := by rw [IntKind.wrap_i64]; omega
    have w2 : IntKind.i64.wrap ((m : Int) + 1) = k := by rw [IntKind.wrap_i64]; omega
    have w3 : IntKind.i64.wrap ((k : Int) + 1) = k1 := by rw [IntKind.wrap_i64]; omega
    have x0 := (blk_cell HV.out.blk 0).trans rfl
    have x1 := (blk_cell HV.out.blk 1).trans rfl
    have x2 := (blk_cell HV.out.blk 2).trans rfl
    obtain ⟨g, cap, hv', -⟩ := HV.out.cat.at_ HV.out.lt
    rw [hn] at hv'
    have LL := Aside0.mk (show s'.l.length < 1000000 by omega)
    have LD := Aside0.mk (show Maps.size s'.D < 1000000 by have := HV.out.size; omega)
    have g1 := (HV.out.cat.atv hv' HV.out.lt).1
    by_cases c1 : k < n
    · have d1 : decide ((k : Int) ≥ (n : Int)) = false := decide_eq_false (by omega)
      have d2 : decide (n ≤ k) = false := decide_eq_false (by omega)
      have q1 : (0 ≤ (k : Int)) = True := eq_true (by omega)
      have q2 : ((k : Int) < (n : Int)) = True := eq_true (by omega)
      have q1' : (0 ≤ (k1 : Int)) = True := eq_true (by omega)
      have HK := Aside0.mk (show k < s'.l.length by omega)
      have HK' := Aside0.mk (show 2 * j + 1 = k by omega)
      have HK1 := Aside0.mk hk1
      have HJ := Aside0.mk hj
      have HNN := Aside0.mk hn
      have HV' := Aside0.mk hv'
      have HBN := Aside0.mk hb
      clear hk hk1 hm hn hv' hb hj
      obtain ⟨-, e0, e1, e2, fz⟩ := HV.out.cat.atv HV'.out HK.out
      generalize hte : at_ s'.l k = t at *
      have HTE := Aside0.mk hte
      clear hte
      by_cases c2 : k1 < n
      · have d3 : decide ((k1 : Int) < (n : Int)) = true := decide_eq_true (by omega)
        have d4 : decide (k1 < n) = true := decide_eq_true c2
        have q2' : ((k1 : Int) < (n : Int)) = True := eq_true (by omega)
        have HK2 := Aside0.mk (show k1 < s'.l.length by have := HNN.out; omega)
        obtain ⟨-, f0, f1, f2, -⟩ := HV.out.cat.atv HV'.out HK2.out
        generalize hue : at_ s'.l k1 = u at *
        have HUE := Aside0.mk hue
        clear hue
        by_cases hul : lt u t
        · have HLO := Aside0.mk (show low s'.l k = k1 from by unfold low; rw [if_pos ⟨by rw [HK1.out]; exact HK2.out, by rw [HK1.out, HUE.out, HTE.out]; exact hul⟩]; exact HK1.out)
          have HZE := Aside0.mk (show at_ s'.l k1 = u from HUE.out)
          have HZ := Aside0.mk (show k1 < s'.l.length from HK2.out)
          have HZJ := Aside0.mk (show j < k1 by have := HK'.out; have := HK1.out; omega)
          have TN := Aside0.mk (show W64 u.num by rw [← HZE.out]; exact HV.out.nums k1)
          go_wp2
          go_still_tail 24, (by kernel_rfl)
          go_wp2_with (go_at_call 66; go_loud (refine (ahead_calls u t _).mono ?_); rintro e w3 ⟨r3, rfl, hr3, c3⟩; replace hr3 : decide (r3 < 0) = true := hr3.trans (decide_eq_true hul); have C3 := Aside0.mk (((Ch.refl (fun _ => False) wr).drewN 1).trans c3 (fun _ _ hk => hk)); have H3 := Aside0.mk (HV.out.cat.same C3.out); obtain ⟨g3, h0, h1, h2, fz3⟩ := H3.out.atv HV'.out HZ.out; rw [HZE.out] at h0 h1 h2; have hb3 := C3.out.keep HV.out.blk (fun h => h); have z0 := (blk_cell hb3 0).trans rfl; have z1 := (blk_cell hb3 1).trans rfl; have z2 := (blk_cell hb3 2).trans rfl; clear c3 hb3)
          by_cases hlt : lt x u
          · have E0 := Aside0.mk (show sinkS s x i = layS s' j x from by rw [HV.out.eq, sinkS, HK'.out, dif_pos HK.out, HLO.out, HZE.out, if_pos hlt])
            go_still_tail 8, (by kernel_rfl)
            go_wp2_with (first
              | (go_at_call 66; go_loud (refine (ahead_calls x u _).mono ?_); rintro e w5 ⟨r, rfl, hr5, c5⟩; replace hr5 : decide (r < 0) = true := hr5.trans (decide_eq_true hlt); have C5 := Aside0.mk ((C3.out.drewN 1).trans c5 (fun _ _ hk => hk)); have H5 := Aside0.mk (HV.out.cat.same C5.out); have L5 := Aside0.mk (lay_calls B w5 y s' j x H5.out HV.out.lt hx.out LL.out LD.out); have hb5 := C5.out.keep HV.out.blk (fun h => h); have y0 := (blk_cell hb5 0).trans rfl; have y1 := (blk_cell hb5 1).trans rfl; have y2 := (blk_cell hb5 2).trans rfl; clear c5 hb5)
              | (go_at_call 64; go_loud (refine L5.out.mono ?_); rintro e w6 ⟨rfl, h6, c6⟩; have H6 := Aside0.mk h6; have C6 := Aside0.mk ((HV.out.ch.trans (C5.out.mono (T := y.own) (fun _ _ hk => hk.elim)) (fun _ _ hk => hk)).trans c6 (fun _ _ hk => hk)); have B6 := Aside0.mk (c6.keep (C5.out.keep HV.out.blk (fun h => h)) (fun hk => HB.out _ hk rfl)); clear h6 c6))
            go_end0
            refine ⟨rfl, ?_, C6.out⟩
            rw [E0.out]; exact H6.out
          · have E0 := Aside0.mk (show sinkS s x i = sinkS (layS s' j u) x k1 from by rw [HV.out.eq, sinkS, HK'.out, dif_pos HK.out, HLO.out, HZE.out, if_neg hlt])
            go_still_tail 8, (by kernel_rfl)
            go_wp2_with (first
              | (go_at_call 66; go_loud (refine (ahead_calls x u _).mono ?_); rintro e w5 ⟨r, rfl, hr5, c5⟩; replace hr5 : decide (r < 0) = false := hr5.trans (decide_eq_false hlt); have C5 := Aside0.mk ((C3.out.drewN 1).trans c5 (fun _ _ hk => hk)); have H5 := Aside0.mk (HV.out.cat.same C5.out); have L5 := Aside0.mk (lay_calls B w5 y s' j u H5.out HV.out.lt TN.out LL.out LD.out); obtain ⟨g5, i0, i1, i2, fz5⟩ := H5.out.atv HV'.out HZ.out; rw [HZE.out] at i0 i1 i2; clear c5)
              | (go_at_call 64; go_loud (refine L5.out.mono ?_); rintro e w6 ⟨rfl, h6, c6⟩; have H6 := Aside0.mk h6; have C6 := Aside0.mk ((HV.out.ch.trans (C5.out.mono (T := y.own) (fun _ _ hk => hk.elim)) (fun _ _ hk => hk)).trans c6 (fun _ _ hk => hk)); have B6 := Aside0.mk (c6.keep (C5.out.keep HV.out.blk (fun h => h)) (fun hk => HB.out _ hk rfl)); clear h6 c6))
            go_roundg (n - k1)
            case measure => have := HZ.out; have := HV.out.sum; have := HNN.out; have := HJ.out; have := HZJ.out; omega
            case rel => exact ⟨k1, _, rfl, ⟨⟨H6.out, E0.out, by simpa [layS] using HZ.out, by simpa [layS] using HV.out.len, by have := HZ.out; have := HNN.out; simp only [layS, List.length_set]; omega, by have := size_put' HV.out.tidy (ik u.num) (.lit (.int .i64 (j : Int))); have := HV.out.size; have := HV.out.sum; have := HZ.out; have := HZJ.out; have := HNN.out; simp only [layS]; omega,
                fun j' => by
                  show W64 (at_ (s'.l.set j u) j').num
                  rw [at_set HV.out.lt]; split; exact TN.out; exact HV.out.nums j', HV.out.tidy.put (ik_key _) _, B6.out, C6.out⟩⟩⟩
        · have HLO := Aside0.mk (show low s'.l k = k from by unfold low; rw [if_neg (fun h => hul (by have := h.2; rw [HK1.out, HUE.out, HTE.out] at this; exact this))])
          have HZE := Aside0.mk (show at_ s'.l k = t from HTE.out)
          have HZ := Aside0.mk (show k < s'.l.length from HK.out)
          have HZJ := Aside0.mk (show j < k by have := HK'.out; have := HK1.out; omega)
          have TN := Aside0.mk (show W64 t.num by rw [← HZE.out]; exact HV.out.nums k)
          go_wp2
          go_still_tail 24, (by kernel_rfl)
          go_wp2_with (go_at_call 66; go_loud (refine (ahead_calls u t _).mono ?_); rintro e w3 ⟨r3, rfl, hr3, c3⟩; replace hr3 : decide (r3 < 0) = false := hr3.trans (decide_eq_false hul); have C3 := Aside0.mk (((Ch.refl (fun _ => False) wr).drewN 1).trans c3 (fun _ _ hk => hk)); have H3 := Aside0.mk (HV.out.cat.same C3.out); obtain ⟨g3, h0, h1, h2, fz3⟩ := H3.out.atv HV'.out HZ.out; rw [HZE.out] at h0 h1 h2; have hb3 := C3.out.keep HV.out.blk (fun h => h); have z0 := (blk_cell hb3 0).trans rfl; have z1 := (blk_cell hb3 1).trans rfl; have z2 := (blk_cell hb3 2).trans rfl; clear c3 hb3)
          by_cases hlt : lt x t
          · have E0 := Aside0.mk (show sinkS s x i = layS s' j x from by rw [HV.out.eq, sinkS, HK'.out, dif_pos HK.out, HLO.out, HZE.out, if_pos hlt])
            go_still_tail 8, (by kernel_rfl)
            go_wp2_with (first
              | (go_at_call 66; go_loud (refine (ahead_calls x t _).mono ?_); rintro e w5 ⟨r, rfl, hr5, c5⟩; replace hr5 : decide (r < 0) = true := hr5.trans (decide_eq_true hlt); have C5 := Aside0.mk ((C3.out.drewN 1).trans c5 (fun _ _ hk => hk)); have H5 := Aside0.mk (HV.out.cat.same C5.out); have L5 := Aside0.mk (lay_calls B w5 y s' j x H5.out HV.out.lt hx.out LL.out LD.out); have hb5 := C5.out.keep HV.out.blk (fun h => h); have y0 := (blk_cell hb5 0).trans rfl; have y1 := (blk_cell hb5 1).trans rfl; have y2 := (blk_cell hb5 2).trans rfl; clear c5 hb5)
              | (go_at_call 64; go_loud (refine L5.out.mono ?_); rintro e w6 ⟨rfl, h6, c6⟩; have H6 := Aside0.mk h6; have C6 := Aside0.mk ((HV.out.ch.trans (C5.out.mono (T := y.own) (fun _ _ hk => hk.elim)) (fun _ _ hk => hk)).trans c6 (fun _ _ hk => hk)); have B6 := Aside0.mk (c6.keep (C5.out.keep HV.out.blk (fun h => h)) (fun hk => HB.out _ hk rfl)); clear h6 c6))
            go_end0
            refine ⟨rfl, ?_, C6.out⟩
            rw [E0.out]; exact H6.out
          · have E0 := Aside0.mk (show sinkS s x i = sinkS (layS s' j t) x k from by rw [HV.out.eq, sinkS, HK'.out, dif_pos HK.out, HLO.out, HZE.out, if_neg hlt])
            go_still_tail 8, (by kernel_rfl)
            go_wp2_with (first
              | (go_at_call 66; go_loud (refine (ahead_calls x t _).mono ?_); rintro e w5 ⟨r, rfl, hr5, c5⟩; replace hr5 : decide (r < 0) = false := hr5.trans (decide_eq_false hlt); have C5 := Aside0.mk ((C3.out.drewN 1).trans c5 (fun _ _ hk => hk)); have H5 := Aside0.mk (HV.out.cat.same C5.out); have L5 := Aside0.mk (lay_calls B w5 y s' j t H5.out HV.out.lt TN.out LL.out LD.out); obtain ⟨g5, i0, i1, i2, fz5⟩ := H5.out.atv HV'.out HZ.out; rw [HZE.out] at i0 i1 i2; clear c5)
              | (go_at_call 64; go_loud (refine L5.out.mono ?_); rintro e w6 ⟨rfl, h6, c6⟩; have H6 := Aside0.mk h6; have C6 := Aside0.mk ((HV.out.ch.trans (C5.out.mono (T := y.own) (fun _ _ hk => hk.elim)) (fun _ _ hk => hk)).trans c6 (fun _ _ hk => hk)); have B6 := Aside0.mk (c6.keep (C5.out.keep HV.out.blk (fun h => h)) (fun hk => HB.out _ hk rfl)); clear h6 c6))
            go_roundg (n - k)
            case measure => have := HZ.out; have := HV.out.sum; have := HNN.out; have := HJ.out; have := HZJ.out; omega
            case rel => exact ⟨k, _, rfl, ⟨⟨H6.out, E0.out, by simpa [layS] using HZ.out, by simpa [layS] using HV.out.len, by have := HZ.out; have := HNN.out; simp only [layS, List.length_set]; omega, by have := size_put' HV.out.tidy (ik t.num) (.lit (.int .i64 (j : Int))); have := HV.out.size; have := HV.out.sum; have := HZ.out; have := HZJ.out; have := HNN.out; simp only [layS]; omega,
                fun j' => by
                  show W64 (at_ (s'.l.set j t) j').num
                  rw [at_set HV.out.lt]; split; exact TN.out; exact HV.out.nums j', HV.out.tidy.put (ik_key _) _, B6.out, C6.out⟩⟩⟩
      · have d3 : decide ((k1 : Int) < (n : Int)) = false := decide_eq_false (by omega)
        have d4 : decide (k1 < n) = false := decide_eq_false c2
        have HLO := Aside0.mk (show low s'.l k = k from by unfold low; rw [if_neg (fun h => by have := h.1; have := HNN.out; have := HK1.out; omega)])
        have HZE := Aside0.mk (show at_ s'.l k = t from HTE.out)
        have HZ := Aside0.mk (show k < s'.l.length from HK.out)
        have HZJ := Aside0.mk (show j < k by have := HK'.out; omega)
        have TN := Aside0.mk (show W64 t.num by rw [← HZE.out]; exact HV.out.nums k)
        go_wp2
        go_quiet (fail)
        go_wp2
        have C3 := Aside0.mk ((Ch.refl (fun _ => False) wr).drewN nq)
        have H3 := Aside0.mk (HV.out.cat.same C3.out)
        obtain ⟨g3, h0, h1, h2, fz3⟩ := H3.out.atv HV'.out HZ.out
        rw [HZE.out] at h0 h1 h2
        have hb3 := C3.out.keep HV.out.blk (fun h => h)
        have z0 := (blk_cell hb3 0).trans rfl
        have z1 := (blk_cell hb3 1).trans rfl
        have z2 := (blk_cell hb3 2).trans rfl
        clear hb3
        generalize wr.drewN nq = w3 at *
        by_cases hlt : lt x t
        · have E0 := Aside0.mk (show sinkS s x i = layS s' j x from by rw [HV.out.eq, sinkS, HK'.out, dif_pos HK.out, HLO.out, HZE.out, if_pos hlt])
          go_still_tail 8, (by kernel_rfl)
          go_wp2_with (first
            | (go_at_call 66; go_loud (refine (ahead_calls x t _).mono ?_); rintro e w5 ⟨r, rfl, hr5, c5⟩; replace hr5 : decide (r < 0) = true := hr5.trans (decide_eq_true hlt); have C5 := Aside0.mk ((C3.out.drewN 1).trans c5 (fun _ _ hk => hk)); have H5 := Aside0.mk (HV.out.cat.same C5.out); have L5 := Aside0.mk (lay_calls B w5 y s' j x H5.out HV.out.lt hx.out LL.out LD.out); have hb5 := C5.out.keep HV.out.blk (fun h => h); have y0 := (blk_cell hb5 0).trans rfl; have y1 := (blk_cell hb5 1).trans rfl; have y2 := (blk_cell hb5 2).trans rfl; clear c5 hb5)
            | (go_at_call 64; go_loud (refine L5.out.mono ?_); rintro e w6 ⟨rfl, h6, c6⟩; have H6 := Aside0.mk h6; have C6 := Aside0.mk ((HV.out.ch.trans (C5.out.mono (T := y.own) (fun _ _ hk => hk.elim)) (fun _ _ hk => hk)).trans c6 (fun _ _ hk => hk)); have B6 := Aside0.mk (c6.keep (C5.out.keep HV.out.blk (fun h => h)) (fun hk => HB.out _ hk rfl)); clear h6 c6))
          go_end0
          refine ⟨rfl, ?_, C6.out⟩
          rw [E0.out]; exact H6.out
        · have E0 := Aside0.mk (show sinkS s x i = sinkS (layS s' j t) x k from by rw [HV.out.eq, sinkS, HK'.out, dif_pos HK.out, HLO.out, HZE.out, if_neg hlt])
          go_still_tail 8, (by kernel_rfl)
          go_wp2_with (first
            | (go_at_call 66; go_loud (refine (ahead_calls x t _).mono ?_); rintro e w5 ⟨r, rfl, hr5, c5⟩; replace hr5 : decide (r < 0) = false := hr5.trans (decide_eq_false hlt); have C5 := Aside0.mk ((C3.out.drewN 1).trans c5 (fun _ _ hk => hk)); have H5 := Aside0.mk (HV.out.cat.same C5.out); have L5 := Aside0.mk (lay_calls B w5 y s' j t H5.out HV.out.lt TN.out LL.out LD.out); obtain ⟨g5, i0, i1, i2, fz5⟩ := H5.out.atv HV'.out HZ.out; rw [HZE.out] at i0 i1 i2; clear c5)
            | (go_at_call 64; go_loud (refine L5.out.mono ?_); rintro e w6 ⟨rfl, h6, c6⟩; have H6 := Aside0.mk h6; have C6 := Aside0.mk ((HV.out.ch.trans (C5.out.mono (T := y.own) (fun _ _ hk => hk.elim)) (fun _ _ hk => hk)).trans c6 (fun _ _ hk => hk)); have B6 := Aside0.mk (c6.keep (C5.out.keep HV.out.blk (fun h => h)) (fun hk => HB.out _ hk rfl)); clear h6 c6))
          go_roundg (n - k)
          case measure => have := HZ.out; have := HV.out.sum; have := HNN.out; have := HJ.out; have := HZJ.out; omega
          case rel => exact ⟨k, _, rfl, ⟨⟨H6.out, E0.out, by simpa [layS] using HZ.out, by simpa [layS] using HV.out.len, by have := HZ.out; have := HNN.out; simp only [layS, List.length_set]; omega, by have := size_put' HV.out.tidy (ik t.num) (.lit (.int .i64 (j : Int))); have := HV.out.size; have := HV.out.sum; have := HZ.out; have := HZJ.out; have := HNN.out; simp only [layS]; omega,
              fun j' => by
                show W64 (at_ (s'.l.set j t) j').num
                rw [at_set HV.out.lt]; split; exact TN.out; exact HV.out.nums j', HV.out.tidy.put (ik_key _) _, B6.out, C6.out⟩⟩⟩
    · have d1 : decide ((k : Int) ≥ (n : Int)) = true := decide_eq_true (by omega)
      have d2 : decide (n ≤ k) = true := decide_eq_true (by omega)
      have E0 := Aside0.mk (show sinkS s x i = layS s' j x from by rw [HV.out.eq, sinkS, dif_neg (by omega)])
      have LC := Aside0.mk (lay_calls B wr y s' j x HV.out.cat HV.out.lt hx.out LL.out LD.out)
      go_wp2_with (go_at_call 64; go_loud (refine LC.out.mono ?_); rintro e w2 ⟨rfl, h2, c2⟩; have H2 := Aside0.mk h2; have C2 := Aside0.mk (HV.out.ch.trans c2 (fun _ _ hk => hk)); clear h2 c2)
      go_end0
      refine ⟨rfl, ?_, C2.out⟩
      rw [E0.out]; exact H2.out
end Go.Proofs.Ytcpjjnikehcleaa.Hq
