/- The heap's steps, walked: sink. -/
import Derived.Test.YtcpjjnikehcleaaHa
import Derived.Deep.AppendLies
/- The heap's steps, walked: sink. -/
namespace Go.Proofs.Ytcpjjnikehcleaa.Hq
open Go.RowKit PChk Go.Proofs.YtcpjjnikehcleaaW.PrintWords Go.Proofs.YtcpjjnikehcleaaW.PrintLast Go.Proofs.YtcpjjnikehcleaaW.PrintMore
open Go.Maps (Keyed)
set_option linter.unusedVariables false
set_option linter.unusedSimpArgs false

def sinkS (s : HS) (x : Th) (i : Nat) : HS :=
  if h : 2 * i + 1 < s.l.length then
    if lt x (at_ s.l (low s.l (2 * i + 1))) then layS s i x
    else sinkS (layS s i (at_ s.l (low s.l (2 * i + 1)))) x (low s.l (2 * i + 1))
  else layS s i x
termination_by s.l.length - i
decreasing_by
  have h1 := low_ge s.l (2 * i + 1)
  have h2 := low_lt s.l (2 * i + 1) h
  simp only [layS, List.length_set]
  omega
theorem sinkS_l (s : HS) (x : Th) (i : Nat) : (sinkS s x i).l = sinkL s.l x i := by
  rw [sinkS, sinkL]
  by_cases h : 2 * i + 1 < s.l.length
  · rw [dif_pos h, dif_pos h]
    by_cases h2 : lt x (at_ s.l (low s.l (2 * i + 1)))
    · rw [if_pos h2, if_pos h2]; rfl
    · rw [if_neg h2, if_neg h2, sinkS_l]; rfl
  · rw [dif_neg h, dif_neg h]; rfl
termination_by s.l.length - i
decreasing_by
  have h1 := low_ge s.l (2 * i + 1)
  have h2 := low_lt s.l (2 * i + 1) h
  simp only [layS, List.length_set]
  omega
/-- Before each round of sink. -/
structure SInv (B : Nat) (w : World) (y : Lay) (s : HS) (x : Th) (i0 b i gk : Nat) (W : World) (s' : HS) : Prop where
  cat : HAt B W y s'
  eq : sinkS s x i0 = sinkS s' x i
  lt : i < s'.l.length
  len : s'.l.length = s.l.length
  sum : i + gk = s'.l.length
  size : Maps.size s'.D + gk < 900000
  nums : ∀ j, W64 (at_ s'.l j).num
  tidy : Maps.Tidy s'.D
  blk : W.heap[b]? = some (.cells #[.int .i64 x.key, .int .i64 x.num, .int .i64 x.v] 115 (0, 0))
  ch : Ch y.own w W
set_option maxHeartbeats 8000000 in
set_option maxRecDepth 100000 in
theorem sink_calls (B : Nat) (w : World) (y : Lay) (s : HS) (i : Nat) (h : HAt B w y s) (hi : i < s.l.length) (hl : s.l.length < 400000) (hD : Maps.size s.D + (s.l.length - i) < 900000) (hn : ∀ j, W64 (at_ s.l j).num) (ht : Maps.Tidy s.D) :
    Calls Try.prog 65 #[.pointer (some ⟨y.g, 0, none⟩), .int .i64 (i : Int)] w (Stay B y (sinkS s (at_ s.l i) i) (.tuple #[]) w) := by
  have hu94 := Try.underlying94
  have hu92 := Try.underlying92
  have hu115 := Try.underlying115
  obtain ⟨g, cap, hv, a0, a1, a2, fz, hgy, hgm, hgl⟩ := h.at_ hi
  have g1 := (blk_cell h.blk 1).trans rfl
  rw [hv] at g1
  have hblt := blk_lt h.blk
  have p1 : (0 ≤ (i : Int)) = True := eq_true (by omega)
  have p2 : ((i : Int) < (s.l.length : Int)) = True := eq_true (by omega)
  have H := Aside0.mk h
  have HI := Aside0.mk hi
  have HL := Aside0.mk hl
  have HD := Aside0.mk hD
  have HN := Aside0.mk hn
  have HT := Aside0.mk ht
  have hx := Aside0.mk (hn i)
  clear h hi hl hD hn ht
  generalize hxe : at_ s.l i = x at *
  have HXE := Aside0.mk hxe
  clear hxe
  go_enter Try.func65, Try.ntmps65
  go_wp2
  have hb2 := Aside0.mk (blk_new w (.cells #[.int .i64 x.key, .int .i64 x.num, .int .i64 x.v] 115))
  have C1 := Aside0.mk ((Ch.refl (fun _ => False) w).alloc (.cells #[.int .i64 x.key, .int .i64 x.num, .int .i64 x.v] 115))
  have H1 := Aside0.mk (H.out.same C1.out)
  have HB := Aside0.mk (show ∀ k, y.own k → k ≠ w.heap.size from fun k hk => by have := (H.out.lt hk).2; omega)
  clear g1 a0 a1 a2 fz hgy hgm hgl hblt p1 p2
  generalize hW1 : w.alloc (.cells #[.int .i64 x.key, .int .i64 x.num, .int .i64 x.v] 115) = W1 at *
  generalize hbb : w.heap.size = b at *
  go_loopg [1] (s.l.length - i) (fun kq v1 w' => ∃ (j : Nat) (s' : HS), v1 = .int .i64 (j : Int) ∧ Aside0 (SInv B w y s x i b j kq w' s'))
  case atStart =>
    exact ⟨i, s, rfl, ⟨⟨H1.out, rfl, HI.out, rfl, by have := HI.out; omega, HD.out, HN.out, HT.out, hb2.out, C1.out.mono (fun _ _ hk => hk.elim)⟩⟩⟩
  case round =>
    clear H1 hb2 C1 H hW1
    obtain ⟨j, s', rfl, HV⟩ := hrel
    obtain ⟨n, hn⟩ : ∃ n, s'.l.length = n := ⟨_, rfl⟩
    obtain ⟨m, hm⟩ : ∃ m, 2 * j = m := ⟨_, rfl⟩
    obtain ⟨k, hk⟩ : ∃ k, m + 1 = k := ⟨_, rfl⟩
    obtain ⟨k1, hk1⟩ : ∃ k1, k + 1 = k1 := ⟨_, rfl⟩
    have hb : n < 400000 := by have := HV.out.len; have := HL.out; omega
    have hj : j < n := by have := HV.out.lt; omega
    have w1 : IntKind.i64.wrap (2 * (j : Int)) = m := by rw [IntKind.wrap_i64]; omega
    have w2 : IntKind.i64.wrap ((m : Int) + 1) = k := by rw [IntKind.wrap_i64]; omega
    have w3 : IntKind.i64.wrap ((k : Int) + 1) = k1 := by rw [IntKind.wrap_i64]; omega
    have x0 := (blk_cell HV.out.blk 0).trans rfl
    have x1 := (blk_cell HV.out.blk 1).trans rfl
    have x2 := (blk_cell HV.out.blk 2).trans rfl
    obtain ⟨g, cap, hv', -⟩ := HV.out.cat.at_ HV.out.lt
    rw [hn] at hv'
    have LL := Aside0.mk (show s'.l.length < 1000000 by omega)
    have LD := Aside0.mk (show Maps.size s'.D < 1000000 by have := HV.out.size; omega)
    have g1 := (HV.out.cat.atv hv' HV.out.lt).1
    by_cases c1 : k < n
    · have d1 : decide ((k : Int) ≥ (n : Int)) = false := decide_eq_false (by omega)
      have d2 : decide (n ≤ k) = false := decide_eq_false (by omega)
      have q1 : (0 ≤ (k : Int)) = True := eq_true (by omega)
      have q2 : ((k : Int) < (n : Int)) = True := eq_true (by omega)
      have q1' : (0 ≤ (k1 : Int)) = True := eq_true (by omega)
      have HK := Aside0.mk (show k < s'.l.length by omega)
      have HK' := Aside0.mk (show 2 * j + 1 = k by omega)
      have HK1 := Aside0.mk hk1
      have HJ := Aside0.mk hj
      have HNN := Aside0.mk hn
      have HV' := Aside0.mk hv'
      have HBN := Aside0.mk hb
      clear hk hk1 hm hn hv' hb hj
      obtain ⟨-, e0, e1, e2, fz⟩ := HV.out.cat.atv HV'.out HK.out
      generalize hte : at_ s'.l k = t at *
      have HTE := Aside0.mk hte
      clear hte
      by_cases c2 : k1 < n
      · have d3 : decide ((k1 : Int) < (n : Int)) = true := decide_eq_true (by omega)
        have d4 : decide (k1 < n) = true := decide_eq_true c2
        have q2' : ((k1 : Int) < (n : Int)) = True := eq_true (by omega)
        have HK2 := Aside0.mk (show k1 < s'.l.length by have := HNN.out; omega)
        obtain ⟨-, f0, f1, f2, -⟩ := HV.out.cat.atv HV'.out HK2.out
        generalize hue : at_ s'.l k1 = u at *
        have HUE := Aside0.mk hue
        clear hue
        by_cases hul : lt u t
        · have HLO := Aside0.mk (show low s'.l k = k1 from by unfold low; rw [if_pos ⟨by rw [HK1.out]; exact HK2.out, by rw [HK1.out, HUE.out, HTE.out]; exact hul⟩]; exact HK1.out)
          have HZE := Aside0.mk (show at_ s'.l k1 = u from HUE.out)
          have HZ := Aside0.mk (show k1 < s'.l.length from HK2.out)
          have HZJ := Aside0.mk (show j < k1 by have := HK'.out; have := HK1.out; omega)
          have TN := Aside0.mk (show W64 u.num by rw [← HZE.out]; exact HV.out.nums k1)
          go_wp2
          go_still_tail 24, (by kernel_rfl)
          go_wp2_with (go_at_call 66; go_loud (refine (ahead_calls u t _).mono ?_); rintro e w3 ⟨r3, rfl, hr3, c3⟩; replace hr3 : decide (r3 < 0) = true := hr3.trans (decide_eq_true hul); have C3 := Aside0.mk (((Ch.refl (fun _ => False) wr).drewN 1).trans c3 (fun _ _ hk => hk)); have H3 := Aside0.mk (HV.out.cat.same C3.out); obtain ⟨g3, h0, h1, h2, fz3⟩ := H3.out.atv HV'.out HZ.out; rw [HZE.out] at h0 h1 h2; have hb3 := C3.out.keep HV.out.blk (fun h => h); have z0 := (blk_cell hb3 0).trans rfl; have z1 := (blk_cell hb3 1).trans rfl; have z2 := (blk_cell hb3 2).trans rfl; clear c3 hb3)
          by_cases hlt : lt x u
          · have E0 := Aside0.mk (show sinkS s x i = layS s' j x from by rw [HV.out.eq, sinkS, HK'.out, dif_pos HK.out, HLO.out, HZE.out, if_pos hlt])
            go_still_tail 8, (by kernel_rfl)
            go_wp2_with (first
              | (go_at_call 66; go_loud (refine (ahead_calls x u _).mono ?_); rintro e w5 ⟨r, rfl, hr5, c5⟩; replace hr5 : decide (r < 0) = true := hr5.trans (decide_eq_true hlt); have C5 := Aside0.mk ((C3.out.drewN 1).trans c5 (fun _ _ hk => hk)); have H5 := Aside0.mk (HV.out.cat.same C5.out); have L5 := Aside0.mk (lay_calls B w5 y s' j x H5.out HV.out.lt hx.out LL.out LD.out); have hb5 := C5.out.keep HV.out.blk (fun h => h); have y0 := (blk_cell hb5 0).trans rfl; have y1 := (blk_cell hb5 1).trans rfl; have y2 := (blk_cell hb5 2).trans rfl; clear c5 hb5)
              | (go_at_call 64; go_loud (refine L5.out.mono ?_); rintro e w6 ⟨rfl, h6, c6⟩; have H6 := Aside0.mk h6; have C6 := Aside0.mk ((HV.out.ch.trans (C5.out.mono (T := y.own) (fun _ _ hk => hk.elim)) (fun _ _ hk => hk)).trans c6 (fun _ _ hk => hk)); have B6 := Aside0.mk (c6.keep (C5.out.keep HV.out.blk (fun h => h)) (fun hk => HB.out _ hk rfl)); clear h6 c6))
            go_end0
            refine ⟨rfl, ?_, C6.out⟩
            rw [E0.out]; exact H6.out
          · have E0 := Aside0.mk (show sinkS s x i = sinkS (layS s' j u) x k1 from by rw [HV.out.eq, sinkS, HK'.out, dif_pos HK.out, HLO.out, HZE.out, if_neg hlt])
            go_still_tail 8, (by kernel_rfl)
            go_wp2_with (first
              | (go_at_call 66; go_loud (refine (ahead_calls x u _).mono ?_); rintro e w5 ⟨r, rfl, hr5, c5⟩; replace hr5 : decide (r < 0) = false := hr5.trans (decide_eq_false hlt); have C5 := Aside0.mk ((C3.out.drewN 1).trans c5 (fun _ _ hk => hk)); have H5 := Aside0.mk (HV.out.cat.same C5.out); have L5 := Aside0.mk (lay_calls B w5 y s' j u H5.out HV.out.lt TN.out LL.out LD.out); obtain ⟨g5, i0, i1, i2, fz5⟩ := H5.out.atv HV'.out HZ.out; rw [HZE.out] at i0 i1 i2; clear c5)
              | (go_at_call 64; go_loud (refine L5.out.mono ?_); rintro e w6 ⟨rfl, h6, c6⟩; have H6 := Aside0.mk h6; have C6 := Aside0.mk ((HV.out.ch.trans (C5.out.mono (T := y.own) (fun _ _ hk => hk.elim)) (fun _ _ hk => hk)).trans c6 (fun _ _ hk => hk)); have B6 := Aside0.mk (c6.keep (C5.out.keep HV.out.blk (fun h => h)) (fun hk => HB.out _ hk rfl)); clear h6 c6))
            go_roundg (n - k1)
            case measure => have := HZ.out; have := HV.out.sum; have := HNN.out; have := HJ.out; have := HZJ.out; omega
            case rel => exact ⟨k1, _, rfl, ⟨⟨H6.out, E0.out, by simpa [layS] using HZ.out, by simpa [layS] using HV.out.len, by have := HZ.out; have := HNN.out; simp only [layS, List.length_set]; omega, by have := size_put' HV.out.tidy (ik u.num) (.lit (.int .i64 (j : Int))); have := HV.out.size; have := HV.out.sum; have := HZ.out; have := HZJ.out; have := HNN.out; simp only [layS]; omega,
                fun j' => by
                  show W64 (at_ (s'.l.set j u) j').num
                  rw [at_set HV.out.lt]; split; exact TN.out; exact HV.out.nums j', HV.out.tidy.put (ik_key _) _, B6.out, C6.out⟩⟩⟩
        · have HLO := Aside0.mk (show low s'.l k = k from by unfold low; rw [if_neg (fun h => hul (by have := h.2; rw [HK1.out, HUE.out, HTE.out] at this; exact this))])
          have HZE := Aside0.mk (show at_ s'.l k = t from HTE.out)
          have HZ := Aside0.mk (show k < s'.l.length from HK.out)
          have HZJ := Aside0.mk (show j < k by have := HK'.out; have := HK1.out; omega)
          have TN := Aside0.mk (show W64 t.num by rw [← HZE.out]; exact HV.out.nums k)
          go_wp2
          go_still_tail 24, (by kernel_rfl)
          go_wp2_with (go_at_call 66; go_loud (refine (ahead_calls u t _).mono ?_); rintro e w3 ⟨r3, rfl, hr3, c3⟩; replace hr3 : decide (r3 < 0) = false := hr3.trans (decide_eq_false hul); have C3 := Aside0.mk (((Ch.refl (fun _ => False) wr).drewN 1).trans c3 (fun _ _ hk => hk)); have H3 := Aside0.mk (HV.out.cat.same C3.out); obtain ⟨g3, h0, h1, h2, fz3⟩ := H3.out.atv HV'.out HZ.out; rw [HZE.out] at h0 h1 h2; have hb3 := C3.out.keep HV.out.blk (fun h => h); have z0 := (blk_cell hb3 0).trans rfl; have z1 := (blk_cell hb3 1).trans rfl; have z2 := (blk_cell hb3 2).trans rfl; clear c3 hb3)
          by_cases hlt : lt x t
          · have E0 := Aside0.mk (show sinkS s x i = layS s' j x from by rw [HV.out.eq, sinkS, HK'.out, dif_pos HK.out, HLO.out, HZE.out, if_pos hlt])
            go_still_tail 8, (by kernel_rfl)
            go_wp2_with (first
              | (go_at_call 66; go_loud (refine (ahead_calls x t _).mono ?_); rintro e w5 ⟨r, rfl, hr5, c5⟩; replace hr5 : decide (r < 0) = true := hr5.trans (decide_eq_true hlt); have C5 := Aside0.mk ((C3.out.drewN 1).trans c5 (fun _ _ hk => hk)); have H5 := Aside0.mk (HV.out.cat.same C5.out); have L5 := Aside0.mk (lay_calls B w5 y s' j x H5.out HV.out.lt hx.out LL.out LD.out); have hb5 := C5.out.keep HV.out.blk (fun h => h); have y0 := (blk_cell hb5 0).trans rfl; have y1 := (blk_cell hb5 1).trans rfl; have y2 := (blk_cell hb5 2).trans rfl; clear c5 hb5)
              | (go_at_call 64; go_loud (refine L5.out.mono ?_); rintro e w6 ⟨rfl, h6, c6⟩; have H6 := Aside0.mk h6; have C6 := Aside0.mk ((HV.out.ch.trans (C5.out.mono (T := y.own) (fun _ _ hk => hk.elim)) (fun _ _ hk => hk)).trans c6 (fun _ _ hk => hk)); have B6 := Aside0.mk (c6.keep (C5.out.keep HV.out.blk (fun h => h)) (fun hk => HB.out _ hk rfl)); clear h6 c6))
            go_end0
            refine ⟨rfl, ?_, C6.out⟩
            rw [E0.out]; exact H6.out
          · have E0 := Aside0.mk (show sinkS s x i = sinkS (layS s' j t) x k from by rw [HV.out.eq, sinkS, HK'.out, dif_pos HK.out, HLO.out, HZE.out, if_neg hlt])
            go_still_tail 8, (by kernel_rfl)
            go_wp2_with (first
              | (go_at_call 66; go_loud (refine (ahead_calls x t _).mono ?_); rintro e w5 ⟨r, rfl, hr5, c5⟩; replace hr5 : decide (r < 0) = false := hr5.trans (decide_eq_false hlt); have C5 := Aside0.mk ((C3.out.drewN 1).trans c5 (fun _ _ hk => hk)); have H5 := Aside0.mk (HV.out.cat.same C5.out); have L5 := Aside0.mk (lay_calls B w5 y s' j t H5.out HV.out.lt TN.out LL.out LD.out); obtain ⟨g5, i0, i1, i2, fz5⟩ := H5.out.atv HV'.out HZ.out; rw [HZE.out] at i0 i1 i2; clear c5)
              | (go_at_call 64; go_loud (refine L5.out.mono ?_); rintro e w6 ⟨rfl, h6, c6⟩; have H6 := Aside0.mk h6; have C6 := Aside0.mk ((HV.out.ch.trans (C5.out.mono (T := y.own) (fun _ _ hk => hk.elim)) (fun _ _ hk => hk)).trans c6 (fun _ _ hk => hk)); have B6 := Aside0.mk (c6.keep (C5.out.keep HV.out.blk (fun h => h)) (fun hk => HB.out _ hk rfl)); clear h6 c6))
            go_roundg (n - k)
            case measure => have := HZ.out; have := HV.out.sum; have := HNN.out; have := HJ.out; have := HZJ.out; omega
            case rel => exact ⟨k, _, rfl, ⟨⟨H6.out, E0.out, by simpa [layS] using HZ.out, by simpa [layS] using HV.out.len, by have := HZ.out; have := HNN.out; simp only [layS, List.length_set]; omega, by have := size_put' HV.out.tidy (ik t.num) (.lit (.int .i64 (j : Int))); have := HV.out.size; have := HV.out.sum; have := HZ.out; have := HZJ.out; have := HNN.out; simp only [layS]; omega,
                fun j' => by
                  show W64 (at_ (s'.l.set j t) j').num
                  rw [at_set HV.out.lt]; split; exact TN.out; exact HV.out.nums j', HV.out.tidy.put (ik_key _) _, B6.out, C6.out⟩⟩⟩
      · have d3 : decide ((k1 : Int) < (n : Int)) = false := decide_eq_false (by omega)
        have d4 : decide (k1 < n) = false := decide_eq_false c2
        have HLO := Aside0.mk (show low s'.l k = k from by unfold low; rw [if_neg (fun h => by have := h.1; have := HNN.out; have := HK1.out; omega)])
        have HZE := Aside0.mk (show at_ s'.l k = t from HTE.out)
        have HZ := Aside0.mk (show k < s'.l.length from HK.out)
        have HZJ := Aside0.mk (show j < k by have := HK'.out; omega)
        have TN := Aside0.mk (show W64 t.num by rw [← HZE.out]; exact HV.out.nums k)
        go_wp2
        go_quiet (fail)
        go_wp2
        have C3 := Aside0.mk ((Ch.refl (fun _ => False) wr).drewN nq)
        have H3 := Aside0.mk (HV.out.cat.same C3.out)
        obtain ⟨g3, h0, h1, h2, fz3⟩ := H3.out.atv HV'.out HZ.out
        rw [HZE.out] at h0 h1 h2
        have hb3 := C3.out.keep HV.out.blk (fun h => h)
        have z0 := (blk_cell hb3 0).trans rfl
        have z1 := (blk_cell hb3 1).trans rfl
        have z2 := (blk_cell hb3 2).trans rfl
        clear hb3
        generalize wr.drewN nq = w3 at *
        by_cases hlt : lt x t
        · have E0 := Aside0.mk (show sinkS s x i = layS s' j x from by rw [HV.out.eq, sinkS, HK'.out, dif_pos HK.out, HLO.out, HZE.out, if_pos hlt])
          go_still_tail 8, (by kernel_rfl)
          go_wp2_with (first
            | (go_at_call 66; go_loud (refine (ahead_calls x t _).mono ?_); rintro e w5 ⟨r, rfl, hr5, c5⟩; replace hr5 : decide (r < 0) = true := hr5.trans (decide_eq_true hlt); have C5 := Aside0.mk ((C3.out.drewN 1).trans c5 (fun _ _ hk => hk)); have H5 := Aside0.mk (HV.out.cat.same C5.out); have L5 := Aside0.mk (lay_calls B w5 y s' j x H5.out HV.out.lt hx.out LL.out LD.out); have hb5 := C5.out.keep HV.out.blk (fun h => h); have y0 := (blk_cell hb5 0).trans rfl; have y1 := (blk_cell hb5 1).trans rfl; have y2 := (blk_cell hb5 2).trans rfl; clear c5 hb5)
            | (go_at_call 64; go_loud (refine L5.out.mono ?_); rintro e w6 ⟨rfl, h6, c6⟩; have H6 := Aside0.mk h6; have C6 := Aside0.mk ((HV.out.ch.trans (C5.out.mono (T := y.own) (fun _ _ hk => hk.elim)) (fun _ _ hk => hk)).trans c6 (fun _ _ hk => hk)); have B6 := Aside0.mk (c6.keep (C5.out.keep HV.out.blk (fun h => h)) (fun hk => HB.out _ hk rfl)); clear h6 c6))
          go_end0
          refine ⟨rfl, ?_, C6.out⟩
          rw [E0.out]; exact H6.out
        · have E0 := Aside0.mk (show sinkS s x i = sinkS (layS s' j t) x k from by rw [HV.out.eq, sinkS, HK'.out, dif_pos HK.out, HLO.out, HZE.out, if_neg hlt])
          go_still_tail 8, (by kernel_rfl)
          go_wp2_with (first
            | (go_at_call 66; go_loud (refine (ahead_calls x t _).mono ?_); rintro e w5 ⟨r, rfl, hr5, c5⟩; replace hr5 : decide (r < 0) = false := hr5.trans (decide_eq_false hlt); have C5 := Aside0.mk ((C3.out.drewN 1).trans c5 (fun _ _ hk => hk)); have H5 := Aside0.mk (HV.out.cat.same C5.out); have L5 := Aside0.mk (lay_calls B w5 y s' j t H5.out HV.out.lt TN.out LL.out LD.out); obtain ⟨g5, i0, i1, i2, fz5⟩ := H5.out.atv HV'.out HZ.out; rw [HZE.out] at i0 i1 i2; clear c5)
            | (go_at_call 64; go_loud (refine L5.out.mono ?_); rintro e w6 ⟨rfl, h6, c6⟩; have H6 := Aside0.mk h6; have C6 := Aside0.mk ((HV.out.ch.trans (C5.out.mono (T := y.own) (fun _ _ hk => hk.elim)) (fun _ _ hk => hk)).trans c6 (fun _ _ hk => hk)); have B6 := Aside0.mk (c6.keep (C5.out.keep HV.out.blk (fun h => h)) (fun hk => HB.out _ hk rfl)); clear h6 c6))
          go_roundg (n - k)
          case measure => have := HZ.out; have := HV.out.sum; have := HNN.out; have := HJ.out; have := HZJ.out; omega
          case rel => exact ⟨k, _, rfl, ⟨⟨H6.out, E0.out, by simpa [layS] using HZ.out, by simpa [layS] using HV.out.len, by have := HZ.out; have := HNN.out; simp only [layS, List.length_set]; omega, by have := size_put' HV.out.tidy (ik t.num) (.lit (.int .i64 (j : Int))); have := HV.out.size; have := HV.out.sum; have := HZ.out; have := HZJ.out; have := HNN.out; simp only [layS]; omega,
              fun j' => by
                show W64 (at_ (s'.l.set j t) j').num
                rw [at_set HV.out.lt]; split; exact TN.out; exact HV.out.nums j', HV.out.tidy.put (ik_key _) _, B6.out, C6.out⟩⟩⟩
    · have d1 : decide ((k : Int) ≥ (n : Int)) = true := decide_eq_true (by omega)
      have d2 : decide (n ≤ k) = true := decide_eq_true (by omega)
      have E0 := Aside0.mk (show sinkS s x i = layS s' j x from by rw [HV.out.eq, sinkS, dif_neg (by omega)])
      have LC := Aside0.mk (lay_calls B wr y s' j x HV.out.cat HV.out.lt hx.out LL.out LD.out)
      go_wp2_with (go_at_call 64; go_loud (refine LC.out.mono ?_); rintro e w2 ⟨rfl, h2, c2⟩; have H2 := Aside0.mk h2; have C2 := Aside0.mk (HV.out.ch.trans c2 (fun _ _ hk => hk)); clear h2 c2)
      go_end0
      refine ⟨rfl, ?_, C2.out⟩
      rw [E0.out]; exact H2.out
end Go.Proofs.Ytcpjjnikehcleaa.Hq
/- The heap's steps, walked: Len, Peek, New, Push. -/
namespace Go.Proofs.Ytcpjjnikehcleaa.Hq
open Go.RowKit PChk Go.Proofs.YtcpjjnikehcleaaW.PrintWords Go.Proofs.YtcpjjnikehcleaaW.PrintLast Go.Proofs.YtcpjjnikehcleaaW.PrintMore
open Go.Maps (Keyed)
set_option linter.unusedVariables false
set_option linter.unusedSimpArgs false

theorem results_tmp4 {fn : Func} {t u v x : Tmp} (h : fn.results = #[.tmp t, .tmp u, .tmp v, .tmp x]) (tmps : Array Value) (P : Program) (w : World) :
    (results fn tmps).run P w = .ok (.tuple #[tmps.getD t undef, tmps.getD u undef, tmps.getD v undef, tmps.getD x undef]) w := by
  simp [results, h]
theorem row_shape {W : World} {B e size n : Nat} {v : Value} {xs : List Value} (h : W.ownsRow B e size v n xs) : ∃ A c, v = .slice A n c := by
  rcases h.2 with ⟨e1, h0⟩ | ⟨g, cap, cur, e1, _⟩
  · exact ⟨_, _, by rw [h0]; exact e1⟩
  · exact ⟨_, _, e1⟩
theorem len_calls (B : Nat) (w : World) (y : Lay) (s : HS) (h : HAt B w y s) :
    Calls Try.prog 63 #[.pointer (some ⟨y.g, 0, none⟩)] w (Same (.int .i64 (s.l.length : Int)) w) := by
  have hu94 := Try.underlying94
  have hu92 := Try.underlying92
  obtain ⟨A, c, hv⟩ := row_shape h.row
  have g1 := (blk_cell h.blk 1).trans rfl
  rw [hv] at g1
  go_enter Try.func63, Try.ntmps63
  go_wp2
  go_ret
  exact ⟨rfl, Ch.refl _ _⟩
/-- What a first thing is told as. -/
def peekV : List Th → Value
  | [] => .tuple #[.int .i64 0, .int .i64 0, .int .i64 0, .bool false]
  | x :: _ => .tuple #[.int .i64 x.key, .int .i64 x.v, .int .i64 x.num, .bool true]
set_option maxHeartbeats 2000000 in
set_option maxRecDepth 100000 in
theorem peek_calls (B : Nat) (w : World) (y : Lay) (s : HS) (h : HAt B w y s) :
    Calls Try.prog 58 #[.pointer (some ⟨y.g, 0, none⟩)] w (Same (peekV s.l) w) := by
  have hu94 := Try.underlying94
  have hu92 := Try.underlying92
  have hu115 := Try.underlying115
  cases hl : s.l with
  | nil =>
    have LC := len_calls B w y s h
    rw [hl] at LC
    have LC := Aside0.mk LC
    go_enter Try.func58, Try.ntmps58
    go_wp2_with (go_at_call 63; go_loud (refine LC.out.mono ?_); rintro e w1 ⟨rfl, hc⟩; have C1 := Aside0.mk hc; clear hc)
    (refine bodyPost_ret (results_tmp4 rfl _ _ _) rfl ?_; try simp only [List.getD_eq_getElem?_getD, Array.getD_eq_getD_getElem?, List.getElem?_toArray, List.getElem?_cons_succ, List.getElem?_cons_zero, Option.getD_some])
    exact ⟨rfl, C1.out⟩
  | cons x l =>
    have LC := len_calls B w y s h
    obtain ⟨n, hn⟩ : ∃ n, s.l.length = n := ⟨_, rfl⟩
    have hn0 : 0 < n := by rw [← hn, hl]; simp
    rw [hn] at LC
    have LC := Aside0.mk LC
    have d1 : ((n : Int) == 0) = false := beq_eq_false_iff_ne.mpr (by omega)
    have d2 : decide (n = 0) = false := decide_eq_false (by omega)
    have q1 : (0 < n) = True := eq_true hn0
    have q2 : ((0:Int) < (n : Int)) = True := eq_true (by omega)
    obtain ⟨g, cap, hv, -⟩ := h.at_ (i := 0) (by omega)
    rw [hn] at hv
    have H := Aside0.mk h
    have HV := Aside0.mk hv
    have HL := Aside0.mk hl
    have HN := Aside0.mk hn
    clear h hv hl hn
    go_enter Try.func58, Try.ntmps58
    go_wp2_with (go_at_call 63; go_loud (refine LC.out.mono ?_); rintro e w1 ⟨rfl, hc⟩; have C1 := Aside0.mk hc; clear hc; obtain ⟨g1, a0, a1, a2, fz⟩ := (H.out.same C1.out).atv HV.out (i := 0) (by have := HN.out; omega); rw [show at_ s.l 0 = x from by rw [HL.out]; rfl] at a0 a1 a2; rw [Nat.zero_mul] at a0 a1 a2)
    go_region
    go_wp2
    (refine bodyPost_ret (results_tmp4 rfl _ _ _) rfl ?_; try simp only [List.getD_eq_getElem?_getD, Array.getD_eq_getD_getElem?, List.getElem?_toArray, List.getElem?_cons_succ, List.getElem?_cons_zero, Option.getD_some])
    exact ⟨rfl, (C1.out.alloc _).drew⟩
theorem info115 : (Try.prog.info? 115).map (fun i => (i.zero, i.size, i.bytes)) = some (some (.agg #[.int .i64 0, .int .i64 0, .int .i64 0]), 3, 24) := by kernel_rfl
theorem HAt.nexted {B : Nat} {W : World} {y : Lay} {s : HS} (h : HAt B W y s) (n : Int) : HAt B (W.setCell ⟨y.g, 3, none⟩ (.int .i64 n)) y { s with next := n } ∧ Ch (fun k => k = y.g) W (W.setCell ⟨y.g, 3, none⟩ (.int .i64 n)) := by
  have ha := h.apart
  have hs : Ch (fun k => k = y.g) W (W.setCell ⟨y.g, 3, none⟩ (.int .i64 n)) := (Ch.refl (fun k => k = y.g) W).set (.inl rfl) _
  exact ⟨⟨blk_put h.blk 3 _ rfl, ownsMap_ch h.map hs (fun e => ha.1 e.symm), ownsRow_ch h.row hs (fun k hk => (ha.2 k hk).1), h.bg, h.bm⟩, hs⟩
/-- The things lie elsewhere, maybe, and others are there. -/
theorem HAt.grew {B : Nat} {W V : World} {y : Lay} {s : HS} (h : HAt B W y s) {g cap n : Nat} {l : List Th} (hg : W.grownBy V y.v.ownBlock) (hown : V.ownsRow B 115 3 (.slice (some ⟨g, 0, none⟩) n cap) n (flat l)) (hat : y.v.ownBlock = some g ∨ g = W.heap.size) :
    (∃ c, V.cell? ⟨y.g, 1, none⟩ = some c) ∧ V.frozen? ⟨y.g, 1, none⟩ = false ∧ n = l.length ∧
    HAt B (V.setCell ⟨y.g, 1, none⟩ (.slice (some ⟨g, 0, none⟩) n cap)) { y with v := .slice (some ⟨g, 0, none⟩) n cap } { s with l := l } ∧ Ch y.own W (V.setCell ⟨y.g, 1, none⟩ (.slice (some ⟨g, 0, none⟩) n cap)) ∧ (∀ k, Lay.own { y with v := .slice (some ⟨g, 0, none⟩) n cap } k → y.own k ∨ W.heap.size ≤ k) := by
  have ha := h.apart
  have hn : n = l.length := by have := hown.1; rw [flat_length] at this; omega
  have hc : Ch (fun k => y.v.ownBlock = some k) W V := (Ch.refl _ W).grown hg (fun k hk => .inl hk)
  have hb : V.heap[y.g]? = some (.cells #[.bool true, y.v, .map (some y.gm), .int .i64 s.next] 94 (0, 0)) := hc.keep h.blk (fun e => (ha.2 _ e).1 rfl)
  have hs : Ch (fun k => k = y.g) V (V.setCell ⟨y.g, 1, none⟩ (.slice (some ⟨g, 0, none⟩) n cap)) := (Ch.refl (fun k => k = y.g) V).set (.inl rfl) _
  have hgg : y.g ≠ g := by
    rcases hown.2 with ⟨e1, _⟩ | ⟨g', cap', cur, e1, hb2, h2, h3, h4, h5, h6⟩
    · cases e1
    · simp only [Value.slice.injEq, Option.some.injEq, Addr.mk.injEq] at e1
      obtain ⟨⟨rfl, -⟩, -⟩ := e1
      exact fun e => blk_ne h2 hb (by decide) e.symm
  refine ⟨⟨_, blk_cell hb 1⟩, blk_frozen hb 1, hn, ⟨blk_put hb 1 _ rfl, ownsMap_ch (ownsMap_ch h.map hc (fun e => (ha.2 _ e).2 rfl)) hs (fun e => ha.1 e.symm), ?_, h.bg, h.bm⟩, (hc.mono (T := y.own) (fun k _ hk => .inr (.inr hk))).trans (hs.mono (T := y.own) (fun k _ hk => .inl hk)) (fun _ _ hk => hk), ?_⟩
  · show World.ownsRow _ B 115 3 _ l.length (flat l)
    rw [← hn]
    exact ownsRow_ch hown hs (fun k hk => by simp only [Value.ownBlock, Option.some.injEq] at hk; omega)
  · rintro k (hk | hk | hk)
    · exact .inl (.inl hk)
    · exact .inl (.inr (.inl hk))
    · simp only [Value.ownBlock, Option.some.injEq] at hk
      subst hk
      exact hat.imp (fun e => .inr (.inr e)) (fun e => by omega)
theorem HAt.appended {B : Nat} {W W1 V : World} {y : Lay} {s : HS} (h : HAt B W y s) (hc : Ch (fun _ => False) W W1) {v' : Value} (hv : y.v = v') {x : Th} {g cap : Nat}
    (hown : V.ownsRow B 115 3 (.slice (some ⟨g, 0, none⟩) (s.l.length + 1) cap) (s.l.length + 1) (flat s.l ++ x.cells)) (hg : W1.grownBy V v'.ownBlock) (hat : v'.ownBlock = some g ∨ g = W1.heap.size) :
    (∃ c, V.cell? ⟨y.g, 1, none⟩ = some c) ∧ V.frozen? ⟨y.g, 1, none⟩ = false ∧
    HAt B (V.setCell ⟨y.g, 1, none⟩ (.slice (some ⟨g, 0, none⟩) (s.l.length + 1) cap)) { y with v := .slice (some ⟨g, 0, none⟩) (s.l.length + 1) cap } { s with l := s.l ++ [x] } ∧ Ch y.own W (V.setCell ⟨y.g, 1, none⟩ (.slice (some ⟨g, 0, none⟩) (s.l.length + 1) cap)) ∧ (∀ k, Lay.own { y with v := .slice (some ⟨g, 0, none⟩) (s.l.length + 1) cap } k → y.own k ∨ W.heap.size ≤ k) := by
  subst hv
  obtain ⟨a1, a2, -, a4, a5, a6⟩ := (h.same hc).grew (l := s.l ++ [x]) hg (by rw [flat_append]; simpa [flat] using hown) hat
  exact ⟨a1, a2, a4, (hc.mono (fun _ _ hk => hk.elim)).trans a5 (fun _ _ hk => hk), fun k hk => (a6 k hk).imp id (fun h => Nat.le_trans hc.size h)⟩
/-- Behind a call the heap has other contents, maybe elsewhere. -/
def Next (B : Nat) (y : Lay) (s' : HS) (v : Value) (w : World) (e : Ending) (w' : World) : Prop :=
  e = .returned v ∧ ∃ y', HAt B w' y' s' ∧ y'.g = y.g ∧ (∀ k, y'.own k → y.own k ∨ w.heap.size ≤ k) ∧ Ch y.own w w'
def newS : HS := ⟨[], 0, .map []⟩
theorem make_map (w : World) : (Instr.makeMap 91 none).run Try.prog w = .ok (.map (some w.heap.size)) (w.alloc (.map #[] 0)) := by kernel_rfl
theorem born (w : World) (B : Nat) (hB : B ≤ w.heap.size) :
    HAt B ((w.alloc (.map #[] 0)).alloc (.cells #[.bool true, .slice none 0 0, .map (some w.heap.size), .int .i64 0] 94)) ⟨w.heap.size + 1, w.heap.size, .slice none 0 0⟩ newS := by
  have hm : (w.alloc (.map #[] 0)).ownsMap Try.prog 3 (plainElem (H := Nat) Try.prog 3) w.heap.size 0 (.map []) := World.ownsMap_made w Try.prog 3 _
  have hb := blk_new (w.alloc (.map #[] 0)) (.cells #[.bool true, .slice none 0 0, .map (some w.heap.size), .int .i64 0] 94)
  rw [World.size_alloc] at hb
  exact ⟨hb, hm.alloc _, World.ownsRow_nil _ _ _ _, by simp; omega, by simpa using hB⟩
theorem new_calls (w : World) : Calls Try.prog 30 #[] w fun e w' => ∃ y, e = .returned (.pointer (some ⟨y.g, 0, none⟩)) ∧ HAt w.heap.size w' y newS ∧ Ch (fun _ => False) w w' := by
  have hu94 := Try.underlying94
  have hu92 := Try.underlying92
  have hu91 := Try.underlying91
  have hmm := make_map
  go_enter Try.func30, Try.ntmps30
  go_wp2
  go_ret
  exact ⟨_, rfl, born w _ (Nat.le_refl _), ((Ch.refl _ w).alloc _).alloc _⟩
theorem cells_new_at {W : World} {xs : List Value} {t n : Nat} (hn : W.heap.size = n) : ∀ j u, xs[j]? = some u → (W.alloc (.cells xs.toArray t)).cell? ((⟨n, 0, none⟩ : Addr).add j) = some u := by
  subst hn
  exact World.news_of_block (blk_new W _)
def pushX (s : HS) (key v : Int) : Th := ⟨key, s.next, v⟩
def pushS (s : HS) (key v : Int) : HS := riseS { s with l := s.l ++ [pushX s key v], next := s.next + 1 } (pushX s key v) s.l.length
set_option maxHeartbeats 2000000 in
set_option maxRecDepth 100000 in
theorem push_calls (B : Nat) (w : World) (y : Lay) (s : HS) (key v : Int) (h : HAt B w y s) (hB : B ≤ w.heap.size) (hl : s.l.length < 400000) (hD : Maps.size s.D < 400000) (hn : ∀ j, W64 (at_ s.l j).num) (ht : Maps.Tidy s.D) (hx : 0 ≤ s.next ∧ s.next < 1000000) :
    Calls Try.prog 57 #[.pointer (some ⟨y.g, 0, none⟩), .int .i64 key, .int .i64 v] w (Next B y (pushS s key v) (.int .i64 s.next) w) := by
  have hu94 := Try.underlying94
  have hu92 := Try.underlying92
  have hu115 := Try.underlying115
  obtain ⟨ti, ht0, ht1, ht2, ht3⟩ := info_parts info115
  have g0 := (blk_cell h.blk 0).trans rfl
  have g3 := (blk_cell h.blk 3).trans rfl
  have f3 := blk_frozen h.blk 3
  have w1 : IntKind.i64.wrap (s.next + 1) = s.next + 1 := by rw [IntKind.wrap_i64]; omega
  have w2 : wrap64 (s.l.length : Int) = s.l.length := (by unfold wrap64; omega)
  have HA := Aside0.mk (show at_ (s.l ++ [pushX s key v]) s.l.length = pushX s key v by simp [at_])
  have HNP := Aside0.mk (show ∀ j, W64 (at_ (s.l ++ [pushX s key v]) j).num from fun j => by
    by_cases hj : j < s.l.length
    · have := hn j; simpa [at_, List.getElem?_append_left hj] using this
    · by_cases hj2 : j = s.l.length
      · subst hj2; rw [HA.out]; simp [pushX, W64, Lit.wf, IntKind.min, IntKind.max, IntKind.bits, IntKind.signed]; omega
      · have e : at_ (s.l ++ [pushX s key v]) j = zt := by simp [at_]; rw [List.getElem?_append_right (by omega), List.getElem?_eq_none (by simp; omega)]; rfl
        rw [e]; exact w64_nat (n := 0) (by omega))
  have H1 := Aside0.mk (h.nexted (s.next + 1))
  obtain ⟨A, c, hv⟩ := row_shape h.row
  have g1 := (blk_cell H1.out.1.blk 1).trans rfl
  rw [hv] at g1
  have g0' := (blk_cell H1.out.1.blk 0).trans rfl
  have HV := Aside0.mk hv
  have HB := Aside0.mk hB
  have HL := Aside0.mk hl
  have HD := Aside0.mk hD
  have HN := Aside0.mk hn
  have HT := Aside0.mk ht
  have HX := Aside0.mk hx
  clear h hv hB hl hD hn ht hx
  go_enter Try.func57, Try.ntmps57
  go_wp2_with (first | (at_builtin; go_loud (refine wpList_append_lies _ rfl _ _ 92 rfl B 115 ti _ 3 24 Try.underlying92 ht0 ht1 ht2 ht3 rfl (by decide) _ s.l.length (flat s.l) rfl (by have := H1.out.1.row; rw [HV.out] at this; exact this.alloc _) ⟨_, 0, none⟩ 1 1 (pushX s key v).cells rfl rfl (cells_new_at (by simp [World.setCell])) (by simp [pushX, Th.cells, Value.oneCell']) (by decide) (by have := HL.out; unfold maxLen; omega) (by have := HL.out; omega) (Nat.le_trans HB.out (by simp [World.setCell])) _ rfl ?_; intro g cap w5 hown hgrow hat hlt; have G := Aside0.mk (H1.out.1.appended ((Ch.refl (fun _ => False) _).alloc (.cells (pushX s key v).cells.toArray 115)) HV.out hown hgrow hat); obtain ⟨c5, k5⟩ := G.out.1; have f5 := G.out.2.1; clear hown hgrow hat hlt)) | (go_at_call 62; go_loud (have RC := rise_calls B _ _ _ s.l.length G.out.2.2.1 (by simp) (by have := HL.out; simp; omega) (by have := HL.out; have := HD.out; show Maps.size s.D + _ < _; omega) HNP.out HT.out; refine RC.mono ?_; rintro e w6 ⟨rfl, h6, c6⟩; rw [HA.out] at h6; have H6 := Aside0.mk h6; have C6 := Aside0.mk c6; clear h6 c6 RC)))
  go_ret
  refine ⟨rfl, _, H6.out, rfl, fun k hk => (G.out.2.2.2.2 k hk).imp id (fun h => Nat.le_trans H1.out.2.size h), ?_⟩
  exact ((H1.out.2.mono (T := y.own) (fun k _ hk => .inl hk)).trans G.out.2.2.2.1 (fun _ _ hk => hk)).trans C6.out (fun k hk ho => (G.out.2.2.2.2 k ho).elim id (fun h => by have := H1.out.2.size; omega))
end Go.Proofs.Ytcpjjnikehcleaa.Hq
/- The heap in plain: what rise, sink, Push and Pop leave. -/
namespace Go.Proofs.Ytcpjjnikehcleaa.Hq
open Go.RowKit
open Go.Maps (Keyed)
set_option linter.unusedVariables false
set_option linter.unusedSimpArgs false

def zl : DataW Nat := .lit (.int .i64 0)
theorem ik_ne {a b : Int} (h : a ≠ b) : ik a ≠ ik b := by intro e; simp [ik] at e; exact h e
theorem mem_at {l : List Th} {n : Int} : n ∈ l.map Th.num ↔ ∃ j, j < l.length ∧ (at_ l j).num = n := by
  rw [List.mem_map]
  constructor
  · rintro ⟨x, hx, rfl⟩
    obtain ⟨j, hj, rfl⟩ := List.getElem_of_mem hx
    exact ⟨j, hj, by simp [at_, hj]⟩
  · rintro ⟨j, hj, rfl⟩
    exact ⟨l[j], List.getElem_mem hj, by simp [at_, hj]⟩
theorem nod_at {l : List Th} (h : (l.map Th.num).Nodup) {i j : Nat} (hi : i < l.length) (hj : j < l.length) (e : (at_ l i).num = (at_ l j).num) : i = j := by
  have h' := List.pairwise_iff_getElem.1 h
  have e' : (l[i]).num = (l[j]).num := by simpa [at_, hi, hj] using e
  rcases Nat.lt_trichotomy i j with hlt | rfl | hlt
  · exact absurd (by rw [List.getElem_map, List.getElem_map]; exact e') (h' i j (by simpa using hi) (by simpa using hj) hlt)
  · rfl
  · exact absurd (by rw [List.getElem_map, List.getElem_map]; exact e'.symm) (h' j i (by simpa using hj) (by simpa using hi) hlt)
theorem at_mem {l : List Th} {j : Nat} (hj : j < l.length) : at_ l j ∈ l := by
  have : at_ l j = l[j] := by simp [at_, hj]
  rw [this]; exact List.getElem_mem hj
theorem set_at {l : List Th} (i : Nat) : l.set i (at_ l i) = l := by
  by_cases h : i < l.length
  · have : at_ l i = l[i] := by simp [at_, h]
    rw [this, List.set_getElem_self]
  · exact List.set_eq_of_length_le (by omega)

/-- While one thing is on its way to a place. -/
structure Mid (s : HS) (x : Th) (i : Nat) : Prop where
  lt : i < s.l.length
  nod : ((s.l.set i x).map Th.num).Nodup
  tidy : Maps.Tidy s.D
  ix : ∀ j, j < s.l.length → j ≠ i → s.D.atKey (ik (at_ s.l j).num) zl = .lit (.int .i64 (j : Int))
  has : ∀ n, n ≠ x.num → (Maps.has s.D (ik n) = true ↔ n ∈ (s.l.set i x).map Th.num)
  size : Maps.size s.D + (if Maps.has s.D (ik x.num) = true then 0 else 1) = s.l.length
/-- Each number's place is known. -/
structure Known (s : HS) : Prop where
  nod : (s.l.map Th.num).Nodup
  tidy : Maps.Tidy s.D
  ix : ∀ j, j < s.l.length → s.D.atKey (ik (at_ s.l j).num) zl = .lit (.int .i64 (j : Int))
  has : ∀ n, Maps.has s.D (ik n) = true ↔ n ∈ s.l.map Th.num
  size : Maps.size s.D = s.l.length
theorem Mid.step {s : HS} {x : Th} {i p : Nat} (h : Mid s x i) (hp : p < s.l.length) (hne : i ≠ p) : Mid (layS s i (at_ s.l p)) x p := by
  have hperm := (swap_perm h.lt hp hne x).map Th.num
  have a1 : at_ (s.l.set i x) p = at_ s.l p := by rw [at_set h.lt, if_neg hne]
  have a2 : at_ (s.l.set i x) i = x := by rw [at_set h.lt, if_pos rfl]
  have hlen : (s.l.set i x).length = s.l.length := by simp
  have htx : (at_ s.l p).num ≠ x.num := fun e => by
    rw [← a1] at e
    exact hne (nod_at h.nod (by have := h.lt; omega) (by omega) (by rw [a2]; exact e.symm))
  have hmem : (at_ s.l p).num ∈ (s.l.set i x).map Th.num := mem_at.2 ⟨p, by omega, by rw [a1]⟩
  have hht : Maps.has s.D (ik (at_ s.l p).num) = true := (h.has _ htx).2 hmem
  refine ⟨by simpa [layS] using hp, ?_, h.tidy.put (ik_key _) _, fun j hj hjp => ?_, fun n hn => ?_, ?_⟩
  · exact hperm.nodup_iff.2 h.nod
  · simp only [layS, List.length_set] at hj ⊢
    by_cases e : i = j
    · subst e
      rw [at_set h.lt, if_pos rfl, Maps.atKey_put_same h.tidy.isMap (ik_key _)]
    · rw [at_set h.lt, if_neg e, Maps.atKey_put_other (ik_ne ?_), h.ix j hj (fun e' => e e'.symm)]
      intro e2
      have a3 : at_ (s.l.set i x) j = at_ s.l j := by rw [at_set h.lt, if_neg e]
      rw [← a3, ← a1] at e2
      exact hjp (nod_at h.nod (by omega) (by omega) e2)
  · show Maps.has (s.D.put (ik (at_ s.l p).num) _) (ik n) = true ↔ n ∈ (((s.l.set i (at_ s.l p)).set p x).map Th.num)
    rw [hperm.mem_iff]
    by_cases e : n = (at_ s.l p).num
    · subst e
      rw [Maps.has_put_same h.tidy.isMap (ik_key _)]
      simp only [hmem]
    · rw [Maps.has_put_other (ik_ne e), h.has n hn]
  · show Maps.size (s.D.put (ik (at_ s.l p).num) _) + (if Maps.has (s.D.put (ik (at_ s.l p).num) _) (ik x.num) = true then 0 else 1) = (s.l.set i (at_ s.l p)).length
    rw [Maps.size_put h.tidy, hht, Maps.has_put_other (ik_ne (fun e => htx e.symm)), List.length_set]
    exact h.size
theorem Mid.last {s : HS} {x : Th} {i : Nat} (h : Mid s x i) : Known (layS s i x) := by
  have a2 : at_ (s.l.set i x) i = x := by rw [at_set h.lt, if_pos rfl]
  have hlen : (s.l.set i x).length = s.l.length := by simp
  refine ⟨h.nod, h.tidy.put (ik_key _) _, fun j hj => ?_, fun n => ?_, ?_⟩
  · simp only [layS, List.length_set] at hj ⊢
    by_cases e : i = j
    · subst e
      rw [a2, Maps.atKey_put_same h.tidy.isMap (ik_key _)]
    · rw [Maps.atKey_put_other (ik_ne ?_), at_set h.lt, if_neg e, h.ix j hj (fun e' => e e'.symm)]
      intro e2
      exact e (nod_at h.nod (by have := h.lt; omega) (by omega) (by rw [a2]; exact e2.symm))
  · show Maps.has (s.D.put (ik x.num) _) (ik n) = true ↔ n ∈ (s.l.set i x).map Th.num
    by_cases e : n = x.num
    · subst e
      rw [Maps.has_put_same h.tidy.isMap (ik_key _)]
      have : x.num ∈ (s.l.set i x).map Th.num := mem_at.2 ⟨i, by have := h.lt; omega, by rw [a2]⟩
      simp only [this]
    · rw [Maps.has_put_other (ik_ne e), h.has n e]
  · show Maps.size (s.D.put (ik x.num) _) = (s.l.set i x).length
    have := h.size
    rw [Maps.size_put h.tidy, List.length_set]
    split at this <;> simp_all
theorem Known.mid {s : HS} (h : Known s) {i : Nat} (hi : i < s.l.length) : Mid s (at_ s.l i) i := by
  refine ⟨hi, by rw [set_at]; exact h.nod, h.tidy, fun j hj _ => h.ix j hj, fun n _ => by rw [set_at]; exact h.has n, ?_⟩
  rw [if_pos ((h.has _).2 (mem_at.2 ⟨i, hi, rfl⟩)), h.size]; rfl
theorem Mid.rise {s : HS} {x : Th} {i : Nat} (h : Mid s x i) : Known (riseS s x i) := by
  induction i using Nat.strongRecOn generalizing s with
  | _ i ih =>
    rw [riseS]
    split
    · next hc =>
      have hp : par i < i := by unfold par; omega
      exact ih (par i) hp (h.step (by have := h.lt; omega) (by omega))
    · exact h.last
theorem Mid.sink {s : HS} {x : Th} {i : Nat} (h : Mid s x i) : Known (sinkS s x i) := by
  rw [sinkS]
  split
  · next hc =>
    have h1 := low_ge s.l (2 * i + 1)
    have h2 := low_lt s.l (2 * i + 1) hc
    split
    · exact h.last
    · exact (h.step h2 (by omega)).sink
  · exact h.last
termination_by s.l.length - i
decreasing_by simp only [layS, List.length_set]; omega
theorem riseS_next (s : HS) (x : Th) (i : Nat) : (riseS s x i).next = s.next := by
  induction i using Nat.strongRecOn generalizing s with
  | _ i ih =>
    rw [riseS]
    split
    · next h => rw [ih (par i) (by unfold par; omega)]; rfl
    · rfl
theorem sinkS_next (s : HS) (x : Th) (i : Nat) : (sinkS s x i).next = s.next := by
  rw [sinkS]
  split
  · next hc =>
    split
    · rfl
    · have h1 := low_ge s.l (2 * i + 1)
      have h2 := low_lt s.l (2 * i + 1) hc
      rw [sinkS_next]; rfl
  · rfl
termination_by s.l.length - i
decreasing_by simp only [layS, List.length_set]; omega

/-- A heap as it should be. -/
structure HInv (s : HS) : Prop where
  kn : Known s
  hp : Hp s.l
  nums : ∀ x ∈ s.l, 0 ≤ x.num ∧ x.num < s.next
  next : 0 ≤ s.next
theorem HInv.new : HInv newS := by
  refine ⟨⟨List.Pairwise.nil, Maps.tidy_empty, fun j hj => by simp [newS] at hj, fun n => ?_, rfl⟩, fun j h0 hj => by simp [newS] at hj, fun x hx => by simp [newS] at hx, by simp [newS]⟩
  simp [newS, Maps.has_eq]
theorem HInv.w64 {s : HS} (h : HInv s) (hx : s.next < 1000000000) (j : Nat) : W64 (at_ s.l j).num := by
  by_cases hj : j < s.l.length
  · have := h.nums _ (at_mem hj)
    simp [W64, Lit.wf, IntKind.min, IntKind.max, IntKind.bits, IntKind.signed]; omega
  · have e : at_ s.l j = zt := by simp [at_]; rw [List.getElem?_eq_none (by omega)]; rfl
    rw [e]; exact w64_nat (n := 0) (by omega)
theorem at_app {l : List Th} {x : Th} {j : Nat} (hj : j < l.length) : at_ (l ++ [x]) j = at_ l j := by simp [at_, List.getElem?_append_left hj]
theorem at_end {l : List Th} {x : Th} : at_ (l ++ [x]) l.length = x := by simp [at_]
theorem HInv.push {s : HS} (h : HInv s) (key v : Int) : HInv (pushS s key v) ∧ (pushS s key v).l.Perm (s.l ++ [pushX s key v]) ∧ (pushS s key v).next = s.next + 1 := by
  have hlt : s.l.length < (s.l ++ [pushX s key v]).length := by simp
  have hset : (s.l ++ [pushX s key v]).set s.l.length (pushX s key v) = s.l ++ [pushX s key v] := by
    have := set_at (l := s.l ++ [pushX s key v]) s.l.length
    rw [at_end] at this; exact this
  have hno : s.next ∉ s.l.map Th.num := fun hm => by
    obtain ⟨x, hx, e⟩ := List.mem_map.1 hm
    have := h.nums x hx
    omega
  have hM : Mid { s with l := s.l ++ [pushX s key v], next := s.next + 1 } (pushX s key v) s.l.length := by
    refine ⟨hlt, ?_, h.kn.tidy, fun j hj hne => ?_, fun n hn => ?_, ?_⟩
    · show (((s.l ++ [pushX s key v]).set s.l.length (pushX s key v)).map Th.num).Nodup
      rw [hset, List.map_append]
      rw [List.nodup_append]
      refine ⟨h.kn.nod, by simp, ?_⟩
      intro a ha b hb e
      simp only [List.map_cons, List.map_nil, List.mem_singleton] at hb
      subst hb
      exact hno (by have e' : a = s.next := e; rw [← e']; exact ha)
    · have hj' : j < s.l.length := by simp at hj; omega
      show s.D.atKey (ik (at_ (s.l ++ [pushX s key v]) j).num) zl = _
      rw [at_app hj']
      exact h.kn.ix j hj'
    · show Maps.has s.D (ik n) = true ↔ n ∈ ((s.l ++ [pushX s key v]).set s.l.length (pushX s key v)).map Th.num
      rw [hset, h.kn.has]
      simp [hn]
    · show Maps.size s.D + (if Maps.has s.D (ik s.next) = true then 0 else 1) = (s.l ++ [pushX s key v]).length
      rw [if_neg (fun e => hno ((h.kn.has _).1 e)), h.kn.size]; simp
  have hperm : (pushS s key v).l.Perm (s.l ++ [pushX s key v]) := by
    unfold pushS
    rw [riseS_l]
    have := rise_perm (l := s.l ++ [pushX s key v]) (pushX s key v) hlt
    rw [hset] at this
    exact this
  have hnext : (pushS s key v).next = s.next + 1 := by unfold pushS; rw [riseS_next]
  refine ⟨⟨hM.rise, ?_, fun x hx => ?_, by have := h.next; omega⟩, hperm, hnext⟩
  · unfold pushS
    rw [riseS_l]
    refine rise_hp hlt ⟨fun j h0 hj hne hpar => ?_, fun h0 j j0 hj hpar => ?_⟩ (fun j h0 hj hpar => ?_)
    · have hj' : j < s.l.length := by simp at hj; omega
      have hp' : par j < s.l.length := by unfold par; omega
      rw [at_app hj', at_app hp']
      exact h.hp j h0 hj'
    · exfalso; simp at hj; unfold par at hpar; omega
    · exfalso; simp at hj; unfold par at hpar; omega
  · rw [hnext]
    have := hperm.mem_iff.1 hx
    rw [List.mem_append, List.mem_singleton] at this
    rcases this with hx | rfl
    · have := h.nums x hx; omega
    · have := h.next; show 0 ≤ s.next ∧ s.next < s.next + 1; omega
def ixN (D : DataW Nat) (n : Int) : Nat := match D.atKey (ik n) zl with | .lit (.int .i64 c) => c.toNat | _ => 0
def pop1 (s : HS) : HS := { s with l := s.l.take (s.l.length - 1), D := s.D.del (ik (at_ s.l 0).num) }
def pop3 (s : HS) : HS := sinkS (layS (pop1 s) 0 (at_ s.l (s.l.length - 1))) (at_ s.l (s.l.length - 1)) 0
def popJ (s : HS) : Nat := ixN (pop3 s).D (at_ s.l (s.l.length - 1)).num
def popS (s : HS) : HS := if s.l.length - 1 = 0 then pop1 s else riseS (pop3 s) (at_ (pop3 s).l (popJ s)) (popJ s)
theorem at_take {l : List Th} {n j : Nat} (hj : j < n) : at_ (l.take n) j = at_ l j := by simp [at_, List.getElem?_take, hj]
theorem take_perm {l : List Th} {n : Nat} (hn : l.length = n + 1) (h0 : 0 < n) : (at_ l 0 :: (l.take n).set 0 (at_ l n)).Perm l := by
  cases l with
  | nil => simp at hn
  | cons a l =>
    obtain ⟨m, rfl⟩ : ∃ m, n = m + 1 := ⟨n - 1, by omega⟩
    have e1 : at_ (a :: l) 0 = a := rfl
    have e2 : at_ (a :: l) (m + 1) = at_ l m := rfl
    rw [e1, e2]
    simp only [List.take_succ_cons, List.set_cons_zero]
    refine List.Perm.cons a ?_
    have hm : m < l.length := by simp at hn; omega
    have e3 : at_ l m = l[m] := by simp [at_, hm]
    have e4 : l = l.take m ++ [l[m]] := by
      have := List.take_append_getElem hm
      rw [this, List.take_of_length_le (by simp at hn; omega)]
    rw [e3]
    conv => rhs; rw [e4]
    exact (List.perm_append_comm (l₁ := l.take m) (l₂ := [l[m]])).symm
theorem pop_mid {s : HS} (h : HInv s) {n : Nat} (hn : s.l.length = n + 1) (h0 : 0 < n) : Mid (layS (pop1 s) 0 (at_ s.l n)) (at_ s.l n) 0 := by
  have e1 : s.l.length - 1 = n := by omega
  have hl : (pop1 s).l = s.l.take n := by unfold pop1; rw [e1]
  have hlen : (s.l.take n).length = n := by rw [List.length_take]; omega
  have hp := take_perm hn h0
  have hnod : (((s.l.take n).set 0 (at_ s.l n)).map Th.num).Nodup ∧ (at_ s.l 0).num ∉ (((s.l.take n).set 0 (at_ s.l n)).map Th.num) := by
    have := (hp.map Th.num).nodup_iff.2 h.kn.nod
    rw [List.map_cons, List.nodup_cons] at this
    exact ⟨this.2, this.1⟩
  have hne : (at_ s.l n).num ≠ (at_ s.l 0).num := fun e => by
    have := nod_at h.kn.nod (by omega) (by omega) e
    omega
  have hD : Maps.Tidy (pop1 s).D := h.kn.tidy.del _
  have hss : ((s.l.take n).set 0 (at_ s.l n)).set 0 (at_ s.l n) = (s.l.take n).set 0 (at_ s.l n) := by rw [List.set_set]
  have hhas : ∀ m, Maps.has (pop1 s).D (ik m) = true ↔ m ∈ s.l.map Th.num ∧ m ≠ (at_ s.l 0).num := fun m => by
    show Maps.has (s.D.del (ik (at_ s.l 0).num)) (ik m) = true ↔ _
    by_cases e : m = (at_ s.l 0).num
    · subst e
      rw [Maps.has_del_same]; simp
    · rw [Maps.has_del_other (ik_ne e), h.kn.has]; simp [e]
  have hmem : ∀ m, m ∈ ((s.l.take n).set 0 (at_ s.l n)).map Th.num ↔ m ∈ s.l.map Th.num ∧ m ≠ (at_ s.l 0).num := fun m => by
    have := (hp.map Th.num).mem_iff (a := m)
    rw [List.map_cons, List.mem_cons] at this
    rw [← this]
    constructor
    · intro hm
      exact ⟨.inr hm, fun e => hnod.2 (e ▸ hm)⟩
    · rintro ⟨h1 | h1, h2⟩
      · exact absurd h1 h2
      · exact h1
  have hh : Maps.has (pop1 s).D (ik (at_ s.l n).num) = true := (hhas _).2 ⟨mem_at.2 ⟨n, by omega, rfl⟩, hne⟩
  have hsz : Maps.size (pop1 s).D = n := by
    have := Maps.size_del (k := ik (at_ s.l 0).num) h.kn.tidy
    rw [if_pos ((h.kn.has _).2 (mem_at.2 ⟨0, by omega, rfl⟩)), h.kn.size, hn] at this
    show Maps.size (s.D.del _) = n
    omega
  refine ⟨?_, ?_, hD.put (ik_key _) _, fun j hj hj0 => ?_, fun m hm => ?_, ?_⟩
  · show 0 < ((pop1 s).l.set 0 _).length
    rw [hl, List.length_set, hlen]; exact h0
  · show ((((pop1 s).l.set 0 _).set 0 _).map Th.num).Nodup
    rw [hl, hss]; exact hnod.1
  · have hj' : j < n := by
      have : j < ((pop1 s).l.set 0 (at_ s.l n)).length := hj
      rw [hl, List.length_set, hlen] at this; exact this
    show ((pop1 s).D.put (ik (at_ s.l n).num) _).atKey (ik (at_ ((pop1 s).l.set 0 (at_ s.l n)) j).num) zl = _
    rw [hl, at_set (by rw [hlen]; exact h0), if_neg (fun e => hj0 e.symm), at_take hj']
    rw [Maps.atKey_put_other (ik_ne (fun e => by have := nod_at h.kn.nod (by omega) (by omega) e; omega))]
    show (s.D.del _).atKey _ _ = _
    rw [Maps.atKey_del_other (ik_ne (fun e => by have := nod_at h.kn.nod (by omega) (by omega) e; omega))]
    exact h.kn.ix j (by omega)
  · show Maps.has ((pop1 s).D.put (ik (at_ s.l n).num) _) (ik m) = true ↔ m ∈ (((pop1 s).l.set 0 (at_ s.l n)).set 0 (at_ s.l n)).map Th.num
    rw [hl, hss, Maps.has_put_other (ik_ne hm), hhas, hmem]
  · show Maps.size ((pop1 s).D.put (ik (at_ s.l n).num) _) + (if Maps.has ((pop1 s).D.put (ik (at_ s.l n).num) _) (ik (at_ s.l n).num) = true then 0 else 1) = ((pop1 s).l.set 0 _).length
    rw [Maps.size_put hD, if_pos hh, Maps.has_put_same hD.isMap (ik_key _), hl, List.length_set, hlen, hsz]; rfl
theorem ixN_of {D : DataW Nat} {n : Int} {j : Nat} (h : D.atKey (ik n) zl = .lit (.int .i64 (j : Int))) : ixN D n = j := by unfold ixN; rw [h]; rfl
/-- What Pop finds before it brings the last one up. -/
structure Popped (s : HS) (n : Nat) : Prop where
  kn : Known (pop3 s)
  hp : Hp (pop3 s).l
  perm : (at_ s.l 0 :: (pop3 s).l).Perm s.l
  j : popJ s < (pop3 s).l.length
  at_ : at_ (pop3 s).l (popJ s) = at_ s.l n
  ix : (pop3 s).D.atKey (ik (Hq.at_ s.l n).num) zl = .lit (.int .i64 (popJ s : Int))
theorem HInv.popped {s : HS} (h : HInv s) {n : Nat} (hn : s.l.length = n + 1) (h0 : 0 < n) : Popped s n := by
  have e1 : s.l.length - 1 = n := by omega
  have hl : (pop1 s).l = s.l.take n := by unfold pop1; rw [e1]
  have hlen : (s.l.take n).length = n := by rw [List.length_take]; omega
  have hM := pop_mid h hn h0
  have e3 : pop3 s = sinkS (layS (pop1 s) 0 (at_ s.l n)) (at_ s.l n) 0 := by unfold pop3; rw [e1]
  have hK : Known (pop3 s) := by rw [e3]; exact hM.sink
  have hl2 : (layS (pop1 s) 0 (at_ s.l n)).l = (s.l.take n).set 0 (at_ s.l n) := by show (pop1 s).l.set 0 _ = _; rw [hl]
  have hl3 : (pop3 s).l = sinkL ((s.l.take n).set 0 (at_ s.l n)) (at_ s.l n) 0 := by rw [e3, sinkS_l, hl2]
  have hp3 : (pop3 s).l.Perm ((s.l.take n).set 0 (at_ s.l n)) := by
    rw [hl3]
    have := sink_perm ((s.l.take n).set 0 (at_ s.l n)) 0 (at_ s.l n) (by rw [List.length_set, hlen]; exact h0)
    rw [List.set_set] at this; exact this
  have hhp : Hp (pop3 s).l := by
    rw [hl3]
    refine sink_hp _ 0 _ (by rw [List.length_set, hlen]; exact h0) ⟨fun j j0 hj hne hpar => ?_, fun h => absurd h (by omega)⟩ (fun h => absurd h (by omega))
    rw [List.length_set, hlen] at hj
    have hpn : par j < n := by unfold par; omega
    rw [at_set (by rw [hlen]; exact h0), at_set (by rw [hlen]; exact h0), if_neg (fun e => hne e.symm), if_neg (fun e => hpar e.symm), at_take hj, at_take hpn]
    exact h.hp j j0 (by omega)
  have hmem : at_ s.l n ∈ (pop3 s).l := hp3.mem_iff.2 (by
    have : at_ ((s.l.take n).set 0 (at_ s.l n)) 0 = at_ s.l n := by rw [at_set (by rw [hlen]; exact h0), if_pos rfl]
    have h2 := at_mem (l := (s.l.take n).set 0 (at_ s.l n)) (j := 0) (by rw [List.length_set, hlen]; exact h0)
    rw [this] at h2; exact h2)
  obtain ⟨j, hj, ej⟩ := List.getElem_of_mem hmem
  have ej' : at_ (pop3 s).l j = at_ s.l n := by rw [← ej]; simp [at_, hj]
  have hix := hK.ix j hj
  rw [ej'] at hix
  have hJ : popJ s = j := by unfold popJ; rw [e1]; exact ixN_of hix
  exact ⟨hK, hhp, (List.Perm.cons _ hp3).trans (take_perm hn h0), by rw [hJ]; exact hj, by rw [hJ]; exact ej', by rw [hJ]; exact hix⟩
theorem HInv.pop {s : HS} (h : HInv s) (hl : 0 < s.l.length) : HInv (popS s) ∧ (at_ s.l 0 :: (popS s).l).Perm s.l ∧ (popS s).next = s.next := by
  obtain ⟨n, hn⟩ : ∃ n, s.l.length = n + 1 := ⟨s.l.length - 1, by omega⟩
  have e1 : s.l.length - 1 = n := by omega
  by_cases h0 : n = 0
  · subst h0
    have hS : popS s = pop1 s := by unfold popS; rw [if_pos e1]
    obtain ⟨a, ha⟩ : ∃ a, s.l = [a] := by
      cases hs : s.l with
      | nil => rw [hs] at hn; simp at hn
      | cons a l => cases l with
        | nil => exact ⟨a, rfl⟩
        | cons b l => rw [hs] at hn; simp at hn
    have hl1 : (pop1 s).l = [] := by unfold pop1; rw [e1]; simp
    have a0 : at_ s.l 0 = a := by rw [ha]; rfl
    have hno : ∀ m, Maps.has (pop1 s).D (ik m) = false := fun m => by
      show Maps.has (s.D.del (ik (at_ s.l 0).num)) (ik m) = false
      by_cases e : m = (at_ s.l 0).num
      · subst e; exact Maps.has_del_same
      · rw [Maps.has_del_other (ik_ne e)]
        cases hc : Maps.has s.D (ik m) with
        | false => rfl
        | true =>
          have := (h.kn.has m).1 hc
          rw [ha, List.map_cons, List.map_nil, List.mem_singleton] at this
          rw [a0] at e
          exact absurd this e
    rw [hS]
    refine ⟨⟨⟨by rw [hl1]; exact List.Pairwise.nil, h.kn.tidy.del _, fun j hj => by rw [hl1] at hj; simp at hj, fun m => by rw [hno, hl1]; simp, ?_⟩, fun j h0 hj => by rw [hl1] at hj; simp at hj, fun x hx => by rw [hl1] at hx; simp at hx, h.next⟩, by rw [hl1, a0, ha], rfl⟩
    have := Maps.size_del (k := ik (at_ s.l 0).num) h.kn.tidy
    rw [if_pos ((h.kn.has _).2 (mem_at.2 ⟨0, by omega, rfl⟩)), h.kn.size, hn] at this
    rw [hl1]
    show Maps.size (s.D.del _) = 0
    omega
  · have hP := h.popped hn (by omega)
    have hS : popS s = riseS (pop3 s) (at_ (pop3 s).l (popJ s)) (popJ s) := by unfold popS; rw [if_neg (by omega)]
    have hM := hP.kn.mid hP.j
    have hl4 : (popS s).l = riseL (pop3 s).l (at_ (pop3 s).l (popJ s)) (popJ s) := by rw [hS, riseS_l]
    have hp4 : (popS s).l.Perm (pop3 s).l := by
      rw [hl4]
      have := rise_perm (l := (pop3 s).l) (i := popJ s) (at_ (pop3 s).l (popJ s)) hP.j
      rw [set_at] at this; exact this
    have hperm : (at_ s.l 0 :: (popS s).l).Perm s.l := (List.Perm.cons _ hp4).trans hP.perm
    have hnext : (popS s).next = s.next := by rw [hS, riseS_next]; unfold pop3; rw [sinkS_next]; rfl
    refine ⟨⟨by rw [hS]; exact hM.rise, ?_, fun x hx => ?_, by rw [hnext]; exact h.next⟩, hperm, hnext⟩
    · rw [hl4]
      refine rise_hp hP.j (hP.hp.hole _ hP.j) (fun j j0 hj hpar => ?_)
      rw [← hpar]
      exact hP.hp j j0 hj
    · rw [hnext]
      exact h.nums x (hperm.mem_iff.1 (List.mem_cons_of_mem _ hx))
end Go.Proofs.Ytcpjjnikehcleaa.Hq
