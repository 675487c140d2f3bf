/- The heap's steps, walked: rise. -/
import Derived.Test.YtcpjjnikehcleaaH1
import Derived.Test.YtcpjjnikehcleaaPChkx14
namespace Go.Proofs.Ytcpjjnikehcleaa.Hq
open Go.RowKit PChk Go.Proofs.YtcpjjnikehcleaaW.PrintWords Go.Proofs.YtcpjjnikehcleaaW.PrintLast Go.Proofs.YtcpjjnikehcleaaW.PrintMore
open Go.Maps (Keyed)
set_option linter.unusedVariables false
set_option linter.unusedSimpArgs false

theorem isNaN64 (a : Int) : cmp_isNaN_int64.f a = some false := by unfold cmp_isNaN_int64.f; simp
theorem isNaN (a : Int) : cmp_isNaN_int.f a = some false := by unfold cmp_isNaN_int.f; simp
theorem or_two (a b : Int) : cmp_Or_int.f 5 [a, b] = some (if a = 0 then b else a) := by
  unfold cmp_Or_int.f
  have e1 : wrap64 1 = 1 := by kernel_rfl
  have e2 : wrap64 2 = 2 := by kernel_rfl
  by_cases ha : a = 0
  · subst ha
    by_cases hb : b = 0
    · subst hb
      simp [cmp_Or_int.l0, rd, e1, e2]
    · simp [cmp_Or_int.l0, rd, e1, e2, hb]
  · simp [cmp_Or_int.l0, rd, ha]
theorem ahead_lt (x y : Th) : ∃ r k, heap_ahead_int.f k x.key x.num x.v y.key y.num y.v = some r ∧ decide (r < 0) = decide (lt x y) := by
  have e1 : cmp_Compare_int64.f x.key y.key = some (if x.key < y.key then -1 else if x.key > y.key then 1 else 0) := by
    unfold cmp_Compare_int64.f; rw [isNaN64, isNaN64]; simp only [Option.bind_some]; rw [if_neg (by simp), if_neg (by simp)]
    by_cases h1 : x.key < y.key
    · simp [h1]
    · by_cases h2 : x.key > y.key <;> simp [h1, h2]
  have e2 : cmp_Compare_int.f x.num y.num = some (if x.num < y.num then -1 else if x.num > y.num then 1 else 0) := by
    unfold cmp_Compare_int.f; rw [isNaN, isNaN]; simp only [Option.bind_some]; rw [if_neg (by simp), if_neg (by simp)]
    by_cases h1 : x.num < y.num
    · simp [h1]
    · by_cases h2 : x.num > y.num <;> simp [h1, h2]
  refine ⟨_, 5, by unfold heap_ahead_int.f; rw [e1, e2]; simp only [Option.bind_some]; rw [or_two]; rfl, ?_⟩
  unfold lt
  by_cases h1 : x.key < y.key
  · simp [h1]
  · by_cases h2 : x.key > y.key
    · simp [h1, h2]; omega
    · have : x.key = y.key := by omega
      simp [this]
      by_cases h3 : x.num < y.num
      · simp [h3]
      · by_cases h4 : x.num > y.num
        · simp [h3, h4]
        · simp [h3, h4]
theorem ahead_calls (x y : Th) (w : World) : Calls Try.prog 66 #[.agg #[.int .i64 x.key, .int .i64 x.num, .int .i64 x.v], .agg #[.int .i64 y.key, .int .i64 y.num, .int .i64 y.v]] w fun e w' => ∃ r, e = .returned (.int .i64 r) ∧ decide (r < 0) = decide (lt x y) ∧ Ch (fun _ => False) w w' := by
  obtain ⟨r, k, h1, h2⟩ := ahead_lt x y
  refine (heap_ahead_int.calls k _ _ _ _ _ _ r w h1).mono ?_
  rintro e w' ⟨rfl, hb⟩
  exact ⟨r, rfl, h2, Ch.of_below hb (fun k hk hle => by omega)⟩
theorem size_put' {D : DataW Nat} (h : Maps.Tidy D) (k : Lit) (v : DataW Nat) : Maps.size (D.put k v) ≤ Maps.size D + 1 := by
  rw [Maps.size_put h]; split <;> omega
theorem ik_key (n : Int) : WideAt.IsKeyLit (ik n) := by first | trivial | simp [WideAt.IsKeyLit, ik]
def riseS (s : HS) (x : Th) (i : Nat) : HS :=
  if h : 0 < i ∧ lt x (at_ s.l (par i)) then riseS (layS s i (at_ s.l (par i))) x (par i) else layS s i x
termination_by i
decreasing_by unfold par; omega
theorem riseS_l (s : HS) (x : Th) (i : Nat) : (riseS s x i).l = riseL s.l x i := by
  induction i using Nat.strongRecOn generalizing s with
  | _ i ih =>
    rw [riseS, riseL]
    by_cases h : 0 < i ∧ lt x (at_ s.l (par i))
    · rw [dif_pos h, dif_pos h, ih (par i) (by unfold par; omega)]; rfl
    · rw [dif_neg h, dif_neg h]; rfl
theorem HAt.atv {B : Nat} {W : World} {y : Lay} {s : HS} (h : HAt B W y s) {g n cap : Nat} (hv : y.v = .slice (some ⟨g, 0, none⟩) n cap) {i : Nat} (hi : i < s.l.length) :
    W.cell? ⟨y.g, 1, none⟩ = some (.slice (some ⟨g, 0, none⟩) n cap) ∧ W.cell? ⟨g, i * 3, none⟩ = some (.int .i64 (Hq.at_ s.l i).key) ∧ W.cell? ⟨g, i * 3 + 1, none⟩ = some (.int .i64 (Hq.at_ s.l i).num) ∧ W.cell? ⟨g, i * 3 + 2, none⟩ = some (.int .i64 (Hq.at_ s.l i).v) ∧
      (∀ k, W.frozen? ⟨g, k, none⟩ = false) := by
  obtain ⟨g', cap', hv', a0, a1, a2, fz, -⟩ := h.at_ hi
  rw [hv] at hv'
  simp only [Value.slice.injEq, Option.some.injEq, Addr.mk.injEq] at hv'
  obtain ⟨⟨rfl, -⟩, -, -⟩ := hv'
  refine ⟨?_, a0, a1, a2, fz⟩
  rw [← hv]; exact (blk_cell h.blk 1).trans rfl
/-- Before each round of rise. -/
structure RInv (B : Nat) (w : World) (y : Lay) (s : HS) (x : Th) (i0 b i : Nat) (W : World) (s' : HS) : Prop where
  cat : HAt B W y s'
  eq : riseS s x i0 = riseS s' x i
  lt : i < s'.l.length
  len : s'.l.length = s.l.length
  size : Maps.size s'.D + i < 900000
  nums : ∀ j, W64 (at_ s'.l j).num
  tidy : Maps.Tidy s'.D
  blk : W.heap[b]? = some (.cells #[.int .i64 x.key, .int .i64 x.num, .int .i64 x.v] 115 (0, 0))
  ch : Ch y.own w W
set_option maxHeartbeats 2000000 in
set_option maxRecDepth 100000 in
theorem rise_calls (B : Nat) (w : World) (y : Lay) (s : HS) (i : Nat) (h : HAt B w y s) (hi : i < s.l.length) (hl : s.l.length < 900000) (hD : Maps.size s.D + i < 900000) (hn : ∀ j, W64 (at_ s.l j).num) (ht : Maps.Tidy s.D) :
    Calls Try.prog 62 #[.pointer (some ⟨y.g, 0, none⟩), .int .i64 (i : Int)] w (Stay B y (riseS s (at_ s.l i) i) (.tuple #[]) w) := by
  have hu94 := Try.underlying94
  have hu92 := Try.underlying92
  have hu115 := Try.underlying115
  obtain ⟨g, cap, hv, a0, a1, a2, fz, hgy, hgm, hgl⟩ := h.at_ hi
  have g1 := (blk_cell h.blk 1).trans rfl
  rw [hv] at g1
  have hblt := blk_lt h.blk
  have p1 : (0 ≤ (i : Int)) = True := eq_true (by omega)
  have p2 : ((i : Int) < (s.l.length : Int)) = True := eq_true (by omega)
  have H := Aside0.mk h
  have HI := Aside0.mk hi
  have HL := Aside0.mk hl
  have HD := Aside0.mk hD
  have HN := Aside0.mk hn
  have HT := Aside0.mk ht
  have hx := Aside0.mk (hn i)
  clear h hi hl hD hn ht
  generalize hxe : at_ s.l i = x at *
  have HXE := Aside0.mk hxe
  clear hxe
  go_enter Try.func62, Try.ntmps62
  go_wp2
  have hb2 := Aside0.mk (blk_new w (.cells #[.int .i64 x.key, .int .i64 x.num, .int .i64 x.v] 115))
  have C1 := Aside0.mk ((Ch.refl (fun _ => False) w).alloc (.cells #[.int .i64 x.key, .int .i64 x.num, .int .i64 x.v] 115))
  have H1 := Aside0.mk (H.out.same C1.out)
  have HB := Aside0.mk (show ∀ k, y.own k → k ≠ w.heap.size from fun k hk => by have := (H.out.lt hk).2; omega)
  clear g1 a0 a1 a2 fz hgy hgm hgl hblt p1 p2
  generalize hW1 : w.alloc (.cells #[.int .i64 x.key, .int .i64 x.num, .int .i64 x.v] 115) = W1 at *
  generalize hbb : w.heap.size = b at *
  go_loopg [1] i (fun kq v1 w' => ∃ s', v1 = .int .i64 (kq : Int) ∧ Aside0 (RInv B w y s x i b kq w' s'))
  case atStart =>
    exact ⟨s, rfl, ⟨⟨H1.out, rfl, HI.out, rfl, HD.out, HN.out, HT.out, hb2.out, C1.out.mono (fun _ _ hk => hk.elim)⟩⟩⟩
  case round =>
    obtain ⟨s', rfl, HV⟩ := hrel
    have x0 := (blk_cell HV.out.blk 0).trans rfl
    have x1 := (blk_cell HV.out.blk 1).trans rfl
    have x2 := (blk_cell HV.out.blk 2).trans rfl
    by_cases h0 : gk = 0
    · subst h0
      have E0 := Aside0.mk (show riseS s x i = layS s' 0 x from by rw [HV.out.eq, riseS, dif_neg (by omega)])
      have Z1 := HI.out
      have LL := Aside0.mk (show s'.l.length < 1000000 by have := HV.out.len; have := HL.out; omega)
      have LD := Aside0.mk (show Maps.size s'.D < 1000000 by have := HV.out.size; omega)
      have LC := Aside0.mk (show ∀ n, Calls Try.prog 64 #[.pointer (some ⟨y.g, 0, none⟩), .int .i64 0, .agg #[.int .i64 x.key, .int .i64 x.num, .int .i64 x.v]] (wr.drewN n) (Stay B y (layS s' 0 x) (.tuple #[]) (wr.drewN n)) from fun n => lay_calls B _ y s' 0 x (HV.out.cat.same ((Ch.refl _ wr).drewN _)) HV.out.lt hx.out LL.out LD.out)
      go_wp2
      go_quiet (fail)
      go_wp2_with (go_at_call 64; go_loud (refine (LC.out _).mono ?_); rintro e w2 ⟨rfl, h2, c2⟩; have H2 := Aside0.mk h2; have C2 := Aside0.mk ((HV.out.ch.drewN _).trans c2 (fun _ _ hk => hk)); clear h2 c2)
      go_end0
      refine ⟨rfl, ?_, C2.out⟩
      rw [E0.out]; exact H2.out
    · obtain ⟨m, rfl⟩ : ∃ m, gk = m + 1 := ⟨gk - 1, by omega⟩
      have ⟨q, hq⟩ : ∃ q, m / 2 = q := ⟨_, rfl⟩
      have hqp : par (m + 1) = q := hq
      have hm2 : q < s'.l.length := by have := HV.out.lt; omega
      obtain ⟨g, cap, hv', a0, a1, a2, fz, hgy, hgm, hgl⟩ := HV.out.cat.at_ hm2
      have g1 := (blk_cell HV.out.cat.blk 1).trans rfl
      rw [hv'] at g1
      have p1 : (0 ≤ (q : Int)) = True := eq_true (by omega)
      have p2 : ((q : Int) < (s'.l.length : Int)) = True := eq_true (by omega)
      have hmm : m < 900000 := by have := HV.out.size; omega
      have w1 : IntKind.i64.wrap (m : Int) = m := by rw [IntKind.wrap_i64]; omega
      have w2 : IntKind.i64.wrap ((m : Int) / 2) = q := by rw [IntKind.wrap_i64]; omega
      have HM := Aside0.mk hmm
      have HQ := Aside0.mk hq
      have HQP := Aside0.mk hqp
      have HM2 := Aside0.mk hm2
      clear hmm hq hqp hm2
      generalize hye : at_ s'.l q = t at *
      have HYE := Aside0.mk hye
      clear hye
      have LL := Aside0.mk (show s'.l.length < 1000000 by have := HV.out.len; have := HL.out; omega)
      have LD := Aside0.mk (show Maps.size s'.D < 1000000 by have := HV.out.size; omega)
      have TN := Aside0.mk (show W64 t.num by rw [← HYE.out]; exact HV.out.nums q)
      by_cases hlt : lt x t
      · have E0 := Aside0.mk (show riseS s x i = riseS (layS s' (m + 1) t) x q from by rw [HV.out.eq, riseS, HQP.out, HYE.out, dif_pos ⟨by omega, hlt⟩])
        go_wp2
        go_still_tail 13, (by kernel_rfl)
        go_wp2_with (first
          | (go_at_call 66; go_loud (refine (ahead_calls x t _).mono ?_); rintro e w3 ⟨r, rfl, hr, c3⟩; replace hr : decide (r < 0) = true := hr.trans (decide_eq_true hlt); have C3 := Aside0.mk (((Ch.refl (fun _ => False) wr).drewN 1).trans c3 (fun _ _ hk => hk)); have H3 := Aside0.mk (HV.out.cat.same C3.out); have L3 := Aside0.mk (lay_calls B w3 y s' (m + 1) t H3.out HV.out.lt TN.out LL.out LD.out); obtain ⟨g3, b0, b1, b2, fz3⟩ := H3.out.atv hv' HM2.out; rw [HYE.out] at b0 b1 b2; clear c3)
          | (go_at_call 64; go_loud (refine L3.out.mono ?_); rintro e w4 ⟨rfl, h4, c4⟩; have H4 := Aside0.mk h4; have C4 := Aside0.mk ((HV.out.ch.trans (C3.out.mono (T := y.own) (fun _ _ hk => hk.elim)) (fun _ _ hk => hk)).trans c4 (fun _ _ hk => hk)); have B4 := Aside0.mk (c4.keep (C3.out.keep HV.out.blk (fun h => h)) (fun hk => HB.out _ hk rfl)); clear h4 c4))
        go_roundg q
        case measure => have := HQ.out; omega
        case rel => exact ⟨_, rfl, ⟨⟨H4.out, E0.out, by simpa [layS] using HM2.out, by simpa [layS] using HV.out.len, by have := size_put' HV.out.tidy (ik t.num) (.lit (.int .i64 ((m + 1 : Nat) : Int))); have := HV.out.size; have := HQ.out; simp only [layS]; omega,
          fun j => by
            show W64 (at_ (s'.l.set (m + 1) t) j).num
            rw [at_set HV.out.lt]; split; exact TN.out; exact HV.out.nums j, HV.out.tidy.put (ik_key _) _, B4.out, C4.out⟩⟩⟩
      · have E0 := Aside0.mk (show riseS s x i = layS s' (m + 1) x from by rw [HV.out.eq, riseS, HQP.out, HYE.out, dif_neg (fun h => hlt h.2)])
        go_wp2
        go_still_tail 13, (by kernel_rfl)
        go_wp2_with (first
          | (go_at_call 66; go_loud (refine (ahead_calls x t _).mono ?_); rintro e w3 ⟨r, rfl, hr, c3⟩; replace hr : decide (r < 0) = false := hr.trans (decide_eq_false hlt); have C3 := Aside0.mk (((Ch.refl (fun _ => False) wr).drewN 1).trans c3 (fun _ _ hk => hk)); have H3 := Aside0.mk (HV.out.cat.same C3.out); have L3 := Aside0.mk (lay_calls B w3 y s' (m + 1) x H3.out HV.out.lt hx.out LL.out LD.out); have hb3 := C3.out.keep HV.out.blk (fun h => h); have y0 := (blk_cell hb3 0).trans rfl; have y1 := (blk_cell hb3 1).trans rfl; have y2 := (blk_cell hb3 2).trans rfl; clear c3 hb3)
          | (go_at_call 64; go_loud (refine L3.out.mono ?_); rintro e w4 ⟨rfl, h4, c4⟩; have H4 := Aside0.mk h4; have C4 := Aside0.mk ((HV.out.ch.trans (C3.out.mono (T := y.own) (fun _ _ hk => hk.elim)) (fun _ _ hk => hk)).trans c4 (fun _ _ hk => hk)); clear h4 c4))
        go_end0
        refine ⟨rfl, ?_, C4.out⟩
        rw [E0.out]; exact H4.out
end Go.Proofs.Ytcpjjnikehcleaa.Hq
