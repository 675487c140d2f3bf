/- A walk through code, in memory: through. -/
import Derived.Test.YtcpjjnikehcleaaGe
/- A walk through code, in memory: through. -/
namespace Go.Proofs.Ytcpjjnikehcleaa.Gw
open Go.RowKit PChk Hq Lk Go.Proofs.YtcpjjnikehcleaaW.PrintWords Go.Proofs.YtcpjjnikehcleaaW.PrintLast Go.Proofs.YtcpjjnikehcleaaW.PrintMore
open Go.Maps (Keyed)
set_option linter.unusedVariables false
set_option linter.unusedSimpArgs false

def thOf (op dep next : Int) : Int := if op = 53 then 0 else if op = 3 then dep else if op = 4 then dep else next
theorem thOf_eq (op dep next : Int) : thr (if op = 53 then 1 else if op = 3 ∨ op = 4 then 2 else 0) dep next = thOf op dep next := by
  unfold thr thOf
  by_cases h1 : op = 53
  · simp [h1]
  · by_cases h2 : op = 3
    · simp [h1, h2]
    · by_cases h3 : op = 4
      · simp [h1, h2, h3]
      · simp [h1, h2, h3]
/-- Behind through. -/
def Thru (w0 : World) (y : WL) (xs : List S36) (g : List Bool) (r : Option (List Int)) (w : World) (e : Ending) (w' : World) : Prop :=
  ∃ h d' s', e = .returned (.bool r.isSome) ∧ (∀ d1, r = some d1 → d' = d1) ∧ WAt w0 w' { y with h := h } xs d' s' ∧ Rel xs.length d' g s' ∧ Ch (Touch y) w w' ∧ (∀ k, h.own k → y.h.own k ∨ w.heap.size ≤ k)
theorem fall_post {nd : Nod} {n i : Nat} {nx : Int} {d : List Int} (hj : nd.jump = false) : (decide (i + 1 ≠ n) && okL d (i + 1) nx) = (fallL nd n i nx d).isSome ∧ (∀ d1, fallL nd n i nx d = some d1 → (if i + 1 = n then d else meetL d (i + 1) nx) = d1) := by
  unfold fallL
  rw [hj]
  by_cases h1 : i + 1 = n
  · simp [h1]
  · cases h2 : okL d (i + 1) nx <;> simp [h1, h2]
theorem fall_jump {nd : Nod} {n i : Nat} {nx : Int} {d : List Int} (hj : nd.jump = true) : fallL nd n i nx d = some d := by
  unfold fallL; rw [hj]; rfl
set_option maxHeartbeats 4000000 in
set_option maxRecDepth 100000 in
theorem thru_calls (w0 w : World) (y : WL) (xs : List S36) (d : List Int) (g : List Bool) (s : HS) (i : Nat) (dep : Int) (h : WAt w0 w y xs d s) (hR : Rel xs.length d g s) (hn : xs.length ≤ 8192) (hi : i < xs.length) (hdep : dp d i = dep) (h0 : 0 ≤ dep) (h1 : dep ≤ 100000)
    (hF : Fit xs.length (rd_T36 xs i)) :
    Calls Try.prog 48 #[.pointer (some ⟨y.g, 0, none⟩), .int .i64 (i : Int), .int .i64 dep] w (Thru w0 y xs g (gotoL (nod (rd_T36 xs i)) xs.length i d) w) := by
  have hu59 := Try.underlying59
  have hu22 := Try.underlying22
  have hu36 := Try.underlying36
  have hu55 := Try.underlying55
  have g0 := (blk_cell h.blk 0).trans rfl
  obtain ⟨n, hN⟩ : ∃ n, xs.length = n := ⟨_, rfl⟩
  rw [hN] at g0
  obtain ⟨ad, hA, a0, a1, a2, a3⟩ := at_T36 h.code (i : Int) (by omega) (by omega)
  rw [hA] at g0
  rw [Int.toNat_natCast] at a0 a1 a2 a3
  replace a0 := (h.below.cell (World.block_lt_of_cell? w0 _ a0)).trans a0
  replace a1 := (h.below.cell (World.block_lt_of_cell? w0 _ a1)).trans a1
  replace a2 := (h.below.cell (World.block_lt_of_cell? w0 _ a2)).trans a2
  replace a3 := (h.below.cell (World.block_lt_of_cell? w0 _ a3)).trans a3
  have hks := kd_some hF.op0 hF.op1
  have hkl := kd_le hF.op0 hF.op1
  have q1 : (0 ≤ (i : Int)) = True := eq_true (by omega)
  have q2 : ((i : Int) < (n : Int)) = True := eq_true (by omega)
  have H := Aside0.mk h
  have HR := Aside0.mk hR
  have HF := Aside0.mk hF
  have HN := Aside0.mk hN
  clear h hR hF hN
  generalize hx : rd_T36 xs i = x at *
  generalize hK : kd x.f0 = K at *
  have HK := Aside0.mk hK
  clear hx hK
  obtain ⟨word, ka, knum, ktext, ktakes, kleave, kmany, kends⟩ := K
  have KC := Aside0.mk (fun w1 => instr_kindOf.calls x.f0 word ka knum ktext ktakes kleave kmany kends w1 hks)
  clear hks
  simp only at hkl
  go_enter Try.func48, Try.ntmps48
  have ⟨tk, htk⟩ : ∃ tk, tk = ktakes + (if kmany = true then x.f1 else 0) := ⟨_, rfl⟩
  have HTK := Aside0.mk htk
  have htb : 0 ≤ tk ∧ tk < 2000000 := by have := HF.out.a0; have := HF.out.a1; rw [htk]; split <;> omega
  have htw : kmany = true → IntKind.i64.wrap (ktakes + x.f1) = tk := fun e => by rw [htk, if_pos e, IntKind.wrap_i64]; have := HF.out.a0; have := HF.out.a1; omega
  have htf : kmany = false → ktakes = tk := fun e => by rw [htk, if_neg (by rw [e]; decide)]; omega
  clear htk
  have HTW := Aside0.mk htw
  have HTF := Aside0.mk htf
  have HKL := Aside0.mk hkl
  clear htw htf hkl
  go_upto_if 25 with (go_at_call 20; go_loud (refine (KC.out _).mono ?_; rintro e w1 ⟨rfl, hb⟩; have C1 := Aside0.mk (((Ch.refl (fun _ => False) w).alloc (.cells #[.int .u8 x.f0, .int .i64 x.f1, .int .i64 x.f2, .string x.f3] 36)).trans (Ch.of_below (S := fun _ => False) hb (fun k hk hle => by omega)) (fun _ _ hk => hk)); have X1 := Aside0.mk ((Ch.of_below (S := fun _ => False) hb (fun k hk hle => by omega)).keep (blk_new w (.cells #[.int .u8 x.f0, .int .i64 x.f1, .int .i64 x.f2, .string x.f3] 36)) (fun h => h)); have z0 := (blk_cell X1.out 0).trans rfl; have z1 := (blk_cell X1.out 1).trans rfl; have hlt1 : w.heap.size < w1.heap.size := (by have := hb.size; simp at this; omega); clear hb))
  go_cut [9] (fun v9 wc => v9 = .int .i64 tk ∧ wc = w1.alloc (.cells #[.string word, .int .u8 ka, .bool knum, .int .u8 ktext, .int .i64 ktakes, .int .i64 kleave, .bool kmany, .bool kends] 55))
  case first =>
    cases kmany with
    | true =>
      have hw := HTW.out rfl
      go_wp2
      go_meet
      case rel => exact ⟨rfl, rfl⟩
    | false =>
      have hw := HTF.out rfl
      go_wp2
      go_meet
      case rel => exact ⟨rfl, by rw [hw]⟩
  case rest =>
    obtain ⟨rfl, rfl⟩ := hcut
    have hnd := Aside0.mk (show nod x = ⟨tk, kleave, kends, if ka = 116 then some x.f1.toNat else none, x.f0 == 1, if x.f0 = 53 then 1 else if x.f0 = 3 ∨ x.f0 = 4 then 2 else 0⟩ by unfold nod; rw [HK.out, HTK.out])
    have C2 := Aside0.mk (C1.out.alloc (.cells #[.string word, .int .u8 ka, .bool knum, .int .u8 ktext, .int .i64 ktakes, .int .i64 kleave, .bool kmany, .bool kends] 55))
    have X2 := Aside0.mk (((Ch.refl (fun _ => False) w1).alloc (.cells #[.string word, .int .u8 ka, .bool knum, .int .u8 ktext, .int .i64 ktakes, .int .i64 kleave, .bool kmany, .bool kends] 55)).keep X1.out (fun h => h))
    have K2 := Aside0.mk (blk_new w1 (.cells #[.string word, .int .u8 ka, .bool knum, .int .u8 ktext, .int .i64 ktakes, .int .i64 kleave, .bool kmany, .bool kends] 55))
    have H2 := Aside0.mk (H.out.same C2.out)
    have hT : ∀ k, Touch y k → k < w.heap.size := fun k hk => by
      rcases hk with rfl | hk
      · exact (H.out.row.lt _ rfl).2
      · exact (H.out.heap.lt hk).2
    have N1 := Aside0.mk (show ¬ Touch y w.heap.size from fun hk => by have := hT _ hk; omega)
    have N2 := Aside0.mk (show ¬ Touch y w1.heap.size from fun hk => by have := hT _ hk; omega)
    clear X1 z0 z1 hT g0 a0 a1 a2 a3
    generalize hW2 : w1.alloc (.cells #[.string word, .int .u8 ka, .bool knum, .int .u8 ktext, .int .i64 ktakes, .int .i64 kleave, .bool kmany, .bool kends] 55) = W2 at *
    clear hW2 C1 hlt1
    generalize hb2 : w1.heap.size = b2 at *
    generalize hb1 : w.heap.size = b1 at *
    clear hb2
    have z0 := (blk_cell X2.out 0).trans rfl
    have z1 := (blk_cell X2.out 1).trans rfl
    have k1 := (blk_cell K2.out 1).trans rfl
    have k5 := (blk_cell K2.out 5).trans rfl
    have k7 := (blk_cell K2.out 7).trans rfl
    cases kends with
    | true =>
      go_wp2
      go_ret
      refine ⟨y.h, d, s, ?_, ?_, H2.out, HR.out, C2.out.mono (fun _ _ hk => hk.elim), fun _ hk => .inl hk⟩
      · rw [hnd.out]; unfold gotoL; simp only [hdep, if_true]
        by_cases e : dep = tk <;> simp [e]
      · intro d1 hd1
        rw [hnd.out] at hd1; unfold gotoL at hd1; simp only [if_true] at hd1
        split at hd1 <;> simp at hd1
        exact hd1
    | false =>
      by_cases hlt : dep < tk
      · have e1 : decide (dep < tk) = true := decide_eq_true hlt
        go_wp2
        go_ret
        have e : gotoL (nod x) xs.length i d = none := by rw [hnd.out]; unfold gotoL; simp [hdep, hlt]
        rw [e]
        exact ⟨y.h, d, s, rfl, fun d1 hd1 => by simp at hd1, H2.out, HR.out, C2.out.mono (fun _ _ hk => hk.elim), fun _ hk => .inl hk⟩
      · have e1 : decide (dep < tk) = false := decide_eq_false hlt
        obtain ⟨df, hdf⟩ : ∃ df, dep - tk = df := ⟨_, rfl⟩
        obtain ⟨nx, hnx⟩ : ∃ nx, df + kleave = nx := ⟨_, rfl⟩
        have hkl := HKL.out
        have w2 : IntKind.i64.wrap (dep - tk) = df := by rw [IntKind.wrap_i64]; omega
        have w3 : IntKind.i64.wrap (df + kleave) = nx := by rw [IntKind.wrap_i64]; omega
        have hnx0 : 0 ≤ nx ∧ nx ≤ 100001 := by omega
        have HNX := Aside0.mk hnx0
        have HDF := Aside0.mk (show nx = dep - tk + kleave by omega)
        clear hkl hnx0 hdf hnx
        go_upto_block 0 with (fail)
        go_cut [11, 46] (fun v11 v46 wc => v11 = .int .i64 (thOf x.f0 dep nx) ∧ v46 = .int .u8 x.f0 ∧ wc = W2)
        case first =>
          by_cases o1 : x.f0 = 53
          · have b1' : (x.f0 == 53) = true := beq_iff_eq.mpr o1
            have he := Aside0.mk (show thOf x.f0 dep nx = 0 by unfold thOf; rw [if_pos o1])
            go_wp2
            go_meet
            case rel => exact ⟨by rw [he.out], by first | rfl | rw [o1] | rw [o2] | rw [o3], rfl⟩
          · have b1' : (x.f0 == 53) = false := beq_eq_false_iff_ne.mpr o1
            by_cases o2 : x.f0 = 3
            · have b2' : (x.f0 == 3) = true := beq_iff_eq.mpr o2
              have he := Aside0.mk (show thOf x.f0 dep nx = dep by unfold thOf; rw [if_neg o1, if_pos o2])
              go_wp2
              go_meet
              case rel => exact ⟨by rw [he.out], by first | rfl | rw [o1] | rw [o2] | rw [o3], rfl⟩
            · have b2' : (x.f0 == 3) = false := beq_eq_false_iff_ne.mpr o2
              by_cases o3 : x.f0 = 4
              · have b3' : (x.f0 == 4) = true := beq_iff_eq.mpr o3
                have he := Aside0.mk (show thOf x.f0 dep nx = dep by unfold thOf; rw [if_neg o1, if_neg o2, if_pos o3])
                go_wp2
                go_meet
                case rel => exact ⟨by rw [he.out], by first | rfl | rw [o1] | rw [o2] | rw [o3], rfl⟩
              · have b3' : (x.f0 == 4) = false := beq_eq_false_iff_ne.mpr o3
                have he := Aside0.mk (show thOf x.f0 dep nx = nx by unfold thOf; rw [if_neg o1, if_neg o2, if_neg o3])
                go_wp2
                go_meet
                case rel => exact ⟨by rw [he.out], by first | rfl | rw [o1] | rw [o2] | rw [o3], rfl⟩
        case rest =>
          obtain ⟨rfl, rfl, rfl⟩ := hcut
          have hT0 : 0 ≤ thOf x.f0 dep nx := by have := HNX.out; unfold thOf; split; omega; split; omega; split; omega; omega
          have HT0 := Aside0.mk hT0
          clear hT0
          have hg := Aside0.mk (show gotoL (nod x) xs.length i d = match (if ka = 116 then some x.f1.toNat else none : Option Nat) with
              | some t => if okL d t (thOf x.f0 dep nx) then fallL (nod x) xs.length i nx (meetL d t (thOf x.f0 dep nx)) else none
              | none => fallL (nod x) xs.length i nx d by
            rw [hnd.out]; unfold gotoL; simp only [hdep, ← HDF.out, thOf_eq]; rw [if_neg (by simp), if_neg hlt]; by_cases ha : ka = 116 <;> simp [ha])
          generalize hTT : thOf x.f0 dep nx = T at *
          obtain ⟨i1, hi1⟩ : ∃ i1, i + 1 = i1 := ⟨_, rfl⟩
          have w4 : IntKind.i64.wrap ((i : Int) + 1) = i1 := by rw [IntKind.wrap_i64]; omega
          have HI1 := Aside0.mk hi1
          have hj : (nod x).jump = (x.f0 == 1) := rfl
          clear hi1 hTT e1
          by_cases ha : ka = 116
          · have b116 : (ka == 116) = true := beq_iff_eq.mpr ha
            have htg := HF.out.tgt (by rw [HK.out]; exact ha)
            have ha0 := HF.out.a0
            obtain ⟨t, ht⟩ : ∃ t : Nat, x.f1 = (t : Int) := ⟨x.f1.toNat, by omega⟩
            have htn : t < xs.length := by omega
            have hg := Aside0.mk (show gotoL (nod x) xs.length i d = if okL d t T then fallL (nod x) xs.length i nx (meetL d t T) else none by
              rw [hg.out, if_pos ha, ht, Int.toNat_natCast])
            have MC := meet_calls w0 wc y xs d g s t T H2.out HR.out hn (by omega) HT0.out
            rw [if_neg (by omega), decide_eq_true (show t ≠ xs.length by omega), Bool.true_and] at MC
            have HTN := Aside0.mk htn
            clear htg ha0 htn
            cases hok : okL d t T with
            | false =>
              rw [hok] at MC
              have MC := Aside0.mk MC
              go_wp2_with (go_at_call 46; go_loud (refine MC.out.mono ?_; rintro e w6 ⟨h6, s6, rfl, hW, hRr, hC, hO⟩; have W6 := Aside0.mk hW; have R6 := Aside0.mk hRr; have C6 := Aside0.mk hC; have O6 := Aside0.mk hO; clear hW hRr hC hO))
              go_ret
              rw [hg.out, hok]
              exact ⟨h6, _, s6, rfl, fun d1 hd1 => by simp at hd1, W6.out, R6.out, (C2.out.mono (fun _ _ hk => hk.elim)).trans C6.out (fun _ _ hk => hk), fun k hk => (O6.out k hk).imp id (fun h => Nat.le_trans C2.out.size h)⟩
            | true =>
              rw [hok] at MC
              have MC := Aside0.mk MC
              rw [hok, if_pos rfl] at hg
              cases hb : (x.f0 == 1) with
              | true =>
                rw [hb] at hj
                go_wp2_with (go_at_call 46; go_loud (refine MC.out.mono ?_; rintro e w6 ⟨h6, s6, rfl, hW, hRr, hC, hO⟩; have W6 := Aside0.mk hW; have R6 := Aside0.mk hRr; have hb6 := hC.keep X2.out N1.out; have v0 := (blk_cell hb6 0).trans rfl; have C6 := Aside0.mk hC; have O6 := Aside0.mk hO; clear hW hRr hC hO hb6))
                go_ret
                rw [hg.out, fall_jump hj]
                exact ⟨h6, _, s6, rfl, fun d1 hd1 => Option.some.inj hd1, W6.out, R6.out, (C2.out.mono (fun _ _ hk => hk.elim)).trans C6.out (fun _ _ hk => hk), fun k hk => (O6.out k hk).imp id (fun h => Nat.le_trans C2.out.size h)⟩
              | false =>
                rw [hb] at hj
                have TK : True := trivial
                go_wp2_with (first
                  | (clear TK; go_at_call 46; go_loud (refine MC.out.mono ?_; rintro e w6 ⟨h6, s6, rfl, hW, hRr, hC, hO⟩; have W6 := Aside0.mk hW; have R6 := Aside0.mk hRr; have hb6 := hC.keep X2.out N1.out; have v0 := (blk_cell hb6 0).trans rfl; have C6 := Aside0.mk hC; have O6 := Aside0.mk hO; have M2 := Aside0.mk (meet_calls w0 w6 { y with h := h6 } xs (meetL d t T) g s6 i1 nx hW hRr hn (by have := HI1.out; omega) HNX.out.1); clear hW hRr hC hO hb6))
                  | (go_at_call 46; go_loud (refine M2.out.mono ?_; rintro e w7 ⟨h7, s7, rfl, hW, hRr, hC, hO⟩; have W7 := Aside0.mk hW; have R7 := Aside0.mk hRr; have C7 := Aside0.mk hC; have O7 := Aside0.mk hO; clear hW hRr hC hO)))
                go_ret
                have hf := fall_post (n := xs.length) (i := i) (nx := nx) (d := meetL d t T) hj
                rw [HI1.out] at hf
                rw [hg.out]
                refine ⟨h7, _, s7, by rw [← hf.1, decide_not]; rfl, hf.2, W7.out, R7.out, ((C2.out.mono (fun _ _ hk => hk.elim)).trans C6.out (fun _ _ hk => hk)).trans C7.out (fun k hk ho => ?_), fun k hk => ?_⟩
                · rcases ho with ho | ho
                  · exact .inl ho
                  · exact (O6.out k ho).elim .inr (fun h => by have := C2.out.size; omega)
                · exact (O7.out k hk).elim (fun h => (O6.out k h).imp id (fun h => Nat.le_trans C2.out.size h)) (fun h => .inr (Nat.le_trans (Nat.le_trans C2.out.size C6.out.size) h))
          · have b116 : (ka == 116) = false := beq_eq_false_iff_ne.mpr ha
            have hg := Aside0.mk (show gotoL (nod x) xs.length i d = fallL (nod x) xs.length i nx d by rw [hg.out, if_neg ha])
            cases hb : (x.f0 == 1) with
            | true =>
              rw [hb] at hj
              go_wp2
              go_ret
              rw [hg.out, fall_jump hj]
              exact ⟨y.h, d, s, rfl, fun d1 hd1 => Option.some.inj hd1, H2.out, HR.out, C2.out.mono (fun _ _ hk => hk.elim), fun _ hk => .inl hk⟩
            | false =>
              rw [hb] at hj
              have MC := Aside0.mk (meet_calls w0 wc y xs d g s i1 nx H2.out HR.out hn (by have := HI1.out; omega) HNX.out.1)
              go_wp2_with (go_at_call 46; go_loud (refine MC.out.mono ?_; rintro e w6 ⟨h6, s6, rfl, hW, hRr, hC, hO⟩; have W6 := Aside0.mk hW; have R6 := Aside0.mk hRr; have C6 := Aside0.mk hC; have O6 := Aside0.mk hO; clear hW hRr hC hO))
              go_ret
              have hf := fall_post (n := xs.length) (i := i) (nx := nx) (d := d) hj
              rw [HI1.out] at hf
              rw [hg.out]
              refine ⟨h6, _, s6, by rw [← hf.1, decide_not]; rfl, hf.2, W6.out, R6.out, (C2.out.mono (fun _ _ hk => hk.elim)).trans C6.out (fun _ _ hk => hk), fun k hk => (O6.out k hk).imp id (fun h => Nat.le_trans C2.out.size h)⟩
end Go.Proofs.Ytcpjjnikehcleaa.Gw
/- A walk through code, in memory: all. -/
namespace Go.Proofs.Ytcpjjnikehcleaa.Gw
open Go.RowKit PChk Hq Lk Go.Proofs.YtcpjjnikehcleaaW.PrintWords Go.Proofs.YtcpjjnikehcleaaW.PrintLast Go.Proofs.YtcpjjnikehcleaaW.PrintMore
open Go.Maps (Keyed)
set_option linter.unusedVariables false
set_option linter.unusedSimpArgs false

theorem meetL_le {d : List Int} {t : Nat} {x m : Int} (hx : x ≤ m) (hd : ∀ j, dp d j ≤ m) : ∀ j, dp (meetL d t x) j ≤ m := by
  intro j
  unfold meetL
  split
  · by_cases ht : t < d.length
    · rw [dp_set ht]; split
      · exact hx
      · exact hd j
    · rw [List.set_eq_of_length_le (by omega)]; exact hd j
  · exact hd j
theorem fallL_le {nd : Nod} {n i : Nat} {nx m : Int} {d d' : List Int} (hx : nx ≤ m) (hd : ∀ j, dp d j ≤ m) (h : fallL nd n i nx d = some d') : ∀ j, dp d' j ≤ m := by
  unfold fallL at h
  split at h
  · cases h; exact hd
  · split at h
    · cases h
    · split at h
      · cases h; exact meetL_le hx hd
      · cases h
theorem gotoL_le {nd : Nod} {n i : Nat} {m : Int} {d d' : List Int} (hl : nd.leave ≤ 1) (ht : 0 ≤ nd.takes) (h0 : 0 ≤ dp d i) (hd : ∀ j, dp d j ≤ m) (h : gotoL nd n i d = some d') : ∀ j, dp d' j ≤ m + 1 := by
  have hi := hd i
  have hd1 : ∀ j, dp d j ≤ m + 1 := fun j => by have := hd j; omega
  have hth : thr nd.mode (dp d i) (dp d i - nd.takes + nd.leave) ≤ m + 1 := by unfold thr; split; omega; split <;> omega
  unfold gotoL at h
  split at h
  · split at h
    · cases h; exact hd1
    · cases h
  · split at h
    · cases h
    · split at h
      · split at h
        · exact fallL_le (by omega) (meetL_le hth hd1) h
        · cases h
      · exact fallL_le (by omega) hd1 h
def nodN (xs : List S36) (i : Nat) : Nod := nod (rd_T36 xs i)
def negs (n : Nat) : List Int := List.replicate n (-1)
def noneGone (n : Nat) : List Bool := List.replicate n false
theorem negs_dp (n i : Nat) : dp (negs n) i = -1 := by
  unfold dp negs
  by_cases hi : i < n
  · simp [hi]
  · simp [hi]
theorem noneGone_gn (n i : Nat) : gn (noneGone n) i = false := by
  unfold gn noneGone
  by_cases hi : i < n
  · simp [hi]
  · simp [hi]
theorem Rel.born (n : Nat) : Rel n (negs n) (noneGone n) newS := by
  have hw : ∀ i, wait (negs n) (noneGone n) i = false := fun i => by unfold wait; rw [negs_dp]; rfl
  have hm : metN (negs n) = 0 := by unfold metN negs; rw [List.countP_replicate]; rfl
  refine ⟨HInv.new, by simp [negs], by simp [noneGone], ?_, by rw [hm]; rfl, fun x hx => by simp [newS] at hx, fun i _ h => (by rw [hw] at h; cases h), List.Pairwise.nil, fun i h => (by rw [noneGone_gn] at h; cases h)⟩
  rw [hm]; simp [newS, noneGone, List.count_replicate]
end Go.Proofs.Ytcpjjnikehcleaa.Gw
/- A walk through code, in memory: all. -/
namespace Go.Proofs.Ytcpjjnikehcleaa.Gw
open Go.RowKit PChk Hq Lk Go.Proofs.YtcpjjnikehcleaaW.PrintWords Go.Proofs.YtcpjjnikehcleaaW.PrintLast Go.Proofs.YtcpjjnikehcleaaW.PrintMore
open Go.Maps (Keyed)
set_option linter.unusedVariables false
set_option linter.unusedSimpArgs false

/-- Where all ends. -/
def allR (xs : List S36) : Option (Sum (List Int) Nat) := runL (nodN xs) xs.length (xs.length + 1) (Lk.start xs.length) (noneGone xs.length)
def allV : Option (Sum (List Int) Nat) → Int
  | some (.inr i) => i
  | _ => -1
/-- Behind all. -/
def AllPost (w0 : World) (y : WL) (xs : List S36) (w : World) (e : Ending) (w' : World) : Prop :=
  ∃ h d s, e = .returned (.int .i64 (allV (allR xs))) ∧ (∀ d1, allR xs = some (.inl d1) → d = d1) ∧ WAt w0 w' { y with h := h } xs d s ∧ Ch (Touch y) w w' ∧ (∀ k, h.own k → y.h.own k ∨ w.heap.size ≤ k)
/-- Before each round of all. -/
structure AInv (w0 w : World) (y : WL) (xs : List S36) (kq : Nat) (w' : World) (h : Lay) (d : List Int) (g : List Bool) (s : HS) : Prop where
  at_ : WAt w0 w' { y with h := h } xs d s
  rel : Rel xs.length d g s
  run : runL (nodN xs) xs.length (kq + 1) d g = allR xs
  cnt : g.count false = kq
  dep : ∀ j, dp d j ≤ (g.count true : Nat)
  ch : Ch (Touch y) w w'
  own : ∀ k, h.own k → y.h.own k ∨ w.heap.size ≤ k
set_option maxHeartbeats 4000000 in
set_option maxRecDepth 100000 in
theorem all_calls (w0 w : World) (y : WL) (xs : List S36) (h : WAt w0 w y xs (negs xs.length) newS) (hn : xs.length ≤ 8192) (hn0 : 0 < xs.length) (hF : ∀ i : Nat, i < xs.length → Fit xs.length (rd_T36 xs i)) :
    Calls Try.prog 32 #[.pointer (some ⟨y.g, 0, none⟩)] w (AllPost w0 y xs w) := by
  have hu59 := Try.underlying59
  have hm0 : meetL (negs xs.length) 0 0 = Lk.start xs.length := by unfold meetL; rw [negs_dp]; rfl
  have MC := meet_calls w0 w y xs (negs xs.length) (noneGone xs.length) newS 0 0 h (Rel.born _) hn (by omega) (by omega)
  rw [if_neg (by omega), hm0] at MC
  have MC := Aside0.mk MC
  go_enter Try.func32, Try.ntmps32
  go_wp2_with (go_at_call 46; go_loud (refine MC.out.mono ?_; rintro e w1 ⟨h1, s1, rfl, hW, hRr, hC, hO⟩; have W1 := Aside0.mk hW; have R1 := Aside0.mk hRr; have C1 := Aside0.mk hC; have O1 := Aside0.mk hO; clear hW hRr hC hO))
  go_loopg [] xs.length (fun kq w' => ∃ h d g s, Aside0 (AInv w0 w y xs kq w' h d g s))
  case atStart =>
    refine ⟨h1, _, _, s1, ⟨⟨W1.out, R1.out, rfl, by simp [noneGone, List.count_replicate], fun j => ?_, C1.out, O1.out⟩⟩⟩
    rw [start_dp hn0]
    split <;> omega
  case round =>
    obtain ⟨h, d, g, s, HV⟩ := hrel
    have g2 := (blk_cell HV.out.at_.blk 2).trans rfl
    have hsm := HV.out.rel.small
    cases hl : s.l with
    | nil =>
      have hnx := HV.out.rel.empty hl
      have hr := HV.out.run
      unfold runL at hr
      rw [hnx] at hr
      have HRr := Aside0.mk hr
      have PC := Aside0.mk (pop_none _ wr h s HV.out.at_.heap hl)
      clear hr hnx hsm hl
      go_wp2_with (go_at_call 47; go_loud (refine PC.out.mono ?_; rintro e w2 ⟨rfl, y2, h2, hg2, ho2, hc2⟩; have W2 := Aside0.mk (HV.out.at_.heaped hc2 h2 hg2); have O2 := Aside0.mk ho2; have C2 := Aside0.mk (hc2.mono (T := Touch { y with h := h }) (fun k _ hk => .inr hk)); clear h2 hg2 ho2 hc2))
      go_ret
      rw [show AllPost w0 y xs w = AllPost w0 y xs w from rfl]
      refine ⟨y2, d, s, by rw [← HRr.out]; rfl, fun d1 hd1 => ?_, W2.out, HV.out.ch.trans C2.out (fun k hk ho => ?_), fun k hk => ?_⟩
      · rw [← HRr.out] at hd1; cases hd1; rfl
      · rcases ho with ho | ho
        · exact .inl ho
        · exact (HV.out.own k ho).elim .inr (fun h => by omega)
      · exact (O2.out k hk).elim (HV.out.own k) (fun h => .inr (Nat.le_trans HV.out.ch.size h))
    | cons x l =>
      obtain ⟨i, hnx, hi, hk, hv, hpos, hR2⟩ := HV.out.rel.first hl
      have hr := HV.out.run
      have hgi : gn g i = false := by
        have := (nxt_some.1 hnx).2.1
        unfold wait at this
        simp at this
        exact this.2
      have hcnt := gone_count (g := g) (i := i) (by rw [HV.out.rel.glen]; exact hi) hgi
      rw [HV.out.cnt] at hcnt
      obtain ⟨m, rfl⟩ : ∃ m, gk = m + 1 := ⟨gk - 1, by omega⟩
      have hcm : (g.set i true).count false = m := by omega
      have hct : ((g.set i true).count true : Nat) = g.count true + 1 := by
        have h6 : ∀ l : List Bool, l.count true + l.count false = l.length := fun l => by
          induction l with
          | nil => rfl
          | cons b l ih => cases b <;> simp [List.count_cons] <;> omega
        have h7 := h6 g
        have h8 := h6 (g.set i true)
        rw [List.length_set] at h8
        have := HV.out.cnt
        omega
      have hle : g.count true ≤ xs.length := by rw [← HV.out.rel.glen]; exact List.count_le_length
      have hdi := HV.out.dep i
      unfold runL at hr
      rw [hnx] at hr
      simp only at hr
      have PC := Aside0.mk (pop_some _ wr h s x l HV.out.at_.heap HV.out.rel.inv hl (by omega) (by omega))
      have TC := Aside0.mk (fun (w2 : World) (h2 : Lay) (hW : WAt w0 w2 { y with h := h2 } xs d (popS s)) => thru_calls w0 w2 { y with h := h2 } xs d (g.set i true) (popS s) i (dp d i) hW hR2 hn hi rfl hpos (by omega) (hF i hi))
      have HRr := Aside0.mk hr
      have HCM := Aside0.mk hcm
      have HCT := Aside0.mk hct
      have HFi := Aside0.mk (hF i hi)
      have HPos := Aside0.mk hpos
      clear hr hnx hsm hl hgi hcnt hcm hct hle hdi hpos hR2
      cases hg : gotoL (nodN xs i) xs.length i d with
      | none =>
        rw [hg] at HRr
        go_wp2_with (first
          | (go_at_call 47; go_loud (refine PC.out.mono ?_; rintro e w2 ⟨rfl, y2, h2, hg2, ho2, hc2⟩; have hW2 := HV.out.at_.heaped hc2 h2 hg2; have W2 := Aside0.mk hW2; have O2 := Aside0.mk ho2; have C2 := Aside0.mk (hc2.mono (T := Touch { y with h := h }) (fun k _ hk => .inr hk)); have T2 := TC.out w2 y2 hW2; rw [show gotoL (nod (rd_T36 xs i)) xs.length i d = none from hg] at T2; have T2 := Aside0.mk T2; clear h2 hg2 ho2 hc2 hW2))
          | (go_at_call 48; go_loud (refine T2.out.mono ?_; rintro e w3 ⟨h3, d3, s3, rfl, hd3, hW, hRr, hC, hO⟩; have D3 := Aside0.mk hd3; have W3 := Aside0.mk hW; have R3 := Aside0.mk hRr; have C3 := Aside0.mk hC; have O3 := Aside0.mk hO; clear hd3 hW hRr hC hO)))
        have OO := Aside0.mk (show ∀ k, h3.own k → y.h.own k ∨ w.heap.size ≤ k from fun k hk => (O3.out k hk).elim (fun h => (O2.out k h).elim (HV.out.own k) (fun h => .inr (Nat.le_trans HV.out.ch.size h))) (fun h => .inr (Nat.le_trans (Nat.le_trans HV.out.ch.size C2.out.size) h)))
        have CC := Aside0.mk (show Ch (Touch y) w w3 from (HV.out.ch.trans C2.out (fun k hk ho => by
            rcases ho with ho | ho
            · exact .inl ho
            · exact (HV.out.own k ho).elim .inr (fun h => by omega))).trans C3.out (fun k hk ho => by
            rcases ho with ho | ho
            · exact .inl ho
            · exact (O2.out k ho).elim (fun h => (HV.out.own k h).elim .inr (fun h => by omega)) (fun h => by have := HV.out.ch.size; omega)))
        go_ret
        refine ⟨h3, d3, s3, by rw [← HRr.out]; rfl, fun d1 hd1 => ?_, W3.out, CC.out, OO.out⟩
        rw [← HRr.out] at hd1; cases hd1
      | some d' =>
        rw [hg] at HRr
        go_wp2_with (first
          | (go_at_call 47; go_loud (refine PC.out.mono ?_; rintro e w2 ⟨rfl, y2, h2, hg2, ho2, hc2⟩; have hW2 := HV.out.at_.heaped hc2 h2 hg2; have W2 := Aside0.mk hW2; have O2 := Aside0.mk ho2; have C2 := Aside0.mk (hc2.mono (T := Touch { y with h := h }) (fun k _ hk => .inr hk)); have T2 := TC.out w2 y2 hW2; rw [show gotoL (nod (rd_T36 xs i)) xs.length i d = some d' from hg] at T2; have T2 := Aside0.mk T2; clear h2 hg2 ho2 hc2 hW2))
          | (go_at_call 48; go_loud (refine T2.out.mono ?_; rintro e w3 ⟨h3, d3, s3, rfl, hd3, hW, hRr, hC, hO⟩; have D3 := Aside0.mk hd3; have W3 := Aside0.mk hW; have R3 := Aside0.mk hRr; have C3 := Aside0.mk hC; have O3 := Aside0.mk hO; clear hd3 hW hRr hC hO)))
        have OO := Aside0.mk (show ∀ k, h3.own k → y.h.own k ∨ w.heap.size ≤ k from fun k hk => (O3.out k hk).elim (fun h => (O2.out k h).elim (HV.out.own k) (fun h => .inr (Nat.le_trans HV.out.ch.size h))) (fun h => .inr (Nat.le_trans (Nat.le_trans HV.out.ch.size C2.out.size) h)))
        have CC := Aside0.mk (show Ch (Touch y) w w3 from (HV.out.ch.trans C2.out (fun k hk ho => by
            rcases ho with ho | ho
            · exact .inl ho
            · exact (HV.out.own k ho).elim .inr (fun h => by omega))).trans C3.out (fun k hk ho => by
            rcases ho with ho | ho
            · exact .inl ho
            · exact (O2.out k ho).elim (fun h => (HV.out.own k h).elim .inr (fun h => by omega)) (fun h => by have := HV.out.ch.size; omega)))
        go_roundg m
        case measure => omega
        case rel =>
          have e3 : d3 = d' := D3.out d' rfl
          subst e3
          refine ⟨h3, d3, _, s3, ⟨⟨W3.out, R3.out, HRr.out, HCM.out, fun j => ?_, CC.out, OO.out⟩⟩⟩
          have hkl := kd_le HFi.out.op0 HFi.out.op1
          have := gotoL_le (m := (g.count true : Nat)) (by exact hkl.2.2.2) (by have := HFi.out.a0; show 0 ≤ (kd _).2.2.2.2.1 + _; split <;> omega) HPos.out HV.out.dep hg j
          rw [HCT.out]
          omega
end Go.Proofs.Ytcpjjnikehcleaa.Gw
