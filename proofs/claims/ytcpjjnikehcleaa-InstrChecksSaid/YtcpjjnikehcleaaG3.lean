/- A walk through code, in memory: through. -/
import Derived.Test.YtcpjjnikehcleaaG2
namespace Go.Proofs.Ytcpjjnikehcleaa.Gw
open Go.RowKit PChk Hq Lk Go.Proofs.YtcpjjnikehcleaaW.PrintWords Go.Proofs.YtcpjjnikehcleaaW.PrintLast Go.Proofs.YtcpjjnikehcleaaW.PrintMore
open Go.Maps (Keyed)
set_option linter.unusedVariables false
set_option linter.unusedSimpArgs false

def thOf (op dep next : Int) : Int := if op = 53 then 0 else if op = 3 then dep else if op = 4 then dep else next
theorem thOf_eq (op dep next : Int) : thr (if op = 53 then 1 else if op = 3 ∨ op = 4 then 2 else 0) dep next = thOf op dep next := by
  unfold thr thOf
  by_cases h1 : op = 53
  · simp [h1]
  · by_cases h2 : op = 3
    · simp [h1, h2]
    · by_cases h3 : op = 4
      · simp [h1, h2, h3]
      · simp [h1, h2, h3]
/-- Behind through. -/
def Thru (w0 : World) (y : WL) (xs : List S36) (g : List Bool) (r : Option (List Int)) (w : World) (e : Ending) (w' : World) : Prop :=
  ∃ h d' s', e = .returned (.bool r.isSome) ∧ (∀ d1, r = some d1 → d' = d1) ∧ WAt w0 w' { y with h := h } xs d' s' ∧ Rel xs.length d' g s' ∧ Ch (Touch y) w w' ∧ (∀ k, h.own k → y.h.own k ∨ w.heap.size ≤ k)
theorem fall_post {nd : Nod} {n i : Nat} {nx : Int} {d : List Int} (hj : nd.jump = false) : (decide (i + 1 ≠ n) && okL d (i + 1) nx) = (fallL nd n i nx d).isSome ∧ (∀ d1, fallL nd n i nx d = some d1 → (if i + 1 = n then d else meetL d (i + 1) nx) = d1) := by
  unfold fallL
  rw [hj]
  by_cases h1 : i + 1 = n
  · simp [h1]
  · cases h2 : okL d (i + 1) nx <;> simp [h1, h2]
theorem fall_jump {nd : Nod} {n i : Nat} {nx : Int} {d : List Int} (hj : nd.jump = true) : fallL nd n i nx d = some d := by
  unfold fallL; rw [hj]; rfl
set_option maxHeartbeats 4000000 in
set_option maxRecDepth 100000 in
theorem thru_calls (w0 w : World) (y : WL) (xs : List S36) (d : List Int) (g : List Bool) (s : HS) (i : Nat) (dep : Int) (h : WAt w0 w y xs d s) (hR : Rel xs.length d g s) (hn : xs.length ≤ 8192) (hi : i < xs.length) (hdep : dp d i = dep) (h0 : 0 ≤ dep) (h1 : dep ≤ 100000)
    (hF : Fit xs.length (rd_T36 xs i)) :
    Calls Try.prog 48 #[.pointer (some ⟨y.g, 0, none⟩), .int .i64 (i : Int), .int .i64 dep] w (Thru w0 y xs g (gotoL (nod (rd_T36 xs i)) xs.length i d) w) := by
  have hu59 := Try.underlying59
  have hu22 := Try.underlying22
  have hu36 := Try.underlying36
  have hu55 := Try.underlying55
  have g0 := (blk_cell h.blk 0).trans rfl
  obtain ⟨n, hN⟩ : ∃ n, xs.length = n := ⟨_, rfl⟩
  rw [hN] at g0
  obtain ⟨ad, hA, a0, a1, a2, a3⟩ := at_T36 h.code (i : Int) (by omega) (by omega)
  rw [hA] at g0
  rw [Int.toNat_natCast] at a0 a1 a2 a3
  replace a0 := (h.below.cell (World.block_lt_of_cell? w0 _ a0)).trans a0
  replace a1 := (h.below.cell (World.block_lt_of_cell? w0 _ a1)).trans a1
  replace a2 := (h.below.cell (World.block_lt_of_cell? w0 _ a2)).trans a2
  replace a3 := (h.below.cell (World.block_lt_of_cell? w0 _ a3)).trans a3
  have hks := kd_some hF.op0 hF.op1
  have hkl := kd_le hF.op0 hF.op1
  have q1 : (0 ≤ (i : Int)) = True := eq_true (by omega)
  have q2 : ((i : Int) < (n : Int)) = True := eq_true (by omega)
  have H := Aside0.mk h
  have HR := Aside0.mk hR
  have HF := Aside0.mk hF
  have HN := Aside0.mk hN
  clear h hR hF hN
  generalize hx : rd_T36 xs i = x at *
  generalize hK : kd x.f0 = K at *
  have HK := Aside0.mk hK
  clear hx hK
  obtain ⟨word, ka, knum, ktext, ktakes, kleave, kmany, kends⟩ := K
  have KC := Aside0.mk (fun w1 => instr_kindOf.calls x.f0 word ka knum ktext ktakes kleave kmany kends w1 hks)
  clear hks
  simp only at hkl
  go_enter Try.func48, Try.ntmps48
  have ⟨tk, htk⟩ : ∃ tk, tk = ktakes + (if kmany = true then x.f1 else 0) := ⟨_, rfl⟩
  have HTK := Aside0.mk htk
  have htb : 0 ≤ tk ∧ tk < 2000000 := by have := HF.out.a0; have := HF.out.a1; rw [htk]; split <;> omega
  have htw : kmany = true → IntKind.i64.wrap (ktakes + x.f1) = tk := fun e => by rw [htk, if_pos e, IntKind.wrap_i64]; have := HF.out.a0; have := HF.out.a1; omega
  have htf : kmany = false → ktakes = tk := fun e => by rw [htk, if_neg (by rw [e]; decide)]; omega
  clear htk
  have HTW := Aside0.mk htw
  have HTF := Aside0.mk htf
  have HKL := Aside0.mk hkl
  clear htw htf hkl
  go_upto_if 25 with (go_at_call 20; go_loud (refine (KC.out _).mono ?_; rintro e w1 ⟨rfl, hb⟩; have C1 := Aside0.mk (((Ch.refl (fun _ => False) w).alloc (.cells #[.int .u8 x.f0, .int .i64 x.f1, .int .i64 x.f2, .string x.f3] 36)).trans (Ch.of_below (S := fun _ => False) hb (fun k hk hle => by omega)) (fun _ _ hk => hk)); have X1 := Aside0.mk ((Ch.of_below (S := fun _ => False) hb (fun k hk hle => by omega)).keep (blk_new w (.cells #[.int .u8 x.f0, .int .i64 x.f1, .int .i64 x.f2, .string x.f3] 36)) (fun h => h)); have z0 := (blk_cell X1.out 0).trans rfl; have z1 := (blk_cell X1.out 1).trans rfl; have hlt1 : w.heap.size < w1.heap.size := (by have := hb.size; simp at this; omega); clear hb))
  go_cut [9] (fun v9 wc => v9 = .int .i64 tk ∧ wc = w1.alloc (.cells #[.string word, .int .u8 ka, .bool knum, .int .u8 ktext, .int .i64 ktakes, .int .i64 kleave, .bool kmany, .bool kends] 55))
  case first =>
    cases kmany with
    | true =>
      have hw := HTW.out rfl
      go_wp2
      go_meet
      case rel => exact ⟨rfl, rfl⟩
    | false =>
      have hw := HTF.out rfl
      go_wp2
      go_meet
      case rel => exact ⟨rfl, by rw [hw]⟩
  case rest =>
    obtain ⟨rfl, rfl⟩ := hcut
    have hnd := Aside0.mk (show nod x = ⟨tk, kleave, kends, if ka = 116 then some x.f1.toNat else none, x.f0 == 1, if x.f0 = 53 then 1 else if x.f0 = 3 ∨ x.f0 = 4 then 2 else 0⟩ by unfold nod; rw [HK.out, HTK.out])
    have C2 := Aside0.mk (C1.out.alloc (.cells #[.string word, .int .u8 ka, .bool knum, .int .u8 ktext, .int .i64 ktakes, .int .i64 kleave, .bool kmany, .bool kends] 55))
    have X2 := Aside0.mk (((Ch.refl (fun _ => False) w1).alloc (.cells #[.string word, .int .u8 ka, .bool knum, .int .u8 ktext, .int .i64 ktakes, .int .i64 kleave, .bool kmany, .bool kends] 55)).keep X1.out (fun h => h))
    have K2 := Aside0.mk (blk_new w1 (.cells #[.string word, .int .u8 ka, .bool knum, .int .u8 ktext, .int .i64 ktakes, .int .i64 kleave, .bool kmany, .bool kends] 55))
    have H2 := Aside0.mk (H.out.same C2.out)
    have hT : ∀ k, Touch y k → k < w.heap.size := fun k hk => by
      rcases hk with rfl | hk
      · exact (H.out.row.lt _ rfl).2
      · exact (H.out.heap.lt hk).2
    have N1 := Aside0.mk (show ¬ Touch y w.heap.size from fun hk => by have := hT _ hk; omega)
    have N2 := Aside0.mk (show ¬ Touch y w1.heap.size from fun hk => by have := hT _ hk; omega)
    clear X1 z0 z1 hT g0 a0 a1 a2 a3
    generalize hW2 : w1.alloc (.cells #[.string word, .int .u8 ka, .bool knum, .int .u8 ktext, .int .i64 ktakes, .int .i64 kleave, .bool kmany, .bool kends] 55) = W2 at *
    clear hW2 C1 hlt1
    generalize hb2 : w1.heap.size = b2 at *
    generalize hb1 : w.heap.size = b1 at *
    clear hb2
    have z0 := (blk_cell X2.out 0).trans rfl
    have z1 := (blk_cell X2.out 1).trans rfl
    have k1 := (blk_cell K2.out 1).trans rfl
    have k5 := (blk_cell K2.out 5).trans rfl
    have k7 := (blk_cell K2.out 7).trans rfl
    cases kends with
    | true =>
      go_wp2
      go_ret
      refine ⟨y.h, d, s, ?_, ?_, H2.out, HR.out, C2.out.mono (fun _ _ hk => hk.elim), fun _ hk => .inl hk⟩
      · rw [hnd.out]; unfold gotoL; simp only [hdep, if_true]
        by_cases e : dep = tk <;> simp [e]
      · intro d1 hd1
        rw [hnd.out] at hd1; unfold gotoL at hd1; simp only [if_true] at hd1
        split at hd1 <;> simp at hd1
        exact hd1
    | false =>
      by_cases hlt : dep < tk
      · have e1 : decide (dep < tk) = true := decide_eq_true hlt
        go_wp2
        go_ret
        have e : gotoL (nod x) xs.length i d = none := by rw [hnd.out]; unfold gotoL; simp [hdep, hlt]
        rw [e]
        exact ⟨y.h, d, s, rfl, fun d1 hd1 => by simp at hd1, H2.out, HR.out, C2.out.mono (fun _ _ hk => hk.elim), fun _ hk => .inl hk⟩
      · have e1 : decide (dep < tk) = false := decide_eq_false hlt
        obtain ⟨df, hdf⟩ : ∃ df, dep - tk = df := ⟨_, rfl⟩
        obtain ⟨nx, hnx⟩ : ∃ nx, df + kleave = nx := ⟨_, rfl⟩
        have hkl := HKL.out
        have w2 : IntKind.i64.wrap (dep - tk) = df := by rw [IntKind.wrap_i64]; omega
        have w3 : IntKind.i64.wrap (df + kleave) = nx := by rw [IntKind.wrap_i64]; omega
        have hnx0 : 0 ≤ nx ∧ nx ≤ 100001 := by omega
        have HNX := Aside0.mk hnx0
        have HDF := Aside0.mk (show nx = dep - tk + kleave by omega)
        clear hkl hnx0 hdf hnx
        go_upto_block 0 with (fail)
        go_cut [11, 46] (fun v11 v46 wc => v11 = .int .i64 (thOf x.f0 dep nx) ∧ v46 = .int .u8 x.f0 ∧ wc = W2)
        case first =>
          by_cases o1 : x.f0 = 53
          · have b1' : (x.f0 == 53) = true := beq_iff_eq.mpr o1
            have he := Aside0.mk (show thOf x.f0 dep nx = 0 by unfold thOf; rw [if_pos o1])
            go_wp2
            go_meet
            case rel => exact ⟨by rw [he.out], by first | rfl | rw [o1] | rw [o2] | rw [o3], rfl⟩
          · have b1' : (x.f0 == 53) = false := beq_eq_false_iff_ne.mpr o1
            by_cases o2 : x.f0 = 3
            · have b2' : (x.f0 == 3) = true := beq_iff_eq.mpr o2
              have he := Aside0.mk (show thOf x.f0 dep nx = dep by unfold thOf; rw [if_neg o1, if_pos o2])
              go_wp2
              go_meet
              case rel => exact ⟨by rw [he.out], by first | rfl | rw [o1] | rw [o2] | rw [o3], rfl⟩
            · have b2' : (x.f0 == 3) = false := beq_eq_false_iff_ne.mpr o2
              by_cases o3 : x.f0 = 4
              · have b3' : (x.f0 == 4) = true := beq_iff_eq.mpr o3
                have he := Aside0.mk (show thOf x.f0 dep nx = dep by unfold thOf; rw [if_neg o1, if_neg o2, if_pos o3])
                go_wp2
                go_meet
                case rel => exact ⟨by rw [he.out], by first | rfl | rw [o1] | rw [o2] | rw [o3], rfl⟩
              · have b3' : (x.f0 == 4) = false := beq_eq_false_iff_ne.mpr o3
                have he := Aside0.mk (show thOf x.f0 dep nx = nx by unfold thOf; rw [if_neg o1, if_neg o2, if_neg o3])
                go_wp2
                go_meet
                case rel => exact ⟨by rw [he.out], by first | rfl | rw [o1] | rw [o2] | rw [o3], rfl⟩
        case rest =>
          obtain ⟨rfl, rfl, rfl⟩ := hcut
          have hT0 : 0 ≤ thOf x.f0 dep nx := by have := HNX.out; unfold thOf; split; omega; split; omega; split; omega; omega
          have HT0 := Aside0.mk hT0
          clear hT0
          have hg := Aside0.mk (show gotoL (nod x) xs.length i d = match (if ka = 116 then some x.f1.toNat else none : Option Nat) with
              | some t => if okL d t (thOf x.f0 dep nx) then fallL (nod x) xs.length i nx (meetL d t (thOf x.f0 dep nx)) else none
              | none => fallL (nod x) xs.length i nx d by
            rw [hnd.out]; unfold gotoL; simp only [hdep, ← HDF.out, thOf_eq]; rw [if_neg (by simp), if_neg hlt]; by_cases ha : ka = 116 <;> simp [ha])
          generalize hTT : thOf x.f0 dep nx = T at *
          obtain ⟨i1, hi1⟩ : ∃ i1, i + 1 = i1 := ⟨_, rfl⟩
          have w4 : IntKind.i64.wrap ((i : Int) + 1) = i1 := by rw [IntKind.wrap_i64]; omega
          have HI1 := Aside0.mk hi1
          have hj : (nod x).jump = (x.f0 == 1) := rfl
          clear hi1 hTT e1
          by_cases ha : ka = 116
          · have b116 : (ka == 116) = true := beq_iff_eq.mpr ha
            have htg := HF.out.tgt (by rw [HK.out]; exact ha)
            have ha0 := HF.out.a0
            obtain ⟨t, ht⟩ : ∃ t : Nat, x.f1 = (t : Int) := ⟨x.f1.toNat, by omega⟩
            have htn : t < xs.length := by omega
            have hg := Aside0.mk (show gotoL (nod x) xs.length i d = if okL d t T then fallL (nod x) xs.length i nx (meetL d t T) else none by
              rw [hg.out, if_pos ha, ht, Int.toNat_natCast])
            have MC := meet_calls w0 wc y xs d g s t T H2.out HR.out hn (by omega) HT0.out
            rw [if_neg (by omega), decide_eq_true (show t ≠ xs.length by omega), Bool.true_and] at MC
            have HTN := Aside0.mk htn
            clear htg ha0 htn
            cases hok : okL d t T with
            | false =>
              rw [hok] at MC
              have MC := Aside0.mk MC
              go_wp2_with (go_at_call 46; go_loud (refine MC.out.mono ?_; rintro e w6 ⟨h6, s6, rfl, hW, hRr, hC, hO⟩; have W6 := Aside0.mk hW; have R6 := Aside0.mk hRr; have C6 := Aside0.mk hC; have O6 := Aside0.mk hO; clear hW hRr hC hO))
              go_ret
              rw [hg.out, hok]
              exact ⟨h6, _, s6, rfl, fun d1 hd1 => by simp at hd1, W6.out, R6.out, (C2.out.mono (fun _ _ hk => hk.elim)).trans C6.out (fun _ _ hk => hk), fun k hk => (O6.out k hk).imp id (fun h => Nat.le_trans C2.out.size h)⟩
            | true =>
              rw [hok] at MC
              have MC := Aside0.mk MC
              rw [hok, if_pos rfl] at hg
              cases hb : (x.f0 == 1) with
              | true =>
                rw [hb] at hj
                go_wp2_with (go_at_call 46; go_loud (refine MC.out.mono ?_; rintro e w6 ⟨h6, s6, rfl, hW, hRr, hC, hO⟩; have W6 := Aside0.mk hW; have R6 := Aside0.mk hRr; have hb6 := hC.keep X2.out N1.out; have v0 := (blk_cell hb6 0).trans rfl; have C6 := Aside0.mk hC; have O6 := Aside0.mk hO; clear hW hRr hC hO hb6))
                go_ret
                rw [hg.out, fall_jump hj]
                exact ⟨h6, _, s6, rfl, fun d1 hd1 => Option.some.inj hd1, W6.out, R6.out, (C2.out.mono (fun _ _ hk => hk.elim)).trans C6.out (fun _ _ hk => hk), fun k hk => (O6.out k hk).imp id (fun h => Nat.le_trans C2.out.size h)⟩
              | false =>
                rw [hb] at hj
                have TK : True := trivial
                go_wp2_with (first
                  | (clear TK; go_at_call 46; go_loud (refine MC.out.mono ?_; rintro e w6 ⟨h6, s6, rfl, hW, hRr, hC, hO⟩; have W6 := Aside0.mk hW; have R6 := Aside0.mk hRr; have hb6 := hC.keep X2.out N1.out; have v0 := (blk_cell hb6 0).trans rfl; have C6 := Aside0.mk hC; have O6 := Aside0.mk hO; have M2 := Aside0.mk (meet_calls w0 w6 { y with h := h6 } xs (meetL d t T) g s6 i1 nx hW hRr hn (by have := HI1.out; omega) HNX.out.1); clear hW hRr hC hO hb6))
                  | (go_at_call 46; go_loud (refine M2.out.mono ?_; rintro e w7 ⟨h7, s7, rfl, hW, hRr, hC, hO⟩; have W7 := Aside0.mk hW; have R7 := Aside0.mk hRr; have C7 := Aside0.mk hC; have O7 := Aside0.mk hO; clear hW hRr hC hO)))
                go_ret
                have hf := fall_post (n := xs.length) (i := i) (nx := nx) (d := meetL d t T) hj
                rw [HI1.out] at hf
                rw [hg.out]
                refine ⟨h7, _, s7, by rw [← hf.1, decide_not]; rfl, hf.2, W7.out, R7.out, ((C2.out.mono (fun _ _ hk => hk.elim)).trans C6.out (fun _ _ hk => hk)).trans C7.out (fun k hk ho => ?_), fun k hk => ?_⟩
                · rcases ho with ho | ho
                  · exact .inl ho
                  · exact (O6.out k ho).elim .inr (fun h => by have := C2.out.size; omega)
                · exact (O7.out k hk).elim (fun h => (O6.out k h).imp id (fun h => Nat.le_trans C2.out.size h)) (fun h => .inr (Nat.le_trans (Nat.le_trans C2.out.size C6.out.size) h))
          · have b116 : (ka == 116) = false := beq_eq_false_iff_ne.mpr ha
            have hg := Aside0.mk (show gotoL (nod x) xs.length i d = fallL (nod x) xs.length i nx d by rw [hg.out, if_neg ha])
            cases hb : (x.f0 == 1) with
            | true =>
              rw [hb] at hj
              go_wp2
              go_ret
              rw [hg.out, fall_jump hj]
              exact ⟨y.h, d, s, rfl, fun d1 hd1 => Option.some.inj hd1, H2.out, HR.out, C2.out.mono (fun _ _ hk => hk.elim), fun _ hk => .inl hk⟩
            | false =>
              rw [hb] at hj
              have MC := Aside0.mk (meet_calls w0 wc y xs d g s i1 nx H2.out HR.out hn (by have := HI1.out; omega) HNX.out.1)
              go_wp2_with (go_at_call 46; go_loud (refine MC.out.mono ?_; rintro e w6 ⟨h6, s6, rfl, hW, hRr, hC, hO⟩; have W6 := Aside0.mk hW; have R6 := Aside0.mk hRr; have C6 := Aside0.mk hC; have O6 := Aside0.mk hO; clear hW hRr hC hO))
              go_ret
              have hf := fall_post (n := xs.length) (i := i) (nx := nx) (d := d) hj
              rw [HI1.out] at hf
              rw [hg.out]
              refine ⟨h6, _, s6, by rw [← hf.1, decide_not]; rfl, hf.2, W6.out, R6.out, (C2.out.mono (fun _ _ hk => hk.elim)).trans C6.out (fun _ _ hk => hk), fun k hk => (O6.out k hk).imp id (fun h => Nat.le_trans C2.out.size h)⟩
end Go.Proofs.Ytcpjjnikehcleaa.Gw
