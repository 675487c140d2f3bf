/- Check and Depths, walked. -/
import Derived.Test.YtcpjjnikehcleaaG8
namespace Go.Proofs.Ytcpjjnikehcleaa.Gw
open Go.RowKit PChk Hq Lk Rt Go.Proofs.YtcpjjnikehcleaaW.PrintWords Go.Proofs.YtcpjjnikehcleaaW.PrintLast Go.Proofs.YtcpjjnikehcleaaW.PrintMore
open Go.Maps (Keyed)
set_option linter.unusedVariables false
set_option linter.unusedSimpArgs false
attribute [local go_sem] max2_int min2_int max_two min_two

/-- What Check tells. -/
def checkP (xs : List S36) (p : Int) : Int × Int × Int × Int :=
  match lookP xs p with
  | .inl d => (slotsP xs p, stackP d, 0, 0)
  | .inr (i, e) => (0, 0, i, e)
def depthsP (xs : List S36) (p : Int) : List Int × Int :=
  match lookP xs p with
  | .inl d => (d, 0)
  | .inr (i, e) => ([], e)
theorem ints_R {w0 W : World} {g n c : Nat} {d : List Int} {xs : List S36} (h : W.ownsRow w0.heap.size 3 1 (.slice (some ⟨g, 0, none⟩) n c) n (ints d)) (hn : d.length = n) :
    Kd.R (Kd.int .i64) 3 W w0.heap.size (fun _ => True) (.slice (some ⟨g, 0, none⟩) n c) d := by
  subst hn
  exact Kd.R_of_own h (fun _ _ => trivial)
theorem lookP_err {xs : List S36} {p i e : Int} (h : lookP xs p = .inr (i, e)) : e = 1 ∨ e = 2 ∨ e = 3 ∨ e = 140 := by
  unfold lookP at h
  split at h
  · cases h; simp
  · split at h
    · cases h; simp
    · split at h
      · cases h; simp
      · split at h
        · cases h; simp
        · split at h
          · cases h; simp
          · cases h
set_option maxHeartbeats 4000000 in
set_option maxRecDepth 100000 in
theorem depths_calls (w : World) (A : Option Addr) (c : Nat) (xs : List S36) (p : Int) (hc : Kd.C k36 w A xs.length xs) (hU : Rt.Bytes xs) :
    Calls Try.prog 10 #[.slice A xs.length c, .int .i64 p] w fun e w' => ∃ v : Value, e = .returned (.tuple #[v, .int .i64 (depthsP xs p).2]) ∧ Kd.R (Kd.int .i64) 3 w' w.heap.size (fun _ => True) v (depthsP xs p).1 ∧ Below w.heap.size w w' := by
  have hu59 := Try.underlying59
  have LC := look_calls w A c xs p hc hU
  unfold LookPost at LC
  unfold depthsP
  cases hl : lookP xs p with
  | inr q =>
    obtain ⟨i, er⟩ := q
    rw [hl] at LC
    simp only at LC ⊢
    have he := lookP_err hl
    have LC := Aside0.mk LC
    have e1 : (er != 0) = true := by simp; omega
    have e2 : (er == 0) = false := by simp; omega
    clear hl he
    go_enter Try.func10, Try.ntmps10
    go_wp2_with (go_at_call 19; go_loud (refine LC.out.mono ?_; rintro e w1 ⟨rfl, hb⟩; have B1 := Aside0.mk hb; clear hb))
    go_ret2
    exact ⟨_, rfl, Kd.R_nil _ _ _ _ _, B1.out⟩
  | inl d =>
    rw [hl] at LC
    simp only at LC ⊢
    have LC := Aside0.mk LC
    clear hl
    go_enter Try.func10, Try.ntmps10
    go_wp2_with (go_at_call 19; go_loud (refine LC.out.mono ?_; rintro e w1 ⟨y, s, rfl, hW⟩; have W1 := Aside0.mk hW; have g1 := (blk_cell hW.blk 1).trans rfl; clear hW))
    go_ret2
    exact ⟨_, rfl, ints_R (xs := xs) W1.out.row W1.out.len, W1.out.below⟩
theorem lookP_fits {xs : List S36} {p : Int} {d : List Int} (hU : Rt.Bytes xs) (h : lookP xs p = .inl d) : Rt.Good xs ∧ allR xs = some (.inl d) ∧ circL (frN xs) xs.length d = none ∧ 0 ≤ p ∧ p ≤ 100 := by
  unfold lookP at h
  split at h
  · cases h
  · split at h
    · cases h
    · split at h
      · cases h
      · split at h
        · cases h
        · next hb =>
          have hG := good hU (by omega) (by omega) hb
          rw [lookL_is] at h
          obtain ⟨r, hr⟩ := all_some xs
          rw [hr] at h ⊢
          cases r with
          | inr b => cases h
          | inl d' =>
            cases hc : circL (frN xs) xs.length d' with
            | some b => simp only [hc] at h; cases h
            | none => simp only [hc] at h; cases h; exact ⟨hG, rfl, hc, by omega, by omega⟩
theorem mx_hi {a b : Int} (h : a < b) : mx a b = b := if_pos h
theorem mx_lo {a b : Int} (h : b ≤ a) : mx a b = a := if_neg (by omega)
/-- Before each round of Check's loop. -/
structure KInv (xs : List S36) (p : Int) (d : List Int) (i : Nat) (s t : Int) : Prop where
  sl : (xs.drop i).foldl slotStep s = slotsP xs p
  st : (d.drop i).foldl mx t = stackP d
set_option maxHeartbeats 4000000 in
set_option maxRecDepth 100000 in
theorem check_calls (w : World) (A : Option Addr) (c : Nat) (xs : List S36) (p : Int) (hc : Kd.C k36 w A xs.length xs) (hU : Rt.Bytes xs) :
    Calls Try.prog 8 #[.slice A xs.length c, .int .i64 p] w fun e w' => e = .returned (.tuple #[.int .i64 (checkP xs p).1, .int .i64 (checkP xs p).2.1, .int .i64 (checkP xs p).2.2.1, .int .i64 (checkP xs p).2.2.2]) ∧ Below w.heap.size w w' := by
  have hu59 := Try.underlying59
  have hu22 := Try.underlying22
  have hu36 := Try.underlying36
  have hu28 := Try.underlying28
  have hu55 := Try.underlying55
  have LC := look_calls w A c xs p hc hU
  unfold LookPost at LC
  unfold checkP
  cases hl : lookP xs p with
  | inr q =>
    obtain ⟨i, er⟩ := q
    rw [hl] at LC
    simp only at LC ⊢
    have he := lookP_err hl
    have LC := Aside0.mk LC
    have e1 : (er != 0) = true := by simp; omega
    have e2 : (er == 0) = false := by simp; omega
    clear hl he
    go_enter Try.func8, Try.ntmps8
    go_wp2_with (go_at_call 19; go_loud (refine LC.out.mono ?_; rintro e w1 ⟨rfl, hb⟩; have B1 := Aside0.mk hb; clear hb))
    (refine bodyPost_ret (results_tmp4 rfl _ _ _) rfl ?_; try simp only [List.getD_eq_getElem?_getD, Array.getD_eq_getD_getElem?, List.getElem?_toArray, List.getElem?_cons_succ, List.getElem?_cons_zero, Option.getD_some])
    first | exact ⟨rfl, B1.out⟩ | exact ⟨trivial, B1.out⟩
  | inl d =>
    rw [hl] at LC
    simp only at LC ⊢
    have LC := Aside0.mk LC
    have HL := Aside0.mk hl
    obtain ⟨n, hN⟩ : ∃ n, xs.length = n := ⟨_, rfl⟩
    have HN := Aside0.mk hN
    have HU := Aside0.mk hU
    rw [hN] at LC ⊢
    have HC := Aside0.mk hc
    clear hl hN hU hc
    go_enter Try.func8, Try.ntmps8
    have HF := Aside0.mk (lookP_fits HU.out HL.out)
    go_wp2_with (go_at_call 19; go_loud (refine LC.out.mono ?_; rintro e w1 ⟨y, s, rfl, hW⟩; have W1 := Aside0.mk hW; clear hW))
    go_loopg [4, 5, 25] n (fun kq v4 v5 v25 w' => ∃ (i : Nat) (sl st : Int), v4 = .int .i64 sl ∧ v5 = .int .i64 st ∧ v25 = .int .i64 (i : Int) ∧ Aside0 (i + kq = n) ∧ Aside0 (KInv xs p d i sl st) ∧ Aside0 (WAt w w' y xs d s))
    case atStart => exact ⟨0, p, 0, rfl, rfl, rfl, ⟨by omega⟩, ⟨⟨rfl, rfl⟩⟩, W1⟩
    case round =>
      obtain ⟨i, sl, st, rfl, rfl, rfl, hk, hI, W2⟩ := hrel
      by_cases hi : i < n
      · have e1 : decide ((i : Int) < (n : Int)) = true := decide_eq_true (by omega)
        have e2 : decide (i < n) = true := decide_eq_true hi
        have q1 : (0 ≤ (i : Int)) = True := eq_true (by omega)
        have q2 : ((i : Int) < (n : Int)) = True := eq_true (by omega)
        obtain ⟨ad, hA, a0, a1, a2, a3⟩ := at_T36 HC.out (i : Int) (by omega) (by have := HN.out; omega)
        rw [Int.toNat_natCast] at a0 a1 a2 a3
        subst hA
        replace a0 := (W2.out.below.cell (World.block_lt_of_cell? w _ a0)).trans a0
        replace a1 := (W2.out.below.cell (World.block_lt_of_cell? w _ a1)).trans a1
        replace a2 := (W2.out.below.cell (World.block_lt_of_cell? w _ a2)).trans a2
        replace a3 := (W2.out.below.cell (World.block_lt_of_cell? w _ a3)).trans a3
        have HFi := Aside0.mk (HF.out.1.fit i (by have := HN.out; omega))
        have HSl := Aside0.mk (show slotStep sl (rd_T36 xs (i : Int)) = if (kd (rd_T36 xs (i : Int)).f0).2.1 = 115 then mx sl ((rd_T36 xs (i : Int)).f1 + 1) else sl from rfl)
        have hsl := hI.out.sl
        have hst := hI.out.st
        rw [drop_cons (show i < xs.length by have := HN.out; omega), List.foldl_cons] at hsl
        rw [dropd_cons (show i < d.length by rw [W2.out.len, HN.out]; exact hi), List.foldl_cons] at hst
        have HS := Aside0.mk hsl
        have HT := Aside0.mk hst
        have wi : IntKind.i64.wrap ((i : Int) + 1) = ((i + 1 : Nat) : Int) := by rw [IntKind.wrap_i64]; have := HF.out.1.len; have := HN.out; omega
        have HI := Aside0.mk hi
        have hks := kd_some HFi.out.op0 HFi.out.op1
        obtain ⟨m, rfl⟩ : ∃ m, gk = m + 1 := ⟨gk - 1, by have := hk.out; omega⟩
        clear hsl hst hi hI
        generalize hx : rd_T36 xs (i : Int) = x at *
        generalize hK : kd x.f0 = K at *
        clear hx hK
        obtain ⟨word, ka, knum, ktext, ktakes, kleave, kmany, kends⟩ := K
        have KC := Aside0.mk (fun w1 => instr_kindOf.calls x.f0 word ka knum ktext ktakes kleave kmany kends w1 hks)
        clear hks
        have wf : IntKind.i64.wrap (x.f1 + 1) = x.f1 + 1 := by rw [IntKind.wrap_i64]; have := HFi.out.a0; have := HFi.out.a1; omega
        have hfd : ∀ (w' : World), (Instr.field 55 (.agg #[.string word, .int .u8 ka, .bool knum, .int .u8 ktext, .int .i64 ktakes, .int .i64 kleave, .bool kmany, .bool kends]) 1).run Try.prog w' = .ok (.int .u8 ka) w' := fun _ => by kernel_rfl
        by_cases hka : ka = 115
        · have b1 : (ka == 115) = true := beq_iff_eq.mpr hka
          have HSE := Aside0.mk (HSl.out.trans (if_pos hka))
          clear hka
          go_wp2_with (go_at_call 20; go_loud (refine (KC.out _).mono ?_; rintro e w2 ⟨rfl, hb⟩; have C1 := Aside0.mk (((Ch.refl (fun _ => False) wr).alloc (.cells #[.int .u8 x.f0, .int .i64 x.f1, .int .i64 x.f2, .string x.f3] 36)).trans (Ch.of_below (S := fun _ => False) hb (fun k hk hle => by omega)) (fun _ _ hk => hk)); have X1 := Aside0.mk ((Ch.of_below (S := fun _ => False) hb (fun k hk hle => by omega)).keep (blk_new wr (.cells #[.int .u8 x.f0, .int .i64 x.f1, .int .i64 x.f2, .string x.f3] 36)) (fun h => h)); have z1 := (blk_cell X1.out 1).trans rfl; clear hb; have H2 := Aside0.mk (W2.out.same C1.out); have g1 := (blk_cell H2.out.blk 1).trans rfl; rw [HN.out] at g1; have c1 := H2.out.depth (i := i) (by have := HN.out; have := HI.out; omega)))
          all_goals
            go_roundg m
            case measure => omega
            case rel => exact ⟨i + 1, _, _, rfl, rfl, rfl, ⟨by have := hk.out; omega⟩, ⟨⟨by have h9 := HS.out; rw [HSE.out] at h9; first | (rw [mx_hi (by assumption)] at h9; exact h9) | (rw [mx_lo (by assumption)] at h9; exact h9), by have h9 := HT.out; first | (rw [mx_hi (by assumption)] at h9; exact h9) | (rw [mx_lo (by assumption)] at h9; exact h9)⟩⟩, H2⟩
        · have b1 : (ka == 115) = false := beq_eq_false_iff_ne.mpr hka
          have HSE := Aside0.mk (HSl.out.trans (if_neg hka))
          clear hka
          go_wp2_with (go_at_call 20; go_loud (refine (KC.out _).mono ?_; rintro e w2 ⟨rfl, hb⟩; have C1 := Aside0.mk (((Ch.refl (fun _ => False) wr).alloc (.cells #[.int .u8 x.f0, .int .i64 x.f1, .int .i64 x.f2, .string x.f3] 36)).trans (Ch.of_below (S := fun _ => False) hb (fun k hk hle => by omega)) (fun _ _ hk => hk)); have X1 := Aside0.mk ((Ch.of_below (S := fun _ => False) hb (fun k hk hle => by omega)).keep (blk_new wr (.cells #[.int .u8 x.f0, .int .i64 x.f1, .int .i64 x.f2, .string x.f3] 36)) (fun h => h)); have z1 := (blk_cell X1.out 1).trans rfl; clear hb; have H2 := Aside0.mk (W2.out.same C1.out); have g1 := (blk_cell H2.out.blk 1).trans rfl; rw [HN.out] at g1; have c1 := H2.out.depth (i := i) (by have := HN.out; have := HI.out; omega)))
          all_goals
            go_roundg m
            case measure => omega
            case rel => exact ⟨i + 1, _, _, rfl, rfl, rfl, ⟨by have := hk.out; omega⟩, ⟨⟨by have h9 := HS.out; rw [HSE.out] at h9; exact h9, by have h9 := HT.out; first | (rw [mx_hi (by assumption)] at h9; exact h9) | (rw [mx_lo (by assumption)] at h9; exact h9)⟩⟩, H2⟩
      · have e1 : decide ((i : Int) < (n : Int)) = false := decide_eq_false (by omega)
        have e2 : decide (i < n) = false := decide_eq_false hi
        go_wp2
        (refine bodyPost_ret (results_tmp4 rfl _ _ _) rfl ?_; try simp only [List.getD_eq_getElem?_getD, Array.getD_eq_getD_getElem?, List.getElem?_toArray, List.getElem?_cons_succ, List.getElem?_cons_zero, Option.getD_some])
        have hin : i = n := by have := hk.out; omega
        have hdl : d.length = n := by rw [W2.out.len, HN.out]
        have hs := hI.out.sl
        have ht := hI.out.st
        rw [List.drop_eq_nil_of_le (by have := HN.out; omega)] at hs
        rw [List.drop_eq_nil_of_le (by omega)] at ht
        have hs' : sl = slotsP xs p := hs
        have ht' : st = stackP d := ht
        subst hs' ht'
        exact ⟨rfl, W2.out.below⟩
end Go.Proofs.Ytcpjjnikehcleaa.Gw
