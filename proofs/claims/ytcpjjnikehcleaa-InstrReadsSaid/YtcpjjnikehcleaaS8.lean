/- Reading bytes: Read. -/
import Derived.Test.YtcpjjnikehcleaaS7
import Derived.Test.YtcpjjnikehcleaaPLwx0
namespace Go.Proofs.Ytcpjjnikehcleaa.Sr
open Go.RowKit PChk Hq Gw Rt Go.Proofs.YtcpjjnikehcleaaW.PrintWords Go.Proofs.YtcpjjnikehcleaaW.PrintLast Go.Proofs.YtcpjjnikehcleaaW.PrintMore
set_option linter.unusedVariables false
set_option linter.unusedSimpArgs false

theorem oneP_fine {bs : List Int} (hb : U8 bs) {p : Nat} (hp : p ≤ bs.length) {nn : Int} :
    (∀ x t, oneP bs p nn = .inl (x, t) → t ≤ bs.length ∧ p < t) ∧ (∀ t e, oneP bs p nn = .inr (t, e) → t ≤ bs.length ∧ (e = 3 ∨ e = 4)) := by
  unfold oneP
  by_cases h : bs.length ≤ p
  · rw [if_pos h]
    exact ⟨fun x t h => (by cases h), fun t e h => (by cases h; exact ⟨hp, Or.inr rfl⟩)⟩
  · rw [if_neg h]
    have f1 := optNum_fine (b := (kd (rd bs (p : Int))).2.1 != 0) hb (p := p + 1) (by omega)
    cases h1 : optNum ((kd (rd bs (p : Int))).2.1 != 0) bs (p + 1) with
    | inr r => obtain ⟨t, e⟩ := r; have := f1.2 _ _ h1; exact ⟨fun x t h => (by cases h), fun t e h => (by cases h; exact this)⟩
    | inl r =>
      obtain ⟨a, t1⟩ := r
      have g1 := f1.1 _ _ h1
      simp only
      have f2 := optInt_fine (b := (kd (rd bs (p : Int))).2.2.1) hb (p := t1) g1.2.2.1
      cases h2 : optInt (kd (rd bs (p : Int))).2.2.1 bs t1 with
      | inr r => obtain ⟨t, e⟩ := r; have := f2.2 _ _ h2; exact ⟨fun x t h => (by cases h), fun t e h => (by cases h; exact this)⟩
      | inl r =>
        obtain ⟨m, t2⟩ := r
        have g2 := f2.1 _ _ h2
        simp only
        have f3 := optText_fine (b := (kd (rd bs (p : Int))).2.2.2.1 != 0) hb (p := t2) g2.1
        cases h3 : optText ((kd (rd bs (p : Int))).2.2.2.1 != 0) bs t2 with
        | inr r => obtain ⟨t, e⟩ := r; have := f3.2 _ _ h3; exact ⟨fun x t h => (by cases h), fun t e h => (by cases h; exact this)⟩
        | inl r =>
          obtain ⟨s, t3⟩ := r
          have g3 := f3.1 _ _ h3
          simp only
          split
          · exact ⟨fun x t h => (by cases h; exact ⟨g3.1, by omega⟩), fun t e h => (by cases h)⟩
          · exact ⟨fun x t h => (by cases h), fun t e h => (by cases h; exact ⟨hp, Or.inl rfl⟩)⟩
theorem one_calls (w : World) (A : Option Addr) (c : Nat) (bs : List Int) (p : Nat) (nn : Int) (hr : Kd.C (Kd.int .u8) w A bs.length bs) (hc : bs.length ≤ c) (hb : U8 bs) (hp : p ≤ bs.length) :
    Calls Try.prog 27 #[.slice A bs.length c, .int .i64 (p : Int), .int .i64 nn] w (One (oneP bs p nn) w) := by
  unfold oneP
  by_cases h : bs.length ≤ p
  · obtain rfl : p = bs.length := by omega
    rw [if_pos h]
    exact one_end w A c bs nn
  · rw [if_neg h]
    have hx := hb.at p
    have hk := kd_some hx.1 hx.2
    obtain ⟨op, hop⟩ : ∃ op, rd bs (p : Int) = op := ⟨_, rfl⟩
    rw [hop] at hk ⊢
    generalize kd op = K at *
    obtain ⟨word, ka, knum, ktext, ktakes, kleave, kmany, kends⟩ := K
    simp only
    cases h1 : optNum (ka != 0) bs (p + 1) with
    | inr r => obtain ⟨t, e⟩ := r; exact one_err1 w A c bs p nn hr hc hb (by omega) op hop word ka knum ktext ktakes kleave kmany kends hk t e h1
    | inl r =>
      obtain ⟨a, t1⟩ := r
      simp only
      cases h2 : optInt knum bs t1 with
      | inr r => obtain ⟨t, e⟩ := r; exact one_err2 w A c bs p nn hr hc hb (by omega) op hop word ka knum ktext ktakes kleave kmany kends hk a t1 t e h1 h2
      | inl r =>
        obtain ⟨m, t2⟩ := r
        simp only
        cases h3 : optText (ktext != 0) bs t2 with
        | inr r => obtain ⟨t, e⟩ := r; exact one_err3 w A c bs p nn hr hc hb (by omega) op hop word ka knum ktext ktakes kleave kmany kends hk a m t1 t2 t e h1 h2 h3
        | inl r =>
          obtain ⟨s, t3⟩ := r
          simp only
          unfold clampA
          by_cases hcl : (4611686018427387904 : Int) < a
          · rw [if_pos hcl]
            cases hok : okN nn ⟨op, 4611686018427387904, m, s⟩ with
            | true => rw [if_pos rfl]; exact one_okG w A c bs p nn hr hc hb (by omega) op hop word ka knum ktext ktakes kleave kmany kends hk a m s t1 t2 t3 h1 h2 h3 hcl hok
            | false => rw [if_neg (by decide)]; exact one_noG w A c bs p nn hr hc hb (by omega) op hop word ka knum ktext ktakes kleave kmany kends hk a m s t1 t2 t3 h1 h2 h3 hcl hok
          · rw [if_neg hcl]
            cases hok : okN nn ⟨op, a, m, s⟩ with
            | true => rw [if_pos rfl]; exact one_okL w A c bs p nn hr hc hb (by omega) op hop word ka knum ktext ktakes kleave kmany kends hk a m s t1 t2 t3 h1 h2 h3 (by omega) hok
            | false => rw [if_neg (by decide)]; exact one_noL w A c bs p nn hr hc hb (by omega) op hop word ka knum ktext ktakes kleave kmany kends hk a m s t1 t2 t3 h1 h2 h3 (by omega) hok
theorem wraps_u64' {n : Int} (h0 : 0 ≤ n) (h1 : n < 18446744073709551616) : IntKind.u64.wrap n = n := wraps_u64 n h0 h1
/-- All instructions. -/
def readGo (bs : List Int) (nn : Int) : Nat → Nat → List S36 → List S36 × Int × Int
  | 0, p, l => if p < bs.length then ([], (p : Int), 3) else (l, (p : Int), 0)
  | k + 1, p, l => match oneP bs p nn with
    | .inr (t, e) => ([], (t : Int), e)
    | .inl (x, t) => readGo bs nn k t (l ++ [x])
def readP (bs : List Int) : List S36 × Int × Int :=
  match numP bs 0 with
  | .inr (q, e) => ([], (q : Int), e)
  | .inl (n, q) => if n > 8192 then ([], 0, 2) else readGo bs n n.toNat q []
/-- Behind Read. -/
def Reads (r : List S36 × Int × Int) (w : World) (e : Ending) (w' : World) : Prop :=
  ∃ v : Value, e = .returned (.tuple #[v, .int .i64 r.2.1, .int .i64 r.2.2]) ∧ Kd.R k36 36 w' w.heap.size (fun _ => True) v r.1 ∧ Below w.heap.size w w'
set_option maxHeartbeats 8000000 in
set_option maxRecDepth 100000 in
theorem read_calls (w : World) (A : Option Addr) (c : Nat) (bs : List Int) (hr : Kd.C (Kd.int .u8) w A bs.length bs) (hc : bs.length ≤ c) (hb : U8 bs) :
    Calls Try.prog 15 #[.slice A bs.length c] w (Reads (readP bs) w) := by
  have hu36 := Try.underlying36
  have UC := uint_calls w A c bs hr hc hb
  unfold readP
  cases h : numP bs 0 with
  | inr r =>
    obtain ⟨q, e⟩ := r
    have he := (numP_err (Nat.zero_le _) h).2
    rw [h] at UC
    simp only [told] at UC
    have UC := Aside0.mk UC
    have b1 : (e != 0) = true := bne_iff_ne.mpr (by omega)
    have b2 : (e == 0) = false := beq_eq_false_iff_ne.mpr (by omega)
    clear hr hc hb h he
    go_enter Try.func15, Try.ntmps15
    go_wp2_with (go_at_call 26; go_loud (refine UC.out.mono ?_; rintro e w1 ⟨rfl, hb⟩; have B1 := Aside0.mk hb; clear hb))
    go_ret3
    exact ⟨_, rfl, Kd.R_nil _ _ _ _ _, B1.out⟩
  | inl r =>
    obtain ⟨n, q⟩ := r
    have hbd := numP_bd hb h
    rw [h] at UC
    simp only [told] at UC
    have UC := Aside0.mk UC
    simp only
    by_cases hn : n > 8192
    · rw [if_pos hn]
      have d1 : decide (n > 8192) = true := decide_eq_true hn
      have d2 : decide (8192 < n) = true := decide_eq_true hn
      clear hr hc hb h hn hbd
      go_enter Try.func15, Try.ntmps15
      go_wp2_with (go_at_call 26; go_loud (refine UC.out.mono ?_; rintro e w1 ⟨rfl, hb⟩; have B1 := Aside0.mk hb; clear hb))
      go_ret3
      exact ⟨_, rfl, Kd.R_nil _ _ _ _ _, B1.out⟩
    · rw [if_neg hn]
      obtain ⟨N, rfl⟩ := Int.eq_ofNat_of_zero_le hbd.1
      rw [Int.toNat_natCast]
      have d1 : decide ((N : Int) > 8192) = false := decide_eq_false hn
      have d2 : decide (8192 < (N : Int)) = false := decide_eq_false hn
      have d3 : decide (8192 < N) = false := decide_eq_false (by omega)
      have wn : IntKind.i64.wrap (N : Int) = (N : Int) := by rw [IntKind.wrap_i64]; omega
      have HQ := Aside0.mk hbd.2.2.1
      have HN8 := Aside0.mk (show N ≤ 8192 by omega)
      have HR := Aside0.mk hr
      have HC := Aside0.mk hc
      have HB := Aside0.mk hb
      have hmx := hr.2.1
      obtain ⟨ln, hln⟩ : ∃ ln, bs.length = ln := ⟨_, rfl⟩
      have HL := Aside0.mk hln
      rw [hln] at UC ⊢
      clear hr hc hb h hn hbd hln hmx
      go_enter Try.func15, Try.ntmps15
      go_wp2_with (go_at_call 26; go_loud (refine UC.out.mono ?_; rintro e w1 ⟨rfl, hb⟩; have B1 := Aside0.mk hb; clear hb))
      go_loopg [6, 8, 25] N (fun kq v6 v8 v25 w' => ∃ (i p : Nat) (l : List S36), v6 = .int .i64 (p : Int) ∧ v25 = .int .u64 (i : Int) ∧ Aside0 (i + kq = N ∧ p ≤ bs.length ∧ l.length = i ∧ readGo bs (N : Int) kq p l = readGo bs (N : Int) N q []) ∧ Aside0 (Kd.R k36 36 w' w.heap.size (fun _ => True) v8 l) ∧ Aside0 (Below w.heap.size w w'))
      case atStart => exact ⟨0, q, [], rfl, rfl, ⟨by omega, HQ.out, rfl, rfl⟩, ⟨Kd.R_nil _ _ _ _ _⟩, B1⟩
      case round =>
        obtain ⟨i, p, l, rfl, rfl, hk, hR, hB⟩ := hrel
        obtain ⟨k1, k2, k3, k4⟩ := hk.out
        cases gk with
        | zero =>
          have e1 : decide ((i : Int) < (N : Int)) = false := decide_eq_false (by omega)
          have e2 : decide (i < N) = false := decide_eq_false (by omega)
          by_cases hpl : p < ln
          · have f1 : decide ((p : Int) < (ln : Int)) = true := decide_eq_true (by omega)
            have f2 : decide (p < ln) = true := decide_eq_true hpl
            have hz : readGo bs (N : Int) 0 p l = ([], (p : Int), 3) := by rw [readGo, if_pos (by rw [HL.out]; exact hpl)]
            have HZ := Aside0.mk (k4.symm.trans hz)
            clear k1 k2 k3 k4 hk hpl hz
            go_wp2
            go_ret3
            rw [HZ.out]
            exact ⟨_, rfl, Kd.R_nil _ _ _ _ _, hB.out⟩
          · have f1 : decide ((p : Int) < (ln : Int)) = false := decide_eq_false (by omega)
            have f2 : decide (p < ln) = false := decide_eq_false hpl
            have hz : readGo bs (N : Int) 0 p l = (l, (p : Int), 0) := by rw [readGo, if_neg (by rw [HL.out]; exact hpl)]
            have HZ := Aside0.mk (k4.symm.trans hz)
            clear k1 k2 k3 k4 hk hpl hz
            go_wp2
            go_ret3
            rw [HZ.out]
            exact ⟨_, rfl, hR.out, hB.out⟩
        | succ m =>
          have e1 : decide ((i : Int) < (N : Int)) = true := decide_eq_true (by omega)
          have e2 : decide (i < N) = true := decide_eq_true (by omega)
          have wi : IntKind.u64.wrap ((i : Int) + 1) = ((i + 1 : Nat) : Int) := wraps_u64' (by omega) (by have := HN8.out; omega)
          have OC := Aside0.mk (one_calls (wr.alloc (.cells #[.int .u8 0, .int .i64 0, .int .i64 0, .string ⟨#[]⟩] 36)) A c bs p (N : Int) (Kd.C_below HR.out (hB.out.alloc hB.out.size _)) HC.out HB.out k2)
          have hof := oneP_fine (nn := (N : Int)) HB.out k2
          rw [readGo] at k4
          cases ho : oneP bs p (N : Int) with
          | inr r =>
            obtain ⟨t, e⟩ := r
            rw [ho] at k4 OC
            have he := (hof.2 _ _ ho).2
            have b1 : (e != 0) = true := bne_iff_ne.mpr (by omega)
            have b2 : (e == 0) = false := beq_eq_false_iff_ne.mpr (by omega)
            have K4 := Aside0.mk k4
            have hO := OC.out
            rw [HL.out] at hO
            have OC2 := Aside0.mk hO
            clear k1 k2 k3 k4 hk hof ho he hO
            go_wp2_with (go_at_call 27; go_loud (refine OC2.out.mono ?_; rintro e' w3 ⟨y, rfl, hb3⟩; unfold agg36; have hx3 := (hb3.block wr.heap.size (by simp)).trans (blk_new wr _); have c0 := (blk_cell hx3 0).trans rfl; have c1 := (blk_cell hx3 1).trans rfl; have c2 := (blk_cell hx3 2).trans rfl; have c3 := (blk_cell hx3 3).trans rfl; have f0 := blk_frozen hx3 0; have f1 := blk_frozen hx3 1; have f2 := blk_frozen hx3 2; have f3 := blk_frozen hx3 3; have B3 := Aside0.mk ((hB.out.alloc hB.out.size (.cells #[.int .u8 0, .int .i64 0, .int .i64 0, .string ⟨#[]⟩] 36)).trans (hb3.mono (by simp; have := hB.out.size; omega))); clear hb3 hx3))
            go_ret3
            rw [← K4.out]
            have hs := hB.out.size
            exact ⟨_, rfl, Kd.R_nil _ _ _ _ _, (((B3.out.setCell hs _).setCell hs _).setCell hs _).setCell hs _⟩
          | inl r =>
            obtain ⟨x, t⟩ := r
            rw [ho] at k4 OC
            have ht := (hof.1 _ _ ho).1
            have K4 := Aside0.mk k4
            have HT := Aside0.mk ht
            have HI := Aside0.mk k1
            have HLl := Aside0.mk k3
            have hO := OC.out
            rw [HL.out] at hO
            have OC2 := Aside0.mk hO
            clear k1 k2 k3 k4 hk hof ho ht hO
            go_wp2_with (first
              | (go_at_call 27; go_loud (refine OC2.out.mono ?_; rintro e' w3 ⟨rfl, hb3⟩; unfold agg36; have hx3 := (hb3.block wr.heap.size (by simp)).trans (blk_new wr _); have c0 := (blk_cell hx3 0).trans rfl; have c1 := (blk_cell hx3 1).trans rfl; have c2 := (blk_cell hx3 2).trans rfl; have c3 := (blk_cell hx3 3).trans rfl; have f0 := blk_frozen hx3 0; have f1 := blk_frozen hx3 1; have f2 := blk_frozen hx3 2; have f3 := blk_frozen hx3 3; have B3 := Aside0.mk ((hB.out.alloc hB.out.size (.cells #[.int .u8 0, .int .i64 0, .int .i64 0, .string ⟨#[]⟩] 36)).trans (hb3.mono (by simp; have := hB.out.size; omega))); have C3 := Aside0.mk (((Ch.refl (fun k => wr.heap.size ≤ k) wr).alloc (.cells #[.int .u8 0, .int .i64 0, .int .i64 0, .string ⟨#[]⟩] 36)).trans (Ch.of_below (S := fun k => wr.heap.size ≤ k) hb3 (fun k hk hle => by simp at hle; omega)) (fun _ _ h => h)); clear hb3 hx3))
              | (at_builtin; refine Kd.R_append k36 (w0 := w) w.heap.size rfl (.tmp 40) (.tmp 42) 22 36 (.agg #[(.int .u8 0), (.int .i64 0), (.int .i64 0), (.string ⟨#[]⟩)]) 40 rfl Try.underlying22 info36 rfl (by decide) (by omega) u8 l x [.int .u8 x.f0, .int .i64 x.f1, .int .i64 x.f2, .string x.f3] (fun _ => True) (fun _ => False) rfl (by first | (go_simp; done) | (go_simp; rfl)) (k36_mkM _ _ _ x) (fun _ hk => hk.elim) (fun _ _ => trivial) ?aO ?aB ?aS ?aL ?_; (case aO => exact Kd.R_step hR.out (fun k _ hk => ((((C3.out.set (p := ⟨wr.heap.size, 0, none⟩) (.inl (Nat.le_refl _)) _).set (p := ⟨wr.heap.size, 1, none⟩) (.inl (Nat.le_refl _)) _).set (p := ⟨wr.heap.size, 2, none⟩) (.inl (Nat.le_refl _)) _).set (p := ⟨wr.heap.size, 3, none⟩) (.inl (Nat.le_refl _)) _).block k hk (by omega))); (case aB => exact (((B3.out.setCell hB.out.size _).setCell hB.out.size _).setCell hB.out.size _).setCell hB.out.size _); (case aS => exact (((((B3.out.setCell (p := ⟨wr.heap.size, 0, none⟩) hB.out.size _).setCell (p := ⟨wr.heap.size, 1, none⟩) hB.out.size _).setCell (p := ⟨wr.heap.size, 2, none⟩) hB.out.size _).setCell (p := ⟨wr.heap.size, 3, none⟩) hB.out.size _)).size); (case aL => have := HLl.out; have := HI.out; have := HN8.out; omega); intro v1 w5 hO5 hb5 _ _; have RO := Aside0.mk hO5; have B5 := Aside0.mk hb5; clear hO5 hb5))
            go_roundg m
            case measure => omega
            case rel => exact ⟨i + 1, t, l ++ [x], rfl, rfl, ⟨by have := HI.out; omega, HT.out, by simp [HLl.out], K4.out⟩, RO, B5⟩
end Go.Proofs.Ytcpjjnikehcleaa.Sr
