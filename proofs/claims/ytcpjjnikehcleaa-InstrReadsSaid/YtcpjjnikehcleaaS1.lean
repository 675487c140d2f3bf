/- Reading bytes: a number, in plain and walked. -/
import Derived.Test.YtcpjjnikehcleaaS0
import Derived.Laws.BitsLemmas
namespace Go.Proofs.Ytcpjjnikehcleaa.Sr
open Go.RowKit PChk Hq Go.Proofs.YtcpjjnikehcleaaW.PrintWords Go.Proofs.YtcpjjnikehcleaaW.PrintLast Go.Proofs.YtcpjjnikehcleaaW.PrintMore
set_option linter.unusedVariables false
set_option linter.unusedSimpArgs false

/-- A number from a place on: it, and the place behind; or the place of what is wrong, and the error. -/
def numGo (bs : List Int) : Nat → Nat → Nat → Int → Sum (Int × Nat) (Nat × Int)
  | 0, _, p, _ => .inr (p, 3)
  | m + 1, i, p, acc => if bs.length ≤ p then .inr (bs.length, 4)
      else if (rd bs (p : Int) = 0 ∧ 0 < i) ∨ (i = 9 ∧ rd bs (p : Int) ≠ 1) then .inr (p, 3)
      else if rd bs (p : Int) < 128 then .inl (acc + rd bs (p : Int) * 2 ^ (7 * i), p + 1)
      else numGo bs m (i + 1) (p + 1) (acc + (rd bs (p : Int) - 128) * 2 ^ (7 * i))
def numP (bs : List Int) (p : Nat) : Sum (Int × Nat) (Nat × Int) := numGo bs 10 0 p 0
def U8 (bs : List Int) : Prop := ∀ x ∈ bs, 0 ≤ x ∧ x < 256
theorem U8.at {bs : List Int} (h : U8 bs) (i : Nat) : 0 ≤ rd bs (i : Int) ∧ rd bs (i : Int) < 256 := by
  unfold rd
  rw [Int.toNat_natCast, List.getD_eq_getElem?_getD]
  by_cases hi : i < bs.length
  · rw [List.getElem?_eq_getElem hi]; exact h _ (List.getElem_mem hi)
  · rw [List.getElem?_eq_none (by omega)]; decide
theorem wraps_u64 (n : Int) (h0 : 0 ≤ n) (h1 : n < 2 ^ 64) : IntKind.u64.wrap n = n := by
  simp only [IntKind.wrap, IntKind.bits, IntKind.signed]
  have h2 : n < 18446744073709551616 := h1
  simp
  omega
theorem join_nat (a b s : Nat) (hs : s ≤ 64) (ha : a < 2 ^ s) (hb : b * 2 ^ s < 2 ^ 64) : bits .or .u64 (a : Int) ((b * 2 ^ s : Nat) : Int) = ((a + b * 2 ^ s : Nat) : Int) := by
  have ha2 : a < 2 ^ 64 := Nat.lt_of_lt_of_le ha (Nat.pow_le_pow_right (by decide) hs)
  rw [(bits_nat .u64 64 (by decide) wraps_u64 a (b * 2 ^ s) ha2 hb).2, Nat.or_comm, Nat.mul_comm b, ← Nat.two_pow_add_eq_or_of_lt ha b, Nat.add_comm]
theorem num_val {i : Nat} {x acc : Int} (hi : i ≤ 9) (h0 : 0 ≤ x) (h1 : x < 256) (h9 : i = 9 → x = 1) (ha : 0 ≤ acc) (hb : acc < 2 ^ (7 * i)) :
    bits .or .u64 acc (IntKind.u64.wrap (IntKind.u64.wrap (bits .and .u8 x 127) * 2 ^ (7 * i))) = acc + (x % 128) * 2 ^ (7 * i) := by
  obtain ⟨a, rfl⟩ := Int.eq_ofNat_of_zero_le ha
  obtain ⟨b, hbx⟩ : ∃ b : Nat, x % 128 = (b : Int) := ⟨(x % 128).toNat, by omega⟩
  have hm : bits .and .u8 x 127 = x % 128 := bits_mask .u8 8 (by decide) wraps_u8 7 (by decide) x h0 h1
  have hb7 : b < 128 := by omega
  have hlim : b * 2 ^ (7 * i) < 2 ^ 64 := by
    by_cases e : i = 9
    · have := h9 e
      subst e
      have hb1 : b = 1 := by omega
      subst hb1
      decide
    · have h2 : 2 ^ (7 * i) ≤ 2 ^ 56 := Nat.pow_le_pow_right (by decide) (by omega)
      have h3 : b * 2 ^ (7 * i) ≤ 127 * 2 ^ 56 := Nat.mul_le_mul (by omega) h2
      omega
  have hcast : ((b : Int) * 2 ^ (7 * i)) = ((b * 2 ^ (7 * i) : Nat) : Int) := by simp
  rw [hm, hbx, wraps_u64 (b : Int) (by omega) (by have h4 : (b : Int) < 128 := by omega
                                                  exact Int.lt_trans h4 (by decide)), hcast, wraps_u64 _ (by omega) (by exact_mod_cast hlim)]
  have ha3 : a < 2 ^ (7 * i) := by exact_mod_cast hb
  rw [join_nat a b (7 * i) (by omega) ha3 hlim]
  simp
theorem num_lt {i : Nat} {x acc : Int} (h0 : 0 ≤ x) (ha : 0 ≤ acc) (hb : acc < 2 ^ (7 * i)) : 0 ≤ acc + (x % 128) * 2 ^ (7 * i) ∧ acc + (x % 128) * 2 ^ (7 * i) < 2 ^ (7 * (i + 1)) := by
  have hp : (0 : Int) < 2 ^ (7 * i) := Int.pow_pos (by decide)
  have hm : 0 ≤ x % 128 ∧ x % 128 ≤ 127 := by omega
  rw [show 7 * (i + 1) = 7 * i + 7 from by omega, Int.pow_add]
  have h1 : 0 ≤ (x % 128) * 2 ^ (7 * i) := Int.mul_nonneg hm.1 (by omega)
  have h2 : (x % 128) * 2 ^ (7 * i) ≤ 127 * 2 ^ (7 * i) := Int.mul_le_mul_of_nonneg_right hm.2 (by omega)
  generalize (2 : Int) ^ (7 * i) = z at *
  generalize x % 128 * z = y at *
  refine ⟨by omega, ?_⟩
  show acc + y < z * 128
  omega
/-- Behind number. -/
def Num (w0 : World) (g : Nat) (A : Option Addr) (c : Nat) (bs : List Int) (r : Sum (Int × Nat) (Nat × Int)) (w : World) (e : Ending) (w' : World) : Prop :=
  match r with
  | .inl (v, q) => e = .returned (.int .u64 v) ∧ RAt w0 w' g A c bs q ∧ Ch (fun k => k = g) w w'
  | .inr (q, er) => e = .panicked (fault (q : Int) er) ∧ Ch (fun k => k = g) w w'
set_option maxHeartbeats 4000000 in
set_option maxRecDepth 100000 in
theorem number_calls (w0 w : World) (g : Nat) (A : Option Addr) (c : Nat) (bs : List Int) (p : Nat) (h : RAt w0 w g A c bs p) (hp : p ≤ bs.length) (hb : U8 bs) :
    Calls Try.prog 37 #[.pointer (some ⟨g, 0, none⟩)] w (Num w0 g A c bs (numP bs p) w) := by
  have hu103 := Try.underlying103
  have H := Aside0.mk h
  have HB := Aside0.mk hb
  have HP := Aside0.mk hp
  have HM := Aside0.mk h.row.2.1
  clear h hb hp
  go_enter Try.func37, Try.ntmps37
  go_wp2
  go_loopg [3, 4] 10 (fun kq v3 v4 w' => ∃ (i q : Nat) (acc : Int), v3 = .int .u64 acc ∧ v4 = .int .i64 (i : Int) ∧ Aside0 ((i ≤ 9 ∧ i + kq = 10) ∧ q ≤ bs.length ∧ 0 ≤ acc ∧ acc < 2 ^ (7 * i) ∧ numGo bs kq i q acc = numP bs p) ∧ Aside0 (RAt w0 w' g A c bs q) ∧ Aside0 (Ch (fun k => k = g) w w'))
  case atStart => exact ⟨0, p, 0, rfl, rfl, ⟨⟨by omega, by omega⟩, HP.out, Int.le_refl _, by decide, rfl⟩, H, ⟨Ch.refl _ _⟩⟩
  case round =>
    obtain ⟨i, q, acc, rfl, rfl, hk, hR, hC⟩ := hrel
    obtain ⟨⟨i9, k1⟩, k2, k3, k4, k5⟩ := hk.out
    cases gk with
    | zero => omega
    | succ m =>
      have PB := Aside0.mk hk.out
      have w7 : IntKind.i64.wrap (7 * (i : Int)) = 7 * (i : Int) := by rw [IntKind.wrap_i64]; omega
      have wi : IntKind.i64.wrap ((i : Int) + 1) = ((i + 1 : Nat) : Int) := by rw [IntKind.wrap_i64]; omega
      by_cases hq : q = bs.length
      · subst hq
        have NE := Aside0.mk (next_end w0 wr g A c bs hR.out)
        have hr : numP bs p = .inr (bs.length, 4) := by
          rw [← k5]; unfold numGo; rw [if_pos (Nat.le_refl _)]
        have HR := Aside0.mk hr
        clear k1 k2 k3 k4 k5 hk hr
        go_wp2_with (go_at_call 50; go_loud (refine NE.out.mono ?_; rintro e w1 ⟨rfl, hc⟩; have C1 := Aside0.mk hc; clear hc))
        refine ⟨rfl, ?_⟩
        rw [HR.out]
        exact ⟨rfl, hC.out.trans C1.out (fun _ _ h => h)⟩
      · have hlq : q < bs.length := by omega
        have NO := Aside0.mk (next_one w0 wr g A c bs q hR.out hlq)
        have hx := HB.out.at q
        have hgo : numGo bs (m + 1) i q acc = if (rd bs (q : Int) = 0 ∧ 0 < i) ∨ (i = 9 ∧ rd bs (q : Int) ≠ 1) then .inr (q, 3)
            else if rd bs (q : Int) < 128 then .inl (acc + rd bs (q : Int) * 2 ^ (7 * i), q + 1)
            else numGo bs m (i + 1) (q + 1) (acc + (rd bs (q : Int) - 128) * 2 ^ (7 * i)) := by rw [numGo, if_neg (by omega)]
        rw [hgo] at k5
        generalize hxx : rd bs (q : Int) = x at *
        obtain ⟨x1, x2⟩ := hx
        have HQ := Aside0.mk hlq
        by_cases hbad : (x = 0 ∧ 0 < i) ∨ (i = 9 ∧ x ≠ 1)
        · rw [if_pos hbad] at k5
          have HR := Aside0.mk k5
          have hb2 : ((x == 0) = true ∧ decide ((i : Int) > 0) = true ∧ decide (0 < i) = true) ∨ ((x == 0) = false ∧ ((i : Int) == 9) = true ∧ (x != 1) = true ∧ (x == 1) = false) := by
            by_cases e : x = 0 ∧ 0 < i
            · exact Or.inl ⟨beq_iff_eq.mpr e.1, decide_eq_true (by omega), decide_eq_true e.2⟩
            · have e2 : i = 9 ∧ x ≠ 1 := hbad.resolve_left e
              exact Or.inr ⟨beq_eq_false_iff_ne.mpr (by omega), beq_iff_eq.mpr (by omega), bne_iff_ne.mpr e2.2, beq_eq_false_iff_ne.mpr e2.2⟩
          clear k1 k2 k3 k4 k5 hk hgo hbad hlq hq PB i9 hxx w7 wi
          rcases hb2 with ⟨b1, b2, b2'⟩ | ⟨b1, b2, b3, b3'⟩
          all_goals
            go_wp2_with (first
              | (go_at_call 50; go_loud (refine NO.out.mono ?_; rintro e w1 ⟨rfl, hr1, hc⟩; have C1 := Aside0.mk hc; have g1 := (blk_cell hr1.blk 1).trans rfl; have wq : IntKind.i64.wrap (((q + 1 : Nat) : Int) - 1) = (q : Int) := (by rw [IntKind.wrap_i64]; have := HM.out; have := HQ.out; omega); have wq2 : IntKind.i64.wrap (q : Int) = (q : Int) := (by rw [IntKind.wrap_i64]; have := HM.out; have := HQ.out; omega); clear hr1 hc))
              | (go_at_call 51; go_loud (refine (fail_calls _ _ _).mono ?_; rintro e w2 ⟨rfl, rfl⟩)))
            refine ⟨rfl, ?_⟩
            rw [← HR.out]
            exact ⟨rfl, hC.out.trans C1.out (fun _ _ h => h)⟩
        · rw [if_neg hbad] at k5
          have hv := num_val i9 x1 x2 (fun e => by
            apply Decidable.byContradiction
            intro h; exact hbad (Or.inr ⟨e, h⟩)) k3 k4
          have hl2 := num_lt x1 k3 k4
          have HV := Aside0.mk hv
          have HL := Aside0.mk hl2
          have hb2 : ((x == 0) = true ∧ decide ((i : Int) > 0) = false ∧ decide (0 < i) = false ∧ ((i : Int) == 9) = false) ∨ ((x == 0) = false ∧ ((i : Int) == 9) = true ∧ (x != 1) = false ∧ (x == 1) = true) ∨ ((x == 0) = false ∧ ((i : Int) == 9) = false) := by
            by_cases e : x = 0
            · have e2 : i = 0 := by omega
              exact Or.inl ⟨beq_iff_eq.mpr e, decide_eq_false (by omega), decide_eq_false (by omega), beq_eq_false_iff_ne.mpr (by omega)⟩
            · by_cases e9 : i = 9
              · have e1 : x = 1 := by omega
                exact Or.inr (Or.inl ⟨beq_eq_false_iff_ne.mpr e, beq_iff_eq.mpr (by omega), bne_eq_false_iff_eq.mpr e1, beq_iff_eq.mpr e1⟩)
              · exact Or.inr (Or.inr ⟨beq_eq_false_iff_ne.mpr e, beq_eq_false_iff_ne.mpr (by omega)⟩)
          by_cases hlt : x < 128
          · have d1 : decide (x < 128) = true := decide_eq_true hlt
            rw [if_pos hlt, show x * 2 ^ (7 * i) = (x % 128) * 2 ^ (7 * i) from by rw [Int.emod_eq_of_lt x1 hlt]] at k5
            have HR := Aside0.mk k5
            clear k1 k2 k3 k4 k5 hk hgo hbad hlq hq PB hv hl2 hlt hxx
            rcases hb2 with ⟨b1, b2, b2', b3⟩ | ⟨b1, b2, b3, b3'⟩ | ⟨b1, b2⟩
            all_goals
              go_wp2_with (go_at_call 50; go_loud (refine NO.out.mono ?_; rintro e w1 ⟨rfl, hr1, hc⟩; have R1 := Aside0.mk hr1; have C1 := Aside0.mk hc; clear hr1 hc))
              go_ret
              rw [← HR.out]
              exact ⟨congrArg (fun z => Ending.returned (.int .u64 z)) HV.out, R1.out, hC.out.trans C1.out (fun _ _ h => h)⟩
          · have d1 : decide (x < 128) = false := decide_eq_false hlt
            rw [if_neg hlt, show x - 128 = x % 128 from by omega] at k5
            have HR := Aside0.mk k5
            have HI := Aside0.mk (show i + 1 ≤ 9 ∧ i + (m + 1) = 10 from ⟨by
              have : i ≠ 9 := fun e => by
                have : x = 1 := by
                  apply Decidable.byContradiction
                  intro h; exact hbad (Or.inr ⟨e, h⟩)
                omega
              omega, k1⟩)
            clear k1 k2 k3 k4 k5 hk hgo hbad hlq hq PB hv hl2 hxx
            rcases hb2 with ⟨b1, b2, b2', b3⟩ | ⟨b1, b2, b3, b3'⟩ | ⟨b1, b2⟩
            all_goals
              go_wp2_with (go_at_call 50; go_loud (refine NO.out.mono ?_; rintro e w1 ⟨rfl, hr1, hc⟩; have R1 := Aside0.mk hr1; have C1 := Aside0.mk hc; clear hr1 hc))
              go_roundg m
              case measure => omega
              case rel => exact ⟨i + 1, q + 1, _, congrArg (Value.int .u64) HV.out, rfl, ⟨⟨HI.out.1, by have := HI.out; omega⟩, by have := HQ.out; omega, HL.out.1, HL.out.2, HR.out⟩, R1, ⟨hC.out.trans C1.out (fun _ _ h => h)⟩⟩
end Go.Proofs.Ytcpjjnikehcleaa.Sr
