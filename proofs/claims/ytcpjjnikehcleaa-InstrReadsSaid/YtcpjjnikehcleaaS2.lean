/- Reading bytes: a whole number, bytes, a text. -/
import Derived.Test.YtcpjjnikehcleaaS1
import Derived.Test.YtcpjjnikehcleaaPRdx0
namespace Go.Proofs.Ytcpjjnikehcleaa.Sr
open Go.RowKit PChk Hq Go.Proofs.YtcpjjnikehcleaaW.PrintWords Go.Proofs.YtcpjjnikehcleaaW.PrintLast Go.Proofs.YtcpjjnikehcleaaW.PrintMore
set_option linter.unusedVariables false
set_option linter.unusedSimpArgs false

theorem numGo_bd (bs : List Int) (hb : U8 bs) : ∀ (m i p : Nat) (acc : Int), i + m = 10 → 0 ≤ acc → acc < 2 ^ (7 * i) → ∀ v q, numGo bs m i p acc = .inl (v, q) → 0 ≤ v ∧ v < 18446744073709551616 ∧ q ≤ bs.length ∧ p < q := by
  intro m
  induction m with
  | zero => intro i p acc _ _ _ v q h; simp [numGo] at h
  | succ m ih =>
    intro i p acc hi h0 h1 v q h
    rw [numGo] at h
    have hx := hb.at p
    have hl := num_lt (x := rd bs (p : Int)) hx.1 h0 h1
    split at h
    · cases h
    · split at h
      · cases h
      · next hp hbad =>
        split at h
        · next hlt =>
          cases h
          rw [Int.emod_eq_of_lt hx.1 hlt] at hl
          refine ⟨hl.1, ?_, by omega, by omega⟩
          by_cases e : i = 9
          · subst e
            have h1' : acc < 9223372036854775808 := h1
            have hx1 : rd bs (p : Int) = 1 := by
              apply Decidable.byContradiction
              intro hne; exact hbad (Or.inr ⟨rfl, hne⟩)
            rw [hx1]
            show acc + 1 * 9223372036854775808 < 18446744073709551616
            omega
          · have h2 : (2 : Int) ^ (7 * (i + 1)) ≤ 2 ^ 63 := by
              have : (2 : Nat) ^ (7 * (i + 1)) ≤ 2 ^ 63 := Nat.pow_le_pow_right (by decide) (by omega)
              exact_mod_cast this
            have h3 : (2 : Int) ^ 63 = 9223372036854775808 := by decide
            omega
        · next hge =>
          rw [show rd bs (p : Int) - 128 = rd bs (p : Int) % 128 from by omega] at h
          have := ih (i + 1) (p + 1) _ (by omega) hl.1 hl.2 v q h
          exact ⟨this.1, this.2.1, this.2.2.1, by omega⟩
theorem numP_bd {bs : List Int} (hb : U8 bs) {p : Nat} {v : Int} {q : Nat} (h : numP bs p = .inl (v, q)) : 0 ≤ v ∧ v < 18446744073709551616 ∧ q ≤ bs.length ∧ p < q :=
  numGo_bd bs hb 10 0 p 0 rfl (Int.le_refl _) (by decide) v q h
theorem xor_zero {a : Int} (h0 : 0 ≤ a) (h1 : a < 9223372036854775808) : bits .xor .i64 a 0 = a := by
  obtain ⟨n, rfl⟩ := Int.eq_ofNat_of_zero_le h0
  show IntKind.i64.wrap (((BitVec.ofInt 64 (n : Int)) ^^^ (BitVec.ofInt 64 0)).toNat : Int) = (n : Int)
  rw [show BitVec.ofInt 64 0 = 0#64 from rfl, BitVec.xor_zero, BitVec.ofInt_natCast, BitVec.toNat_ofNat, IntKind.wrap_i64]
  omega
theorem xor_ones {a : Int} (h0 : 0 ≤ a) (h1 : a < 9223372036854775808) : bits .xor .i64 a (-1) = -a - 1 := by
  obtain ⟨n, rfl⟩ := Int.eq_ofNat_of_zero_le h0
  show IntKind.i64.wrap (((BitVec.ofInt 64 (n : Int)) ^^^ (BitVec.ofInt 64 (-1))).toNat : Int) = -(n : Int) - 1
  rw [BitVec.ofInt_natCast, show BitVec.ofInt 64 (-1) = BitVec.allOnes 64 from by decide, BitVec.xor_allOnes, BitVec.toNat_not, BitVec.toNat_ofNat, IntKind.wrap_i64]
  omega
def zag (n : Int) : Int := if n % 2 = 0 then n / 2 else -(n / 2) - 1
theorem zag_val {v : Int} (h0 : 0 ≤ v) (h1 : v < 18446744073709551616) : bits .xor .i64 (wrap64 (v / 2)) (wrap64 (-wrap64 (bits .and .u64 v 1))) = zag v := by
  have hm : bits .and .u64 v 1 = v % 2 := bits_mask .u64 64 (by decide) wraps_u64 1 (by decide) v h0 h1
  have e1 : wrap64 (v / 2) = v / 2 := by unfold wrap64; omega
  rw [hm, e1]
  unfold zag
  have h2 : v % 2 = 0 ∨ v % 2 = 1 := by omega
  rcases h2 with h2 | h2
  · rw [if_pos h2, h2, show wrap64 (-wrap64 0) = 0 from by unfold wrap64; omega, xor_zero (by omega) (by omega)]
  · rw [if_neg (by omega), h2, show wrap64 (-wrap64 1) = -1 from by unfold wrap64; omega, xor_ones (by omega) (by omega)]
def intP (bs : List Int) (p : Nat) : Sum (Int × Nat) (Nat × Int) :=
  match numP bs p with
  | .inl (v, q) => .inl (zag v, q)
  | .inr e => .inr e
def textP (bs : List Int) (p : Nat) : Sum (ByteArray × Nat) (Nat × Int) :=
  match numP bs p with
  | .inl (v, q) => if v > (bs.length : Int) - (q : Int) then .inr (bs.length, 4) else .inl (strOfNums ((bs.take (q + v.toNat)).drop q), q + v.toNat)
  | .inr e => .inr e
def NumI (w0 : World) (g : Nat) (A : Option Addr) (c : Nat) (bs : List Int) (r : Sum (Int × Nat) (Nat × Int)) (w : World) (e : Ending) (w' : World) : Prop :=
  match r with
  | .inl (v, q) => e = .returned (.int .i64 v) ∧ RAt w0 w' g A c bs q ∧ Ch (fun k => k = g) w w'
  | .inr (q, er) => e = .panicked (fault (q : Int) er) ∧ Ch (fun k => k = g) w w'
def Txt (w0 : World) (g : Nat) (A : Option Addr) (c : Nat) (bs : List Int) (r : Sum (ByteArray × Nat) (Nat × Int)) (w : World) (e : Ending) (w' : World) : Prop :=
  match r with
  | .inl (v, q) => e = .returned (.string v) ∧ RAt w0 w' g A c bs q ∧ Ch (fun k => k = g) w w'
  | .inr (q, er) => e = .panicked (fault (q : Int) er) ∧ Ch (fun k => k = g) w w'
set_option maxHeartbeats 4000000 in
set_option maxRecDepth 100000 in
theorem whole_calls (w0 w : World) (g : Nat) (A : Option Addr) (c : Nat) (bs : List Int) (p : Nat) (h : RAt w0 w g A c bs p) (hp : p ≤ bs.length) (hb : U8 bs) :
    Calls Try.prog 53 #[.pointer (some ⟨g, 0, none⟩)] w (NumI w0 g A c bs (intP bs p) w) := by
  have NC := number_calls w0 w g A c bs p h hp hb
  unfold intP
  cases hr : numP bs p with
  | inr q =>
    obtain ⟨q, er⟩ := q
    rw [hr] at NC
    have NC := Aside0.mk NC
    clear h hr hb hp
    go_enter Try.func53, Try.ntmps53
    go_wp2_with (go_at_call 37; go_loud (refine NC.out.mono ?_; rintro e w1 ⟨rfl, hc⟩; have C1 := Aside0.mk hc; clear hc))
    exact ⟨rfl, rfl, C1.out⟩
  | inl q =>
    obtain ⟨v, q⟩ := q
    rw [hr] at NC
    have hbd := numP_bd hb hr
    have NC := Aside0.mk NC
    have HBD := Aside0.mk hbd
    clear h hr hb hp hbd
    go_enter Try.func53, Try.ntmps53
    go_wp2_with (go_at_call 37; go_loud (refine NC.out.mono ?_; rintro e w1 ⟨rfl, hr1, hc⟩; have R1 := Aside0.mk hr1; have C1 := Aside0.mk hc; clear hr1 hc))
    go_ret
    exact ⟨congrArg (fun z => Ending.returned (.int .i64 z)) (zag_val HBD.out.1 HBD.out.2.1), R1.out, C1.out⟩
set_option maxHeartbeats 4000000 in
set_option maxRecDepth 100000 in
theorem bytes_short (w0 w : World) (g : Nat) (A : Option Addr) (c : Nat) (bs : List Int) (q : Nat) (v : Int) (h : RAt w0 w g A c bs q) (hq : q ≤ bs.length) (hv : v > (bs.length : Int) - (q : Int)) :
    Calls Try.prog 56 #[.pointer (some ⟨g, 0, none⟩), .int .u64 v] w (Up (bs.length : Int) 4 g w) := by
  have hu103 := Try.underlying103
  have g0 := (blk_cell h.blk 0).trans rfl
  have g1 := (blk_cell h.blk 1).trans rfl
  have hmx := h.row.2.1
  obtain ⟨n, hn⟩ : ∃ n, bs.length = n := ⟨_, rfl⟩
  rw [hn] at g0 hq hv hmx ⊢
  have w1 : IntKind.i64.wrap ((n : Int) - (q : Int)) = (n : Int) - (q : Int) := by rw [IntKind.wrap_i64]; omega
  have w2 : IntKind.u64.wrap ((n : Int) - (q : Int)) = (n : Int) - (q : Int) := wraps_u64 _ (by omega) (by have : (2:Int)^64 = 18446744073709551616 := by decide
                                                                                                           omega)
  have d1 : decide (v > (n : Int) - (q : Int)) = true := decide_eq_true hv
  have d2 : decide ((n : Int) - (q : Int) < v) = true := decide_eq_true hv
  clear h hq hv hmx hn
  go_enter Try.func56, Try.ntmps56
  go_wp2
  go_region
  go_wp2_with (go_at_call 51; go_loud (refine (fail_calls _ _ _).mono ?_; rintro e w' ⟨rfl, rfl⟩))
  exact ⟨rfl, rfl, (Ch.refl _ _).drew⟩
set_option maxHeartbeats 4000000 in
set_option maxRecDepth 100000 in
theorem bytes_some (w0 w : World) (g : Nat) (A : Option Addr) (c : Nat) (bs : List Int) (q k : Nat) (h : RAt w0 w g A c bs q) (hk : q + k ≤ bs.length) (hc : bs.length ≤ c) :
    Calls Try.prog 56 #[.pointer (some ⟨g, 0, none⟩), .int .u64 (k : Int)] w (Rd w0 g A c bs (q + k) (.string (strOfNums ((bs.take (q + k)).drop q))) w) := by
  have hu103 := Try.underlying103
  have hu45 := Try.underlying45
  have g0 := (blk_cell h.blk 0).trans rfl
  have g1 := (blk_cell h.blk 1).trans rfl
  have f1 := blk_frozen h.blk 1
  have hmx := h.row.2.1
  have hwlt := h.below.size
  obtain ⟨i9, hi9, _, hsz9, _⟩ := info_parts info5
  obtain ⟨A9, hcut9, hA9, hC9⟩ := print_mid_of (P := Try.prog) (Value.int .u8) 0 45 5 .i64 .i64 Try.underlying45 hi9 hsz9 A c bs (q : Int) ((q + k : Nat) : Int) (by omega) (by omega) (by omega) hc
  rw [Int.toNat_natCast, Int.toNat_natCast, show ((bs.take (q + k)).drop q).length = k from by rw [List.length_drop, List.length_take]; omega] at hcut9 hA9
  have hR9 : Kd.C (Kd.int .u8) w0 A9 k ((bs.take (q + k)).drop q) := Kd.C_of_reads (h1 := fun _ => rfl) (hA9 _ (Kd.reads_of_C h.row))
  have hbw : ∀ u, Below w0.heap.size w0 ((w.setCell ⟨g, 1, none⟩ u).drew.drew) := fun u => ((h.below.setCell h.bg u).drew).drew
  have hcv : ∀ u, (convert 45 9 (.slice A9 k (c - q))).run Try.prog ((w.setCell ⟨g, 1, none⟩ u).drew.drew) = .ok (.string (strOfNums ((bs.take (q + k)).drop q))) ((w.setCell ⟨g, 1, none⟩ u).drew.drew) := fun u =>
    Kd.C_string (P := Try.prog) (A := A9) (c := c - q) Try.underlying45 Try.underlying5 Try.underlying9 (Kd.C_below hR9 (hbw u))
  have H := Aside0.mk h
  obtain ⟨n, hn⟩ : ∃ n, bs.length = n := ⟨_, rfl⟩
  rw [hn] at g0 hk hmx hcut9
  rw [Int.natCast_add] at hcut9
  have w1 : IntKind.i64.wrap ((n : Int) - (q : Int)) = (n : Int) - (q : Int) := by rw [IntKind.wrap_i64]; omega
  have w2 : IntKind.u64.wrap ((n : Int) - (q : Int)) = (n : Int) - (q : Int) := wraps_u64 _ (by omega) (by have : (2:Int)^64 = 18446744073709551616 := by decide
                                                                                                           omega)
  have w3 : IntKind.i64.wrap ((q : Int) + (k : Int)) = ((q + k : Nat) : Int) := by rw [IntKind.wrap_i64]; omega
  have w4 : IntKind.i64.wrap (k : Int) = (k : Int) := by rw [IntKind.wrap_i64]; omega
  have w7 : IntKind.i64.wrap (q : Int) = (q : Int) := by rw [IntKind.wrap_i64]; omega
  have w5 : IntKind.i64.wrap (((q + k : Nat) : Int) - (k : Int)) = (q : Int) := by rw [IntKind.wrap_i64]; omega
  have w6 : IntKind.i64.wrap ((q : Int) + (k : Int) - (k : Int)) = (q : Int) := by rw [IntKind.wrap_i64]; omega
  have d1 : decide ((k : Int) > (n : Int) - (q : Int)) = false := decide_eq_false (by omega)
  have d2 : decide ((n : Int) - (q : Int) < (k : Int)) = false := decide_eq_false (by omega)
  clear h hk hmx hn hR9 hA9 hC9 hbw hwlt hi9 hsz9 hc
  go_enter Try.func56, Try.ntmps56
  go_wp2
  go_region
  go_wp2
  go_region
  go_wp2
  go_ret
  exact ⟨rfl, (H.out.step (q + k)).same ((Ch.refl _ _).drew.drew), ((Ch.refl (fun k => k = g) w).set (.inl rfl) _).drew.drew⟩
end Go.Proofs.Ytcpjjnikehcleaa.Sr
