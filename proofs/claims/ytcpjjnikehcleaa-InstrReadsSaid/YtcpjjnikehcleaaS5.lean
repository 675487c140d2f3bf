/- Reading bytes: ReadUint, ReadInt, ReadText; a field. -/
import Derived.Test.YtcpjjnikehcleaaS4
namespace Go.Proofs.Ytcpjjnikehcleaa.Sr
open Go.RowKit PChk Hq Go.Proofs.YtcpjjnikehcleaaW.PrintWords Go.Proofs.YtcpjjnikehcleaaW.PrintLast Go.Proofs.YtcpjjnikehcleaaW.PrintMore
set_option linter.unusedVariables false
set_option linter.unusedSimpArgs false

/-! ### from another place on -/
def shift {α : Type} (a : Nat) : Sum (α × Nat) (Nat × Int) → Sum (α × Nat) (Nat × Int)
  | .inl (v, q) => .inl (v, a + q)
  | .inr (q, e) => .inr (a + q, e)
theorem rd_drop (bs : List Int) (a p : Nat) : rd (bs.drop a) (p : Int) = rd bs ((a + p : Nat) : Int) := by
  unfold rd
  rw [Int.toNat_natCast, Int.toNat_natCast, List.getD_eq_getElem?_getD, List.getD_eq_getElem?_getD, List.getElem?_drop]
theorem numGo_shift (bs : List Int) (a : Nat) (ha : a ≤ bs.length) : ∀ (m i p : Nat) (acc : Int), numGo bs m i (a + p) acc = shift a (numGo (bs.drop a) m i p acc) := by
  intro m
  induction m with
  | zero => intro i p acc; rfl
  | succ m ih =>
    intro i p acc
    rw [numGo, numGo, rd_drop, List.length_drop, Nat.add_assoc, ih]
    by_cases h1 : bs.length ≤ a + p
    · rw [if_pos h1, if_pos (show bs.length - a ≤ p by omega)]
      show Sum.inr (bs.length, (4 : Int)) = Sum.inr (a + (bs.length - a), 4)
      rw [show a + (bs.length - a) = bs.length from by omega]
    · rw [if_neg h1, if_neg (show ¬ bs.length - a ≤ p by omega)]
      by_cases h2 : (rd bs ((a + p : Nat) : Int) = 0 ∧ 0 < i) ∨ (i = 9 ∧ rd bs ((a + p : Nat) : Int) ≠ 1)
      · rw [if_pos h2, if_pos h2]; rfl
      · rw [if_neg h2, if_neg h2]
        by_cases h3 : rd bs ((a + p : Nat) : Int) < 128
        · rw [if_pos h3, if_pos h3]; rfl
        · rw [if_neg h3, if_neg h3]
theorem numP_shift {bs : List Int} {a : Nat} (ha : a ≤ bs.length) : numP bs a = shift a (numP (bs.drop a) 0) := numGo_shift bs a ha 10 0 0 0
theorem intP_shift {bs : List Int} {a : Nat} (ha : a ≤ bs.length) : intP bs a = shift a (intP (bs.drop a) 0) := by
  unfold intP
  rw [numP_shift ha]
  cases numP (bs.drop a) 0 with
  | inl q => rfl
  | inr q => rfl
theorem textP_shift {bs : List Int} {a : Nat} (ha : a ≤ bs.length) : textP bs a = shift a (textP (bs.drop a) 0) := by
  unfold textP
  rw [numP_shift ha]
  cases numP (bs.drop a) 0 with
  | inr q => rfl
  | inl q =>
    obtain ⟨v, q⟩ := q
    simp only [shift, List.length_drop]
    have hc : (v > ((bs.length - a : Nat) : Int) - (q : Int)) ↔ (v > (bs.length : Int) - ((a + q : Nat) : Int)) := by omega
    by_cases h : v > (bs.length : Int) - ((a + q : Nat) : Int)
    · rw [if_pos h, if_pos (hc.2 h)]
      show Sum.inr (bs.length, (4 : Int)) = Sum.inr (a + (bs.length - a), 4)
      rw [show a + (bs.length - a) = bs.length from by omega]
    · rw [if_neg h, if_neg (fun e => h (hc.1 e))]
      show Sum.inl (_, _) = Sum.inl (_, _)
      rw [show a + q + v.toNat = a + (q + v.toNat) from by omega, List.take_drop, List.drop_drop]
theorem numGo_err (bs : List Int) : ∀ (m i p : Nat) (acc : Int) (q : Nat) (e : Int), p ≤ bs.length → numGo bs m i p acc = .inr (q, e) → q ≤ bs.length ∧ (e = 3 ∨ e = 4) := by
  intro m
  induction m with
  | zero => intro i p acc q e hp h; cases h; exact ⟨hp, Or.inl rfl⟩
  | succ m ih =>
    intro i p acc q e hp h
    rw [numGo] at h
    split at h
    · cases h; exact ⟨Nat.le_refl _, Or.inr rfl⟩
    · split at h
      · cases h; exact ⟨hp, Or.inl rfl⟩
      · split at h
        · cases h
        · exact ih _ _ _ _ _ (by omega) h
theorem numP_err {bs : List Int} {p : Nat} (hp : p ≤ bs.length) {q : Nat} {e : Int} (h : numP bs p = .inr (q, e)) : q ≤ bs.length ∧ (e = 3 ∨ e = 4) := numGo_err bs 10 0 p 0 q e hp h
/-- What a telling looks like. -/
def Fine (n : Nat) (tx e : Int) : Prop := 0 ≤ tx ∧ tx ≤ (n : Int) ∧ (e = 0 ∨ e = 3 ∨ e = 4)
theorem num_fine {bs : List Int} (hb : U8 bs) {p : Nat} (hp : p ≤ bs.length) : Fine bs.length (told (numP bs p)).2.1 (told (numP bs p)).2.2 := by
  cases h : numP bs p with
  | inl q => obtain ⟨v, q⟩ := q; have := numP_bd hb h; exact ⟨by show 0 ≤ (q : Int); omega, by show (q : Int) ≤ _; omega, Or.inl rfl⟩
  | inr q => obtain ⟨q, e⟩ := q; have := numP_err hp h; exact ⟨by show 0 ≤ (q : Int); omega, by show (q : Int) ≤ _; omega, Or.inr this.2⟩
theorem int_fine {bs : List Int} (hb : U8 bs) {p : Nat} (hp : p ≤ bs.length) : Fine bs.length (told (intP bs p)).2.1 (told (intP bs p)).2.2 := by
  unfold intP
  cases h : numP bs p with
  | inl q => obtain ⟨v, q⟩ := q; have := numP_bd hb h; exact ⟨by show 0 ≤ (q : Int); omega, by show (q : Int) ≤ _; omega, Or.inl rfl⟩
  | inr q => obtain ⟨q, e⟩ := q; have := numP_err hp h; exact ⟨by show 0 ≤ (q : Int); omega, by show (q : Int) ≤ _; omega, Or.inr this.2⟩
theorem text_fine {bs : List Int} (hb : U8 bs) {p : Nat} (hp : p ≤ bs.length) : Fine bs.length (toldT (textP bs p)).2.1 (toldT (textP bs p)).2.2 := by
  unfold textP
  cases h : numP bs p with
  | inl q =>
    obtain ⟨v, q⟩ := q
    have := numP_bd hb h
    simp only
    by_cases hv : v > (bs.length : Int) - (q : Int)
    · rw [if_pos hv]; exact ⟨by show 0 ≤ (bs.length : Int); omega, by show (bs.length : Int) ≤ _; omega, Or.inr (Or.inr rfl)⟩
    · rw [if_neg hv]; exact ⟨by show 0 ≤ ((q + v.toNat : Nat) : Int); omega, by show ((q + v.toNat : Nat) : Int) ≤ _; omega, Or.inl rfl⟩
  | inr q => obtain ⟨q, e⟩ := q; have := numP_err hp h; exact ⟨by show 0 ≤ (q : Int); omega, by show (q : Int) ≤ _; omega, Or.inr this.2⟩
theorem told_shift (a : Nat) (r : Sum (Int × Nat) (Nat × Int)) : told (shift a r) = ((told r).1, (a : Int) + (told r).2.1, (told r).2.2) := by
  rcases r with ⟨v, q⟩ | ⟨q, e⟩ <;> simp [told, shift]
theorem toldT_shift (a : Nat) (r : Sum (ByteArray × Nat) (Nat × Int)) : toldT (shift a r) = ((toldT r).1, (a : Int) + (toldT r).2.1, (toldT r).2.2) := by
  rcases r with ⟨v, q⟩ | ⟨q, e⟩ <;> simp [toldT, shift]
theorem U8.drop {bs : List Int} (h : U8 bs) (a : Nat) : U8 (bs.drop a) := fun x hx => h x (List.mem_of_mem_drop hx)
/-- Behind a field. -/
def Fld (v : Value) (tx e : Int) (g : Nat) (w : World) (en : Ending) (w' : World) : Prop :=
  en = .returned (.tuple #[v, .int .i64 e]) ∧ w'.heap[g]? = some (.cells #[.int .i64 tx] 3 (0, 0)) ∧ Ch (fun k => k = g) w w'
theorem told_err0 {r : Sum (Int × Nat) (Nat × Int)} {n : Nat} (hf : Fine n (told r).2.1 (told r).2.2) (he : (told r).2.2 ≠ 0) : (told r).1 = 0 := by
  rcases r with ⟨v, q⟩ | ⟨q, e⟩
  · exact absurd rfl he
  · rfl
theorem toldT_err0 {r : Sum (ByteArray × Nat) (Nat × Int)} {n : Nat} (hf : Fine n (toldT r).2.1 (toldT r).2.2) (he : (toldT r).2.2 ≠ 0) : (toldT r).1 = ⟨#[]⟩ := by
  rcases r with ⟨v, q⟩ | ⟨q, e⟩
  · exact absurd rfl he
  · rfl
set_option maxRecDepth 100000 in
theorem uint_calls (w : World) (A : Option Addr) (c : Nat) (bs : List Int) (hr : Kd.C (Kd.int .u8) w A bs.length bs) (hc : bs.length ≤ c) (hb : U8 bs) :
    Calls Try.prog 26 #[.slice A bs.length c] w (Three (.int .u64 (told (numP bs 0)).1) (.int .i64 (told (numP bs 0)).2.1) (.int .i64 (told (numP bs 0)).2.2) w) := by
  have RC := Aside0.mk (read36 w A c bs hr hc hb)
  generalize told (numP bs 0) = r at *
  clear hr hc hb
  go_enter Try.func26, Try.ntmps26
  go_wp2_with (go_at_call 36; go_loud (refine RC.out.mono ?_; rintro e w1 ⟨rfl, hb⟩; have B1 := Aside0.mk hb; clear hb))
  go_ret3
  exact ⟨rfl, B1.out⟩
set_option maxRecDepth 100000 in
theorem field_uint_no (w : World) (A : Option Addr) (n c g : Nat) (tx : Int) (f : Value) (hg : w.heap[g]? = some (.cells #[.int .i64 tx] 3 (0, 0))) :
    Calls Try.prog 38 #[.slice A n c, .pointer (some ⟨g, 0, none⟩), .bool false, f] w (Fld (.int .u64 0) tx 0 g w) := by
  have HG := Aside0.mk hg
  clear hg
  go_enter Try.func38, Try.ntmps38
  go_wp2
  go_ret2
  exact ⟨rfl, HG.out, Ch.refl _ _⟩
set_option maxHeartbeats 4000000 in
set_option maxRecDepth 100000 in
theorem field_uint_yes (w : World) (A : Option Addr) (c g a : Nat) (bs : List Int) (hr : Kd.C (Kd.int .u8) w A bs.length bs) (hc : bs.length ≤ c) (hb : U8 bs) (ha : a ≤ bs.length) (hg : w.heap[g]? = some (.cells #[.int .i64 (a : Int)] 3 (0, 0))) :
    Calls Try.prog 38 #[.slice A bs.length c, .pointer (some ⟨g, 0, none⟩), .bool true, .func (.func 26) #[] #[]] w (Fld (.int .u64 (told (numP bs a)).1) (told (numP bs a)).2.1 (told (numP bs a)).2.2 g w) := by
  have hu45 := Try.underlying45
  obtain ⟨i9, hi9, _, hsz9, _⟩ := info_parts info5
  obtain ⟨A9, hcut9, hA9, hC9⟩ := print_drop_of (P := Try.prog) (Value.int .u8) 0 45 5 .i64 Try.underlying45 hi9 hsz9 A c bs (a : Int) (by omega) (by omega) hc
  rw [Int.toNat_natCast] at hcut9 hA9 hC9
  have hR9 : Kd.C (Kd.int .u8) w A9 (bs.drop a).length (bs.drop a) := Kd.C_of_reads (h1 := fun _ => rfl) (hA9 _ (Kd.reads_of_C hr))
  have RC := uint_calls w A9 (c - a) (bs.drop a) hR9 hC9 (hb.drop a)
  have hf := num_fine (hb.drop a) (Nat.zero_le _)
  have hmx := hr.2.1
  rw [numP_shift ha, told_shift]
  have he0 := fun he => told_err0 hf he
  generalize told (numP (bs.drop a) 0) = r at *
  obtain ⟨v, tx, er⟩ := r
  simp only at RC hf he0 ⊢
  rw [List.length_drop] at hcut9 RC hf
  have g0 := (blk_cell hg 0).trans rfl
  have w1 : IntKind.i64.wrap ((a : Int) + tx) = (a : Int) + tx := by rw [IntKind.wrap_i64]; have h1 := hf.1; have h2 := hf.2.1; omega
  have RC := Aside0.mk RC
  have HG := Aside0.mk hg
  have hlt := blk_lt hg
  obtain ⟨n, hn⟩ : ∃ n, bs.length = n := ⟨_, rfl⟩
  rw [hn] at hcut9 RC ⊢
  have er3 := hf.2.2
  by_cases he : er = 0
  · subst he
    clear hr hc hb hg hR9 hA9 hC9 hi9 hsz9 hf hmx ha hn he0 er3
    go_enter Try.func38, Try.ntmps38
    go_wp2_with (go_at_call 26; go_loud (refine RC.out.mono ?_; rintro e w1 ⟨rfl, hb⟩; have C1 := Aside0.mk (Ch.of_below (S := fun _ => False) hb (fun k hk hle => by omega)); have hg1 := C1.out.keep HG.out (fun h => h); have G1 := Aside0.mk hg1; have g1 := (blk_cell hg1 0).trans rfl; have f1 := blk_frozen hg1 0; clear hb hg1))
    go_ret2
    exact ⟨rfl, blk_put G1.out 0 _ rfl, (C1.out.mono (fun _ _ h => h.elim)).trans ((Ch.refl (fun k => k = g) w1).set (.inl rfl) _) (fun _ _ h => h)⟩
  · have b1 : (er != 0) = true := bne_iff_ne.mpr he
    have b2 : (er == 0) = false := beq_eq_false_iff_ne.mpr he
    have hv := he0 he
    subst hv
    clear hr hc hb hg hR9 hA9 hC9 hi9 hsz9 hf hmx ha hn he0 er3 he
    go_enter Try.func38, Try.ntmps38
    go_wp2_with (go_at_call 26; go_loud (refine RC.out.mono ?_; rintro e w1 ⟨rfl, hb⟩; have C1 := Aside0.mk (Ch.of_below (S := fun _ => False) hb (fun k hk hle => by omega)); have hg1 := C1.out.keep HG.out (fun h => h); have G1 := Aside0.mk hg1; have g1 := (blk_cell hg1 0).trans rfl; have f1 := blk_frozen hg1 0; clear hb hg1))
    go_ret2
    exact ⟨rfl, blk_put G1.out 0 _ rfl, (C1.out.mono (fun _ _ h => h.elim)).trans ((Ch.refl (fun k => k = g) w1).set (.inl rfl) _) (fun _ _ h => h)⟩
set_option maxRecDepth 100000 in
theorem int_calls (w : World) (A : Option Addr) (c : Nat) (bs : List Int) (hr : Kd.C (Kd.int .u8) w A bs.length bs) (hc : bs.length ≤ c) (hb : U8 bs) :
    Calls Try.prog 40 #[.slice A bs.length c] w (Three (.int .i64 (told (intP bs 0)).1) (.int .i64 (told (intP bs 0)).2.1) (.int .i64 (told (intP bs 0)).2.2) w) := by
  have RC := Aside0.mk (read52 w A c bs hr hc hb)
  generalize told (intP bs 0) = r at *
  clear hr hc hb
  go_enter Try.func40, Try.ntmps40
  go_wp2_with (go_at_call 52; go_loud (refine RC.out.mono ?_; rintro e w1 ⟨rfl, hb⟩; have B1 := Aside0.mk hb; clear hb))
  go_ret3
  exact ⟨rfl, B1.out⟩
set_option maxRecDepth 100000 in
theorem field_int_no (w : World) (A : Option Addr) (n c g : Nat) (tx : Int) (f : Value) (hg : w.heap[g]? = some (.cells #[.int .i64 tx] 3 (0, 0))) :
    Calls Try.prog 39 #[.slice A n c, .pointer (some ⟨g, 0, none⟩), .bool false, f] w (Fld (.int .i64 0) tx 0 g w) := by
  have HG := Aside0.mk hg
  clear hg
  go_enter Try.func39, Try.ntmps39
  go_wp2
  go_ret2
  exact ⟨rfl, HG.out, Ch.refl _ _⟩
set_option maxHeartbeats 4000000 in
set_option maxRecDepth 100000 in
theorem field_int_yes (w : World) (A : Option Addr) (c g a : Nat) (bs : List Int) (hr : Kd.C (Kd.int .u8) w A bs.length bs) (hc : bs.length ≤ c) (hb : U8 bs) (ha : a ≤ bs.length) (hg : w.heap[g]? = some (.cells #[.int .i64 (a : Int)] 3 (0, 0))) :
    Calls Try.prog 39 #[.slice A bs.length c, .pointer (some ⟨g, 0, none⟩), .bool true, .func (.func 40) #[] #[]] w (Fld (.int .i64 (told (intP bs a)).1) (told (intP bs a)).2.1 (told (intP bs a)).2.2 g w) := by
  have hu45 := Try.underlying45
  obtain ⟨i9, hi9, _, hsz9, _⟩ := info_parts info5
  obtain ⟨A9, hcut9, hA9, hC9⟩ := print_drop_of (P := Try.prog) (Value.int .u8) 0 45 5 .i64 Try.underlying45 hi9 hsz9 A c bs (a : Int) (by omega) (by omega) hc
  rw [Int.toNat_natCast] at hcut9 hA9 hC9
  have hR9 : Kd.C (Kd.int .u8) w A9 (bs.drop a).length (bs.drop a) := Kd.C_of_reads (h1 := fun _ => rfl) (hA9 _ (Kd.reads_of_C hr))
  have RC := int_calls w A9 (c - a) (bs.drop a) hR9 hC9 (hb.drop a)
  have hf := int_fine (hb.drop a) (Nat.zero_le _)
  have hmx := hr.2.1
  rw [intP_shift ha, told_shift]
  have he0 := fun he => told_err0 hf he
  generalize told (intP (bs.drop a) 0) = r at *
  obtain ⟨v, tx, er⟩ := r
  simp only at RC hf he0 ⊢
  rw [List.length_drop] at hcut9 RC hf
  have g0 := (blk_cell hg 0).trans rfl
  have w1 : IntKind.i64.wrap ((a : Int) + tx) = (a : Int) + tx := by rw [IntKind.wrap_i64]; have h1 := hf.1; have h2 := hf.2.1; omega
  have RC := Aside0.mk RC
  have HG := Aside0.mk hg
  have hlt := blk_lt hg
  obtain ⟨n, hn⟩ : ∃ n, bs.length = n := ⟨_, rfl⟩
  rw [hn] at hcut9 RC ⊢
  have er3 := hf.2.2
  by_cases he : er = 0
  · subst he
    clear hr hc hb hg hR9 hA9 hC9 hi9 hsz9 hf hmx ha hn he0 er3
    go_enter Try.func39, Try.ntmps39
    go_wp2_with (go_at_call 40; go_loud (refine RC.out.mono ?_; rintro e w1 ⟨rfl, hb⟩; have C1 := Aside0.mk (Ch.of_below (S := fun _ => False) hb (fun k hk hle => by omega)); have hg1 := C1.out.keep HG.out (fun h => h); have G1 := Aside0.mk hg1; have g1 := (blk_cell hg1 0).trans rfl; have f1 := blk_frozen hg1 0; clear hb hg1))
    go_ret2
    exact ⟨rfl, blk_put G1.out 0 _ rfl, (C1.out.mono (fun _ _ h => h.elim)).trans ((Ch.refl (fun k => k = g) w1).set (.inl rfl) _) (fun _ _ h => h)⟩
  · have b1 : (er != 0) = true := bne_iff_ne.mpr he
    have b2 : (er == 0) = false := beq_eq_false_iff_ne.mpr he
    have hv := he0 he
    subst hv
    clear hr hc hb hg hR9 hA9 hC9 hi9 hsz9 hf hmx ha hn he0 er3 he
    go_enter Try.func39, Try.ntmps39
    go_wp2_with (go_at_call 40; go_loud (refine RC.out.mono ?_; rintro e w1 ⟨rfl, hb⟩; have C1 := Aside0.mk (Ch.of_below (S := fun _ => False) hb (fun k hk hle => by omega)); have hg1 := C1.out.keep HG.out (fun h => h); have G1 := Aside0.mk hg1; have g1 := (blk_cell hg1 0).trans rfl; have f1 := blk_frozen hg1 0; clear hb hg1))
    go_ret2
    exact ⟨rfl, blk_put G1.out 0 _ rfl, (C1.out.mono (fun _ _ h => h.elim)).trans ((Ch.refl (fun k => k = g) w1).set (.inl rfl) _) (fun _ _ h => h)⟩
set_option maxRecDepth 100000 in
theorem textf_calls (w : World) (A : Option Addr) (c : Nat) (bs : List Int) (hr : Kd.C (Kd.int .u8) w A bs.length bs) (hc : bs.length ≤ c) (hb : U8 bs) :
    Calls Try.prog 42 #[.slice A bs.length c] w (Three (.string (toldT (textP bs 0)).1) (.int .i64 (toldT (textP bs 0)).2.1) (.int .i64 (toldT (textP bs 0)).2.2) w) := by
  have RC := Aside0.mk (read54 w A c bs hr hc hb)
  generalize toldT (textP bs 0) = r at *
  clear hr hc hb
  go_enter Try.func42, Try.ntmps42
  go_wp2_with (go_at_call 54; go_loud (refine RC.out.mono ?_; rintro e w1 ⟨rfl, hb⟩; have B1 := Aside0.mk hb; clear hb))
  go_ret3
  exact ⟨rfl, B1.out⟩
set_option maxRecDepth 100000 in
theorem field_text_no (w : World) (A : Option Addr) (n c g : Nat) (tx : Int) (f : Value) (hg : w.heap[g]? = some (.cells #[.int .i64 tx] 3 (0, 0))) :
    Calls Try.prog 41 #[.slice A n c, .pointer (some ⟨g, 0, none⟩), .bool false, f] w (Fld (.string ⟨#[]⟩) tx 0 g w) := by
  have HG := Aside0.mk hg
  clear hg
  go_enter Try.func41, Try.ntmps41
  go_wp2
  go_ret2
  exact ⟨rfl, HG.out, Ch.refl _ _⟩
set_option maxHeartbeats 4000000 in
set_option maxRecDepth 100000 in
theorem field_text_yes (w : World) (A : Option Addr) (c g a : Nat) (bs : List Int) (hr : Kd.C (Kd.int .u8) w A bs.length bs) (hc : bs.length ≤ c) (hb : U8 bs) (ha : a ≤ bs.length) (hg : w.heap[g]? = some (.cells #[.int .i64 (a : Int)] 3 (0, 0))) :
    Calls Try.prog 41 #[.slice A bs.length c, .pointer (some ⟨g, 0, none⟩), .bool true, .func (.func 42) #[] #[]] w (Fld (.string (toldT (textP bs a)).1) (toldT (textP bs a)).2.1 (toldT (textP bs a)).2.2 g w) := by
  have hu45 := Try.underlying45
  obtain ⟨i9, hi9, _, hsz9, _⟩ := info_parts info5
  obtain ⟨A9, hcut9, hA9, hC9⟩ := print_drop_of (P := Try.prog) (Value.int .u8) 0 45 5 .i64 Try.underlying45 hi9 hsz9 A c bs (a : Int) (by omega) (by omega) hc
  rw [Int.toNat_natCast] at hcut9 hA9 hC9
  have hR9 : Kd.C (Kd.int .u8) w A9 (bs.drop a).length (bs.drop a) := Kd.C_of_reads (h1 := fun _ => rfl) (hA9 _ (Kd.reads_of_C hr))
  have RC := textf_calls w A9 (c - a) (bs.drop a) hR9 hC9 (hb.drop a)
  have hf := text_fine (hb.drop a) (Nat.zero_le _)
  have hmx := hr.2.1
  rw [textP_shift ha, toldT_shift]
  have he0 := fun he => toldT_err0 hf he
  generalize toldT (textP (bs.drop a) 0) = r at *
  obtain ⟨v, tx, er⟩ := r
  simp only at RC hf he0 ⊢
  rw [List.length_drop] at hcut9 RC hf
  have g0 := (blk_cell hg 0).trans rfl
  have w1 : IntKind.i64.wrap ((a : Int) + tx) = (a : Int) + tx := by rw [IntKind.wrap_i64]; have h1 := hf.1; have h2 := hf.2.1; omega
  have RC := Aside0.mk RC
  have HG := Aside0.mk hg
  have hlt := blk_lt hg
  obtain ⟨n, hn⟩ : ∃ n, bs.length = n := ⟨_, rfl⟩
  rw [hn] at hcut9 RC ⊢
  have er3 := hf.2.2
  by_cases he : er = 0
  · subst he
    clear hr hc hb hg hR9 hA9 hC9 hi9 hsz9 hf hmx ha hn he0 er3
    go_enter Try.func41, Try.ntmps41
    go_wp2_with (go_at_call 42; go_loud (refine RC.out.mono ?_; rintro e w1 ⟨rfl, hb⟩; have C1 := Aside0.mk (Ch.of_below (S := fun _ => False) hb (fun k hk hle => by omega)); have hg1 := C1.out.keep HG.out (fun h => h); have G1 := Aside0.mk hg1; have g1 := (blk_cell hg1 0).trans rfl; have f1 := blk_frozen hg1 0; clear hb hg1))
    go_ret2
    exact ⟨rfl, blk_put G1.out 0 _ rfl, (C1.out.mono (fun _ _ h => h.elim)).trans ((Ch.refl (fun k => k = g) w1).set (.inl rfl) _) (fun _ _ h => h)⟩
  · have b1 : (er != 0) = true := bne_iff_ne.mpr he
    have b2 : (er == 0) = false := beq_eq_false_iff_ne.mpr he
    have hv := he0 he
    subst hv
    clear hr hc hb hg hR9 hA9 hC9 hi9 hsz9 hf hmx ha hn he0 er3 he
    go_enter Try.func41, Try.ntmps41
    go_wp2_with (go_at_call 42; go_loud (refine RC.out.mono ?_; rintro e w1 ⟨rfl, hb⟩; have C1 := Aside0.mk (Ch.of_below (S := fun _ => False) hb (fun k hk hle => by omega)); have hg1 := C1.out.keep HG.out (fun h => h); have G1 := Aside0.mk hg1; have g1 := (blk_cell hg1 0).trans rfl; have f1 := blk_frozen hg1 0; clear hb hg1))
    go_ret2
    exact ⟨rfl, blk_put G1.out 0 _ rfl, (C1.out.mono (fun _ _ h => h.elim)).trans ((Ch.refl (fun k => k = g) w1).set (.inl rfl) _) (fun _ _ h => h)⟩
end Go.Proofs.Ytcpjjnikehcleaa.Sr
