/- Reading bytes: an instruction. -/
import Derived.Test.YtcpjjnikehcleaaS5
import Derived.Test.YtcpjjnikehcleaaR0
namespace Go.Proofs.Ytcpjjnikehcleaa.Sr
open Go.RowKit PChk Hq Gw Rt Go.Proofs.YtcpjjnikehcleaaW.PrintWords Go.Proofs.YtcpjjnikehcleaaW.PrintLast Go.Proofs.YtcpjjnikehcleaaW.PrintMore
set_option linter.unusedVariables false
set_option linter.unusedSimpArgs false
attribute [local go_sem] max2_int min2_int max_two min_two

def optNum (b : Bool) (bs : List Int) (p : Nat) : Sum (Int × Nat) (Nat × Int) := if b then numP bs p else .inl (0, p)
def optInt (b : Bool) (bs : List Int) (p : Nat) : Sum (Int × Nat) (Nat × Int) := if b then intP bs p else .inl (0, p)
def optText (b : Bool) (bs : List Int) (p : Nat) : Sum (ByteArray × Nat) (Nat × Int) := if b then textP bs p else .inl (⟨#[]⟩, p)
theorem fnum (b : Bool) (w : World) (A : Option Addr) (c g a : Nat) (bs : List Int) (hr : Kd.C (Kd.int .u8) w A bs.length bs) (hc : bs.length ≤ c) (hb : U8 bs) (ha : a ≤ bs.length) (hg : w.heap[g]? = some (.cells #[.int .i64 (a : Int)] 3 (0, 0))) :
    Calls Try.prog 38 #[.slice A bs.length c, .pointer (some ⟨g, 0, none⟩), .bool b, .func (.func 26) #[] #[]] w (Fld (.int .u64 (told (optNum b bs a)).1) (told (optNum b bs a)).2.1 (told (optNum b bs a)).2.2 g w) := by
  cases b with
  | false => exact field_uint_no w A bs.length c g a _ hg
  | true => exact field_uint_yes w A c g a bs hr hc hb ha hg
theorem fint (b : Bool) (w : World) (A : Option Addr) (c g a : Nat) (bs : List Int) (hr : Kd.C (Kd.int .u8) w A bs.length bs) (hc : bs.length ≤ c) (hb : U8 bs) (ha : a ≤ bs.length) (hg : w.heap[g]? = some (.cells #[.int .i64 (a : Int)] 3 (0, 0))) :
    Calls Try.prog 39 #[.slice A bs.length c, .pointer (some ⟨g, 0, none⟩), .bool b, .func (.func 40) #[] #[]] w (Fld (.int .i64 (told (optInt b bs a)).1) (told (optInt b bs a)).2.1 (told (optInt b bs a)).2.2 g w) := by
  cases b with
  | false => exact field_int_no w A bs.length c g a _ hg
  | true => exact field_int_yes w A c g a bs hr hc hb ha hg
theorem ftext (b : Bool) (w : World) (A : Option Addr) (c g a : Nat) (bs : List Int) (hr : Kd.C (Kd.int .u8) w A bs.length bs) (hc : bs.length ≤ c) (hb : U8 bs) (ha : a ≤ bs.length) (hg : w.heap[g]? = some (.cells #[.int .i64 (a : Int)] 3 (0, 0))) :
    Calls Try.prog 41 #[.slice A bs.length c, .pointer (some ⟨g, 0, none⟩), .bool b, .func (.func 42) #[] #[]] w (Fld (.string (toldT (optText b bs a)).1) (toldT (optText b bs a)).2.1 (toldT (optText b bs a)).2.2 g w) := by
  cases b with
  | false => exact field_text_no w A bs.length c g a _ hg
  | true => exact field_text_yes w A c g a bs hr hc hb ha hg
theorem optNum_fine {b : Bool} {bs : List Int} (hb : U8 bs) {p : Nat} (hp : p ≤ bs.length) :
    (∀ v q, optNum b bs p = .inl (v, q) → 0 ≤ v ∧ v < 18446744073709551616 ∧ q ≤ bs.length ∧ p ≤ q) ∧ (∀ q e, optNum b bs p = .inr (q, e) → q ≤ bs.length ∧ (e = 3 ∨ e = 4)) := by
  unfold optNum
  cases b with
  | false => exact ⟨fun v q h => by cases h; exact ⟨by decide, by decide, hp, Nat.le_refl _⟩, fun q e h => by cases h⟩
  | true => exact ⟨fun v q h => by have := numP_bd hb h; exact ⟨this.1, this.2.1, this.2.2.1, Nat.le_of_lt this.2.2.2⟩, fun q e h => numP_err hp h⟩
theorem optInt_fine {b : Bool} {bs : List Int} (hb : U8 bs) {p : Nat} (hp : p ≤ bs.length) :
    (∀ v q, optInt b bs p = .inl (v, q) → q ≤ bs.length ∧ p ≤ q) ∧ (∀ q e, optInt b bs p = .inr (q, e) → q ≤ bs.length ∧ (e = 3 ∨ e = 4)) := by
  unfold optInt
  cases b with
  | false => exact ⟨fun v q h => by cases h; exact ⟨hp, Nat.le_refl _⟩, fun q e h => by cases h⟩
  | true =>
    rw [if_pos rfl]
    unfold intP
    cases h : numP bs p with
    | inl r => obtain ⟨v, q⟩ := r; have := numP_bd hb h; exact ⟨fun v q h => by cases h; exact ⟨this.2.2.1, Nat.le_of_lt this.2.2.2⟩, fun q e h => by cases h⟩
    | inr r => obtain ⟨q, e⟩ := r; have := numP_err hp h; exact ⟨fun v q h => (by cases h), fun q e h => (by cases h; exact this)⟩
theorem optText_fine {b : Bool} {bs : List Int} (hb : U8 bs) {p : Nat} (hp : p ≤ bs.length) :
    (∀ v q, optText b bs p = .inl (v, q) → q ≤ bs.length ∧ p ≤ q) ∧ (∀ q e, optText b bs p = .inr (q, e) → q ≤ bs.length ∧ (e = 3 ∨ e = 4)) := by
  unfold optText
  cases b with
  | false => exact ⟨fun v q h => by cases h; exact ⟨hp, Nat.le_refl _⟩, fun q e h => by cases h⟩
  | true =>
    rw [if_pos rfl]
    unfold textP
    cases h : numP bs p with
    | inl r =>
      obtain ⟨v, q⟩ := r
      have := numP_bd hb h
      simp only
      by_cases hv : v > (bs.length : Int) - (q : Int)
      · rw [if_pos hv]; exact ⟨fun v q h => (by cases h), fun q e h => (by cases h; exact ⟨Nat.le_refl _, Or.inr rfl⟩)⟩
      · rw [if_neg hv]; exact ⟨fun v' q' h => by cases h; exact ⟨by omega, by omega⟩, fun q e h => by cases h⟩
    | inr r => obtain ⟨q, e⟩ := r; have := numP_err hp h; exact ⟨fun v q h => (by cases h), fun q e h => (by cases h; exact this)⟩
/-- An instruction from a place on. -/
def clampA (a : Int) : Int := if (4611686018427387904 : Int) < a then 4611686018427387904 else a
def oneP (bs : List Int) (p : Nat) (n : Int) : Sum (S36 × Nat) (Nat × Int) :=
  if bs.length ≤ p then .inr (p, 4) else
  match optNum ((kd (rd bs (p : Int))).2.1 != 0) bs (p + 1) with
  | .inr e => .inr e
  | .inl (a, t1) => match optInt (kd (rd bs (p : Int))).2.2.1 bs t1 with
    | .inr e => .inr e
    | .inl (m, t2) => match optText ((kd (rd bs (p : Int))).2.2.2.1 != 0) bs t2 with
      | .inr e => .inr e
      | .inl (s, t3) => if okN n ⟨rd bs (p : Int), clampA a, m, s⟩ then .inl (⟨rd bs (p : Int), clampA a, m, s⟩, t3) else .inr (p, 3)
def agg36 (x : S36) : Value := .agg #[.int .u8 x.f0, .int .i64 x.f1, .int .i64 x.f2, .string x.f3]
/-- Behind one. -/
def One (r : Sum (S36 × Nat) (Nat × Int)) (w : World) (e : Ending) (w' : World) : Prop :=
  match r with
  | .inl (x, t) => e = .returned (.tuple #[agg36 x, .int .i64 (t : Int), .int .i64 0]) ∧ Below w.heap.size w w'
  | .inr (t, er) => ∃ x, e = .returned (.tuple #[agg36 x, .int .i64 (t : Int), .int .i64 er]) ∧ Below w.heap.size w w'
theorem two (w : World) (o1 o2 : Obj) : ((w.alloc o1).alloc o2).heap[w.heap.size]? = some o1 ∧ ((w.alloc o1).alloc o2).heap[w.heap.size + 1]? = some o2 := by
  have k0 := blk_new w o1
  have k1 := blk_new (w.alloc o1) o2
  rw [World.size_alloc] at k1
  exact ⟨((Ch.refl (fun _ => False) (w.alloc o1)).alloc o2).keep k0 (fun h => h), k1⟩
theorem info36' : (Try.prog.info? 36).map (·.size) = some 4 := by kernel_rfl
theorem res27 {tmps : Array Value} {W : World} {b6 b7 : Nat} {x : S36} {t e : Int} (h6 : tmps.getD 6 undef = .pointer (some ⟨b6, 0, none⟩)) (h7 : tmps.getD 7 undef = .pointer (some ⟨b7, 0, none⟩)) (h8 : tmps.getD 8 undef = .int .i64 e)
    (X6 : W.heap[b6]? = some (.cells #[.int .u8 x.f0, .int .i64 x.f1, .int .i64 x.f2, .string x.f3] 36 (0, 0))) (X7 : W.heap[b7]? = some (.cells #[.int .i64 t] 3 (0, 0))) :
    (results Try.f27 tmps).run Try.prog W = .ok (.tuple #[agg36 x, .int .i64 t, .int .i64 e]) W := by
  have h6' : tmps[6]?.getD undef = .pointer (some ⟨b6, 0, none⟩) := by simpa using h6
  have h7' : tmps[7]?.getD undef = .pointer (some ⟨b7, 0, none⟩) := by simpa using h7
  have h8' : tmps[8]?.getD undef = .int .i64 e := by simpa using h8
  have c0 : W.cell? ⟨b6, 0, none⟩ = some (.int .u8 x.f0) := (blk_cell X6 0).trans rfl
  have c1 : W.cell? ⟨b6, 1, none⟩ = some (.int .i64 x.f1) := (blk_cell X6 1).trans rfl
  have c2 : W.cell? ⟨b6, 2, none⟩ = some (.int .i64 x.f2) := (blk_cell X6 2).trans rfl
  have c3 : W.cell? ⟨b6, 3, none⟩ = some (.string x.f3) := (blk_cell X6 3).trans rfl
  have hu36 := Try.underlying36
  have g7 : W.cell? ⟨b7, 0, none⟩ = some (.int .i64 t) := (blk_cell X7 0).trans rfl
  have hu3 := Try.underlying3
  simp [results, Try.results27, h6', h7', h8', asAddr, agg36, go_sem, c0, c1, c2, c3, g7]
set_option maxHeartbeats 4000000 in
set_option maxRecDepth 100000 in
theorem one_end (w : World) (A : Option Addr) (c : Nat) (bs : List Int) (n : Int) :
    Calls Try.prog 27 #[.slice A bs.length c, .int .i64 (bs.length : Int), .int .i64 n] w (One (.inr (bs.length, 4)) w) := by
  have hu36 := Try.underlying36
  have T := two w (.cells #[.int .u8 0, .int .i64 0, .int .i64 0, .string ⟨#[]⟩] 36) (.cells #[.int .i64 (bs.length : Int)] 3)
  have T := Aside0.mk T
  go_enter Try.func27, Try.ntmps27
  go_wp2
  refine bodyPost_ret (res27 (x := z36) (t := (bs.length : Int)) (e := 4) rfl rfl rfl T.out.1 T.out.2) rfl ?_
  exact ⟨z36, rfl, ((Below.refl _ w).alloc (Nat.le_refl _) _).alloc (by simp) _⟩
end Go.Proofs.Ytcpjjnikehcleaa.Sr
