/- Reading bytes: an instruction, walked. -/
import Derived.Test.YtcpjjnikehcleaaS6
namespace Go.Proofs.Ytcpjjnikehcleaa.Sr
open Go.RowKit PChk Hq Gw Rt Go.Proofs.YtcpjjnikehcleaaW.PrintWords Go.Proofs.YtcpjjnikehcleaaW.PrintLast Go.Proofs.YtcpjjnikehcleaaW.PrintMore
set_option linter.unusedVariables false
set_option linter.unusedSimpArgs false
attribute [local go_sem] max2_int min2_int max_two min_two

def C36 (op a m : Int) (s : ByteArray) : Obj := .cells #[.int .u8 op, .int .i64 a, .int .i64 m, .string s] 36
/-- The results' cells of one, and the kind's. -/
structure OSt (w W : World) (b9 : Nat) (op a m : Int) (s : ByteArray) (t : Int) (ks : Array Value) : Prop where
  x6 : W.heap[w.heap.size]? = some (.cells #[.int .u8 op, .int .i64 a, .int .i64 m, .string s] 36 (0, 0))
  x7 : W.heap[w.heap.size + 1]? = some (.cells #[.int .i64 t] 3 (0, 0))
  x9 : W.heap[b9]? = some (.cells ks 55 (0, 0))
  below : Below w.heap.size w W
theorem OSt.fld {w W V : World} {b9 : Nat} {op a m t t' : Int} {s : ByteArray} {ks : Array Value} (h : OSt w W b9 op a m s t ks) (h7 : V.heap[w.heap.size + 1]? = some (.cells #[.int .i64 t'] 3 (0, 0))) (hc : Ch (fun k => k = w.heap.size + 1) W V) : OSt w V b9 op a m s t' ks :=
  ⟨hc.keep h.x6 (by omega), h7, hc.keep h.x9 (fun e => blk_ne h.x9 h.x7 (by decide) e), h.below.trans (hc.below h.below.size (fun k hk => by omega))⟩
theorem OSt.ne {w W : World} {b9 : Nat} {op a m t : Int} {s : ByteArray} {ks : Array Value} (h : OSt w W b9 op a m s t ks) : b9 ≠ w.heap.size ∧ b9 ≠ w.heap.size + 1 :=
  ⟨fun e => blk_ne h.x9 h.x6 (by decide) e, fun e => blk_ne h.x9 h.x7 (by decide) e⟩
theorem OSt.put {w W : World} {b9 : Nat} {op a m t op' a' m' : Int} {s s' : ByteArray} {ks : Array Value} (h : OSt w W b9 op a m s t ks) (i : Nat) (u : Value) (e : (#[.int .u8 op, .int .i64 a, .int .i64 m, .string s] : Array Value).setIfInBounds i u = #[.int .u8 op', .int .i64 a', .int .i64 m', .string s']) :
    OSt w (W.setCell ⟨w.heap.size, i, none⟩ u) b9 op' a' m' s' t ks := by
  have hn := h.ne
  have hc : Ch (fun k => k = w.heap.size) W (W.setCell ⟨w.heap.size, i, none⟩ u) := (Ch.refl (fun k => k = w.heap.size) W).set (.inl rfl) _
  exact ⟨blk_put h.x6 i u e, hc.keep h.x7 (by omega), hc.keep h.x9 hn.1, h.below.trans (hc.below h.below.size (fun k hk => by omega))⟩
theorem OSt.same {w W V : World} {b9 : Nat} {op a m t : Int} {s : ByteArray} {ks : Array Value} (h : OSt w W b9 op a m s t ks) (hc : Ch (fun _ => False) W V) : OSt w V b9 op a m s t ks :=
  ⟨hc.keep h.x6 (fun h => h), hc.keep h.x7 (fun h => h), hc.keep h.x9 (fun h => h), h.below.trans (hc.below h.below.size (fun _ h => h.elim))⟩
theorem OSt.put7 {w W : World} {b9 : Nat} {op a m t : Int} {s : ByteArray} {ks : Array Value} (h : OSt w W b9 op a m s t ks) (t' : Int) : OSt w (W.setCell ⟨w.heap.size + 1, 0, none⟩ (.int .i64 t')) b9 op a m s t' ks :=
  h.fld (blk_put h.x7 0 _ rfl) ((Ch.refl (fun k => k = w.heap.size + 1) W).set (.inl rfl) _)
/-- What stands there at the end is handed back. -/
theorem OSt.back {w W : World} {b9 : Nat} {op a m t : Int} {s : ByteArray} {ks : Array Value} (h : OSt w W b9 op a m s t ks) {tmps : Array Value} {e : Int} (h6 : tmps.getD 6 undef = .pointer (some ⟨w.heap.size, 0, none⟩)) (h7 : tmps.getD 7 undef = .pointer (some ⟨w.heap.size + 1, 0, none⟩)) (h8 : tmps.getD 8 undef = .int .i64 e) :
    (results Try.f27 tmps).run Try.prog W = .ok (.tuple #[agg36 ⟨op, a, m, s⟩, .int .i64 t, .int .i64 e]) W := res27 (x := ⟨op, a, m, s⟩) h6 h7 h8 h.x6 h.x7
/-- Stored as it was. -/
theorem OSt.again {w W : World} {b9 : Nat} {op a m t : Int} {s : ByteArray} {ks : Array Value} (h : OSt w W b9 op a m s t ks) (t' : Int) :
    OSt w (((((W.setCell ⟨w.heap.size, 0, none⟩ (.int .u8 op)).setCell ⟨w.heap.size, 1, none⟩ (.int .i64 a)).setCell ⟨w.heap.size, 2, none⟩ (.int .i64 m)).setCell ⟨w.heap.size, 3, none⟩ (.string s)).setCell ⟨w.heap.size + 1, 0, none⟩ (.int .i64 t')) b9 op a m s t' ks :=
  ((((h.put (op' := op) (a' := a) (m' := m) (s' := s) 0 (.int .u8 op) rfl).put (op' := op) (a' := a) (m' := m) (s' := s) 1 (.int .i64 a) rfl).put (op' := op) (a' := a) (m' := m) (s' := s) 2 (.int .i64 m) rfl).put (op' := op) (a' := a) (m' := m) (s' := s) 3 (.string s) rfl).put7 t'
set_option maxHeartbeats 8000000 in
set_option maxRecDepth 100000 in
theorem one_err1 (w : World) (A : Option Addr) (c : Nat) (bs : List Int) (p : Nat) (nn : Int) (hr : Kd.C (Kd.int .u8) w A bs.length bs) (hc : bs.length ≤ c) (hb : U8 bs) (hp : p < bs.length) (op : Int) (hop : rd bs (p : Int) = op)
    (word : ByteArray) (ka : Int) (knum : Bool) (ktext ktakes kleave : Int) (kmany kends : Bool) (hk : instr_kindOf.f op = some (word, ka, knum, ktext, ktakes, kleave, kmany, kends)) (t1 : Nat) (e1 : Int) (h1 : optNum (ka != 0) bs (p + 1) = .inr (t1, e1)) :
    Calls Try.prog 27 #[.slice A bs.length c, .int .i64 (p : Int), .int .i64 nn] w (One (.inr (t1, e1)) w) := by
  have hu36 := Try.underlying36
  have hu45 := Try.underlying45
  have hu55 := Try.underlying55
  have KC := Aside0.mk (fun w1 => instr_kindOf.calls op word ka knum ktext ktakes kleave kmany kends w1 hk)
  obtain ⟨ad, cc, hA, hl, hK, hcc⟩ := Kd.C_get hr (0 : Int) (p : Int) (by omega) (by omega)
  have hk2 : cc = [.int .u8 (rd bs (p : Int))] := hK
  subst hk2
  have h0 := hcc 0 _ rfl
  rw [show ((p : Int).toNat * (Kd.int .u8).sz + 0) = p from by show (p : Int).toNat * 1 + 0 = p; omega, hop] at h0
  subst hA
  have y0 : ∀ o1 o2, ((w.alloc o1).alloc o2).cell? (ad.add p) = some (.int .u8 op) := fun o1 o2 => by
    rw [((((Ch.refl (fun _ => False) w).alloc o1).alloc o2).below (Nat.le_refl _) (fun _ h => h.elim)).cell (World.block_lt_of_cell? w _ h0)]; exact h0
  have HR := Aside0.mk hr
  have HC := Aside0.mk hc
  have HB := Aside0.mk hb
  have HP := Aside0.mk hp
  have hmx := hr.2.1
  obtain ⟨n, hn⟩ : ∃ n, bs.length = n := ⟨_, rfl⟩
  have HN := Aside0.mk hn
  rw [hn] at hp hmx ⊢
  have d1 : ((p : Int) == (n : Int)) = false := beq_eq_false_iff_ne.mpr (by omega)
  have d2 : decide (p = n) = false := decide_eq_false (by omega)
  have q1 : (0 ≤ (p : Int)) = True := eq_true (by omega)
  have q2 : ((p : Int) < (n : Int)) = True := eq_true (by omega)
  have w1 : IntKind.i64.wrap ((p : Int) + 1) = ((p + 1 : Nat) : Int) := by rw [IntKind.wrap_i64]; omega
  have T1 := Aside0.mk (two w (.cells #[.int .u8 op, .int .i64 0, .int .i64 0, .string ⟨#[]⟩] 36) (.cells #[.int .i64 ((p + 1 : Nat) : Int)] 3))
  have B0 := Aside0.mk (((Below.refl w.heap.size w).alloc (Nat.le_refl _) (.cells #[.int .u8 op, .int .i64 0, .int .i64 0, .string ⟨#[]⟩] 36)).alloc (by simp) (.cells #[.int .i64 ((p + 1 : Nat) : Int)] 3))
  have he := ((optNum_fine hb (by omega)).2 _ _ h1).2
  have HO1 := Aside0.mk h1
  have b1 : (e1 != 0) = true := bne_iff_ne.mpr (by omega)
  have b2 : (e1 == 0) = false := beq_eq_false_iff_ne.mpr (by omega)
  clear hr hc hb hp hop hk hcc hK hl h0 hmx hn h1 he
  go_enter Try.func27, Try.ntmps27
  go_wp2_with (first
    | (go_at_call 20; go_loud (refine (KC.out _).mono ?_; rintro e w1 ⟨rfl, hb⟩; have hz : w.heap.size + 1 < w1.heap.size := (by have := hb.size; simp at this; omega); have S1 := Aside0.mk (show OSt w (w1.alloc (.cells #[.string word, .int .u8 ka, .bool knum, .int .u8 ktext, .int .i64 ktakes, .int .i64 kleave, .bool kmany, .bool kends] 55)) w1.heap.size op 0 0 ⟨#[]⟩ ((p + 1 : Nat) : Int) #[.string word, .int .u8 ka, .bool knum, .int .u8 ktext, .int .i64 ktakes, .int .i64 kleave, .bool kmany, .bool kends] from ⟨((Ch.refl (fun _ => False) w1).alloc (.cells #[.string word, .int .u8 ka, .bool knum, .int .u8 ktext, .int .i64 ktakes, .int .i64 kleave, .bool kmany, .bool kends] 55)).keep ((hb.block w.heap.size (by simp; omega)).trans T1.out.1) (fun h => h), ((Ch.refl (fun _ => False) w1).alloc (.cells #[.string word, .int .u8 ka, .bool knum, .int .u8 ktext, .int .i64 ktakes, .int .i64 kleave, .bool kmany, .bool kends] 55)).keep ((hb.block (w.heap.size + 1) (by simp)).trans T1.out.2) (fun h => h), blk_new w1 (.cells #[.string word, .int .u8 ka, .bool knum, .int .u8 ktext, .int .i64 ktakes, .int .i64 kleave, .bool kmany, .bool kends] 55), (B0.out.trans (hb.mono (by simp; omega))).alloc (by omega) (.cells #[.string word, .int .u8 ka, .bool knum, .int .u8 ktext, .int .i64 ktakes, .int .i64 kleave, .bool kmany, .bool kends] 55)⟩); have N1 := Aside0.mk S1.out.ne; clear hb hz))
    | (go_at_call 38; go_loud (have F1 := (fnum (ka != 0) _ (some ad) c (w.heap.size + 1) (p + 1) bs (Kd.C_below HR.out S1.out.below) HC.out HB.out HP.out S1.out.x7); rw [HN.out, HO1.out] at F1; simp only [told] at F1; refine F1.mono ?_; clear F1; rintro e w2 ⟨rfl, h7, hc2⟩; have S2 := Aside0.mk (S1.out.fld h7 hc2); clear h7 hc2; have c0b := (blk_cell S2.out.x6 0).trans rfl; have c1b := (blk_cell S2.out.x6 1).trans rfl; have c2b := (blk_cell S2.out.x6 2).trans rfl; have c3b := (blk_cell S2.out.x6 3).trans rfl; have f0b := blk_frozen S2.out.x6 0; have f1b := blk_frozen S2.out.x6 1; have f2b := blk_frozen S2.out.x6 2; have f3b := blk_frozen S2.out.x6 3; have t0b := (blk_cell S2.out.x7 0).trans rfl; have g0b := blk_frozen S2.out.x7 0; have k1b := (blk_cell S2.out.x9 1).trans rfl; have k2b := (blk_cell S2.out.x9 2).trans rfl; have k3b := (blk_cell S2.out.x9 3).trans rfl)))
  go_region
  go_wp2
  refine bodyPost_ret (((S2.out.again _).same (Ch.refl (fun _ => False) _).drew).back rfl rfl rfl) rfl ?_
  exact ⟨_, rfl, ((S2.out.again _).same (Ch.refl (fun _ => False) _).drew).below⟩
set_option maxHeartbeats 8000000 in
set_option maxRecDepth 100000 in
theorem one_err2 (w : World) (A : Option Addr) (c : Nat) (bs : List Int) (p : Nat) (nn : Int) (hr : Kd.C (Kd.int .u8) w A bs.length bs) (hc : bs.length ≤ c) (hb : U8 bs) (hp : p < bs.length) (op : Int) (hop : rd bs (p : Int) = op)
    (word : ByteArray) (ka : Int) (knum : Bool) (ktext ktakes kleave : Int) (kmany kends : Bool) (hk : instr_kindOf.f op = some (word, ka, knum, ktext, ktakes, kleave, kmany, kends)) (a : Int) (t1 t2 : Nat) (e1 : Int) (h1 : optNum (ka != 0) bs (p + 1) = .inl (a, t1)) (h2 : optInt knum bs t1 = .inr (t2, e1)) :
    Calls Try.prog 27 #[.slice A bs.length c, .int .i64 (p : Int), .int .i64 nn] w (One (.inr (t2, e1)) w) := by
  have hu36 := Try.underlying36
  have hu45 := Try.underlying45
  have hu55 := Try.underlying55
  have KC := Aside0.mk (fun w1 => instr_kindOf.calls op word ka knum ktext ktakes kleave kmany kends w1 hk)
  obtain ⟨ad, cc, hA, hl, hK, hcc⟩ := Kd.C_get hr (0 : Int) (p : Int) (by omega) (by omega)
  have hk2 : cc = [.int .u8 (rd bs (p : Int))] := hK
  subst hk2
  have h0 := hcc 0 _ rfl
  rw [show ((p : Int).toNat * (Kd.int .u8).sz + 0) = p from by show (p : Int).toNat * 1 + 0 = p; omega, hop] at h0
  subst hA
  have y0 : ∀ o1 o2, ((w.alloc o1).alloc o2).cell? (ad.add p) = some (.int .u8 op) := fun o1 o2 => by
    rw [((((Ch.refl (fun _ => False) w).alloc o1).alloc o2).below (Nat.le_refl _) (fun _ h => h.elim)).cell (World.block_lt_of_cell? w _ h0)]; exact h0
  have HR := Aside0.mk hr
  have HC := Aside0.mk hc
  have HB := Aside0.mk hb
  have HP := Aside0.mk hp
  have hmx := hr.2.1
  obtain ⟨n, hn⟩ : ∃ n, bs.length = n := ⟨_, rfl⟩
  have HN := Aside0.mk hn
  rw [hn] at hp hmx ⊢
  have d1 : ((p : Int) == (n : Int)) = false := beq_eq_false_iff_ne.mpr (by omega)
  have d2 : decide (p = n) = false := decide_eq_false (by omega)
  have q1 : (0 ≤ (p : Int)) = True := eq_true (by omega)
  have q2 : ((p : Int) < (n : Int)) = True := eq_true (by omega)
  have w1 : IntKind.i64.wrap ((p : Int) + 1) = ((p + 1 : Nat) : Int) := by rw [IntKind.wrap_i64]; omega
  have T1 := Aside0.mk (two w (.cells #[.int .u8 op, .int .i64 0, .int .i64 0, .string ⟨#[]⟩] 36) (.cells #[.int .i64 ((p + 1 : Nat) : Int)] 3))
  have B0 := Aside0.mk (((Below.refl w.heap.size w).alloc (Nat.le_refl _) (.cells #[.int .u8 op, .int .i64 0, .int .i64 0, .string ⟨#[]⟩] 36)).alloc (by simp) (.cells #[.int .i64 ((p + 1 : Nat) : Int)] 3))
  have hf1 := (optNum_fine hb (by omega)).1 _ _ h1
  have he := ((optInt_fine hb hf1.2.2.1).2 _ _ h2).2
  have HO1 := Aside0.mk h1
  have HO2 := Aside0.mk h2
  have HT1 := Aside0.mk hf1.2.2.1
  have b1 : (e1 != 0) = true := bne_iff_ne.mpr (by omega)
  have b2 : (e1 == 0) = false := beq_eq_false_iff_ne.mpr (by omega)
  clear hr hc hb hp hop hk hcc hK hl h0 hmx hn h1 h2 hf1 he
  go_enter Try.func27, Try.ntmps27
  go_wp2_with (first
    | (go_at_call 20; go_loud (refine (KC.out _).mono ?_; rintro e w1 ⟨rfl, hb⟩; have hz : w.heap.size + 1 < w1.heap.size := (by have := hb.size; simp at this; omega); have S1 := Aside0.mk (show OSt w (w1.alloc (.cells #[.string word, .int .u8 ka, .bool knum, .int .u8 ktext, .int .i64 ktakes, .int .i64 kleave, .bool kmany, .bool kends] 55)) w1.heap.size op 0 0 ⟨#[]⟩ ((p + 1 : Nat) : Int) #[.string word, .int .u8 ka, .bool knum, .int .u8 ktext, .int .i64 ktakes, .int .i64 kleave, .bool kmany, .bool kends] from ⟨((Ch.refl (fun _ => False) w1).alloc (.cells #[.string word, .int .u8 ka, .bool knum, .int .u8 ktext, .int .i64 ktakes, .int .i64 kleave, .bool kmany, .bool kends] 55)).keep ((hb.block w.heap.size (by simp; omega)).trans T1.out.1) (fun h => h), ((Ch.refl (fun _ => False) w1).alloc (.cells #[.string word, .int .u8 ka, .bool knum, .int .u8 ktext, .int .i64 ktakes, .int .i64 kleave, .bool kmany, .bool kends] 55)).keep ((hb.block (w.heap.size + 1) (by simp)).trans T1.out.2) (fun h => h), blk_new w1 (.cells #[.string word, .int .u8 ka, .bool knum, .int .u8 ktext, .int .i64 ktakes, .int .i64 kleave, .bool kmany, .bool kends] 55), (B0.out.trans (hb.mono (by simp; omega))).alloc (by omega) (.cells #[.string word, .int .u8 ka, .bool knum, .int .u8 ktext, .int .i64 ktakes, .int .i64 kleave, .bool kmany, .bool kends] 55)⟩); have N1 := Aside0.mk S1.out.ne; clear hb hz))
    | (go_at_call 38; go_loud (have F1 := (fnum (ka != 0) _ (some ad) c (w.heap.size + 1) (p + 1) bs (Kd.C_below HR.out S1.out.below) HC.out HB.out HP.out S1.out.x7); rw [HN.out, HO1.out] at F1; simp only [told] at F1; refine F1.mono ?_; clear F1; rintro e w2 ⟨rfl, h7, hc2⟩; have S2 := Aside0.mk (S1.out.fld h7 hc2); clear h7 hc2; have c0b := (blk_cell S2.out.x6 0).trans rfl; have c1b := (blk_cell S2.out.x6 1).trans rfl; have c2b := (blk_cell S2.out.x6 2).trans rfl; have c3b := (blk_cell S2.out.x6 3).trans rfl; have f0b := blk_frozen S2.out.x6 0; have f1b := blk_frozen S2.out.x6 1; have f2b := blk_frozen S2.out.x6 2; have f3b := blk_frozen S2.out.x6 3; have t0b := (blk_cell S2.out.x7 0).trans rfl; have g0b := blk_frozen S2.out.x7 0; have k1b := (blk_cell S2.out.x9 1).trans rfl; have k2b := (blk_cell S2.out.x9 2).trans rfl; have k3b := (blk_cell S2.out.x9 3).trans rfl))
    | (go_at_call 39; go_loud (have F2 := (fint knum _ (some ad) c (w.heap.size + 1) t1 bs (Kd.C_below HR.out S2.out.below) HC.out HB.out HT1.out S2.out.x7); rw [HN.out, HO2.out] at F2; simp only [told] at F2; refine F2.mono ?_; clear F2; rintro e w3 ⟨rfl, h7, hc3⟩; have Sa := Aside0.mk (S2.out.fld h7 hc3); have S3 := Aside0.mk (Sa.out.put (op' := op) (a' := 0) (m' := 0) (s' := ⟨#[]⟩) 2 (.int .i64 0) rfl); clear h7 hc3; have c0c := (blk_cell Sa.out.x6 0).trans rfl; have c1c := (blk_cell Sa.out.x6 1).trans rfl; have c2c := (blk_cell Sa.out.x6 2).trans rfl; have c3c := (blk_cell Sa.out.x6 3).trans rfl; have f0c := blk_frozen Sa.out.x6 0; have f1c := blk_frozen Sa.out.x6 1; have f2c := blk_frozen Sa.out.x6 2; have f3c := blk_frozen Sa.out.x6 3; have t0c := (blk_cell Sa.out.x7 0).trans rfl; have g0c := blk_frozen Sa.out.x7 0; have k1c := (blk_cell Sa.out.x9 1).trans rfl; have k2c := (blk_cell Sa.out.x9 2).trans rfl; have k3c := (blk_cell Sa.out.x9 3).trans rfl)))
  go_region
  go_wp2
  refine bodyPost_ret (((S3.out.again _).same (Ch.refl (fun _ => False) _).drew).back rfl rfl rfl) rfl ?_
  exact ⟨_, rfl, ((S3.out.again _).same (Ch.refl (fun _ => False) _).drew).below⟩
set_option maxHeartbeats 8000000 in
set_option maxRecDepth 100000 in
theorem one_err3 (w : World) (A : Option Addr) (c : Nat) (bs : List Int) (p : Nat) (nn : Int) (hr : Kd.C (Kd.int .u8) w A bs.length bs) (hc : bs.length ≤ c) (hb : U8 bs) (hp : p < bs.length) (op : Int) (hop : rd bs (p : Int) = op)
    (word : ByteArray) (ka : Int) (knum : Bool) (ktext ktakes kleave : Int) (kmany kends : Bool) (hk : instr_kindOf.f op = some (word, ka, knum, ktext, ktakes, kleave, kmany, kends)) (a m : Int) (t1 t2 t3 : Nat) (e1 : Int) (h1 : optNum (ka != 0) bs (p + 1) = .inl (a, t1)) (h2 : optInt knum bs t1 = .inl (m, t2)) (h3 : optText (ktext != 0) bs t2 = .inr (t3, e1)) :
    Calls Try.prog 27 #[.slice A bs.length c, .int .i64 (p : Int), .int .i64 nn] w (One (.inr (t3, e1)) w) := by
  have hu36 := Try.underlying36
  have hu45 := Try.underlying45
  have hu55 := Try.underlying55
  have KC := Aside0.mk (fun w1 => instr_kindOf.calls op word ka knum ktext ktakes kleave kmany kends w1 hk)
  obtain ⟨ad, cc, hA, hl, hK, hcc⟩ := Kd.C_get hr (0 : Int) (p : Int) (by omega) (by omega)
  have hk2 : cc = [.int .u8 (rd bs (p : Int))] := hK
  subst hk2
  have h0 := hcc 0 _ rfl
  rw [show ((p : Int).toNat * (Kd.int .u8).sz + 0) = p from by show (p : Int).toNat * 1 + 0 = p; omega, hop] at h0
  subst hA
  have y0 : ∀ o1 o2, ((w.alloc o1).alloc o2).cell? (ad.add p) = some (.int .u8 op) := fun o1 o2 => by
    rw [((((Ch.refl (fun _ => False) w).alloc o1).alloc o2).below (Nat.le_refl _) (fun _ h => h.elim)).cell (World.block_lt_of_cell? w _ h0)]; exact h0
  have HR := Aside0.mk hr
  have HC := Aside0.mk hc
  have HB := Aside0.mk hb
  have HP := Aside0.mk hp
  have hmx := hr.2.1
  obtain ⟨n, hn⟩ : ∃ n, bs.length = n := ⟨_, rfl⟩
  have HN := Aside0.mk hn
  rw [hn] at hp hmx ⊢
  have d1 : ((p : Int) == (n : Int)) = false := beq_eq_false_iff_ne.mpr (by omega)
  have d2 : decide (p = n) = false := decide_eq_false (by omega)
  have q1 : (0 ≤ (p : Int)) = True := eq_true (by omega)
  have q2 : ((p : Int) < (n : Int)) = True := eq_true (by omega)
  have w1 : IntKind.i64.wrap ((p : Int) + 1) = ((p + 1 : Nat) : Int) := by rw [IntKind.wrap_i64]; omega
  have T1 := Aside0.mk (two w (.cells #[.int .u8 op, .int .i64 0, .int .i64 0, .string ⟨#[]⟩] 36) (.cells #[.int .i64 ((p + 1 : Nat) : Int)] 3))
  have B0 := Aside0.mk (((Below.refl w.heap.size w).alloc (Nat.le_refl _) (.cells #[.int .u8 op, .int .i64 0, .int .i64 0, .string ⟨#[]⟩] 36)).alloc (by simp) (.cells #[.int .i64 ((p + 1 : Nat) : Int)] 3))
  have hf1 := (optNum_fine hb (by omega)).1 _ _ h1
  have hf2 := (optInt_fine hb hf1.2.2.1).1 _ _ h2
  have he := ((optText_fine hb hf2.1).2 _ _ h3).2
  have HO1 := Aside0.mk h1
  have HO2 := Aside0.mk h2
  have HO3 := Aside0.mk h3
  have HT1 := Aside0.mk hf1.2.2.1
  have HT2 := Aside0.mk hf2.1
  have b1 : (e1 != 0) = true := bne_iff_ne.mpr (by omega)
  have b2 : (e1 == 0) = false := beq_eq_false_iff_ne.mpr (by omega)
  clear hr hc hb hp hop hk hcc hK hl h0 hmx hn h1 h2 h3 hf1 hf2 he
  go_enter Try.func27, Try.ntmps27
  go_wp2_with (first
    | (go_at_call 20; go_loud (refine (KC.out _).mono ?_; rintro e w1 ⟨rfl, hb⟩; have hz : w.heap.size + 1 < w1.heap.size := (by have := hb.size; simp at this; omega); have S1 := Aside0.mk (show OSt w (w1.alloc (.cells #[.string word, .int .u8 ka, .bool knum, .int .u8 ktext, .int .i64 ktakes, .int .i64 kleave, .bool kmany, .bool kends] 55)) w1.heap.size op 0 0 ⟨#[]⟩ ((p + 1 : Nat) : Int) #[.string word, .int .u8 ka, .bool knum, .int .u8 ktext, .int .i64 ktakes, .int .i64 kleave, .bool kmany, .bool kends] from ⟨((Ch.refl (fun _ => False) w1).alloc (.cells #[.string word, .int .u8 ka, .bool knum, .int .u8 ktext, .int .i64 ktakes, .int .i64 kleave, .bool kmany, .bool kends] 55)).keep ((hb.block w.heap.size (by simp; omega)).trans T1.out.1) (fun h => h), ((Ch.refl (fun _ => False) w1).alloc (.cells #[.string word, .int .u8 ka, .bool knum, .int .u8 ktext, .int .i64 ktakes, .int .i64 kleave, .bool kmany, .bool kends] 55)).keep ((hb.block (w.heap.size + 1) (by simp)).trans T1.out.2) (fun h => h), blk_new w1 (.cells #[.string word, .int .u8 ka, .bool knum, .int .u8 ktext, .int .i64 ktakes, .int .i64 kleave, .bool kmany, .bool kends] 55), (B0.out.trans (hb.mono (by simp; omega))).alloc (by omega) (.cells #[.string word, .int .u8 ka, .bool knum, .int .u8 ktext, .int .i64 ktakes, .int .i64 kleave, .bool kmany, .bool kends] 55)⟩); have N1 := Aside0.mk S1.out.ne; clear hb hz))
    | (go_at_call 38; go_loud (have F1 := (fnum (ka != 0) _ (some ad) c (w.heap.size + 1) (p + 1) bs (Kd.C_below HR.out S1.out.below) HC.out HB.out HP.out S1.out.x7); rw [HN.out, HO1.out] at F1; simp only [told] at F1; refine F1.mono ?_; clear F1; rintro e w2 ⟨rfl, h7, hc2⟩; have S2 := Aside0.mk (S1.out.fld h7 hc2); clear h7 hc2; have c0b := (blk_cell S2.out.x6 0).trans rfl; have c1b := (blk_cell S2.out.x6 1).trans rfl; have c2b := (blk_cell S2.out.x6 2).trans rfl; have c3b := (blk_cell S2.out.x6 3).trans rfl; have f0b := blk_frozen S2.out.x6 0; have f1b := blk_frozen S2.out.x6 1; have f2b := blk_frozen S2.out.x6 2; have f3b := blk_frozen S2.out.x6 3; have t0b := (blk_cell S2.out.x7 0).trans rfl; have g0b := blk_frozen S2.out.x7 0; have k1b := (blk_cell S2.out.x9 1).trans rfl; have k2b := (blk_cell S2.out.x9 2).trans rfl; have k3b := (blk_cell S2.out.x9 3).trans rfl))
    | (go_at_call 39; go_loud (have F2 := (fint knum _ (some ad) c (w.heap.size + 1) t1 bs (Kd.C_below HR.out S2.out.below) HC.out HB.out HT1.out S2.out.x7); rw [HN.out, HO2.out] at F2; simp only [told] at F2; refine F2.mono ?_; clear F2; rintro e w3 ⟨rfl, h7, hc3⟩; have Sa := Aside0.mk (S2.out.fld h7 hc3); have S3 := Aside0.mk (Sa.out.put (op' := op) (a' := 0) (m' := m) (s' := ⟨#[]⟩) 2 (.int .i64 m) rfl); clear h7 hc3; have c0c := (blk_cell Sa.out.x6 0).trans rfl; have c1c := (blk_cell Sa.out.x6 1).trans rfl; have c2c := (blk_cell Sa.out.x6 2).trans rfl; have c3c := (blk_cell Sa.out.x6 3).trans rfl; have f0c := blk_frozen Sa.out.x6 0; have f1c := blk_frozen Sa.out.x6 1; have f2c := blk_frozen Sa.out.x6 2; have f3c := blk_frozen Sa.out.x6 3; have t0c := (blk_cell Sa.out.x7 0).trans rfl; have g0c := blk_frozen Sa.out.x7 0; have k1c := (blk_cell Sa.out.x9 1).trans rfl; have k2c := (blk_cell Sa.out.x9 2).trans rfl; have k3c := (blk_cell Sa.out.x9 3).trans rfl))
    | (go_at_call 41; go_loud (have F3 := (ftext (ktext != 0) _ (some ad) c (w.heap.size + 1) t2 bs (Kd.C_below HR.out S3.out.below) HC.out HB.out HT2.out S3.out.x7); rw [HN.out, HO3.out] at F3; simp only [toldT] at F3; refine F3.mono ?_; clear F3; rintro e w4 ⟨rfl, h7, hc4⟩; have Sb := Aside0.mk (S3.out.fld h7 hc4); have S4 := Aside0.mk (Sb.out.put (op' := op) (a' := 0) (m' := m) (s' := ⟨#[]⟩) 3 (.string ⟨#[]⟩) rfl); clear h7 hc4; have c0d := (blk_cell Sb.out.x6 0).trans rfl; have c1d := (blk_cell Sb.out.x6 1).trans rfl; have c2d := (blk_cell Sb.out.x6 2).trans rfl; have c3d := (blk_cell Sb.out.x6 3).trans rfl; have f0d := blk_frozen Sb.out.x6 0; have f1d := blk_frozen Sb.out.x6 1; have f2d := blk_frozen Sb.out.x6 2; have f3d := blk_frozen Sb.out.x6 3; have t0d := (blk_cell Sb.out.x7 0).trans rfl; have g0d := blk_frozen Sb.out.x7 0; have k1d := (blk_cell Sb.out.x9 1).trans rfl; have k2d := (blk_cell Sb.out.x9 2).trans rfl; have k3d := (blk_cell Sb.out.x9 3).trans rfl)))
  go_region
  go_wp2
  refine bodyPost_ret (((S4.out.again _).same (Ch.refl (fun _ => False) _).drew).back rfl rfl rfl) rfl ?_
  exact ⟨_, rfl, ((S4.out.again _).same (Ch.refl (fun _ => False) _).drew).below⟩
set_option maxHeartbeats 8000000 in
set_option maxRecDepth 100000 in
theorem one_okG (w : World) (A : Option Addr) (c : Nat) (bs : List Int) (p : Nat) (nn : Int) (hr : Kd.C (Kd.int .u8) w A bs.length bs) (hc : bs.length ≤ c) (hb : U8 bs) (hp : p < bs.length) (op : Int) (hop : rd bs (p : Int) = op)
    (word : ByteArray) (ka : Int) (knum : Bool) (ktext ktakes kleave : Int) (kmany kends : Bool) (hk : instr_kindOf.f op = some (word, ka, knum, ktext, ktakes, kleave, kmany, kends)) (a m : Int) (s : ByteArray) (t1 t2 t3 : Nat) (h1 : optNum (ka != 0) bs (p + 1) = .inl (a, t1)) (h2 : optInt knum bs t1 = .inl (m, t2)) (h3 : optText (ktext != 0) bs t2 = .inl (s, t3)) (hcl : (4611686018427387904 : Int) < a) (hok : okN nn ⟨op, 4611686018427387904, m, s⟩ = true) :
    Calls Try.prog 27 #[.slice A bs.length c, .int .i64 (p : Int), .int .i64 nn] w (One (.inl (⟨op, 4611686018427387904, m, s⟩, t3)) w) := by
  have hu36 := Try.underlying36
  have hu45 := Try.underlying45
  have hu55 := Try.underlying55
  have KC := Aside0.mk (fun w1 => instr_kindOf.calls op word ka knum ktext ktakes kleave kmany kends w1 hk)
  obtain ⟨ad, cc, hA, hl, hK, hcc⟩ := Kd.C_get hr (0 : Int) (p : Int) (by omega) (by omega)
  have hk2 : cc = [.int .u8 (rd bs (p : Int))] := hK
  subst hk2
  have h0 := hcc 0 _ rfl
  rw [show ((p : Int).toNat * (Kd.int .u8).sz + 0) = p from by show (p : Int).toNat * 1 + 0 = p; omega, hop] at h0
  subst hA
  have y0 : ∀ o1 o2, ((w.alloc o1).alloc o2).cell? (ad.add p) = some (.int .u8 op) := fun o1 o2 => by
    rw [((((Ch.refl (fun _ => False) w).alloc o1).alloc o2).below (Nat.le_refl _) (fun _ h => h.elim)).cell (World.block_lt_of_cell? w _ h0)]; exact h0
  have HR := Aside0.mk hr
  have HC := Aside0.mk hc
  have HB := Aside0.mk hb
  have HP := Aside0.mk hp
  have hmx := hr.2.1
  obtain ⟨n, hn⟩ : ∃ n, bs.length = n := ⟨_, rfl⟩
  have HN := Aside0.mk hn
  rw [hn] at hp hmx ⊢
  have d1 : ((p : Int) == (n : Int)) = false := beq_eq_false_iff_ne.mpr (by omega)
  have d2 : decide (p = n) = false := decide_eq_false (by omega)
  have q1 : (0 ≤ (p : Int)) = True := eq_true (by omega)
  have q2 : ((p : Int) < (n : Int)) = True := eq_true (by omega)
  have w1 : IntKind.i64.wrap ((p : Int) + 1) = ((p + 1 : Nat) : Int) := by rw [IntKind.wrap_i64]; omega
  have T1 := Aside0.mk (two w (.cells #[.int .u8 op, .int .i64 0, .int .i64 0, .string ⟨#[]⟩] 36) (.cells #[.int .i64 ((p + 1 : Nat) : Int)] 3))
  have B0 := Aside0.mk (((Below.refl w.heap.size w).alloc (Nat.le_refl _) (.cells #[.int .u8 op, .int .i64 0, .int .i64 0, .string ⟨#[]⟩] 36)).alloc (by simp) (.cells #[.int .i64 ((p + 1 : Nat) : Int)] 3))
  have hf1 := (optNum_fine hb (by omega)).1 _ _ h1
  have hf2 := (optInt_fine hb hf1.2.2.1).1 _ _ h2
  have hf3 := (optText_fine hb hf2.1).1 _ _ h3
  have HO1 := Aside0.mk h1
  have HO2 := Aside0.mk h2
  have HO3 := Aside0.mk h3
  have HT1 := Aside0.mk hf1.2.2.1
  have HT2 := Aside0.mk hf2.1
  have hx := hb.at p
  rw [hop] at hx
  have RC := Aside0.mk (fun w1 => instr_right.calls 40 op 4611686018427387904 m s nn true w1 (by rw [← hok]; exact right_is (x := ⟨op, 4611686018427387904, m, s⟩) hx.1 hx.2 nn (by omega)))
  have a0 := hf1.1
  have wa : IntKind.i64.wrap (4611686018427387904) = 4611686018427387904 := by rw [IntKind.wrap_i64]; omega
  clear hr hc hb hp hop hk hcc hK hl h0 hmx hn h1 h2 h3 hf1 hf2 hf3 hok hx
  go_enter Try.func27, Try.ntmps27
  go_wp2_with (first
    | (go_at_call 20; go_loud (refine (KC.out _).mono ?_; rintro e w1 ⟨rfl, hb⟩; have hz : w.heap.size + 1 < w1.heap.size := (by have := hb.size; simp at this; omega); have S1 := Aside0.mk (show OSt w (w1.alloc (.cells #[.string word, .int .u8 ka, .bool knum, .int .u8 ktext, .int .i64 ktakes, .int .i64 kleave, .bool kmany, .bool kends] 55)) w1.heap.size op 0 0 ⟨#[]⟩ ((p + 1 : Nat) : Int) #[.string word, .int .u8 ka, .bool knum, .int .u8 ktext, .int .i64 ktakes, .int .i64 kleave, .bool kmany, .bool kends] from ⟨((Ch.refl (fun _ => False) w1).alloc (.cells #[.string word, .int .u8 ka, .bool knum, .int .u8 ktext, .int .i64 ktakes, .int .i64 kleave, .bool kmany, .bool kends] 55)).keep ((hb.block w.heap.size (by simp; omega)).trans T1.out.1) (fun h => h), ((Ch.refl (fun _ => False) w1).alloc (.cells #[.string word, .int .u8 ka, .bool knum, .int .u8 ktext, .int .i64 ktakes, .int .i64 kleave, .bool kmany, .bool kends] 55)).keep ((hb.block (w.heap.size + 1) (by simp)).trans T1.out.2) (fun h => h), blk_new w1 (.cells #[.string word, .int .u8 ka, .bool knum, .int .u8 ktext, .int .i64 ktakes, .int .i64 kleave, .bool kmany, .bool kends] 55), (B0.out.trans (hb.mono (by simp; omega))).alloc (by omega) (.cells #[.string word, .int .u8 ka, .bool knum, .int .u8 ktext, .int .i64 ktakes, .int .i64 kleave, .bool kmany, .bool kends] 55)⟩); have N1 := Aside0.mk S1.out.ne; clear hb hz))
    | (go_at_call 38; go_loud (have F1 := (fnum (ka != 0) _ (some ad) c (w.heap.size + 1) (p + 1) bs (Kd.C_below HR.out S1.out.below) HC.out HB.out HP.out S1.out.x7); rw [HN.out, HO1.out] at F1; simp only [told] at F1; refine F1.mono ?_; clear F1; rintro e w2 ⟨rfl, h7, hc2⟩; have S2 := Aside0.mk (S1.out.fld h7 hc2); clear h7 hc2; have c0b := (blk_cell S2.out.x6 0).trans rfl; have c1b := (blk_cell S2.out.x6 1).trans rfl; have c2b := (blk_cell S2.out.x6 2).trans rfl; have c3b := (blk_cell S2.out.x6 3).trans rfl; have f0b := blk_frozen S2.out.x6 0; have f1b := blk_frozen S2.out.x6 1; have f2b := blk_frozen S2.out.x6 2; have f3b := blk_frozen S2.out.x6 3; have t0b := (blk_cell S2.out.x7 0).trans rfl; have g0b := blk_frozen S2.out.x7 0; have k1b := (blk_cell S2.out.x9 1).trans rfl; have k2b := (blk_cell S2.out.x9 2).trans rfl; have k3b := (blk_cell S2.out.x9 3).trans rfl))
    | (go_at_call 39; go_loud (have F2 := (fint knum _ (some ad) c (w.heap.size + 1) t1 bs (Kd.C_below HR.out S2.out.below) HC.out HB.out HT1.out S2.out.x7); rw [HN.out, HO2.out] at F2; simp only [told] at F2; refine F2.mono ?_; clear F2; rintro e w3 ⟨rfl, h7, hc3⟩; have Sa := Aside0.mk (S2.out.fld h7 hc3); have S3 := Aside0.mk (Sa.out.put (op' := op) (a' := 0) (m' := m) (s' := ⟨#[]⟩) 2 (.int .i64 m) rfl); clear h7 hc3; have c0c := (blk_cell Sa.out.x6 0).trans rfl; have c1c := (blk_cell Sa.out.x6 1).trans rfl; have c2c := (blk_cell Sa.out.x6 2).trans rfl; have c3c := (blk_cell Sa.out.x6 3).trans rfl; have f0c := blk_frozen Sa.out.x6 0; have f1c := blk_frozen Sa.out.x6 1; have f2c := blk_frozen Sa.out.x6 2; have f3c := blk_frozen Sa.out.x6 3; have t0c := (blk_cell Sa.out.x7 0).trans rfl; have g0c := blk_frozen Sa.out.x7 0; have k1c := (blk_cell Sa.out.x9 1).trans rfl; have k2c := (blk_cell Sa.out.x9 2).trans rfl; have k3c := (blk_cell Sa.out.x9 3).trans rfl))
    | (go_at_call 41; go_loud (have F3 := (ftext (ktext != 0) _ (some ad) c (w.heap.size + 1) t2 bs (Kd.C_below HR.out S3.out.below) HC.out HB.out HT2.out S3.out.x7); rw [HN.out, HO3.out] at F3; simp only [toldT] at F3; refine F3.mono ?_; clear F3; rintro e w4 ⟨rfl, h7, hc4⟩; have Sb := Aside0.mk (S3.out.fld h7 hc4); have S4 := Aside0.mk (Sb.out.put (op' := op) (a' := 0) (m' := m) (s' := s) 3 (.string s) rfl); clear h7 hc4; have c0d := (blk_cell Sb.out.x6 0).trans rfl; have c1d := (blk_cell Sb.out.x6 1).trans rfl; have c2d := (blk_cell Sb.out.x6 2).trans rfl; have c3d := (blk_cell Sb.out.x6 3).trans rfl; have f0d := blk_frozen Sb.out.x6 0; have f1d := blk_frozen Sb.out.x6 1; have f2d := blk_frozen Sb.out.x6 2; have f3d := blk_frozen Sb.out.x6 3; have t0d := (blk_cell Sb.out.x7 0).trans rfl; have g0d := blk_frozen Sb.out.x7 0; have k1d := (blk_cell Sb.out.x9 1).trans rfl; have k2d := (blk_cell Sb.out.x9 2).trans rfl; have k3d := (blk_cell Sb.out.x9 3).trans rfl))
    | (go_at_call 31; go_loud (refine (RC.out _).mono ?_; rintro e w5 ⟨rfl, hb5⟩; have S5 := Aside0.mk ((S4.out.put (op' := op) (a' := 4611686018427387904) (m' := m) (s' := s) 1 (.int .i64 (4611686018427387904)) rfl).same (Ch.of_below (S := fun _ => False) hb5 (fun k hk hle => by omega))); clear hb5; have c0e := (blk_cell S5.out.x6 0).trans rfl; have c1e := (blk_cell S5.out.x6 1).trans rfl; have c2e := (blk_cell S5.out.x6 2).trans rfl; have c3e := (blk_cell S5.out.x6 3).trans rfl; have f0e := blk_frozen S5.out.x6 0; have f1e := blk_frozen S5.out.x6 1; have f2e := blk_frozen S5.out.x6 2; have f3e := blk_frozen S5.out.x6 3; have t0e := (blk_cell S5.out.x7 0).trans rfl; have g0e := blk_frozen S5.out.x7 0; have k1e := (blk_cell S5.out.x9 1).trans rfl; have k2e := (blk_cell S5.out.x9 2).trans rfl; have k3e := (blk_cell S5.out.x9 3).trans rfl)))
  go_region
  go_wp2
  refine bodyPost_ret (((S5.out.again _).same (Ch.refl (fun _ => False) _).drew).back rfl rfl rfl) rfl ?_
  exact ⟨rfl, ((S5.out.again _).same (Ch.refl (fun _ => False) _).drew).below⟩
set_option maxHeartbeats 8000000 in
set_option maxRecDepth 100000 in
theorem one_okL (w : World) (A : Option Addr) (c : Nat) (bs : List Int) (p : Nat) (nn : Int) (hr : Kd.C (Kd.int .u8) w A bs.length bs) (hc : bs.length ≤ c) (hb : U8 bs) (hp : p < bs.length) (op : Int) (hop : rd bs (p : Int) = op)
    (word : ByteArray) (ka : Int) (knum : Bool) (ktext ktakes kleave : Int) (kmany kends : Bool) (hk : instr_kindOf.f op = some (word, ka, knum, ktext, ktakes, kleave, kmany, kends)) (a m : Int) (s : ByteArray) (t1 t2 t3 : Nat) (h1 : optNum (ka != 0) bs (p + 1) = .inl (a, t1)) (h2 : optInt knum bs t1 = .inl (m, t2)) (h3 : optText (ktext != 0) bs t2 = .inl (s, t3)) (hcl : a ≤ (4611686018427387904 : Int)) (hok : okN nn ⟨op, a, m, s⟩ = true) :
    Calls Try.prog 27 #[.slice A bs.length c, .int .i64 (p : Int), .int .i64 nn] w (One (.inl (⟨op, a, m, s⟩, t3)) w) := by
  have hu36 := Try.underlying36
  have hu45 := Try.underlying45
  have hu55 := Try.underlying55
  have KC := Aside0.mk (fun w1 => instr_kindOf.calls op word ka knum ktext ktakes kleave kmany kends w1 hk)
  obtain ⟨ad, cc, hA, hl, hK, hcc⟩ := Kd.C_get hr (0 : Int) (p : Int) (by omega) (by omega)
  have hk2 : cc = [.int .u8 (rd bs (p : Int))] := hK
  subst hk2
  have h0 := hcc 0 _ rfl
  rw [show ((p : Int).toNat * (Kd.int .u8).sz + 0) = p from by show (p : Int).toNat * 1 + 0 = p; omega, hop] at h0
  subst hA
  have y0 : ∀ o1 o2, ((w.alloc o1).alloc o2).cell? (ad.add p) = some (.int .u8 op) := fun o1 o2 => by
    rw [((((Ch.refl (fun _ => False) w).alloc o1).alloc o2).below (Nat.le_refl _) (fun _ h => h.elim)).cell (World.block_lt_of_cell? w _ h0)]; exact h0
  have HR := Aside0.mk hr
  have HC := Aside0.mk hc
  have HB := Aside0.mk hb
  have HP := Aside0.mk hp
  have hmx := hr.2.1
  obtain ⟨n, hn⟩ : ∃ n, bs.length = n := ⟨_, rfl⟩
  have HN := Aside0.mk hn
  rw [hn] at hp hmx ⊢
  have d1 : ((p : Int) == (n : Int)) = false := beq_eq_false_iff_ne.mpr (by omega)
  have d2 : decide (p = n) = false := decide_eq_false (by omega)
  have q1 : (0 ≤ (p : Int)) = True := eq_true (by omega)
  have q2 : ((p : Int) < (n : Int)) = True := eq_true (by omega)
  have w1 : IntKind.i64.wrap ((p : Int) + 1) = ((p + 1 : Nat) : Int) := by rw [IntKind.wrap_i64]; omega
  have T1 := Aside0.mk (two w (.cells #[.int .u8 op, .int .i64 0, .int .i64 0, .string ⟨#[]⟩] 36) (.cells #[.int .i64 ((p + 1 : Nat) : Int)] 3))
  have B0 := Aside0.mk (((Below.refl w.heap.size w).alloc (Nat.le_refl _) (.cells #[.int .u8 op, .int .i64 0, .int .i64 0, .string ⟨#[]⟩] 36)).alloc (by simp) (.cells #[.int .i64 ((p + 1 : Nat) : Int)] 3))
  have hf1 := (optNum_fine hb (by omega)).1 _ _ h1
  have hf2 := (optInt_fine hb hf1.2.2.1).1 _ _ h2
  have hf3 := (optText_fine hb hf2.1).1 _ _ h3
  have HO1 := Aside0.mk h1
  have HO2 := Aside0.mk h2
  have HO3 := Aside0.mk h3
  have HT1 := Aside0.mk hf1.2.2.1
  have HT2 := Aside0.mk hf2.1
  have hx := hb.at p
  rw [hop] at hx
  have RC := Aside0.mk (fun w1 => instr_right.calls 40 op a m s nn true w1 (by rw [← hok]; exact right_is (x := ⟨op, a, m, s⟩) hx.1 hx.2 nn (by omega)))
  have a0 := hf1.1
  have wa : IntKind.i64.wrap (a) = a := by rw [IntKind.wrap_i64]; omega
  clear hr hc hb hp hop hk hcc hK hl h0 hmx hn h1 h2 h3 hf1 hf2 hf3 hok hx
  go_enter Try.func27, Try.ntmps27
  go_wp2_with (first
    | (go_at_call 20; go_loud (refine (KC.out _).mono ?_; rintro e w1 ⟨rfl, hb⟩; have hz : w.heap.size + 1 < w1.heap.size := (by have := hb.size; simp at this; omega); have S1 := Aside0.mk (show OSt w (w1.alloc (.cells #[.string word, .int .u8 ka, .bool knum, .int .u8 ktext, .int .i64 ktakes, .int .i64 kleave, .bool kmany, .bool kends] 55)) w1.heap.size op 0 0 ⟨#[]⟩ ((p + 1 : Nat) : Int) #[.string word, .int .u8 ka, .bool knum, .int .u8 ktext, .int .i64 ktakes, .int .i64 kleave, .bool kmany, .bool kends] from ⟨((Ch.refl (fun _ => False) w1).alloc (.cells #[.string word, .int .u8 ka, .bool knum, .int .u8 ktext, .int .i64 ktakes, .int .i64 kleave, .bool kmany, .bool kends] 55)).keep ((hb.block w.heap.size (by simp; omega)).trans T1.out.1) (fun h => h), ((Ch.refl (fun _ => False) w1).alloc (.cells #[.string word, .int .u8 ka, .bool knum, .int .u8 ktext, .int .i64 ktakes, .int .i64 kleave, .bool kmany, .bool kends] 55)).keep ((hb.block (w.heap.size + 1) (by simp)).trans T1.out.2) (fun h => h), blk_new w1 (.cells #[.string word, .int .u8 ka, .bool knum, .int .u8 ktext, .int .i64 ktakes, .int .i64 kleave, .bool kmany, .bool kends] 55), (B0.out.trans (hb.mono (by simp; omega))).alloc (by omega) (.cells #[.string word, .int .u8 ka, .bool knum, .int .u8 ktext, .int .i64 ktakes, .int .i64 kleave, .bool kmany, .bool kends] 55)⟩); have N1 := Aside0.mk S1.out.ne; clear hb hz))
    | (go_at_call 38; go_loud (have F1 := (fnum (ka != 0) _ (some ad) c (w.heap.size + 1) (p + 1) bs (Kd.C_below HR.out S1.out.below) HC.out HB.out HP.out S1.out.x7); rw [HN.out, HO1.out] at F1; simp only [told] at F1; refine F1.mono ?_; clear F1; rintro e w2 ⟨rfl, h7, hc2⟩; have S2 := Aside0.mk (S1.out.fld h7 hc2); clear h7 hc2; have c0b := (blk_cell S2.out.x6 0).trans rfl; have c1b := (blk_cell S2.out.x6 1).trans rfl; have c2b := (blk_cell S2.out.x6 2).trans rfl; have c3b := (blk_cell S2.out.x6 3).trans rfl; have f0b := blk_frozen S2.out.x6 0; have f1b := blk_frozen S2.out.x6 1; have f2b := blk_frozen S2.out.x6 2; have f3b := blk_frozen S2.out.x6 3; have t0b := (blk_cell S2.out.x7 0).trans rfl; have g0b := blk_frozen S2.out.x7 0; have k1b := (blk_cell S2.out.x9 1).trans rfl; have k2b := (blk_cell S2.out.x9 2).trans rfl; have k3b := (blk_cell S2.out.x9 3).trans rfl))
    | (go_at_call 39; go_loud (have F2 := (fint knum _ (some ad) c (w.heap.size + 1) t1 bs (Kd.C_below HR.out S2.out.below) HC.out HB.out HT1.out S2.out.x7); rw [HN.out, HO2.out] at F2; simp only [told] at F2; refine F2.mono ?_; clear F2; rintro e w3 ⟨rfl, h7, hc3⟩; have Sa := Aside0.mk (S2.out.fld h7 hc3); have S3 := Aside0.mk (Sa.out.put (op' := op) (a' := 0) (m' := m) (s' := ⟨#[]⟩) 2 (.int .i64 m) rfl); clear h7 hc3; have c0c := (blk_cell Sa.out.x6 0).trans rfl; have c1c := (blk_cell Sa.out.x6 1).trans rfl; have c2c := (blk_cell Sa.out.x6 2).trans rfl; have c3c := (blk_cell Sa.out.x6 3).trans rfl; have f0c := blk_frozen Sa.out.x6 0; have f1c := blk_frozen Sa.out.x6 1; have f2c := blk_frozen Sa.out.x6 2; have f3c := blk_frozen Sa.out.x6 3; have t0c := (blk_cell Sa.out.x7 0).trans rfl; have g0c := blk_frozen Sa.out.x7 0; have k1c := (blk_cell Sa.out.x9 1).trans rfl; have k2c := (blk_cell Sa.out.x9 2).trans rfl; have k3c := (blk_cell Sa.out.x9 3).trans rfl))
    | (go_at_call 41; go_loud (have F3 := (ftext (ktext != 0) _ (some ad) c (w.heap.size + 1) t2 bs (Kd.C_below HR.out S3.out.below) HC.out HB.out HT2.out S3.out.x7); rw [HN.out, HO3.out] at F3; simp only [toldT] at F3; refine F3.mono ?_; clear F3; rintro e w4 ⟨rfl, h7, hc4⟩; have Sb := Aside0.mk (S3.out.fld h7 hc4); have S4 := Aside0.mk (Sb.out.put (op' := op) (a' := 0) (m' := m) (s' := s) 3 (.string s) rfl); clear h7 hc4; have c0d := (blk_cell Sb.out.x6 0).trans rfl; have c1d := (blk_cell Sb.out.x6 1).trans rfl; have c2d := (blk_cell Sb.out.x6 2).trans rfl; have c3d := (blk_cell Sb.out.x6 3).trans rfl; have f0d := blk_frozen Sb.out.x6 0; have f1d := blk_frozen Sb.out.x6 1; have f2d := blk_frozen Sb.out.x6 2; have f3d := blk_frozen Sb.out.x6 3; have t0d := (blk_cell Sb.out.x7 0).trans rfl; have g0d := blk_frozen Sb.out.x7 0; have k1d := (blk_cell Sb.out.x9 1).trans rfl; have k2d := (blk_cell Sb.out.x9 2).trans rfl; have k3d := (blk_cell Sb.out.x9 3).trans rfl))
    | (go_at_call 31; go_loud (refine (RC.out _).mono ?_; rintro e w5 ⟨rfl, hb5⟩; have S5 := Aside0.mk ((S4.out.put (op' := op) (a' := a) (m' := m) (s' := s) 1 (.int .i64 (a)) rfl).same (Ch.of_below (S := fun _ => False) hb5 (fun k hk hle => by omega))); clear hb5; have c0e := (blk_cell S5.out.x6 0).trans rfl; have c1e := (blk_cell S5.out.x6 1).trans rfl; have c2e := (blk_cell S5.out.x6 2).trans rfl; have c3e := (blk_cell S5.out.x6 3).trans rfl; have f0e := blk_frozen S5.out.x6 0; have f1e := blk_frozen S5.out.x6 1; have f2e := blk_frozen S5.out.x6 2; have f3e := blk_frozen S5.out.x6 3; have t0e := (blk_cell S5.out.x7 0).trans rfl; have g0e := blk_frozen S5.out.x7 0; have k1e := (blk_cell S5.out.x9 1).trans rfl; have k2e := (blk_cell S5.out.x9 2).trans rfl; have k3e := (blk_cell S5.out.x9 3).trans rfl)))
  go_region
  go_wp2
  refine bodyPost_ret (((S5.out.again _).same (Ch.refl (fun _ => False) _).drew).back rfl rfl rfl) rfl ?_
  exact ⟨rfl, ((S5.out.again _).same (Ch.refl (fun _ => False) _).drew).below⟩
set_option maxHeartbeats 8000000 in
set_option maxRecDepth 100000 in
theorem one_noG (w : World) (A : Option Addr) (c : Nat) (bs : List Int) (p : Nat) (nn : Int) (hr : Kd.C (Kd.int .u8) w A bs.length bs) (hc : bs.length ≤ c) (hb : U8 bs) (hp : p < bs.length) (op : Int) (hop : rd bs (p : Int) = op)
    (word : ByteArray) (ka : Int) (knum : Bool) (ktext ktakes kleave : Int) (kmany kends : Bool) (hk : instr_kindOf.f op = some (word, ka, knum, ktext, ktakes, kleave, kmany, kends)) (a m : Int) (s : ByteArray) (t1 t2 t3 : Nat) (h1 : optNum (ka != 0) bs (p + 1) = .inl (a, t1)) (h2 : optInt knum bs t1 = .inl (m, t2)) (h3 : optText (ktext != 0) bs t2 = .inl (s, t3)) (hcl : (4611686018427387904 : Int) < a) (hok : okN nn ⟨op, 4611686018427387904, m, s⟩ = false) :
    Calls Try.prog 27 #[.slice A bs.length c, .int .i64 (p : Int), .int .i64 nn] w (One (.inr (p, 3)) w) := by
  have hu36 := Try.underlying36
  have hu45 := Try.underlying45
  have hu55 := Try.underlying55
  have KC := Aside0.mk (fun w1 => instr_kindOf.calls op word ka knum ktext ktakes kleave kmany kends w1 hk)
  obtain ⟨ad, cc, hA, hl, hK, hcc⟩ := Kd.C_get hr (0 : Int) (p : Int) (by omega) (by omega)
  have hk2 : cc = [.int .u8 (rd bs (p : Int))] := hK
  subst hk2
  have h0 := hcc 0 _ rfl
  rw [show ((p : Int).toNat * (Kd.int .u8).sz + 0) = p from by show (p : Int).toNat * 1 + 0 = p; omega, hop] at h0
  subst hA
  have y0 : ∀ o1 o2, ((w.alloc o1).alloc o2).cell? (ad.add p) = some (.int .u8 op) := fun o1 o2 => by
    rw [((((Ch.refl (fun _ => False) w).alloc o1).alloc o2).below (Nat.le_refl _) (fun _ h => h.elim)).cell (World.block_lt_of_cell? w _ h0)]; exact h0
  have HR := Aside0.mk hr
  have HC := Aside0.mk hc
  have HB := Aside0.mk hb
  have HP := Aside0.mk hp
  have hmx := hr.2.1
  obtain ⟨n, hn⟩ : ∃ n, bs.length = n := ⟨_, rfl⟩
  have HN := Aside0.mk hn
  rw [hn] at hp hmx ⊢
  have d1 : ((p : Int) == (n : Int)) = false := beq_eq_false_iff_ne.mpr (by omega)
  have d2 : decide (p = n) = false := decide_eq_false (by omega)
  have q1 : (0 ≤ (p : Int)) = True := eq_true (by omega)
  have q2 : ((p : Int) < (n : Int)) = True := eq_true (by omega)
  have w1 : IntKind.i64.wrap ((p : Int) + 1) = ((p + 1 : Nat) : Int) := by rw [IntKind.wrap_i64]; omega
  have T1 := Aside0.mk (two w (.cells #[.int .u8 op, .int .i64 0, .int .i64 0, .string ⟨#[]⟩] 36) (.cells #[.int .i64 ((p + 1 : Nat) : Int)] 3))
  have B0 := Aside0.mk (((Below.refl w.heap.size w).alloc (Nat.le_refl _) (.cells #[.int .u8 op, .int .i64 0, .int .i64 0, .string ⟨#[]⟩] 36)).alloc (by simp) (.cells #[.int .i64 ((p + 1 : Nat) : Int)] 3))
  have hf1 := (optNum_fine hb (by omega)).1 _ _ h1
  have hf2 := (optInt_fine hb hf1.2.2.1).1 _ _ h2
  have hf3 := (optText_fine hb hf2.1).1 _ _ h3
  have HO1 := Aside0.mk h1
  have HO2 := Aside0.mk h2
  have HO3 := Aside0.mk h3
  have HT1 := Aside0.mk hf1.2.2.1
  have HT2 := Aside0.mk hf2.1
  have hx := hb.at p
  rw [hop] at hx
  have RC := Aside0.mk (fun w1 => instr_right.calls 40 op 4611686018427387904 m s nn false w1 (by rw [← hok]; exact right_is (x := ⟨op, 4611686018427387904, m, s⟩) hx.1 hx.2 nn (by omega)))
  have a0 := hf1.1
  have wa : IntKind.i64.wrap (4611686018427387904) = 4611686018427387904 := by rw [IntKind.wrap_i64]; omega
  clear hr hc hb hp hop hk hcc hK hl h0 hmx hn h1 h2 h3 hf1 hf2 hf3 hok hx
  go_enter Try.func27, Try.ntmps27
  go_wp2_with (first
    | (go_at_call 20; go_loud (refine (KC.out _).mono ?_; rintro e w1 ⟨rfl, hb⟩; have hz : w.heap.size + 1 < w1.heap.size := (by have := hb.size; simp at this; omega); have S1 := Aside0.mk (show OSt w (w1.alloc (.cells #[.string word, .int .u8 ka, .bool knum, .int .u8 ktext, .int .i64 ktakes, .int .i64 kleave, .bool kmany, .bool kends] 55)) w1.heap.size op 0 0 ⟨#[]⟩ ((p + 1 : Nat) : Int) #[.string word, .int .u8 ka, .bool knum, .int .u8 ktext, .int .i64 ktakes, .int .i64 kleave, .bool kmany, .bool kends] from ⟨((Ch.refl (fun _ => False) w1).alloc (.cells #[.string word, .int .u8 ka, .bool knum, .int .u8 ktext, .int .i64 ktakes, .int .i64 kleave, .bool kmany, .bool kends] 55)).keep ((hb.block w.heap.size (by simp; omega)).trans T1.out.1) (fun h => h), ((Ch.refl (fun _ => False) w1).alloc (.cells #[.string word, .int .u8 ka, .bool knum, .int .u8 ktext, .int .i64 ktakes, .int .i64 kleave, .bool kmany, .bool kends] 55)).keep ((hb.block (w.heap.size + 1) (by simp)).trans T1.out.2) (fun h => h), blk_new w1 (.cells #[.string word, .int .u8 ka, .bool knum, .int .u8 ktext, .int .i64 ktakes, .int .i64 kleave, .bool kmany, .bool kends] 55), (B0.out.trans (hb.mono (by simp; omega))).alloc (by omega) (.cells #[.string word, .int .u8 ka, .bool knum, .int .u8 ktext, .int .i64 ktakes, .int .i64 kleave, .bool kmany, .bool kends] 55)⟩); have N1 := Aside0.mk S1.out.ne; clear hb hz))
    | (go_at_call 38; go_loud (have F1 := (fnum (ka != 0) _ (some ad) c (w.heap.size + 1) (p + 1) bs (Kd.C_below HR.out S1.out.below) HC.out HB.out HP.out S1.out.x7); rw [HN.out, HO1.out] at F1; simp only [told] at F1; refine F1.mono ?_; clear F1; rintro e w2 ⟨rfl, h7, hc2⟩; have S2 := Aside0.mk (S1.out.fld h7 hc2); clear h7 hc2; have c0b := (blk_cell S2.out.x6 0).trans rfl; have c1b := (blk_cell S2.out.x6 1).trans rfl; have c2b := (blk_cell S2.out.x6 2).trans rfl; have c3b := (blk_cell S2.out.x6 3).trans rfl; have f0b := blk_frozen S2.out.x6 0; have f1b := blk_frozen S2.out.x6 1; have f2b := blk_frozen S2.out.x6 2; have f3b := blk_frozen S2.out.x6 3; have t0b := (blk_cell S2.out.x7 0).trans rfl; have g0b := blk_frozen S2.out.x7 0; have k1b := (blk_cell S2.out.x9 1).trans rfl; have k2b := (blk_cell S2.out.x9 2).trans rfl; have k3b := (blk_cell S2.out.x9 3).trans rfl))
    | (go_at_call 39; go_loud (have F2 := (fint knum _ (some ad) c (w.heap.size + 1) t1 bs (Kd.C_below HR.out S2.out.below) HC.out HB.out HT1.out S2.out.x7); rw [HN.out, HO2.out] at F2; simp only [told] at F2; refine F2.mono ?_; clear F2; rintro e w3 ⟨rfl, h7, hc3⟩; have Sa := Aside0.mk (S2.out.fld h7 hc3); have S3 := Aside0.mk (Sa.out.put (op' := op) (a' := 0) (m' := m) (s' := ⟨#[]⟩) 2 (.int .i64 m) rfl); clear h7 hc3; have c0c := (blk_cell Sa.out.x6 0).trans rfl; have c1c := (blk_cell Sa.out.x6 1).trans rfl; have c2c := (blk_cell Sa.out.x6 2).trans rfl; have c3c := (blk_cell Sa.out.x6 3).trans rfl; have f0c := blk_frozen Sa.out.x6 0; have f1c := blk_frozen Sa.out.x6 1; have f2c := blk_frozen Sa.out.x6 2; have f3c := blk_frozen Sa.out.x6 3; have t0c := (blk_cell Sa.out.x7 0).trans rfl; have g0c := blk_frozen Sa.out.x7 0; have k1c := (blk_cell Sa.out.x9 1).trans rfl; have k2c := (blk_cell Sa.out.x9 2).trans rfl; have k3c := (blk_cell Sa.out.x9 3).trans rfl))
    | (go_at_call 41; go_loud (have F3 := (ftext (ktext != 0) _ (some ad) c (w.heap.size + 1) t2 bs (Kd.C_below HR.out S3.out.below) HC.out HB.out HT2.out S3.out.x7); rw [HN.out, HO3.out] at F3; simp only [toldT] at F3; refine F3.mono ?_; clear F3; rintro e w4 ⟨rfl, h7, hc4⟩; have Sb := Aside0.mk (S3.out.fld h7 hc4); have S4 := Aside0.mk (Sb.out.put (op' := op) (a' := 0) (m' := m) (s' := s) 3 (.string s) rfl); clear h7 hc4; have c0d := (blk_cell Sb.out.x6 0).trans rfl; have c1d := (blk_cell Sb.out.x6 1).trans rfl; have c2d := (blk_cell Sb.out.x6 2).trans rfl; have c3d := (blk_cell Sb.out.x6 3).trans rfl; have f0d := blk_frozen Sb.out.x6 0; have f1d := blk_frozen Sb.out.x6 1; have f2d := blk_frozen Sb.out.x6 2; have f3d := blk_frozen Sb.out.x6 3; have t0d := (blk_cell Sb.out.x7 0).trans rfl; have g0d := blk_frozen Sb.out.x7 0; have k1d := (blk_cell Sb.out.x9 1).trans rfl; have k2d := (blk_cell Sb.out.x9 2).trans rfl; have k3d := (blk_cell Sb.out.x9 3).trans rfl))
    | (go_at_call 31; go_loud (refine (RC.out _).mono ?_; rintro e w5 ⟨rfl, hb5⟩; have S5 := Aside0.mk ((S4.out.put (op' := op) (a' := 4611686018427387904) (m' := m) (s' := s) 1 (.int .i64 (4611686018427387904)) rfl).same (Ch.of_below (S := fun _ => False) hb5 (fun k hk hle => by omega))); clear hb5; have c0e := (blk_cell S5.out.x6 0).trans rfl; have c1e := (blk_cell S5.out.x6 1).trans rfl; have c2e := (blk_cell S5.out.x6 2).trans rfl; have c3e := (blk_cell S5.out.x6 3).trans rfl; have f0e := blk_frozen S5.out.x6 0; have f1e := blk_frozen S5.out.x6 1; have f2e := blk_frozen S5.out.x6 2; have f3e := blk_frozen S5.out.x6 3; have t0e := (blk_cell S5.out.x7 0).trans rfl; have g0e := blk_frozen S5.out.x7 0; have k1e := (blk_cell S5.out.x9 1).trans rfl; have k2e := (blk_cell S5.out.x9 2).trans rfl; have k3e := (blk_cell S5.out.x9 3).trans rfl)))
  refine bodyPost_ret ((S5.out.again _).back rfl rfl rfl) rfl ?_
  exact ⟨_, rfl, (S5.out.again _).below⟩
set_option maxHeartbeats 8000000 in
set_option maxRecDepth 100000 in
theorem one_noL (w : World) (A : Option Addr) (c : Nat) (bs : List Int) (p : Nat) (nn : Int) (hr : Kd.C (Kd.int .u8) w A bs.length bs) (hc : bs.length ≤ c) (hb : U8 bs) (hp : p < bs.length) (op : Int) (hop : rd bs (p : Int) = op)
    (word : ByteArray) (ka : Int) (knum : Bool) (ktext ktakes kleave : Int) (kmany kends : Bool) (hk : instr_kindOf.f op = some (word, ka, knum, ktext, ktakes, kleave, kmany, kends)) (a m : Int) (s : ByteArray) (t1 t2 t3 : Nat) (h1 : optNum (ka != 0) bs (p + 1) = .inl (a, t1)) (h2 : optInt knum bs t1 = .inl (m, t2)) (h3 : optText (ktext != 0) bs t2 = .inl (s, t3)) (hcl : a ≤ (4611686018427387904 : Int)) (hok : okN nn ⟨op, a, m, s⟩ = false) :
    Calls Try.prog 27 #[.slice A bs.length c, .int .i64 (p : Int), .int .i64 nn] w (One (.inr (p, 3)) w) := by
  have hu36 := Try.underlying36
  have hu45 := Try.underlying45
  have hu55 := Try.underlying55
  have KC := Aside0.mk (fun w1 => instr_kindOf.calls op word ka knum ktext ktakes kleave kmany kends w1 hk)
  obtain ⟨ad, cc, hA, hl, hK, hcc⟩ := Kd.C_get hr (0 : Int) (p : Int) (by omega) (by omega)
  have hk2 : cc = [.int .u8 (rd bs (p : Int))] := hK
  subst hk2
  have h0 := hcc 0 _ rfl
  rw [show ((p : Int).toNat * (Kd.int .u8).sz + 0) = p from by show (p : Int).toNat * 1 + 0 = p; omega, hop] at h0
  subst hA
  have y0 : ∀ o1 o2, ((w.alloc o1).alloc o2).cell? (ad.add p) = some (.int .u8 op) := fun o1 o2 => by
    rw [((((Ch.refl (fun _ => False) w).alloc o1).alloc o2).below (Nat.le_refl _) (fun _ h => h.elim)).cell (World.block_lt_of_cell? w _ h0)]; exact h0
  have HR := Aside0.mk hr
  have HC := Aside0.mk hc
  have HB := Aside0.mk hb
  have HP := Aside0.mk hp
  have hmx := hr.2.1
  obtain ⟨n, hn⟩ : ∃ n, bs.length = n := ⟨_, rfl⟩
  have HN := Aside0.mk hn
  rw [hn] at hp hmx ⊢
  have d1 : ((p : Int) == (n : Int)) = false := beq_eq_false_iff_ne.mpr (by omega)
  have d2 : decide (p = n) = false := decide_eq_false (by omega)
  have q1 : (0 ≤ (p : Int)) = True := eq_true (by omega)
  have q2 : ((p : Int) < (n : Int)) = True := eq_true (by omega)
  have w1 : IntKind.i64.wrap ((p : Int) + 1) = ((p + 1 : Nat) : Int) := by rw [IntKind.wrap_i64]; omega
  have T1 := Aside0.mk (two w (.cells #[.int .u8 op, .int .i64 0, .int .i64 0, .string ⟨#[]⟩] 36) (.cells #[.int .i64 ((p + 1 : Nat) : Int)] 3))
  have B0 := Aside0.mk (((Below.refl w.heap.size w).alloc (Nat.le_refl _) (.cells #[.int .u8 op, .int .i64 0, .int .i64 0, .string ⟨#[]⟩] 36)).alloc (by simp) (.cells #[.int .i64 ((p + 1 : Nat) : Int)] 3))
  have hf1 := (optNum_fine hb (by omega)).1 _ _ h1
  have hf2 := (optInt_fine hb hf1.2.2.1).1 _ _ h2
  have hf3 := (optText_fine hb hf2.1).1 _ _ h3
  have HO1 := Aside0.mk h1
  have HO2 := Aside0.mk h2
  have HO3 := Aside0.mk h3
  have HT1 := Aside0.mk hf1.2.2.1
  have HT2 := Aside0.mk hf2.1
  have hx := hb.at p
  rw [hop] at hx
  have RC := Aside0.mk (fun w1 => instr_right.calls 40 op a m s nn false w1 (by rw [← hok]; exact right_is (x := ⟨op, a, m, s⟩) hx.1 hx.2 nn (by omega)))
  have a0 := hf1.1
  have wa : IntKind.i64.wrap (a) = a := by rw [IntKind.wrap_i64]; omega
  clear hr hc hb hp hop hk hcc hK hl h0 hmx hn h1 h2 h3 hf1 hf2 hf3 hok hx
  go_enter Try.func27, Try.ntmps27
  go_wp2_with (first
    | (go_at_call 20; go_loud (refine (KC.out _).mono ?_; rintro e w1 ⟨rfl, hb⟩; have hz : w.heap.size + 1 < w1.heap.size := (by have := hb.size; simp at this; omega); have S1 := Aside0.mk (show OSt w (w1.alloc (.cells #[.string word, .int .u8 ka, .bool knum, .int .u8 ktext, .int .i64 ktakes, .int .i64 kleave, .bool kmany, .bool kends] 55)) w1.heap.size op 0 0 ⟨#[]⟩ ((p + 1 : Nat) : Int) #[.string word, .int .u8 ka, .bool knum, .int .u8 ktext, .int .i64 ktakes, .int .i64 kleave, .bool kmany, .bool kends] from ⟨((Ch.refl (fun _ => False) w1).alloc (.cells #[.string word, .int .u8 ka, .bool knum, .int .u8 ktext, .int .i64 ktakes, .int .i64 kleave, .bool kmany, .bool kends] 55)).keep ((hb.block w.heap.size (by simp; omega)).trans T1.out.1) (fun h => h), ((Ch.refl (fun _ => False) w1).alloc (.cells #[.string word, .int .u8 ka, .bool knum, .int .u8 ktext, .int .i64 ktakes, .int .i64 kleave, .bool kmany, .bool kends] 55)).keep ((hb.block (w.heap.size + 1) (by simp)).trans T1.out.2) (fun h => h), blk_new w1 (.cells #[.string word, .int .u8 ka, .bool knum, .int .u8 ktext, .int .i64 ktakes, .int .i64 kleave, .bool kmany, .bool kends] 55), (B0.out.trans (hb.mono (by simp; omega))).alloc (by omega) (.cells #[.string word, .int .u8 ka, .bool knum, .int .u8 ktext, .int .i64 ktakes, .int .i64 kleave, .bool kmany, .bool kends] 55)⟩); have N1 := Aside0.mk S1.out.ne; clear hb hz))
    | (go_at_call 38; go_loud (have F1 := (fnum (ka != 0) _ (some ad) c (w.heap.size + 1) (p + 1) bs (Kd.C_below HR.out S1.out.below) HC.out HB.out HP.out S1.out.x7); rw [HN.out, HO1.out] at F1; simp only [told] at F1; refine F1.mono ?_; clear F1; rintro e w2 ⟨rfl, h7, hc2⟩; have S2 := Aside0.mk (S1.out.fld h7 hc2); clear h7 hc2; have c0b := (blk_cell S2.out.x6 0).trans rfl; have c1b := (blk_cell S2.out.x6 1).trans rfl; have c2b := (blk_cell S2.out.x6 2).trans rfl; have c3b := (blk_cell S2.out.x6 3).trans rfl; have f0b := blk_frozen S2.out.x6 0; have f1b := blk_frozen S2.out.x6 1; have f2b := blk_frozen S2.out.x6 2; have f3b := blk_frozen S2.out.x6 3; have t0b := (blk_cell S2.out.x7 0).trans rfl; have g0b := blk_frozen S2.out.x7 0; have k1b := (blk_cell S2.out.x9 1).trans rfl; have k2b := (blk_cell S2.out.x9 2).trans rfl; have k3b := (blk_cell S2.out.x9 3).trans rfl))
    | (go_at_call 39; go_loud (have F2 := (fint knum _ (some ad) c (w.heap.size + 1) t1 bs (Kd.C_below HR.out S2.out.below) HC.out HB.out HT1.out S2.out.x7); rw [HN.out, HO2.out] at F2; simp only [told] at F2; refine F2.mono ?_; clear F2; rintro e w3 ⟨rfl, h7, hc3⟩; have Sa := Aside0.mk (S2.out.fld h7 hc3); have S3 := Aside0.mk (Sa.out.put (op' := op) (a' := 0) (m' := m) (s' := ⟨#[]⟩) 2 (.int .i64 m) rfl); clear h7 hc3; have c0c := (blk_cell Sa.out.x6 0).trans rfl; have c1c := (blk_cell Sa.out.x6 1).trans rfl; have c2c := (blk_cell Sa.out.x6 2).trans rfl; have c3c := (blk_cell Sa.out.x6 3).trans rfl; have f0c := blk_frozen Sa.out.x6 0; have f1c := blk_frozen Sa.out.x6 1; have f2c := blk_frozen Sa.out.x6 2; have f3c := blk_frozen Sa.out.x6 3; have t0c := (blk_cell Sa.out.x7 0).trans rfl; have g0c := blk_frozen Sa.out.x7 0; have k1c := (blk_cell Sa.out.x9 1).trans rfl; have k2c := (blk_cell Sa.out.x9 2).trans rfl; have k3c := (blk_cell Sa.out.x9 3).trans rfl))
    | (go_at_call 41; go_loud (have F3 := (ftext (ktext != 0) _ (some ad) c (w.heap.size + 1) t2 bs (Kd.C_below HR.out S3.out.below) HC.out HB.out HT2.out S3.out.x7); rw [HN.out, HO3.out] at F3; simp only [toldT] at F3; refine F3.mono ?_; clear F3; rintro e w4 ⟨rfl, h7, hc4⟩; have Sb := Aside0.mk (S3.out.fld h7 hc4); have S4 := Aside0.mk (Sb.out.put (op' := op) (a' := 0) (m' := m) (s' := s) 3 (.string s) rfl); clear h7 hc4; have c0d := (blk_cell Sb.out.x6 0).trans rfl; have c1d := (blk_cell Sb.out.x6 1).trans rfl; have c2d := (blk_cell Sb.out.x6 2).trans rfl; have c3d := (blk_cell Sb.out.x6 3).trans rfl; have f0d := blk_frozen Sb.out.x6 0; have f1d := blk_frozen Sb.out.x6 1; have f2d := blk_frozen Sb.out.x6 2; have f3d := blk_frozen Sb.out.x6 3; have t0d := (blk_cell Sb.out.x7 0).trans rfl; have g0d := blk_frozen Sb.out.x7 0; have k1d := (blk_cell Sb.out.x9 1).trans rfl; have k2d := (blk_cell Sb.out.x9 2).trans rfl; have k3d := (blk_cell Sb.out.x9 3).trans rfl))
    | (go_at_call 31; go_loud (refine (RC.out _).mono ?_; rintro e w5 ⟨rfl, hb5⟩; have S5 := Aside0.mk ((S4.out.put (op' := op) (a' := a) (m' := m) (s' := s) 1 (.int .i64 (a)) rfl).same (Ch.of_below (S := fun _ => False) hb5 (fun k hk hle => by omega))); clear hb5; have c0e := (blk_cell S5.out.x6 0).trans rfl; have c1e := (blk_cell S5.out.x6 1).trans rfl; have c2e := (blk_cell S5.out.x6 2).trans rfl; have c3e := (blk_cell S5.out.x6 3).trans rfl; have f0e := blk_frozen S5.out.x6 0; have f1e := blk_frozen S5.out.x6 1; have f2e := blk_frozen S5.out.x6 2; have f3e := blk_frozen S5.out.x6 3; have t0e := (blk_cell S5.out.x7 0).trans rfl; have g0e := blk_frozen S5.out.x7 0; have k1e := (blk_cell S5.out.x9 1).trans rfl; have k2e := (blk_cell S5.out.x9 2).trans rfl; have k3e := (blk_cell S5.out.x9 3).trans rfl)))
  refine bodyPost_ret ((S5.out.again _).back rfl rfl rfl) rfl ?_
  exact ⟨_, rfl, (S5.out.again _).below⟩
end Go.Proofs.Ytcpjjnikehcleaa.Sr
