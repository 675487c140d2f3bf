/- Reading bytes: what read gives up with is caught. -/
import Derived.Test.YtcpjjnikehcleaaS2
import Derived.Laws.Pointers
namespace Go.Proofs.Ytcpjjnikehcleaa.Sr
open Go.RowKit PChk Hq Go.Proofs.YtcpjjnikehcleaaW.PrintWords Go.Proofs.YtcpjjnikehcleaaW.PrintLast Go.Proofs.YtcpjjnikehcleaaW.PrintMore
set_option linter.unusedVariables false
set_option linter.unusedSimpArgs false

theorem text_calls (w0 w : World) (g : Nat) (A : Option Addr) (c : Nat) (bs : List Int) (p : Nat) (h : RAt w0 w g A c bs p) (hp : p ≤ bs.length) (hb : U8 bs) (hc : bs.length ≤ c) :
    Calls Try.prog 55 #[.pointer (some ⟨g, 0, none⟩)] w (Txt w0 g A c bs (textP bs p) w) := by
  have NC := number_calls w0 w g A c bs p h hp hb
  unfold textP
  cases hr : numP bs p with
  | inr q =>
    obtain ⟨q, er⟩ := q
    rw [hr] at NC
    have NC := Aside0.mk NC
    clear h hr hb hp
    go_enter Try.func55, Try.ntmps55
    go_wp2_with (go_at_call 37; go_loud (refine NC.out.mono ?_; rintro e w1 ⟨rfl, hc⟩; have C1 := Aside0.mk hc; clear hc))
    exact ⟨rfl, rfl, C1.out⟩
  | inl q =>
    obtain ⟨v, q⟩ := q
    rw [hr] at NC
    obtain ⟨v0, v1, hq, -⟩ := numP_bd hb hr
    simp only
    by_cases hv : v > (bs.length : Int) - (q : Int)
    · rw [if_pos hv]
      have NC := Aside0.mk NC
      have HV := Aside0.mk hv
      have HQ := Aside0.mk hq
      clear h hr hb hp v0 v1 hv hq hc
      go_enter Try.func55, Try.ntmps55
      go_wp2_with (first
        | (go_at_call 37; go_loud (refine NC.out.mono ?_; rintro e w1 ⟨rfl, hr1, hc⟩; have R1 := Aside0.mk hr1; have C1 := Aside0.mk hc; clear hr1 hc))
        | (go_at_call 56; go_loud (refine (bytes_short w0 _ g A c bs q v R1.out HQ.out HV.out).mono ?_; rintro e w2 ⟨rfl, hc⟩; have C2 := Aside0.mk hc; clear hc)))
      exact ⟨rfl, rfl, C1.out.trans C2.out (fun _ _ h => h)⟩
    · rw [if_neg hv]
      obtain ⟨k, rfl⟩ := Int.eq_ofNat_of_zero_le v0
      rw [Int.toNat_natCast]
      have NC := Aside0.mk NC
      have HC := Aside0.mk hc
      have HQ := Aside0.mk (show q + k ≤ bs.length by omega)
      clear h hr hb hp v0 v1 hv hq hc
      go_enter Try.func55, Try.ntmps55
      go_wp2_with (first
        | (go_at_call 37; go_loud (refine NC.out.mono ?_; rintro e w1 ⟨rfl, hr1, hc⟩; have R1 := Aside0.mk hr1; have C1 := Aside0.mk hc; clear hr1 hc))
        | (go_at_call 56; go_loud (refine (bytes_some w0 _ g A c bs q k R1.out HQ.out HC.out).mono ?_; rintro e w2 ⟨rfl, hr2, hc⟩; have R2 := Aside0.mk hr2; have C2 := Aside0.mk hc; clear hr2 hc)))
      go_ret
      exact ⟨rfl, R2.out, C1.out.trans C2.out (fun _ _ h => h)⟩
/-- The three results' own cells. -/
structure Res (W : World) (b0 b1 b2 t : Nat) (x0 x1 x2 : Value) : Prop where
  c0 : W.heap[b0]? = some (.cells #[x0] t (0, 0))
  c1 : W.heap[b1]? = some (.cells #[x1] 3 (0, 0))
  c2 : W.heap[b2]? = some (.cells #[x2] 25 (0, 0))
theorem assert_yes (q er : Int) (w : World) : (Instr.typeAssert (.iface 100 (.agg #[.int .i64 q, .int .i64 er])) 20 100 true).run Try.prog w = .ok (.tuple #[.agg #[.int .i64 q, .int .i64 er], .bool true]) w := by kernel_rfl
theorem assert_no (w : World) : (Instr.typeAssert .nilIface 20 100 true).run Try.prog w = .ok (.tuple #[.agg #[.int .i64 0, .int .i64 0], .bool false]) w := by kernel_rfl
theorem tmps14 (a b c : Value) : #[a, b, c] ++ Array.replicate 14 undef = #[a, b, c, undef, undef, undef, undef, undef, undef, undef, undef, undef, undef, undef, undef, undef, undef] := rfl
theorem Res.same {W V : World} {b0 b1 b2 t : Nat} {x0 x1 x2 : Value} (h : Res W b0 b1 b2 t x0 x1 x2) (hc : Ch (fun _ => False) W V) : Res V b0 b1 b2 t x0 x1 x2 := ⟨hc.keep h.c0 (fun h => h), hc.keep h.c1 (fun h => h), hc.keep h.c2 (fun h => h)⟩
theorem Res.set {W : World} {b0 b1 b2 t : Nat} {x0 x1 x2 : Value} (h : Res W b0 b1 b2 t x0 x1 x2) (h01 : b0 ≠ b1) (h02 : b0 ≠ b2) (h12 : b1 ≠ b2) (y0 y1 y2 : Value) :
    Res (((W.setCell ⟨b0, 0, none⟩ y0).setCell ⟨b1, 0, none⟩ y1).setCell ⟨b2, 0, none⟩ y2) b0 b1 b2 t y0 y1 y2 := by
  refine ⟨?_, ?_, ?_⟩
  · rw [Below.heap_setCell _ _ _ _ h02, Below.heap_setCell _ _ _ _ h01]
    exact blk_put h.c0 0 _ rfl
  · rw [Below.heap_setCell _ _ _ _ h12]
    exact blk_put (by rw [Below.heap_setCell _ _ _ _ h01.symm]; exact h.c1) 0 _ rfl
  · exact blk_put (by rw [Below.heap_setCell _ _ _ _ h12.symm, Below.heap_setCell _ _ _ _ h02.symm]; exact h.c2) 0 _ rfl
set_option maxHeartbeats 4000000 in
set_option maxRecDepth 100000 in
theorem catch_up49 (w : World) (b0 b1 b2 : Nat) (x0 x1 x2 : Value) (q er : Int) (h : Res w b0 b1 b2 64 x0 x1 x2) (h01 : b0 ≠ b1) (h02 : b0 ≠ b2) (h12 : b1 ≠ b2) :
    CallsD Try.prog 49 #[.pointer (some ⟨b0, 0, none⟩), .pointer (some ⟨b1, 0, none⟩), .pointer (some ⟨b2, 0, none⟩)] (.panicking (fault q er)) w fun e u' w' =>
      e = .returned (.tuple #[]) ∧ u' = .panicking [{ v := .iface 100 (.agg #[.int .i64 q, .int .i64 er]), recovered := true }] ∧ Res w' b0 b1 b2 64 (.int .u64 0) (.int .i64 q) (.int .i64 er) ∧ Ch (fun k => k = b0 ∨ k = b1 ∨ k = b2) w w' := by
  have hu100 := Try.underlying100
  have hu20 := Try.underlying20
  unfold fault
  refine callsD_of_wpS Try.func49 rfl fun c₀ cs hu => ?_
  rw [show Try.f49.ntmps - (#[Value.pointer (some ⟨b0, 0, none⟩), .pointer (some ⟨b1, 0, none⟩), .pointer (some ⟨b2, 0, none⟩)] : Array Value).size = 14 from rfl, tmps14]
  apply wpS_seq
  apply wpS_region
  simp [wpOpsS, go_sem, recoverD, hu, Exit.thenS, assert_yes]
  refine wpS_of_wp ?_
  have hc : Ch (fun _ => False) w (w.alloc (.cells #[.int .i64 q, .int .i64 er] 100)) := (Ch.refl _ w).alloc _
  have l0 := blk_lt h.c0
  have l1 := blk_lt h.c1
  have l2 := blk_lt h.c2
  have hx := blk_new w (.cells #[.int .i64 q, .int .i64 er] 100)
  have h1 : Res (w.alloc (.cells #[.int .i64 q, .int .i64 er] 100)) b0 b1 b2 64 x0 x1 x2 := ⟨hc.keep h.c0 (fun h => h), hc.keep h.c1 (fun h => h), hc.keep h.c2 (fun h => h)⟩
  have C1 := Aside0.mk hc
  clear hc h
  generalize w.alloc (.cells #[.int .i64 q, .int .i64 er] 100) = W1 at *
  generalize w.heap.size = b at *
  have g0 := (blk_cell h1.c0 0).trans rfl
  have g1 := (blk_cell h1.c1 0).trans rfl
  have g2 := (blk_cell h1.c2 0).trans rfl
  have f0 := blk_frozen h1.c0 0
  have f1 := blk_frozen h1.c1 0
  have f2 := blk_frozen h1.c2 0
  have e0 := (blk_cell hx 0).trans rfl
  have e1 := (blk_cell hx 1).trans rfl
  have H := Aside0.mk h1
  have n0 : ¬ b0 = b := by omega
  have n1 : ¬ b1 = b := by omega
  have n2 : ¬ b2 = b := by omega
  have m0 : ¬ b = b0 := by omega
  have m1 : ¬ b = b1 := by omega
  have m2 : ¬ b = b2 := by omega
  have h01' : ¬ b1 = b0 := fun e => h01 e.symm
  have h02' : ¬ b2 = b0 := fun e => h02 e.symm
  have h12' : ¬ b2 = b1 := fun e => h12 e.symm
  clear h1 l0 l1 l2 hx
  go_wp2
  go_region
  refine ⟨rfl, _, rfl, .tuple #[], by simp [results, Try.results49, go_sem], rfl, rfl, ?_, ?_⟩
  · exact (H.out.set h01 h02 h12 _ _ _).same ((Ch.refl (fun _ => False) _).drew)
  · exact (C1.out.mono (fun _ _ h => h.elim)).trans ((((((Ch.refl (fun k => k = b0 ∨ k = b1 ∨ k = b2) W1).set (.inl (.inl rfl)) _).set (.inl (.inr (.inl rfl))) _).set (.inl (.inr (.inr rfl))) _)).drew) (fun _ _ h => h)
set_option maxHeartbeats 4000000 in
set_option maxRecDepth 100000 in
theorem catch_idle49 (w : World) (b0 b1 b2 : Nat) :
    CallsD Try.prog 49 #[.pointer (some ⟨b0, 0, none⟩), .pointer (some ⟨b1, 0, none⟩), .pointer (some ⟨b2, 0, none⟩)] .returning w fun e u' w' => e = .returned (.tuple #[]) ∧ u' = .returning ∧ Ch (fun _ => False) w w' := by
  have hu100 := Try.underlying100
  refine callsD_of_wpS Try.func49 rfl fun c₀ cs hu => ?_
  rw [show Try.f49.ntmps - (#[Value.pointer (some ⟨b0, 0, none⟩), .pointer (some ⟨b1, 0, none⟩), .pointer (some ⟨b2, 0, none⟩)] : Array Value).size = 14 from rfl, tmps14]
  apply wpS_seq
  apply wpS_region
  simp [wpOpsS, go_sem, recoverD, hu, Exit.thenS, assert_no]
  refine wpS_of_wp ?_
  go_wp2
  refine ⟨rfl, .returning, ?_, .tuple #[], by simp [results, Try.results49, go_sem], rfl, rfl, (Ch.refl _ w).alloc _⟩
  cases c₀
  simp_all
set_option maxHeartbeats 4000000 in
set_option maxRecDepth 100000 in
theorem catch_up60 (w : World) (b0 b1 b2 : Nat) (x0 x1 x2 : Value) (q er : Int) (h : Res w b0 b1 b2 2 x0 x1 x2) (h01 : b0 ≠ b1) (h02 : b0 ≠ b2) (h12 : b1 ≠ b2) :
    CallsD Try.prog 60 #[.pointer (some ⟨b0, 0, none⟩), .pointer (some ⟨b1, 0, none⟩), .pointer (some ⟨b2, 0, none⟩)] (.panicking (fault q er)) w fun e u' w' =>
      e = .returned (.tuple #[]) ∧ u' = .panicking [{ v := .iface 100 (.agg #[.int .i64 q, .int .i64 er]), recovered := true }] ∧ Res w' b0 b1 b2 2 (.int .i64 0) (.int .i64 q) (.int .i64 er) ∧ Ch (fun k => k = b0 ∨ k = b1 ∨ k = b2) w w' := by
  have hu100 := Try.underlying100
  have hu20 := Try.underlying20
  unfold fault
  refine callsD_of_wpS Try.func60 rfl fun c₀ cs hu => ?_
  rw [show Try.f60.ntmps - (#[Value.pointer (some ⟨b0, 0, none⟩), .pointer (some ⟨b1, 0, none⟩), .pointer (some ⟨b2, 0, none⟩)] : Array Value).size = 14 from rfl, tmps14]
  apply wpS_seq
  apply wpS_region
  simp [wpOpsS, go_sem, recoverD, hu, Exit.thenS, assert_yes]
  refine wpS_of_wp ?_
  have hc : Ch (fun _ => False) w (w.alloc (.cells #[.int .i64 q, .int .i64 er] 100)) := (Ch.refl _ w).alloc _
  have l0 := blk_lt h.c0
  have l1 := blk_lt h.c1
  have l2 := blk_lt h.c2
  have hx := blk_new w (.cells #[.int .i64 q, .int .i64 er] 100)
  have h1 : Res (w.alloc (.cells #[.int .i64 q, .int .i64 er] 100)) b0 b1 b2 2 x0 x1 x2 := ⟨hc.keep h.c0 (fun h => h), hc.keep h.c1 (fun h => h), hc.keep h.c2 (fun h => h)⟩
  have C1 := Aside0.mk hc
  clear hc h
  generalize w.alloc (.cells #[.int .i64 q, .int .i64 er] 100) = W1 at *
  generalize w.heap.size = b at *
  have g0 := (blk_cell h1.c0 0).trans rfl
  have g1 := (blk_cell h1.c1 0).trans rfl
  have g2 := (blk_cell h1.c2 0).trans rfl
  have f0 := blk_frozen h1.c0 0
  have f1 := blk_frozen h1.c1 0
  have f2 := blk_frozen h1.c2 0
  have e0 := (blk_cell hx 0).trans rfl
  have e1 := (blk_cell hx 1).trans rfl
  have H := Aside0.mk h1
  have n0 : ¬ b0 = b := by omega
  have n1 : ¬ b1 = b := by omega
  have n2 : ¬ b2 = b := by omega
  have m0 : ¬ b = b0 := by omega
  have m1 : ¬ b = b1 := by omega
  have m2 : ¬ b = b2 := by omega
  have h01' : ¬ b1 = b0 := fun e => h01 e.symm
  have h02' : ¬ b2 = b0 := fun e => h02 e.symm
  have h12' : ¬ b2 = b1 := fun e => h12 e.symm
  clear h1 l0 l1 l2 hx
  go_wp2
  go_region
  refine ⟨rfl, _, rfl, .tuple #[], by simp [results, Try.results60, go_sem], rfl, rfl, ?_, ?_⟩
  · exact (H.out.set h01 h02 h12 _ _ _).same ((Ch.refl (fun _ => False) _).drew)
  · exact (C1.out.mono (fun _ _ h => h.elim)).trans ((((((Ch.refl (fun k => k = b0 ∨ k = b1 ∨ k = b2) W1).set (.inl (.inl rfl)) _).set (.inl (.inr (.inl rfl))) _).set (.inl (.inr (.inr rfl))) _)).drew) (fun _ _ h => h)
set_option maxHeartbeats 4000000 in
set_option maxRecDepth 100000 in
theorem catch_idle60 (w : World) (b0 b1 b2 : Nat) :
    CallsD Try.prog 60 #[.pointer (some ⟨b0, 0, none⟩), .pointer (some ⟨b1, 0, none⟩), .pointer (some ⟨b2, 0, none⟩)] .returning w fun e u' w' => e = .returned (.tuple #[]) ∧ u' = .returning ∧ Ch (fun _ => False) w w' := by
  have hu100 := Try.underlying100
  refine callsD_of_wpS Try.func60 rfl fun c₀ cs hu => ?_
  rw [show Try.f60.ntmps - (#[Value.pointer (some ⟨b0, 0, none⟩), .pointer (some ⟨b1, 0, none⟩), .pointer (some ⟨b2, 0, none⟩)] : Array Value).size = 14 from rfl, tmps14]
  apply wpS_seq
  apply wpS_region
  simp [wpOpsS, go_sem, recoverD, hu, Exit.thenS, assert_no]
  refine wpS_of_wp ?_
  go_wp2
  refine ⟨rfl, .returning, ?_, .tuple #[], by simp [results, Try.results60, go_sem], rfl, rfl, (Ch.refl _ w).alloc _⟩
  cases c₀
  simp_all
set_option maxHeartbeats 4000000 in
set_option maxRecDepth 100000 in
theorem catch_up61 (w : World) (b0 b1 b2 : Nat) (x0 x1 x2 : Value) (q er : Int) (h : Res w b0 b1 b2 9 x0 x1 x2) (h01 : b0 ≠ b1) (h02 : b0 ≠ b2) (h12 : b1 ≠ b2) :
    CallsD Try.prog 61 #[.pointer (some ⟨b0, 0, none⟩), .pointer (some ⟨b1, 0, none⟩), .pointer (some ⟨b2, 0, none⟩)] (.panicking (fault q er)) w fun e u' w' =>
      e = .returned (.tuple #[]) ∧ u' = .panicking [{ v := .iface 100 (.agg #[.int .i64 q, .int .i64 er]), recovered := true }] ∧ Res w' b0 b1 b2 9 (.string ⟨#[]⟩) (.int .i64 q) (.int .i64 er) ∧ Ch (fun k => k = b0 ∨ k = b1 ∨ k = b2) w w' := by
  have hu100 := Try.underlying100
  have hu20 := Try.underlying20
  unfold fault
  refine callsD_of_wpS Try.func61 rfl fun c₀ cs hu => ?_
  rw [show Try.f61.ntmps - (#[Value.pointer (some ⟨b0, 0, none⟩), .pointer (some ⟨b1, 0, none⟩), .pointer (some ⟨b2, 0, none⟩)] : Array Value).size = 14 from rfl, tmps14]
  apply wpS_seq
  apply wpS_region
  simp [wpOpsS, go_sem, recoverD, hu, Exit.thenS, assert_yes]
  refine wpS_of_wp ?_
  have hc : Ch (fun _ => False) w (w.alloc (.cells #[.int .i64 q, .int .i64 er] 100)) := (Ch.refl _ w).alloc _
  have l0 := blk_lt h.c0
  have l1 := blk_lt h.c1
  have l2 := blk_lt h.c2
  have hx := blk_new w (.cells #[.int .i64 q, .int .i64 er] 100)
  have h1 : Res (w.alloc (.cells #[.int .i64 q, .int .i64 er] 100)) b0 b1 b2 9 x0 x1 x2 := ⟨hc.keep h.c0 (fun h => h), hc.keep h.c1 (fun h => h), hc.keep h.c2 (fun h => h)⟩
  have C1 := Aside0.mk hc
  clear hc h
  generalize w.alloc (.cells #[.int .i64 q, .int .i64 er] 100) = W1 at *
  generalize w.heap.size = b at *
  have g0 := (blk_cell h1.c0 0).trans rfl
  have g1 := (blk_cell h1.c1 0).trans rfl
  have g2 := (blk_cell h1.c2 0).trans rfl
  have f0 := blk_frozen h1.c0 0
  have f1 := blk_frozen h1.c1 0
  have f2 := blk_frozen h1.c2 0
  have e0 := (blk_cell hx 0).trans rfl
  have e1 := (blk_cell hx 1).trans rfl
  have H := Aside0.mk h1
  have n0 : ¬ b0 = b := by omega
  have n1 : ¬ b1 = b := by omega
  have n2 : ¬ b2 = b := by omega
  have m0 : ¬ b = b0 := by omega
  have m1 : ¬ b = b1 := by omega
  have m2 : ¬ b = b2 := by omega
  have h01' : ¬ b1 = b0 := fun e => h01 e.symm
  have h02' : ¬ b2 = b0 := fun e => h02 e.symm
  have h12' : ¬ b2 = b1 := fun e => h12 e.symm
  clear h1 l0 l1 l2 hx
  go_wp2
  go_region
  refine ⟨rfl, _, rfl, .tuple #[], by simp [results, Try.results61, go_sem], rfl, rfl, ?_, ?_⟩
  · exact (H.out.set h01 h02 h12 _ _ _).same ((Ch.refl (fun _ => False) _).drew)
  · exact (C1.out.mono (fun _ _ h => h.elim)).trans ((((((Ch.refl (fun k => k = b0 ∨ k = b1 ∨ k = b2) W1).set (.inl (.inl rfl)) _).set (.inl (.inr (.inl rfl))) _).set (.inl (.inr (.inr rfl))) _)).drew) (fun _ _ h => h)
set_option maxHeartbeats 4000000 in
set_option maxRecDepth 100000 in
theorem catch_idle61 (w : World) (b0 b1 b2 : Nat) :
    CallsD Try.prog 61 #[.pointer (some ⟨b0, 0, none⟩), .pointer (some ⟨b1, 0, none⟩), .pointer (some ⟨b2, 0, none⟩)] .returning w fun e u' w' => e = .returned (.tuple #[]) ∧ u' = .returning ∧ Ch (fun _ => False) w w' := by
  have hu100 := Try.underlying100
  refine callsD_of_wpS Try.func61 rfl fun c₀ cs hu => ?_
  rw [show Try.f61.ntmps - (#[Value.pointer (some ⟨b0, 0, none⟩), .pointer (some ⟨b1, 0, none⟩), .pointer (some ⟨b2, 0, none⟩)] : Array Value).size = 14 from rfl, tmps14]
  apply wpS_seq
  apply wpS_region
  simp [wpOpsS, go_sem, recoverD, hu, Exit.thenS, assert_no]
  refine wpS_of_wp ?_
  go_wp2
  refine ⟨rfl, .returning, ?_, .tuple #[], by simp [results, Try.results61, go_sem], rfl, rfl, (Ch.refl _ w).alloc _⟩
  cases c₀
  simp_all
end Go.Proofs.Ytcpjjnikehcleaa.Sr
