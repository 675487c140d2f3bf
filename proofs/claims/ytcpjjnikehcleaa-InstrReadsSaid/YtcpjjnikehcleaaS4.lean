/- Reading bytes: read. -/
import Derived.Test.YtcpjjnikehcleaaS3
namespace Go.Proofs.Ytcpjjnikehcleaa.Sr
open Go.RowKit PChk Hq Go.Proofs.YtcpjjnikehcleaaW.PrintWords Go.Proofs.YtcpjjnikehcleaaW.PrintLast Go.Proofs.YtcpjjnikehcleaaW.PrintMore
set_option linter.unusedVariables false
set_option linter.unusedSimpArgs false

def Three (v0 v1 v2 : Value) (w : World) (e : Ending) (w' : World) : Prop := e = .returned (.tuple #[v0, v1, v2]) ∧ Below w.heap.size w w'
/-- What read tells of a number. -/
def told (r : Sum (Int × Nat) (Nat × Int)) : Int × Int × Int :=
  match r with
  | .inl (v, q) => (v, (q : Int), 0)
  | .inr (q, er) => (0, (q : Int), er)
def toldT (r : Sum (ByteArray × Nat) (Nat × Int)) : ByteArray × Int × Int :=
  match r with
  | .inl (v, q) => (v, (q : Int), 0)
  | .inr (q, er) => (⟨#[]⟩, (q : Int), er)
theorem Res.far {W V : World} {b0 b1 b2 t g : Nat} {x0 x1 x2 : Value} (h : Res W b0 b1 b2 t x0 x1 x2) (hc : Ch (fun k => k = g) W V) (h0 : b0 ≠ g) (h1 : b1 ≠ g) (h2 : b2 ≠ g) : Res V b0 b1 b2 t x0 x1 x2 := ⟨hc.keep h.c0 h0, hc.keep h.c1 h1, hc.keep h.c2 h2⟩
theorem Res.put0 {W : World} {b0 b1 b2 t : Nat} {x0 x1 x2 : Value} (h : Res W b0 b1 b2 t x0 x1 x2) (h01 : b0 ≠ b1) (h02 : b0 ≠ b2) (y0 : Value) : Res (W.setCell ⟨b0, 0, none⟩ y0) b0 b1 b2 t y0 x1 x2 :=
  ⟨blk_put h.c0 0 _ rfl, by rw [Below.heap_setCell _ _ _ _ h01.symm]; exact h.c1, by rw [Below.heap_setCell _ _ _ _ h02.symm]; exact h.c2⟩
/-- read's own cells, and its reader. -/
theorem made (w : World) (A : Option Addr) (c : Nat) (bs : List Int) (z : Value) (t : Nat) (hr : Kd.C (Kd.int .u8) w A bs.length bs) :
    Res ((((w.alloc (.cells #[z] t)).alloc (.cells #[.int .i64 0] 3)).alloc (.cells #[.int .i64 0] 25)).alloc (.cells #[.slice A bs.length c, .int .i64 0] 103)) w.heap.size (w.heap.size + 1) (w.heap.size + 1 + 1) t z (.int .i64 0) (.int .i64 0) ∧
    RAt w ((((w.alloc (.cells #[z] t)).alloc (.cells #[.int .i64 0] 3)).alloc (.cells #[.int .i64 0] 25)).alloc (.cells #[.slice A bs.length c, .int .i64 0] 103)) (w.heap.size + 1 + 1 + 1) A c bs 0 := by
  have k0 := blk_new w (.cells #[z] t)
  have k1 := blk_new (w.alloc (.cells #[z] t)) (.cells #[.int .i64 0] 3)
  have k2 := blk_new ((w.alloc (.cells #[z] t)).alloc (.cells #[.int .i64 0] 3)) (.cells #[.int .i64 0] 25)
  have k3 := blk_new (((w.alloc (.cells #[z] t)).alloc (.cells #[.int .i64 0] 3)).alloc (.cells #[.int .i64 0] 25)) (.cells #[.slice A bs.length c, .int .i64 0] 103)
  simp only [World.size_alloc] at k1 k2 k3
  have a1 := (Ch.refl (fun _ => False) (w.alloc (.cells #[z] t))).alloc (.cells #[.int .i64 0] 3)
  have a2 := (Ch.refl (fun _ => False) ((w.alloc (.cells #[z] t)).alloc (.cells #[.int .i64 0] 3))).alloc (.cells #[.int .i64 0] 25)
  have a3 := (Ch.refl (fun _ => False) (((w.alloc (.cells #[z] t)).alloc (.cells #[.int .i64 0] 3)).alloc (.cells #[.int .i64 0] 25))).alloc (.cells #[.slice A bs.length c, .int .i64 0] 103)
  refine ⟨⟨a3.keep (a2.keep (a1.keep k0 (fun h => h)) (fun h => h)) (fun h => h), a3.keep (a2.keep k1 (fun h => h)) (fun h => h), a3.keep k2 (fun h => h)⟩, k3, hr, by omega, ?_⟩
  exact ((((Ch.refl (fun _ => False) w).alloc _).alloc _).alloc _ |>.alloc _).below (Nat.le_refl _) (fun _ h => h.elim)
set_option maxHeartbeats 4000000 in
set_option maxRecDepth 100000 in
theorem read36 (w : World) (A : Option Addr) (c : Nat) (bs : List Int) (hr : Kd.C (Kd.int .u8) w A bs.length bs) (hc : bs.length ≤ c) (hb : U8 bs) :
    Calls Try.prog 36 #[.slice A bs.length c, .func (.func 37) #[] #[]] w (Three (.int .u64 (told (numP bs 0)).1) (.int .i64 (told (numP bs 0)).2.1) (.int .i64 (told (numP bs 0)).2.2) w) := by
  have hu103 := Try.underlying103
  have hmf : ∀ (fn : Fn) (first cap : Array Value) (w : World), (Instr.makeFunc fn first cap).run Try.prog w = .ok (.func fn first cap) w := fun _ _ _ _ => rfl
  have NC := Aside0.mk (fun w1 g h => number_calls w w1 g A c bs 0 h (Nat.zero_le _) hb)
  have MD := Aside0.mk (made w A c bs (.int .u64 0) 64 hr)
  clear hr hb
  cases hr : numP bs 0 with
  | inr q =>
    obtain ⟨q, er⟩ := q
    have HRr := Aside0.mk hr
    clear hr hc
    show Calls _ _ _ _ (Three (.int .u64 0) (.int .i64 (q : Int)) (.int .i64 er) w)
    go_enter_defers Try.func36, Try.ntmps36
    go_wp2_with (go_at_call 37; go_loud (have NC2 := NC.out _ _ MD.out.2; rw [HRr.out] at NC2; refine NC2.mono ?_; clear NC2; rintro e w1 ⟨rfl, hc1⟩; have C1 := Aside0.mk hc1; have RE := Aside0.mk (MD.out.1.far hc1 (by omega) (by omega) (by omega)); clear hc1))
    refine leaves_cons (f := 49) (args := #[.pointer (some ⟨w.heap.size, 0, none⟩), .pointer (some ⟨w.heap.size + 1, 0, none⟩), .pointer (some ⟨w.heap.size + 1 + 1, 0, none⟩)]) (by simp) (by simp [go_sem]) ?_
    refine (catch_up49 w1 w.heap.size (w.heap.size + 1) (w.heap.size + 1 + 1) _ _ _ (q : Int) er RE.out (by omega) (by omega) (by omega)).mono ?_
    rintro e u' w2 ⟨rfl, rfl, hR2, hC2⟩
    have g0 := (blk_cell hR2.c0 0).trans rfl
    have g1 := (blk_cell hR2.c1 0).trans rfl
    have g2 := (blk_cell hR2.c2 0).trans rfl
    have B1 := Aside0.mk (show Below w.heap.size w w2 from (MD.out.2.below.trans (C1.out.below MD.out.2.below.size (fun k hk => by subst hk; exact MD.out.2.bg))).trans (hC2.below (Nat.le_trans MD.out.2.below.size C1.out.size) (fun k hk => by rcases hk with rfl | rfl | rfl <;> omega)))
    simp [Leaves, settle, results, Try.results36, go_sem, g0, g1, g2]
    exact ⟨rfl, B1.out⟩
  | inl q =>
    obtain ⟨v, q⟩ := q
    have HRr := Aside0.mk hr
    clear hr hc
    show Calls _ _ _ _ (Three (.int .u64 v) (.int .i64 (q : Int)) (.int .i64 0) w)
    go_enter_defers Try.func36, Try.ntmps36
    go_wp2_with (go_at_call 37; go_loud (have NC2 := NC.out _ _ MD.out.2; rw [HRr.out] at NC2; refine NC2.mono ?_; clear NC2; rintro e w1 ⟨rfl, hr1, hc1⟩; have R1 := Aside0.mk hr1; have C1 := Aside0.mk hc1; have hRE := MD.out.1.far hc1 (by omega) (by omega) (by omega); have RE := Aside0.mk hRE; have g0 := (blk_cell hRE.c0 0).trans rfl; have g1 := (blk_cell hRE.c1 0).trans rfl; have g2 := (blk_cell hRE.c2 0).trans rfl; have f0 := blk_frozen hRE.c0 0; have f1 := blk_frozen hRE.c1 0; have f2 := blk_frozen hRE.c2 0; have r1 := (blk_cell hr1.blk 1).trans rfl; clear hr1 hc1 hRE))
    go_region
    go_wp2
    refine leaves_cons (f := 49) (args := #[.pointer (some ⟨w.heap.size, 0, none⟩), .pointer (some ⟨w.heap.size + 1, 0, none⟩), .pointer (some ⟨w.heap.size + 1 + 1, 0, none⟩)]) (by simp) (by simp [go_sem]) ?_
    refine (catch_idle49 _ w.heap.size (w.heap.size + 1) (w.heap.size + 1 + 1)).mono ?_
    rintro e u' w2 ⟨rfl, rfl, hC2⟩
    have hR2 := (((RE.out.put0 (by omega) (by omega) (.int .u64 v)).set (by omega) (by omega) (by omega) (.int .u64 v) (.int .i64 (q : Int)) (.int .i64 0)).same (Ch.refl (fun _ => False) _).drew).same hC2
    have g0 := (blk_cell hR2.c0 0).trans rfl
    have g1 := (blk_cell hR2.c1 0).trans rfl
    have g2 := (blk_cell hR2.c2 0).trans rfl
    have hC1 := (C1.out.mono (T := fun k => w.heap.size ≤ k) (fun k _ hk => by subst hk; omega)).trans (((((((Ch.refl (fun k => w.heap.size ≤ k) w1).set (p := ⟨w.heap.size, 0, none⟩) (.inl (Nat.le_refl _)) (.int .u64 v)).set (p := ⟨w.heap.size, 0, none⟩) (.inl (Nat.le_refl _)) (.int .u64 v)).set (p := ⟨w.heap.size + 1, 0, none⟩) (.inl (Nat.le_succ _)) (.int .i64 (q : Int))).set (p := ⟨w.heap.size + 1 + 1, 0, none⟩) (.inl (Nat.le_trans (Nat.le_succ _) (Nat.le_succ _))) (.int .i64 0)).drew).trans hC2 (fun _ _ h => h.elim)) (fun _ _ h => h)
    have B1 := Aside0.mk (show Below w.heap.size w w2 from MD.out.2.below.trans (hC1.below MD.out.2.below.size (fun k hk => hk)))
    simp [Leaves, settle, results, Try.results36, go_sem, g0, g1, g2]
    exact ⟨rfl, B1.out⟩
set_option maxHeartbeats 4000000 in
set_option maxRecDepth 100000 in
theorem read52 (w : World) (A : Option Addr) (c : Nat) (bs : List Int) (hr : Kd.C (Kd.int .u8) w A bs.length bs) (hc : bs.length ≤ c) (hb : U8 bs) :
    Calls Try.prog 52 #[.slice A bs.length c, .func (.func 53) #[] #[]] w (Three (.int .i64 (told (intP bs 0)).1) (.int .i64 (told (intP bs 0)).2.1) (.int .i64 (told (intP bs 0)).2.2) w) := by
  have hu103 := Try.underlying103
  have hmf : ∀ (fn : Fn) (first cap : Array Value) (w : World), (Instr.makeFunc fn first cap).run Try.prog w = .ok (.func fn first cap) w := fun _ _ _ _ => rfl
  have NC := Aside0.mk (fun w1 g h => whole_calls w w1 g A c bs 0 h (Nat.zero_le _) hb)
  have MD := Aside0.mk (made w A c bs (.int .i64 0) 2 hr)
  clear hr hb
  cases hr : intP bs 0 with
  | inr q =>
    obtain ⟨q, er⟩ := q
    have HRr := Aside0.mk hr
    clear hr hc
    show Calls _ _ _ _ (Three (.int .i64 0) (.int .i64 (q : Int)) (.int .i64 er) w)
    go_enter_defers Try.func52, Try.ntmps52
    go_wp2_with (go_at_call 53; go_loud (have NC2 := NC.out _ _ MD.out.2; rw [HRr.out] at NC2; refine NC2.mono ?_; clear NC2; rintro e w1 ⟨rfl, hc1⟩; have C1 := Aside0.mk hc1; have RE := Aside0.mk (MD.out.1.far hc1 (by omega) (by omega) (by omega)); clear hc1))
    refine leaves_cons (f := 60) (args := #[.pointer (some ⟨w.heap.size, 0, none⟩), .pointer (some ⟨w.heap.size + 1, 0, none⟩), .pointer (some ⟨w.heap.size + 1 + 1, 0, none⟩)]) (by simp) (by simp [go_sem]) ?_
    refine (catch_up60 w1 w.heap.size (w.heap.size + 1) (w.heap.size + 1 + 1) _ _ _ (q : Int) er RE.out (by omega) (by omega) (by omega)).mono ?_
    rintro e u' w2 ⟨rfl, rfl, hR2, hC2⟩
    have g0 := (blk_cell hR2.c0 0).trans rfl
    have g1 := (blk_cell hR2.c1 0).trans rfl
    have g2 := (blk_cell hR2.c2 0).trans rfl
    have B1 := Aside0.mk (show Below w.heap.size w w2 from (MD.out.2.below.trans (C1.out.below MD.out.2.below.size (fun k hk => by subst hk; exact MD.out.2.bg))).trans (hC2.below (Nat.le_trans MD.out.2.below.size C1.out.size) (fun k hk => by rcases hk with rfl | rfl | rfl <;> omega)))
    simp [Leaves, settle, results, Try.results52, go_sem, g0, g1, g2]
    exact ⟨rfl, B1.out⟩
  | inl q =>
    obtain ⟨v, q⟩ := q
    have HRr := Aside0.mk hr
    clear hr hc
    show Calls _ _ _ _ (Three (.int .i64 v) (.int .i64 (q : Int)) (.int .i64 0) w)
    go_enter_defers Try.func52, Try.ntmps52
    go_wp2_with (go_at_call 53; go_loud (have NC2 := NC.out _ _ MD.out.2; rw [HRr.out] at NC2; refine NC2.mono ?_; clear NC2; rintro e w1 ⟨rfl, hr1, hc1⟩; have R1 := Aside0.mk hr1; have C1 := Aside0.mk hc1; have hRE := MD.out.1.far hc1 (by omega) (by omega) (by omega); have RE := Aside0.mk hRE; have g0 := (blk_cell hRE.c0 0).trans rfl; have g1 := (blk_cell hRE.c1 0).trans rfl; have g2 := (blk_cell hRE.c2 0).trans rfl; have f0 := blk_frozen hRE.c0 0; have f1 := blk_frozen hRE.c1 0; have f2 := blk_frozen hRE.c2 0; have r1 := (blk_cell hr1.blk 1).trans rfl; clear hr1 hc1 hRE))
    go_region
    go_wp2
    refine leaves_cons (f := 60) (args := #[.pointer (some ⟨w.heap.size, 0, none⟩), .pointer (some ⟨w.heap.size + 1, 0, none⟩), .pointer (some ⟨w.heap.size + 1 + 1, 0, none⟩)]) (by simp) (by simp [go_sem]) ?_
    refine (catch_idle60 _ w.heap.size (w.heap.size + 1) (w.heap.size + 1 + 1)).mono ?_
    rintro e u' w2 ⟨rfl, rfl, hC2⟩
    have hR2 := (((RE.out.put0 (by omega) (by omega) (.int .i64 v)).set (by omega) (by omega) (by omega) (.int .i64 v) (.int .i64 (q : Int)) (.int .i64 0)).same (Ch.refl (fun _ => False) _).drew).same hC2
    have g0 := (blk_cell hR2.c0 0).trans rfl
    have g1 := (blk_cell hR2.c1 0).trans rfl
    have g2 := (blk_cell hR2.c2 0).trans rfl
    have hC1 := (C1.out.mono (T := fun k => w.heap.size ≤ k) (fun k _ hk => by subst hk; omega)).trans (((((((Ch.refl (fun k => w.heap.size ≤ k) w1).set (p := ⟨w.heap.size, 0, none⟩) (.inl (Nat.le_refl _)) (.int .i64 v)).set (p := ⟨w.heap.size, 0, none⟩) (.inl (Nat.le_refl _)) (.int .i64 v)).set (p := ⟨w.heap.size + 1, 0, none⟩) (.inl (Nat.le_succ _)) (.int .i64 (q : Int))).set (p := ⟨w.heap.size + 1 + 1, 0, none⟩) (.inl (Nat.le_trans (Nat.le_succ _) (Nat.le_succ _))) (.int .i64 0)).drew).trans hC2 (fun _ _ h => h.elim)) (fun _ _ h => h)
    have B1 := Aside0.mk (show Below w.heap.size w w2 from MD.out.2.below.trans (hC1.below MD.out.2.below.size (fun k hk => hk)))
    simp [Leaves, settle, results, Try.results52, go_sem, g0, g1, g2]
    exact ⟨rfl, B1.out⟩
set_option maxHeartbeats 4000000 in
set_option maxRecDepth 100000 in
theorem read54 (w : World) (A : Option Addr) (c : Nat) (bs : List Int) (hr : Kd.C (Kd.int .u8) w A bs.length bs) (hc : bs.length ≤ c) (hb : U8 bs) :
    Calls Try.prog 54 #[.slice A bs.length c, .func (.func 55) #[] #[]] w (Three (.string (toldT (textP bs 0)).1) (.int .i64 (toldT (textP bs 0)).2.1) (.int .i64 (toldT (textP bs 0)).2.2) w) := by
  have hu103 := Try.underlying103
  have hmf : ∀ (fn : Fn) (first cap : Array Value) (w : World), (Instr.makeFunc fn first cap).run Try.prog w = .ok (.func fn first cap) w := fun _ _ _ _ => rfl
  have NC := Aside0.mk (fun w1 g h => text_calls w w1 g A c bs 0 h (Nat.zero_le _) hb hc)
  have MD := Aside0.mk (made w A c bs (.string ⟨#[]⟩) 9 hr)
  clear hr hb
  cases hr : textP bs 0 with
  | inr q =>
    obtain ⟨q, er⟩ := q
    have HRr := Aside0.mk hr
    clear hr hc
    show Calls _ _ _ _ (Three (.string ⟨#[]⟩) (.int .i64 (q : Int)) (.int .i64 er) w)
    go_enter_defers Try.func54, Try.ntmps54
    go_wp2_with (go_at_call 55; go_loud (have NC2 := NC.out _ _ MD.out.2; rw [HRr.out] at NC2; refine NC2.mono ?_; clear NC2; rintro e w1 ⟨rfl, hc1⟩; have C1 := Aside0.mk hc1; have RE := Aside0.mk (MD.out.1.far hc1 (by omega) (by omega) (by omega)); clear hc1))
    refine leaves_cons (f := 61) (args := #[.pointer (some ⟨w.heap.size, 0, none⟩), .pointer (some ⟨w.heap.size + 1, 0, none⟩), .pointer (some ⟨w.heap.size + 1 + 1, 0, none⟩)]) (by simp) (by simp [go_sem]) ?_
    refine (catch_up61 w1 w.heap.size (w.heap.size + 1) (w.heap.size + 1 + 1) _ _ _ (q : Int) er RE.out (by omega) (by omega) (by omega)).mono ?_
    rintro e u' w2 ⟨rfl, rfl, hR2, hC2⟩
    have g0 := (blk_cell hR2.c0 0).trans rfl
    have g1 := (blk_cell hR2.c1 0).trans rfl
    have g2 := (blk_cell hR2.c2 0).trans rfl
    have B1 := Aside0.mk (show Below w.heap.size w w2 from (MD.out.2.below.trans (C1.out.below MD.out.2.below.size (fun k hk => by subst hk; exact MD.out.2.bg))).trans (hC2.below (Nat.le_trans MD.out.2.below.size C1.out.size) (fun k hk => by rcases hk with rfl | rfl | rfl <;> omega)))
    simp [Leaves, settle, results, Try.results54, go_sem, g0, g1, g2]
    exact ⟨rfl, B1.out⟩
  | inl q =>
    obtain ⟨v, q⟩ := q
    have HRr := Aside0.mk hr
    clear hr hc
    show Calls _ _ _ _ (Three (.string v) (.int .i64 (q : Int)) (.int .i64 0) w)
    go_enter_defers Try.func54, Try.ntmps54
    go_wp2_with (go_at_call 55; go_loud (have NC2 := NC.out _ _ MD.out.2; rw [HRr.out] at NC2; refine NC2.mono ?_; clear NC2; rintro e w1 ⟨rfl, hr1, hc1⟩; have R1 := Aside0.mk hr1; have C1 := Aside0.mk hc1; have hRE := MD.out.1.far hc1 (by omega) (by omega) (by omega); have RE := Aside0.mk hRE; have g0 := (blk_cell hRE.c0 0).trans rfl; have g1 := (blk_cell hRE.c1 0).trans rfl; have g2 := (blk_cell hRE.c2 0).trans rfl; have f0 := blk_frozen hRE.c0 0; have f1 := blk_frozen hRE.c1 0; have f2 := blk_frozen hRE.c2 0; have r1 := (blk_cell hr1.blk 1).trans rfl; clear hr1 hc1 hRE))
    go_region
    go_wp2
    refine leaves_cons (f := 61) (args := #[.pointer (some ⟨w.heap.size, 0, none⟩), .pointer (some ⟨w.heap.size + 1, 0, none⟩), .pointer (some ⟨w.heap.size + 1 + 1, 0, none⟩)]) (by simp) (by simp [go_sem]) ?_
    refine (catch_idle61 _ w.heap.size (w.heap.size + 1) (w.heap.size + 1 + 1)).mono ?_
    rintro e u' w2 ⟨rfl, rfl, hC2⟩
    have hR2 := (((RE.out.put0 (by omega) (by omega) (.string v)).set (by omega) (by omega) (by omega) (.string v) (.int .i64 (q : Int)) (.int .i64 0)).same (Ch.refl (fun _ => False) _).drew).same hC2
    have g0 := (blk_cell hR2.c0 0).trans rfl
    have g1 := (blk_cell hR2.c1 0).trans rfl
    have g2 := (blk_cell hR2.c2 0).trans rfl
    have hC1 := (C1.out.mono (T := fun k => w.heap.size ≤ k) (fun k _ hk => by subst hk; omega)).trans (((((((Ch.refl (fun k => w.heap.size ≤ k) w1).set (p := ⟨w.heap.size, 0, none⟩) (.inl (Nat.le_refl _)) (.string v)).set (p := ⟨w.heap.size, 0, none⟩) (.inl (Nat.le_refl _)) (.string v)).set (p := ⟨w.heap.size + 1, 0, none⟩) (.inl (Nat.le_succ _)) (.int .i64 (q : Int))).set (p := ⟨w.heap.size + 1 + 1, 0, none⟩) (.inl (Nat.le_trans (Nat.le_succ _) (Nat.le_succ _))) (.int .i64 0)).drew).trans hC2 (fun _ _ h => h.elim)) (fun _ _ h => h)
    have B1 := Aside0.mk (show Below w.heap.size w w2 from MD.out.2.below.trans (hC1.below MD.out.2.below.size (fun k hk => hk)))
    simp [Leaves, settle, results, Try.results54, go_sem, g0, g1, g2]
    exact ⟨rfl, B1.out⟩
end Go.Proofs.Ytcpjjnikehcleaa.Sr
