/- Reading bytes: fail, next. -/
import Derived.Test.YtcpjjnikehcleaaHb
import Derived.Recover
import Derived.WalkLawsBesides
import Derived.Defers
import Derived.Tactics2
namespace Go.Proofs.Ytcpjjnikehcleaa.Sr
open Go.RowKit PChk Hq Go.Proofs.YtcpjjnikehcleaaW.PrintWords Go.Proofs.YtcpjjnikehcleaaW.PrintLast Go.Proofs.YtcpjjnikehcleaaW.PrintMore
set_option linter.unusedVariables false
set_option linter.unusedSimpArgs false

/-- What is given up with. -/
def fault (p er : Int) : List PanicEntry := [{ v := .iface 100 (.agg #[.int .i64 p, .int .i64 er]), recovered := false }]
theorem fail_calls (w : World) (p er : Int) : Calls Try.prog 51 #[.int .i64 p, .int .i64 er] w fun e w' => e = .panicked (fault p er) ∧ w' = w := by
  have hu100 := Try.underlying100
  go_enter Try.func51, Try.ntmps51
  go_wp2
  exact ⟨rfl, rfl, rfl⟩
/-- A reader: its bytes, and where it stands. -/
structure RAt (w0 W : World) (g : Nat) (A : Option Addr) (c : Nat) (bs : List Int) (p : Nat) : Prop where
  blk : W.heap[g]? = some (.cells #[.slice A bs.length c, .int .i64 (p : Int)] 103 (0, 0))
  row : Kd.C (Kd.int .u8) w0 A bs.length bs
  bg : w0.heap.size ≤ g
  below : Below w0.heap.size w0 W
theorem RAt.cell0 {w0 W : World} {g : Nat} {A : Option Addr} {c : Nat} {bs : List Int} {p : Nat} (h : RAt w0 W g A c bs p) {i : Nat} (hi : i < bs.length) : ∃ ad, A = some ad ∧ w0.cell? (ad.add i) = some (.int .u8 (rd bs (i : Int))) := by
  obtain ⟨ad, cc, e, hl, hK, hc⟩ := Kd.C_get h.row (0 : Int) (i : Int) (by omega) (by omega)
  have hk : cc = [.int .u8 (rd bs (i : Int))] := hK
  subst hk
  have h0 := hc 0 _ rfl
  rw [show ((i : Int).toNat * (Kd.int .u8).sz + 0) = i from by show (i : Int).toNat * 1 + 0 = i; omega] at h0
  exact ⟨ad, e, h0⟩
theorem RAt.cell {w0 W : World} {g : Nat} {A : Option Addr} {c : Nat} {bs : List Int} {p : Nat} (h : RAt w0 W g A c bs p) {i : Nat} (hi : i < bs.length) : ∃ ad, A = some ad ∧ W.cell? (ad.add i) = some (.int .u8 (rd bs (i : Int))) := by
  obtain ⟨ad, e, h0⟩ := h.cell0 hi
  exact ⟨ad, e, (h.below.cell (World.block_lt_of_cell? w0 _ h0)).trans h0⟩
theorem RAt.same {w0 W V : World} {g : Nat} {A : Option Addr} {c : Nat} {bs : List Int} {p : Nat} (h : RAt w0 W g A c bs p) (hc : Ch (fun _ => False) W V) : RAt w0 V g A c bs p :=
  ⟨hc.keep h.blk (fun h => h), h.row, h.bg, h.below.trans (hc.below h.below.size (fun _ h => h.elim))⟩
theorem RAt.step {w0 W : World} {g : Nat} {A : Option Addr} {c : Nat} {bs : List Int} {p : Nat} (h : RAt w0 W g A c bs p) (q : Nat) : RAt w0 (W.setCell ⟨g, 1, none⟩ (.int .i64 (q : Int))) g A c bs q :=
  ⟨blk_put h.blk 1 _ rfl, h.row, h.bg, h.below.trans (((Ch.refl (fun k => k = g) W).set (.inl rfl) _).below h.below.size (fun k hk => by subst hk; exact h.bg))⟩
/-- Behind a step of a reader. -/
def Rd (w0 : World) (g : Nat) (A : Option Addr) (c : Nat) (bs : List Int) (p : Nat) (v : Value) (w : World) (e : Ending) (w' : World) : Prop := e = .returned v ∧ RAt w0 w' g A c bs p ∧ Ch (fun k => k = g) w w'
/-- It gives up. -/
def Up (p er : Int) (g : Nat) (w : World) (e : Ending) (w' : World) : Prop := e = .panicked (fault p er) ∧ Ch (fun k => k = g) w w'
set_option maxRecDepth 100000 in
theorem next_end (w0 w : World) (g : Nat) (A : Option Addr) (c : Nat) (bs : List Int) (h : RAt w0 w g A c bs bs.length) :
    Calls Try.prog 50 #[.pointer (some ⟨g, 0, none⟩)] w (Up (bs.length : Int) 4 g w) := by
  have hu103 := Try.underlying103
  have g0 := (blk_cell h.blk 0).trans rfl
  have g1 := (blk_cell h.blk 1).trans rfl
  go_enter Try.func50, Try.ntmps50
  go_wp2
  go_region
  go_wp2_with (go_at_call 51; go_loud (refine (fail_calls _ _ _).mono ?_; rintro e w' ⟨rfl, rfl⟩))
  exact ⟨rfl, rfl, (Ch.refl _ _).drew⟩
set_option maxRecDepth 100000 in
theorem next_one (w0 w : World) (g : Nat) (A : Option Addr) (c : Nat) (bs : List Int) (p : Nat) (h : RAt w0 w g A c bs p) (hp : p < bs.length) :
    Calls Try.prog 50 #[.pointer (some ⟨g, 0, none⟩)] w (Rd w0 g A c bs (p + 1) (.int .u8 (rd bs (p : Int))) w) := by
  have hu103 := Try.underlying103
  have hu45 := Try.underlying45
  have g0 := (blk_cell h.blk 0).trans rfl
  have g1 := (blk_cell h.blk 1).trans rfl
  have f1 := blk_frozen h.blk 1
  obtain ⟨ad, hA, hcell⟩ := h.cell hp
  have hne : ¬ (ad.add p).block = g := by
    have hb := h.bg
    have hl : (ad.add p).block < w0.heap.size := by
      obtain ⟨ad', e, hc0⟩ := h.cell0 hp
      rw [hA] at e
      cases e
      exact World.block_lt_of_cell? w0 _ hc0
    omega
  have t0 : ∀ u, (w.setCell ⟨g, 1, none⟩ u).cell? (ad.add p) = some (.int .u8 (rd bs (p : Int))) := fun u => (World.cell?_setCell_far _ _ _ _ (fun e => hne e.symm)).trans hcell
  have H := Aside0.mk h
  have hmx := h.row.2.1
  obtain ⟨n, hn⟩ : ∃ n, bs.length = n := ⟨_, rfl⟩
  rw [hn, hA] at g0
  rw [hn] at hp hmx
  have d1 : ((p : Int) == (n : Int)) = false := beq_eq_false_iff_ne.mpr (by omega)
  have d2 : decide (p = n) = false := decide_eq_false (by omega)
  have q1 : (0 ≤ (p : Int)) = True := eq_true (by omega)
  have q2 : ((p : Int) < (n : Int)) = True := eq_true (by omega)
  have w1 : IntKind.i64.wrap ((p : Int) + 1) = ((p + 1 : Nat) : Int) := by rw [IntKind.wrap_i64]; omega
  have w2 : IntKind.i64.wrap (((p + 1 : Nat) : Int) - 1) = (p : Int) := by rw [IntKind.wrap_i64]; omega
  have w3 : IntKind.i64.wrap (p : Int) = (p : Int) := by rw [IntKind.wrap_i64]; omega
  clear h hp hn hmx hA hne
  go_enter Try.func50, Try.ntmps50
  go_wp2
  go_region
  go_wp2
  go_region
  go_wp2
  go_ret
  exact ⟨rfl, (H.out.step (p + 1)).same ((Ch.refl _ _).drew.drew), ((Ch.refl (fun k => k = g) w).set (.inl rfl) _).drew.drew⟩
end Go.Proofs.Ytcpjjnikehcleaa.Sr
