/- The ring's steps, walked: cut, first, touch. -/
import Derived.Test.YtcfdldgekfacfaaS0
namespace Go.Proofs.Ytcfdldgekfacfaa.Sk
open Go.RowKit Go.Proofs.YtcfdldgekfacfaaW.PrintWords Go.Proofs.YtcfdldgekfacfaaW.PrintLast Go.Proofs.YtcfdldgekfacfaaW.PrintMore
set_option linter.unusedVariables false
set_option linter.unusedSimpArgs false

/-- A cache's own struct, its cells in gc. -/
def Head (w : World) (g gc n cap : Nat) : Prop := ∃ v0 v1 v3 v4 v5, w.heap[g]? = some (.cells #[v0, v1, .slice (some ⟨gc, 0, none⟩) n cap, v3, v4, v5] 64 (0, 0))
theorem Head.cell {w : World} {g gc n cap : Nat} (h : Head w g gc n cap) : w.cell? ⟨g, 2, none⟩ = some (.slice (some ⟨gc, 0, none⟩) n cap) := by
  obtain ⟨v0, v1, v3, v4, v5, h⟩ := h; exact blk_cell h 2
theorem Head.lt {w : World} {g gc n cap : Nat} (h : Head w g gc n cap) : g < w.heap.size := by obtain ⟨v0, v1, v3, v4, v5, h⟩ := h; exact blk_lt h
theorem Head.ne {w : World} {g gc n cap : Nat} (h : Head w g gc n cap) {cp : Nat} {cs : List Cel} {tail : List Value} (r : Ring w gc cp cs tail) : g ≠ gc := by
  obtain ⟨v0, v1, v3, v4, v5, h⟩ := h; exact blk_ne h r.blk (by decide)
theorem Head.ch {w W : World} {g gc n cap : Nat} (h : Head w g gc n cap) {S : Nat → Prop} (hc : Ch S w W) (hn : ¬ S g) : Head W g gc n cap := by
  obtain ⟨v0, v1, v3, v4, v5, h⟩ := h; exact ⟨v0, v1, v3, v4, v5, hc.keep h hn⟩

/-- Behind a call the ring's cells are others; nothing else has changed. -/
def RingPost (gc cap : Nat) (cs : List Cel) (tail : List Value) (w : World) (e : Ending) (w' : World) : Prop := e = .returned (.tuple #[]) ∧ Ring w' gc cap cs tail ∧ Ch (fun k => k = gc) w w'

set_option maxHeartbeats 2000000 in
set_option maxRecDepth 100000 in
theorem cut_calls (w : World) (g gc cap i : Nat) (cs : List Cel) (tail : List Value) (hh : Head w g gc cs.length cap) (hr : Ring w gc cap cs tail) (hi : i < cs.length) (ha : (ce cs i).ah < cs.length) (hn : (ce cs i).nx < cs.length) :
    Calls Try.prog 53 #[.pointer (some ⟨g, 0, none⟩), .int .i64 (i : Int)] w (RingPost gc cap (cutL cs i) tail w) := by
  have hu64 := Try.underlying64
  have hu66 := Try.underlying66
  have hu62 := Try.underlying62
  have hg2 := hh.cell
  have hgl := hh.lt
  have hgc := hr.lt
  have hne := hh.ne hr
  obtain ⟨c0, c1, c2, c3⟩ := hr.cell hi
  have fz := hr.frozen
  obtain ⟨-, -, -, d3⟩ := hr.cell ha
  obtain ⟨-, -, e2, -⟩ := (hr.setNx (i := (ce cs i).ah) (a := (ce cs i).nx) ha).cell (i := (ce cs i).nx) (by simpa using hn)
  have HR := Aside0.mk hr
  have HA := Aside0.mk ha
  have HN := Aside0.mk hn
  unfold cutL
  clear hr hh
  generalize hah : (ce cs i).ah = ah at *
  generalize hnx : (ce cs i).nx = nx at *
  have p1 : (0 ≤ (i : Int)) = True := eq_true (by omega)
  have p2 : ((i : Int) < (cs.length : Int)) = True := eq_true (by omega)
  have q1 : (0 ≤ (ah : Int)) = True := eq_true (by omega)
  have q2 : ((ah : Int) < (cs.length : Int)) = True := eq_true (by omega)
  have r1 : (0 ≤ (nx : Int)) = True := eq_true (by omega)
  have r2 : ((nx : Int) < (cs.length : Int)) = True := eq_true (by omega)
  clear hah hnx ha hn
  go_enter Try.func53, Try.ntmps53
  go_wp2
  go_region
  go_wp2
  go_region
  go_wp2
  go_end0
  exact ⟨rfl, ((((HR.out.setNx HA.out).setAh (by simpa using HN.out)).alloc _).drew).drew, (((((Ch.refl (fun k => k = gc) w).set (.inl rfl) _).set (.inl rfl) _).alloc _).drew).drew⟩

set_option maxHeartbeats 2000000 in
set_option maxRecDepth 100000 in
theorem first_calls (w : World) (g gc cap i : Nat) (cs : List Cel) (tail : List Value) (hh : Head w g gc cs.length cap) (hr : Ring w gc cap cs tail) (hi : i < cs.length) (hn : (ce cs 0).nx < cs.length) :
    Calls Try.prog 40 #[.pointer (some ⟨g, 0, none⟩), .int .i64 (i : Int)] w (RingPost gc cap (firstL cs i) tail w) := by
  have hu64 := Try.underlying64
  have hu66 := Try.underlying66
  have hu62 := Try.underlying62
  have hg2 := hh.cell
  have hgl := hh.lt
  have hgc := hr.lt
  have hne := hh.ne hr
  have h0 : 0 < cs.length := by omega
  obtain ⟨-, -, -, z3⟩ := hr.cell h0
  rw [Nat.zero_mul, Nat.zero_add] at z3
  obtain ⟨-, -, c2, c3⟩ := hr.cell hi
  have fz := hr.frozen
  have h1 := (hr.setAh (i := i) (a := 0) hi).setNx (i := i) (a := (ce cs 0).nx) (by simpa using hi)
  obtain ⟨-, -, e2, -⟩ := h1.cell (i := (ce cs 0).nx) (by simpa using hn)
  have h2 := h1.setAh (i := (ce cs 0).nx) (a := i) (by simpa using hn)
  obtain ⟨-, -, -, e3⟩ := h2.cell (i := 0) (by simpa using h0)
  rw [Nat.zero_mul, Nat.zero_add] at e3
  have h3 := h2.setNx (i := 0) (a := i) (by simpa using h0)
  rw [Nat.zero_mul, Nat.zero_add] at h3
  rw [Int.natCast_zero] at e2 e3 h3
  have HR := Aside0.mk h3
  unfold firstL
  clear h1 h2 h3
  clear hr hh
  generalize hnx : (ce cs 0).nx = nx at *
  have p1 : (0 ≤ (i : Int)) = True := eq_true (by omega)
  have p2 : ((i : Int) < (cs.length : Int)) = True := eq_true (by omega)
  have r1 : (0 ≤ (nx : Int)) = True := eq_true (by omega)
  have r2 : ((nx : Int) < (cs.length : Int)) = True := eq_true (by omega)
  have z1 : (0 < (cs.length : Int)) = True := eq_true (by omega)
  clear hnx hn
  go_enter Try.func40, Try.ntmps40
  go_wp2
  go_region
  go_wp2
  go_end0
  trace_state
  exact ⟨rfl, HR.out.drew, (((((Ch.refl (fun k => k = gc) w).set (.inl rfl) _).set (.inl rfl) _).set (.inl rfl) _).set (.inl rfl) _).drew⟩
end Go.Proofs.Ytcfdldgekfacfaa.Sk
