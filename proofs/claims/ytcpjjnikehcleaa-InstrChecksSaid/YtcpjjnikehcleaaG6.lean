/- A walk through code, in memory: circle. -/
import Derived.Test.YtcpjjnikehcleaaG5
namespace Go.Proofs.Ytcpjjnikehcleaa.Gw
open Go.RowKit PChk Hq Lk Go.Proofs.YtcpjjnikehcleaaW.PrintWords Go.Proofs.YtcpjjnikehcleaaW.PrintLast Go.Proofs.YtcpjjnikehcleaaW.PrintMore
open Go.Maps (Keyed)
set_option linter.unusedVariables false
set_option linter.unusedSimpArgs false

/-- Where an instruction that is no step leads. -/
def frN (xs : List S36) (i : Nat) : Option Nat := if (rd_T36 xs i).f0 = 1 then some (rd_T36 xs i).f1.toNat else if (rd_T36 xs i).f0 = 5 then some (i + 1) else none
def circV : Option Nat → Int
  | some i => i
  | none => -1
theorem WAt.code_at {w0 W : World} {y : WL} {xs : List S36} {d : List Int} {s : HS} (h : WAt w0 W y xs d s) {i : Nat} (hi : i < xs.length) :
    ∃ ad, y.A = some ad ∧ W.cell? (ad.add (i * 4)) = some (.int .u8 (rd_T36 xs i).f0) ∧ W.cell? ⟨(ad.add (i * 4)).block, (ad.add (i * 4)).off + 1, none⟩ = some (.int .i64 (rd_T36 xs i).f1) ∧
      W.cell? ⟨(ad.add (i * 4)).block, (ad.add (i * 4)).off + 2, none⟩ = some (.int .i64 (rd_T36 xs i).f2) ∧ W.cell? ⟨(ad.add (i * 4)).block, (ad.add (i * 4)).off + 3, none⟩ = some (.string (rd_T36 xs i).f3) := by
  obtain ⟨ad, hA, a0, a1, a2, a3⟩ := at_T36 h.code (i : Int) (by omega) (by omega)
  rw [Int.toNat_natCast] at a0 a1 a2 a3
  exact ⟨ad, hA, (h.below.cell (World.block_lt_of_cell? w0 _ a0)).trans a0, (h.below.cell (World.block_lt_of_cell? w0 _ a1)).trans a1, (h.below.cell (World.block_lt_of_cell? w0 _ a2)).trans a2, (h.below.cell (World.block_lt_of_cell? w0 _ a3)).trans a3⟩
theorem kd1 : (kd 1).2.1 = 116 ∧ (kd 1).2.2.2.2.2.2.2 = false ∧ (kd 1).2.2.2.2.1 = 0 ∧ (kd 1).2.2.2.2.2.1 = 0 ∧ (kd 1).2.2.2.2.2.2.1 = false := ⟨by kernel_rfl, by kernel_rfl, by kernel_rfl, by kernel_rfl, by kernel_rfl⟩
theorem kd5 : (kd 5).2.2.2.2.2.2.2 = false ∧ (kd 5).2.2.2.2.1 = 1 ∧ (kd 5).2.2.2.2.2.1 = 1 ∧ (kd 5).2.2.2.2.2.2.1 = false := ⟨by kernel_rfl, by kernel_rfl, by kernel_rfl, by kernel_rfl⟩
theorem fr_met {xs : List S36} {n i j : Nat} {d : List Int} (hD : Done (nodN xs) n d i) (hF : Fit n (rd_T36 xs i)) (h : frN xs i = some j) : j < n ∧ 0 ≤ dp d j := by
  have hpos := hD.pos
  unfold frN at h
  split at h
  · next h1 =>
    cases h
    have hk := kd1
    rw [← h1] at hk
    have he : (nodN xs i).ends = false := hk.2.1
    have htk : (nodN xs i).takes = 0 := by show (kd _).2.2.2.2.1 + _ = 0; rw [hk.2.2.1, hk.2.2.2.2]; rfl
    have hlv : (nodN xs i).leave = 0 := hk.2.2.2.1
    have ht : (nodN xs i).tgt = some (rd_T36 xs i).f1.toNat := by show (if (kd _).2.1 = 116 then _ else _) = _; rw [if_pos hk.1]
    have := hD.tgt he _ ht
    have h2 := hF.tgt hk.1
    have h3 := hF.a0
    refine ⟨by omega, ?_⟩
    rw [this, htk, hlv]
    exact thr_nn hpos (by omega)
  · split at h
    · next h0 h1 =>
      cases h
      have hk := kd5
      rw [← h1] at hk
      have he : (nodN xs i).ends = false := hk.1
      have htk : (nodN xs i).takes = 1 := by show (kd _).2.2.2.2.1 + _ = 1; rw [hk.2.1, hk.2.2.2]; rfl
      have hlv : (nodN xs i).leave = 1 := hk.2.2.1
      have hj : (nodN xs i).jump = false := by show ((rd_T36 xs i).f0 == 1) = false; rw [h1]; rfl
      have := hD.next he hj
      exact ⟨this.1, by rw [this.2]; omega⟩
    · cases h
end Go.Proofs.Ytcpjjnikehcleaa.Gw
