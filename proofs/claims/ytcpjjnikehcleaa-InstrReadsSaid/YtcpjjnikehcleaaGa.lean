/- Every Op is a byte: a test that computes; a law's answer at its own code. -/
import Derived.Test.YtcpjjnikehcleaaG9
namespace Go.Proofs.Ytcpjjnikehcleaa.Rt
open Go.RowKit PChk Hq Lk Gw Go.Proofs.YtcpjjnikehcleaaW.PrintWords Go.Proofs.YtcpjjnikehcleaaW.PrintLast Go.Proofs.YtcpjjnikehcleaaW.PrintMore
set_option linter.unusedVariables false
def bytesB (xs : List S36) : Bool := xs.all (fun x => decide (0 ≤ x.f0 ∧ x.f0 < 256))
theorem bytes_of {xs : List S36} (h : bytesB xs = true) : Bytes xs := fun i hi => by
  have := List.all_eq_true.1 h (rd_T36 xs (i : Int)) (by
    unfold rd_T36
    rw [Int.toNat_natCast, List.getD_eq_getElem?_getD, List.getElem?_eq_getElem hi]
    exact List.getElem_mem hi)
  simpa using this
/-- The law's own code. -/
def addsL : List S36 := [⟨26, 0, 0, ⟨#[]⟩⟩, ⟨23, 0, 1, ⟨#[]⟩⟩, ⟨36, 0, 0, ⟨#[]⟩⟩, ⟨8, 0, 0, ⟨#[]⟩⟩, ⟨28, 0, 0, ⟨#[]⟩⟩]
theorem adds_ok : lookP addsL 1 = .inl [0, 1, 2, 1, -1] := by kernel_rfl
end Go.Proofs.Ytcpjjnikehcleaa.Rt
