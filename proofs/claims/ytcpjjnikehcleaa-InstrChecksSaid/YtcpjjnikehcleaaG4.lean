/- A walk through code, in memory: all. -/
import Derived.Test.YtcpjjnikehcleaaG3
namespace Go.Proofs.Ytcpjjnikehcleaa.Gw
open Go.RowKit PChk Hq Lk Go.Proofs.YtcpjjnikehcleaaW.PrintWords Go.Proofs.YtcpjjnikehcleaaW.PrintLast Go.Proofs.YtcpjjnikehcleaaW.PrintMore
open Go.Maps (Keyed)
set_option linter.unusedVariables false
set_option linter.unusedSimpArgs false

theorem meetL_le {d : List Int} {t : Nat} {x m : Int} (hx : x ≤ m) (hd : ∀ j, dp d j ≤ m) : ∀ j, dp (meetL d t x) j ≤ m := by
  intro j
  unfold meetL
  split
  · by_cases ht : t < d.length
    · rw [dp_set ht]; split
      · exact hx
      · exact hd j
    · rw [List.set_eq_of_length_le (by omega)]; exact hd j
  · exact hd j
theorem fallL_le {nd : Nod} {n i : Nat} {nx m : Int} {d d' : List Int} (hx : nx ≤ m) (hd : ∀ j, dp d j ≤ m) (h : fallL nd n i nx d = some d') : ∀ j, dp d' j ≤ m := by
  unfold fallL at h
  split at h
  · cases h; exact hd
  · split at h
    · cases h
    · split at h
      · cases h; exact meetL_le hx hd
      · cases h
theorem gotoL_le {nd : Nod} {n i : Nat} {m : Int} {d d' : List Int} (hl : nd.leave ≤ 1) (ht : 0 ≤ nd.takes) (h0 : 0 ≤ dp d i) (hd : ∀ j, dp d j ≤ m) (h : gotoL nd n i d = some d') : ∀ j, dp d' j ≤ m + 1 := by
  have hi := hd i
  have hd1 : ∀ j, dp d j ≤ m + 1 := fun j => by have := hd j; omega
  have hth : thr nd.mode (dp d i) (dp d i - nd.takes + nd.leave) ≤ m + 1 := by unfold thr; split; omega; split <;> omega
  unfold gotoL at h
  split at h
  · split at h
    · cases h; exact hd1
    · cases h
  · split at h
    · cases h
    · split at h
      · split at h
        · exact fallL_le (by omega) (meetL_le hth hd1) h
        · cases h
      · exact fallL_le (by omega) hd1 h
def nodN (xs : List S36) (i : Nat) : Nod := nod (rd_T36 xs i)
def negs (n : Nat) : List Int := List.replicate n (-1)
def noneGone (n : Nat) : List Bool := List.replicate n false
theorem negs_dp (n i : Nat) : dp (negs n) i = -1 := by
  unfold dp negs
  by_cases hi : i < n
  · simp [hi]
  · simp [hi]
theorem noneGone_gn (n i : Nat) : gn (noneGone n) i = false := by
  unfold gn noneGone
  by_cases hi : i < n
  · simp [hi]
  · simp [hi]
theorem Rel.born (n : Nat) : Rel n (negs n) (noneGone n) newS := by
  have hw : ∀ i, wait (negs n) (noneGone n) i = false := fun i => by unfold wait; rw [negs_dp]; rfl
  have hm : metN (negs n) = 0 := by unfold metN negs; rw [List.countP_replicate]; rfl
  refine ⟨HInv.new, by simp [negs], by simp [noneGone], ?_, by rw [hm]; rfl, fun x hx => by simp [newS] at hx, fun i _ h => (by rw [hw] at h; cases h), List.Pairwise.nil, fun i h => (by rw [noneGone_gn] at h; cases h)⟩
  rw [hm]; simp [newS, noneGone, List.count_replicate]
end Go.Proofs.Ytcpjjnikehcleaa.Gw
