/- among, in plain. -/
import Derived.Test.YtcfdldgekfacfaaQ1
namespace Go.Proofs.Ytcfdldgekfacfaa.PRef
open Go.RowKit Go.Proofs.YtcfdldgekfacfaaW.PrintWords Go.Proofs.YtcfdldgekfacfaaW.PrintLast Go.Proofs.YtcfdldgekfacfaaW.PrintMore
set_option linter.unusedVariables false
set_option linter.unusedSimpArgs false

theorem wr1 {p n : Nat} (h : p < n) (hn : n < 1000000) : wrap64 ((p : Int) + 1) = ((p + 1 : Nat) : Int) := by unfold wrap64; omega
theorem sub_tail {α : Type} {x y : α} {us bs : List α} (h : (x :: us).Sublist (y :: bs)) : us.Sublist bs := by
  cases h with
  | cons _ h => exact (List.sublist_cons_self _ _).trans h
  | cons_cons _ h => exact h
theorem sub_ne {α : Type} {x y : α} {us bs : List α} (h : (x :: us).Sublist (y :: bs)) (hne : x ≠ y) : (x :: us).Sublist bs := by
  cases h with
  | cons _ h => exact h
  | cons_cons _ h => exact absurd rfl hne
theorem among_l0 (a b : List ByteArray) (ha : a.length < 1000000) (hb : b.length < 1000000) (d : Nat) : ∀ (k p q : Nat), q + d = b.length → p ≤ a.length → 2 * d + 2 ≤ k → (a.drop p).Sublist (b.drop q) → prompterlaw19_among.l0 k a b p q = some true := by
  induction d with
  | zero =>
    intro k p q hq hp hk hs
    obtain ⟨k, rfl⟩ : ∃ m, k = m + 2 := ⟨k - 2, by omega⟩
    rw [show b.drop q = [] from List.drop_eq_nil_of_le (by omega)] at hs
    have h0 := List.sublist_nil.1 hs
    have : p = a.length := by
      have := congrArg List.length h0
      simp at this; omega
    subst this
    simp only [prompterlaw19_among.l0, prompterlaw19_among.j1]
    rw [if_neg (by omega), if_neg (by simp)]
    simp
  | succ d ih =>
    intro k p q hq hp hk hs
    obtain ⟨k, rfl⟩ : ∃ m, k = m + 2 := ⟨k - 2, by omega⟩
    have hqb : q < b.length := by omega
    simp only [prompterlaw19_among.l0, prompterlaw19_among.j1]
    rw [if_pos (by omega)]
    by_cases hpa : p < a.length
    · rw [decide_eq_true (show (p : Int) < (a.length : Int) by omega), if_pos rfl, if_pos (by omega), if_pos (by omega), if_pos (by omega), if_pos (by omega)]
      rw [List.drop_eq_getElem_cons hpa, List.drop_eq_getElem_cons hqb] at hs
      have e1 : rdOf ByteArray.empty b (q : Int) = b[q] := by simp [rdOf, hqb]
      have e2 : rdOf ByteArray.empty a (p : Int) = a[p] := by simp [rdOf, hpa]
      rw [e1, e2, wr1 hqb hb, wr1 hpa ha]
      by_cases he : b[q].toList = a[p].toList
      · rw [if_pos he]
        refine ih k (p + 1) (q + 1) (by omega) (by omega) (by omega) ?_
        exact sub_tail hs
      · rw [if_neg he]
        refine ih k p (q + 1) (by omega) hp (by omega) ?_
        rw [List.drop_eq_getElem_cons hpa]
        exact sub_ne hs (fun e => he (by rw [e]))
    · have : p = a.length := by omega
      subst this
      rw [decide_eq_false (by omega), if_neg (by simp)]
      simp
theorem among_is (a b : List ByteArray) (ha : a.length < 1000000) (hb : b.length < 1000000) (hs : a.Sublist b) : prompterlaw19_among.f (2 * b.length + 2) a b = some true := by
  unfold prompterlaw19_among.f
  exact among_l0 a b ha hb b.length _ 0 0 (by omega) (by omega) (by omega) (by simpa using hs)
end Go.Proofs.Ytcfdldgekfacfaa.PRef
