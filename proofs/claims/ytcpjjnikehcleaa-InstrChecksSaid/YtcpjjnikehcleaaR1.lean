/- The document's own way through code, in plain: it comes to the same. -/
import Derived.Test.YtcpjjnikehcleaaR0
import Derived.Test.YtcpjjnikehcleaaG6
import Derived.Test.YtcpjjnikehcleaaPChkx8
import Derived.Test.YtcpjjnikehcleaaPChkx9
namespace Go.Proofs.Ytcpjjnikehcleaa.Rt
open Go.RowKit PChk Hq Lk Gw Go.Proofs.YtcpjjnikehcleaaW.PrintWords Go.Proofs.YtcpjjnikehcleaaW.PrintLast Go.Proofs.YtcpjjnikehcleaaW.PrintMore
set_option linter.unusedVariables false
set_option linter.unusedSimpArgs false

theorem rd_dp {d : List Int} {i : Nat} (h : i < d.length) : rd d (i : Int) = dp d i := by unfold rd dp; simp [h]
theorem rdOf_gn {g : List Bool} {i : Nat} : rdOf false g (i : Int) = gn g i := by unfold rdOf gn; simp
theorem w64 (i : Nat) (h : i < 1000000) : wrap64 ((i : Int) + 1) = ((i + 1 : Nat) : Int) := by unfold wrap64; omega

/-! ### what an instruction does, by the document -/
theorem ends_is {x : S36} (h0 : 0 ≤ x.f0) (h1 : x.f0 < 256) : prompterref14_Ends.f x.f0 = some (nod x).ends := by
  have T := (tab h0 h1).ends
  show prompterref14_Ends.f x.f0 = some (kd x.f0).2.2.2.2.2.2.2
  rw [T]
  unfold prompterref14_Ends.f
  by_cases e1 : x.f0 = 8
  · rw [if_pos e1, decide_eq_true (Or.inl e1)]
  · rw [if_neg e1]
    by_cases e2 : x.f0 = 9
    · rw [if_pos e2, decide_eq_true (Or.inr (Or.inl e2))]
    · rw [if_neg e2]
      by_cases e3 : x.f0 = 28
      · rw [decide_eq_true (Or.inr (Or.inr e3)), beq_iff_eq.mpr e3]
      · rw [decide_eq_false (by omega), beq_eq_false_iff_ne.mpr e3]
theorem takes_is {x : S36} (h0 : 0 ≤ x.f0) (h1 : x.f0 < 256) {k : Nat} (hk : 5 ≤ k) : prompterref14_Takes.f k x.f0 x.f1 x.f2 x.f3 = some (nod x).takes := by
  have T := tab h0 h1
  unfold prompterref14_Takes.f
  rw [T.some k hk, Option.bind_some]
  show _ = some ((kd x.f0).2.2.2.2.1 + (if (kd x.f0).2.2.2.2.2.2.1 = true then x.f1 else 0))
  have h2 := T.many
  have h3 := T.none
  have h4 := T.takes
  by_cases e : (ow x.f0).2.1 = 3
  · rw [if_pos e, if_pos (by rw [h2, decide_eq_true e]), ← h4, h3 e]; simp
  · rw [if_neg e, if_neg (by rw [h2, decide_eq_false e]; decide), h4]; simp
theorem behind_is {x : S36} {n : Nat} (hF : Fit n x) {k : Nat} (hk : 5 ≤ k) {dep : Int} (hd0 : 0 ≤ dep) (hd1 : dep ≤ 100000) :
    prompterref14_Behind.f k x.f0 x.f1 x.f2 x.f3 dep = some (thr (nod x).mode dep (dep - (nod x).takes + (nod x).leave), dep - (nod x).takes + (nod x).leave) := by
  have T := tab hF.op0 hF.op1
  have hl := kd_le hF.op0 hF.op1
  have ht : 0 ≤ (nod x).takes ∧ (nod x).takes < 2000000 := by
    show 0 ≤ (kd x.f0).2.2.2.2.1 + (if (kd x.f0).2.2.2.2.2.2.1 = true then x.f1 else 0) ∧ (kd x.f0).2.2.2.2.1 + (if (kd x.f0).2.2.2.2.2.2.1 = true then x.f1 else 0) < 2000000
    have := hF.a0; have := hF.a1; split <;> omega
  unfold prompterref14_Behind.f
  rw [takes_is hF.op0 hF.op1 hk, Option.bind_some, T.some k hk, Option.bind_some, T.leave]
  show _ = some (thr (if x.f0 = 53 then 1 else if x.f0 = 3 ∨ x.f0 = 4 then 2 else 0) dep (dep - (nod x).takes + (kd x.f0).2.2.2.2.2.1), dep - (nod x).takes + (kd x.f0).2.2.2.2.2.1)
  generalize (nod x).takes = t at *
  have hw : wrap64 (wrap64 (dep - t) + (kd x.f0).2.2.2.2.2.1) = dep - t + (kd x.f0).2.2.2.2.2.1 := by unfold wrap64; omega
  rw [hw]
  unfold thr
  by_cases e1 : x.f0 = 53
  · rw [if_pos e1, if_pos e1]; rfl
  · rw [if_neg e1, if_neg e1]
    by_cases e2 : x.f0 = 3
    · rw [if_pos e2, if_pos (Or.inl e2)]; rfl
    · rw [if_neg e2]
      by_cases e3 : x.f0 = 4
      · rw [if_pos e3, if_pos (Or.inr e3)]; rfl
      · rw [if_neg e3, if_neg (show ¬ (x.f0 = 3 ∨ x.f0 = 4) from fun h => h.elim e2 e3)]; rfl
theorem tgt_is {x : S36} (h0 : 0 ≤ x.f0) (h1 : x.f0 < 256) : (nod x).tgt = if (ow x.f0).2.1 = 1 then some x.f1.toNat else none := by
  have T := tab h0 h1
  show (if (kd x.f0).2.1 = 116 then some x.f1.toNat else none) = _
  rw [T.a]
  unfold aOf
  rcases T.aa with e | e | e | e <;> rw [e] <;> rfl

end Go.Proofs.Ytcpjjnikehcleaa.Rt
