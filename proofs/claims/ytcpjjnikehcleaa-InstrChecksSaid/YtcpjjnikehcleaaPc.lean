/- What InstrChecks comes to, in plain. -/
import Derived.Test.YtcpjjnikehcleaaPa
import Derived.Test.YtcpjjnikehcleaaRc
import Derived.Test.YtcpjjnikehcleaaPLwx2
namespace Go.Proofs.Ytcpjjnikehcleaa.Rt
open Go.RowKit PChk Hq Lk Gw Go.Proofs.YtcpjjnikehcleaaW.PrintWords Go.Proofs.YtcpjjnikehcleaaW.PrintLast Go.Proofs.YtcpjjnikehcleaaW.PrintMore
set_option linter.unusedVariables false
set_option linter.unusedSimpArgs false

theorem same_l0 (d : List Int) (hd : d.length ≤ 8192) (m : Nat) : ∀ i : Nat, i + m = d.length → prompterlaw14_InstrChecks.l0 (m + 1) d d (i : Int) = some true := by
  induction m with
  | zero =>
    intro i hi
    rw [prompterlaw14_InstrChecks.l0, if_neg (by omega)]
  | succ m ih =>
    intro i hi
    rw [prompterlaw14_InstrChecks.l0, if_pos (by omega), if_pos (by omega), if_pos (by omega), if_pos rfl, w64 i (by omega), ih (i + 1) (by omega)]
theorem lookP_len {xs : List S36} {p : Int} {d : List Int} (hU : Bytes xs) (h : lookP xs p = .inl d) : d.length = xs.length ∧ xs.length ≤ 8192 := by
  obtain ⟨hG, hr, -⟩ := lookP_fits hU h
  exact ⟨(all_done hG hr).1, hG.len⟩
theorem checks_true {xs : List S36} (hb : bytesB xs = true) (p : Int) : ∃ k, prompterlaw14_InstrChecks.f k xs p = some true := by
  have hU := bytes_of hb
  obtain ⟨k, hk⟩ := look_is hU p
  refine ⟨k + 8300, ?_⟩
  unfold prompterlaw14_InstrChecks.f
  rw [awake_is, Option.bind_some, if_pos rfl]
  unfold prompterlaw14_long.f
  have hc : instr_Check.f xs p = some (checkP xs p) := if_pos hb
  have hd : instr_Depths.f xs p = some (depthsP xs p) := if_pos hb
  have e1 : (checkP xs p).1 = (refP xs p).1 ∧ (checkP xs p).2.1 = (refP xs p).2.1 ∧ (checkP xs p).2.2.1 = (refP xs p).2.2.1 ∧ (checkP xs p).2.2.2 = (refP xs p).2.2.2.2 ∧ (depthsP xs p).2 = (refP xs p).2.2.2.2 ∧ (depthsP xs p).1 = (refP xs p).2.2.2.1 := by
    unfold checkP refP depthsP
    cases lookP xs p with
    | inl d => exact ⟨rfl, rfl, rfl, rfl, rfl, rfl⟩
    | inr q => exact ⟨rfl, rfl, rfl, rfl, rfl, rfl⟩
  obtain ⟨g1, g2, g3, g4, g5, g6⟩ := e1
  have hl : (depthsP xs p).1.length ≤ 8192 := by
    unfold depthsP
    cases h : lookP xs p with
    | inl d => have := lookP_len hU h; simp only; omega
    | inr q => simp
  have fin : ∀ z : Option Bool, z = some false → (z.bind fun t112 => if t112 = true then some true else (instr_Check.f xs p).bind fun bt113 => (prompterref14_Look.f (k + 8300) xs p).bind fun bt117 =>
      if bt113.1 = bt117.1 then if bt113.2.1 = bt117.2.1 then if bt113.2.2.1 = bt117.2.2.1 then prompterlaw14_InstrChecks.j0 (k + 8300) xs p bt117.2.2.2.1 bt117.2.2.2.2 (bt113.2.2.2 != bt117.2.2.2.2) else prompterlaw14_InstrChecks.j0 (k + 8300) xs p bt117.2.2.2.1 bt117.2.2.2.2 true else prompterlaw14_InstrChecks.j0 (k + 8300) xs p bt117.2.2.2.1 bt117.2.2.2.2 true else prompterlaw14_InstrChecks.j0 (k + 8300) xs p bt117.2.2.2.1 bt117.2.2.2.2 true) = some true := fun z hz => by
    rw [hz, Option.bind_some, if_neg (by decide), hc, Option.bind_some, up (f := fun k => prompterref14_Look.f k xs p) (fun k => prompterref14_Look.mono xs p k) (show k ≤ k + 8300 by omega) hk, Option.bind_some, if_pos g1, if_pos g2, if_pos g3, g4, bne_self_eq_false]
    simp only [prompterlaw14_InstrChecks.j0]
    rw [if_neg (by decide), hd, Option.bind_some, if_pos g5, g6, bne_self_eq_false]
    simp only [prompterlaw14_InstrChecks.j1]
    rw [if_neg (by decide)]
    rw [← g6]
    have := same_l0 (depthsP xs p).1 hl (depthsP xs p).1.length 0 (by omega)
    exact up (f := fun k => prompterlaw14_InstrChecks.l0 k (depthsP xs p).1 (depthsP xs p).1 0) (fun k => (prompterlaw14_InstrChecks.mono_l k).2.2 _ _ _) (show (depthsP xs p).1.length + 1 ≤ k + 8298 by omega) this
  by_cases h1 : (xs.length : Int) > 400
  · rw [if_pos h1]
    by_cases h2 : (xs.length : Int) ≤ 8192
    · rw [decide_eq_true h2, Option.bind_some, if_pos rfl]
    · exact fin _ (by rw [decide_eq_false h2])
  · exact fin _ (by rw [if_neg h1])

end Go.Proofs.Ytcpjjnikehcleaa.Rt
