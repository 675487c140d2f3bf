/- RetryEnds: for every input the law returns true, and the input reads as it did. -/
import Derived.Test.YtealggjnnihejaaRows
import Derived.Test.YtealggjnnihejaaOpen
import Derived.Test.YtealggjnnihejaaPureE
namespace Go.Proofs.Ytealggjnnihejaa.retryEnds
open Go.ChangeShapes Go.WideShapes Go.ChangeAt Go.RowKit Go.Proofs.YtealggjnnihejaaW.PrintWords
open Go.ChangeMaps (open_string shut_string)
set_option linter.unusedVariables false
theorem own : ownKnob Try.prog.godebug = none := by kernel_rfl
theorem laidOut : laidOutB Try.prog = true := by kernel_rfl
set_option maxRecDepth 100000 in
theorem lifted (os : Os) (started : os.Started) (H : Type) (enc : TypeId × Value → H) :
    ReturnsInHanded {} Try.checked os 8 .any (Rows.retryEndsSpec.pre6 enc Try.prog Try.f8 Rows.retryEndsRow.domain false) (Rows.retryEndsSpec.post enc Try.prog Try.f8 false true false false) := by
  refine returnsInHanded_of_change_sized (C := Try.checked) own started (by kernel_rfl) Try.func8
    (ChangeSpec.witness6 (enc := enc) (C := Try.checked) false ⟨#[], #[.agg #[.int .i64 0, .int .i64 0, .int .i64 0, .int .i64 0, .int .i64 0, .int .i64 0, .slice none 0 0], .int .i64 0, .slice none 0 0], []⟩ 8 (by kernel_rfl) (by kernel_rfl) (by kernel_rfl) (by kernel_rfl)) ?_
  intro W base args ds gs before hval0 hW hcnd hsz0 _
  have hsz : (DataW.weightsEach Try.prog (Try.f8.params.toList ++ Rows.retryEndsSpec.plain.varTypes Try.prog) (ds ++ gs)).all (· ≤ reachBytes) = true := hsz0
  have hval : ∀ (j : Nat) t v, Try.f8.params[j]? = some t → args[j]? = some v → Value.okWide Try.prog W .any base t v := hval0
  have hW' := hW
  obtain ⟨p, q, hA0, hV, rfl, hfz, hnd⟩ := hW
  have hA : DataW.TrodAll enc Try.prog W 0 (fun _ => true) true Try.f8.params.toList args.toList ds p := hA0
  rw [Try.params8] at hA hval hsz
  obtain ⟨v0, vs0, d0, ds0, p0, q0, hargs, rfl, rfl, h0, r0⟩ := trodAll_cons hA
  obtain ⟨v1, vs1, d1, ds1, p1, q1, rfl, rfl, rfl, h1, r1⟩ := trodAll_cons r0
  obtain ⟨v2, vs2, d2, ds2, p2, q2, rfl, rfl, rfl, h2, r2⟩ := trodAll_cons r1
  obtain ⟨rfl, rfl, rfl⟩ := trodAll_nil r2
  obtain rfl : args = #[v0, v1, v2] := by cases args; simp_all
  obtain ⟨rfl, rfl⟩ := trodVars_none hV
  have k0 := h0
  have lt0 : ∀ x ∈ p0, x.block < W.heap.size := by obtain ⟨m, hm⟩ := k0; exact DataW.trod_lt m _ _ _ hm
  have hr0 : ∀ m ∈ d0.weights Try.prog 24, m ≤ reachBytes := fun m hm => by
    have := List.all_eq_true.1 hsz _ (DataW.weights_mem_each (j := 0) (t := 24) rfl rfl m hm)
    simpa using this
  obtain ⟨e0, e1, e2, e3, e4, e5, A0, c0, l0, rfl, w0, w1, w2, w3, w4, w5, hc0, hk0, y0, z0⟩ := Op.open_policy (hval 0 24 v0 rfl rfl) hr0 h0
  obtain ⟨a1, rfl, rfl, rfl, w_1⟩ := open_int Try.underlying2 (hval 1 2 v1 rfl rfl) h1
  obtain ⟨a2, len2, cap2, rfl⟩ := okWide_slice Try.underlying48 (hval 2 48 v2 rfl rfl)
  have k2 := h2
  have lt2 : ∀ x ∈ p2, x.block < W.heap.size := by obtain ⟨m, hm⟩ := k2; exact DataW.trod_lt m _ _ _ hm
  have hr2 : ∀ m ∈ d2.weights Try.prog 48, m ≤ reachBytes := fun m hm => by
    have := List.all_eq_true.1 hsz _ (DataW.weights_mem_each (j := 2) (t := 48) rfl rfl m hm)
    simpa using this
  obtain ⟨A2, c2, l2, el2, hc2, hk2, y2, z2⟩ : ∃ (A : Option Addr) (c : Nat) (l : List Int), Value.slice a2 len2 cap2 = .slice A l.length c ∧ l.length ≤ c ∧ Kd.C (Kd.int .u32) W A l.length l ∧ l.length * 4 ≤ 140737488351232 ∧ (∀ x ∈ l, (Lit.int .u32 x).wf = true) := by
    obtain ⟨fuel, hf⟩ := h2
    exact Op.open_codes (y := (d2, p2)) Try.underlying48 Try.underlying37 (by kernel_rfl) (by kernel_rfl) hr2 (by simpa [Value.cells] using hf)
  rw [el2] at k2 hW' ⊢
  clear hA0 hval0 hsz0 hsz
  refine (PELaw.ends_law e0 e1 e2 e3 e4 e5 A0 c0 l0 a1 A2 c2 l2 W hk0 hc0 w1 y0 hk2 hc2 z2).mono fun e W' ⟨he, bel⟩ => ?_
  subst he
  exact ⟨_, rfl, _, _, _, [], _, [], hW', trodAll_mk1 (shut_bool Try.underlying4 _), (trodAll_cons_mk (Below.trod laidOut (by kernel_rfl) (of_decide_eq_true (by kernel_rfl)) k0 bel lt0) (trodAll_cons_mk (shut_int Try.underlying2 w_1) (trodAll_cons_mk (Below.trod laidOut (by kernel_rfl) (of_decide_eq_true (by kernel_rfl)) k2 bel lt2) trodAll_mk0))), rfl, bel.frame _, fun h => by cases h⟩
theorem over : Rows.retryEndsRow.holds Try.pinned (OpenSpec.ofChange Rows.retryEndsSpec) :=
  OpenClaim.holds_of_wide 8 Try.f8 rfl rfl rfl rfl rfl rfl rfl ⟨rfl, rfl, rfl, rfl, rfl⟩ rfl rfl rfl rfl rfl (by kernel_rfl) Try.func8 (by kernel_rfl)
    (of_decide_eq_true (by kernel_rfl)) (by unfold Func.isWrapper; first | (rw [if_pos (by decide +kernel)]; kernel_rfl) | (rw [if_neg (by decide +kernel)]; exact ⟨rfl, rfl⟩))
    (fun os started H enc _ => lifted os started H enc)
theorem proved : Rows.RetryEndsSaid := over
end Go.Proofs.Ytealggjnnihejaa.retryEnds
namespace Go.Proofs.Ytealggjnnihejaa
/-- The row, under a short name, for the claim. -/
theorem retryEnds_holds : Rows.RetryEndsSaid := retryEnds.proved
end Go.Proofs.Ytealggjnnihejaa
