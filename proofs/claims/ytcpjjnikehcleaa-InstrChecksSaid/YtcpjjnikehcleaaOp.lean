/- Code that comes in, as it reads. -/
import Derived.Test.YtcpjjnikehcleaaGa
import Derived.Deep.Slices
import Derived.Deep.Strs
import Derived.WalkKit
import Derived.ProofKit
import Derived.OpenShut
import Derived.ShutString
import Derived.ChangeOld
import Derived.Below
import Derived.SizedLaws
namespace Go.Proofs.Ytcpjjnikehcleaa.Op
open Go.ChangeShapes Go.WideShapes Go.RowKit Go.Deep PChk Go.Proofs.YtcpjjnikehcleaaW.PrintWords Go.Proofs.YtcpjjnikehcleaaW.PrintLast Go.Proofs.YtcpjjnikehcleaaW.PrintMore
set_option linter.unusedVariables false
set_option linter.unusedSimpArgs false
variable {H : Type} {enc : TypeId × Value → H}

/-- What a read instruction's numbers are. -/
structure Wf (x : S36) : Prop where
  op : (Lit.int .u8 x.f0).wf = true
  a : (Lit.int .i64 x.f1).wf = true
  n : (Lit.int .i64 x.f2).wf = true
  t : x.f3.size ≤ maxLen
set_option maxRecDepth 100000 in
theorem one_code {W : World} {base : Nat} {spare : Nat → Bool} {held : Bool} {n : Nat} {cs : List Value} {x : DataW H × List MemPlace} {a : Addr} {i : Nat}
    (hc : W.cells? base (a.add (i * 4)) 4 = some cs) (h : DataW.trod enc Try.prog W base spare held n 36 cs = some x) :
    ∃ s : S36, Wf s ∧ W.cell? (a.add (i * 4)) = some (.int .u8 s.f0) ∧ W.cell? ⟨(a.add (i * 4)).block, (a.add (i * 4)).off + 1, none⟩ = some (.int .i64 s.f1) ∧
      W.cell? ⟨(a.add (i * 4)).block, (a.add (i * 4)).off + 2, none⟩ = some (.int .i64 s.f2) ∧ W.cell? ⟨(a.add (i * 4)).block, (a.add (i * 4)).off + 3, none⟩ = some (.string s.f3) := by
  obtain ⟨xs, n', _, hx, _, hlen, hg⟩ := DataW.trod_struct Try.underlying36 h
  obtain ⟨_, hcl, hat⟩ := World.cells?_some hc
  match cs, hcl with
  | [c0, c1, c2, c3], _ =>
    match xs, hlen with
    | [y0, y1, y2, y3], _ =>
      have k5 : Try.prog.cellsOf 5 = 1 := by kernel_rfl
      have k9 : Try.prog.cellsOf 9 = 1 := by kernel_rfl
      have k3 : Try.prog.cellsOf 3 = 1 := by kernel_rfl
      have k2 : Try.prog.cellsOf 2 = 1 := by kernel_rfl
      have h0 := hg 0 _ rfl
      have h1 := hg 1 _ rfl
      have h2 := hg 2 _ rfl
      have h3 := hg 3 _ rfl
      simp [k5, k9, k3, k2] at h0 h1 h2 h3
      obtain ⟨a0, e0, _, w0⟩ := DataW.trod_int Try.underlying5 h0
      obtain ⟨a1, e1, _, w1⟩ := DataW.trod_int Try.underlying3 h1
      obtain ⟨a2, e2, _, w2⟩ := DataW.trod_int Try.underlying2 h2
      obtain ⟨a3, e3, _, w3⟩ := DataW.trod_string Try.underlying9 h3
      simp at e0 e1 e2 e3
      subst e0 e1 e2 e3
      have g0 := hat 0 (by omega)
      have g1 := hat 1 (by omega)
      have g2 := hat 2 (by omega)
      have g3 := hat 3 (by omega)
      simp at g0 g1 g2 g3
      exact ⟨⟨a0, a1, a2, a3⟩, ⟨w0, w1, w2, w3⟩, g0, g1, g2, g3⟩
theorem k36_row {W : World} {a : Addr} {len : Nat} {f : Nat → S36} (hm : len ≤ maxLen)
    (hf : ∀ i, i < len → Wf (f i) ∧ W.cell? (a.add (i * 4)) = some (.int .u8 (f i).f0) ∧ W.cell? ⟨(a.add (i * 4)).block, (a.add (i * 4)).off + 1, none⟩ = some (.int .i64 (f i).f1) ∧
      W.cell? ⟨(a.add (i * 4)).block, (a.add (i * 4)).off + 2, none⟩ = some (.int .i64 (f i).f2) ∧ W.cell? ⟨(a.add (i * 4)).block, (a.add (i * 4)).off + 3, none⟩ = some (.string (f i).f3)) :
    Kd.C k36 W (some a) ((List.range len).map f).length ((List.range len).map f) := by
  refine ⟨rfl, by simp; unfold maxLen at hm; omega, fun hp => ⟨a, rfl, fun j p hj => ?_⟩⟩
  have hjl : j < len := by
    have := (List.getElem?_eq_some_iff.1 hj).1
    simpa using this
  have hp2 : f j = p := by
    rw [List.getElem?_map, List.getElem?_range hjl] at hj
    exact Option.some.inj hj
  subst hp2
  obtain ⟨-, h0, h1, h2, h3⟩ := hf j hjl
  refine ⟨[.int .u8 (f j).f0, .int .i64 (f j).f1, .int .i64 (f j).f2, .string (f j).f3], rfl, k36_mk W (f j), fun i u hi => ?_⟩
  show W.cell? (a.add (j * 4 + i)) = some u
  match i, hi with
  | 0, hi => cases hi; exact h0
  | 1, hi => cases hi; rw [← add_field _ _ 1 (by omega)] at h1; exact h1
  | 2, hi => cases hi; rw [← add_field _ _ 2 (by omega)] at h2; exact h2
  | 3, hi => cases hi; rw [← add_field _ _ 3 (by omega)] at h3; exact h3
  | i + 4, hi => simp at hi
/-- A slice of instructions that reads. -/
theorem open_code {W : World} {base : Nat} {spare : Nat → Bool} {held : Bool} {n : Nat} {v : Value} {x : DataW H × List MemPlace}
    (h : DataW.trod enc Try.prog W base spare held n 22 [v] = some x) :
    ∃ (A : Option Addr) (c : Nat) (l : List S36), v = .slice A l.length c ∧ l.length ≤ c ∧ Kd.C k36 W A l.length l ∧ Rt.bytesB l = true ∧ ∀ x ∈ l, Wf x := by
  rcases open_slice Try.underlying22 h with ⟨hcs, _⟩ | ⟨a, len, cap, m, n', D, Pl, hcs, _, hl, hm, hmm, hx, hi⟩
  · simp at hcs
    subst hcs
    exact ⟨none, 0, [], rfl, Nat.le_refl _, Kd.C_nil _ _, rfl, by simp⟩
  · simp at hcs
    subst hcs
    have k36' : Try.prog.cellsOf 36 = 4 := by kernel_rfl
    have hlm : len ≤ m := by rw [hmm]; split <;> omega
    have key : ∀ i, i < len → ∃ s : S36, Wf s ∧ W.cell? (a.add (i * 4)) = some (.int .u8 s.f0) ∧ W.cell? ⟨(a.add (i * 4)).block, (a.add (i * 4)).off + 1, none⟩ = some (.int .i64 s.f1) ∧
      W.cell? ⟨(a.add (i * 4)).block, (a.add (i * 4)).off + 2, none⟩ = some (.int .i64 s.f2) ∧ W.cell? ⟨(a.add (i * 4)).block, (a.add (i * 4)).off + 3, none⟩ = some (.string s.f3) := fun i hil => by
      obtain ⟨cs', hc, ht⟩ := hi i (by omega)
      rw [k36'] at hc
      exact one_code hc ht
    haveI : Inhabited S36 := ⟨z36⟩
    obtain ⟨f, hf⟩ := choose_lt key
    have hw : ∀ x ∈ (List.range len).map f, Wf x := fun x hx => by
      obtain ⟨i, hi, rfl⟩ := List.mem_map.1 hx
      exact (hf i (List.mem_range.1 hi)).1
    refine ⟨some a, cap, (List.range len).map f, by simp, by simpa using hl, k36_row (by omega) hf, ?_, hw⟩
    unfold Rt.bytesB
    rw [List.all_eq_true]
    intro x hx
    have := (hw x hx).op
    simp [Lit.wf, IntKind.min, IntKind.max, IntKind.bits, IntKind.signed] at this
    simp; omega
theorem open_code' {W : World} {base : Nat} {spare : Nat → Bool} {held : Bool} {a : Option Addr} {n c : Nat} {d : DataW H} {p : List MemPlace} (h : DataW.Trod enc Try.prog W base spare held 22 (.slice a n c) d p) :
    ∃ (A : Option Addr) (c' : Nat) (l : List S36), Value.slice a n c = .slice A l.length c' ∧ l.length ≤ c' ∧ Kd.C k36 W A l.length l ∧ Rt.bytesB l = true ∧ ∀ x ∈ l, Wf x := by
  obtain ⟨fuel, hf⟩ := h
  exact open_code (v := .slice a n c) (x := (d, p)) (by simpa [Value.cells] using hf)
end Go.Proofs.Ytcpjjnikehcleaa.Op
