/- Code that may be gone through: what Check and Depths say, in plain. -/
import Derived.Test.YtcpjjnikehcleaaR0
import Derived.Test.YtcpjjnikehcleaaGf
import Derived.Test.YtcpjjnikehcleaaGg
namespace Go.Proofs.Ytcpjjnikehcleaa.Rt
open Go.RowKit PChk Hq Lk Gw Go.Proofs.YtcpjjnikehcleaaW.PrintWords Go.Proofs.YtcpjjnikehcleaaW.PrintLast Go.Proofs.YtcpjjnikehcleaaW.PrintMore
set_option linter.unusedVariables false
set_option linter.unusedSimpArgs false

/-- Code that may be gone through. -/
structure Good (xs : List S36) : Prop where
  len : xs.length ≤ 8192
  pos : 0 < xs.length
  fit : ∀ i : Nat, i < xs.length → Fit xs.length (rd_T36 xs i)
theorem count_tf (l : List Bool) : l.count true + l.count false = l.length := by
  induction l with
  | nil => rfl
  | cons b l ih => cases b <;> simp [List.count_cons] <;> omega
theorem nod_le {x : S36} {n : Nat} (hF : Fit n x) : (nod x).leave ≤ 1 ∧ 0 ≤ (nod x).takes := by
  have hl := kd_le hF.op0 hF.op1
  refine ⟨hl.2.2.2, ?_⟩
  show 0 ≤ (kd x.f0).2.2.2.2.1 + (if (kd x.f0).2.2.2.2.2.2.1 = true then x.f1 else 0)
  have := hF.a0; split <;> omega
/-- How many slots code has. -/
def slotsP (xs : List S36) (p : Int) : Int := xs.foldl (fun s x => if (kd x.f0).2.1 = 115 then mx s (x.f1 + 1) else s) p
def stackP (d : List Int) : Int := d.foldl (fun s x => mx s x) 0
/-- Where code is wrong by itself. -/
def badAt (xs : List S36) : Option Nat := (List.range xs.length).find? (fun i => !okN xs.length (rd_T36 xs i))
theorem badAt_some {xs : List S36} {i : Nat} : badAt xs = some i ↔ i < xs.length ∧ okN xs.length (rd_T36 xs i) = false ∧ ∀ j, j < i → okN xs.length (rd_T36 xs j) = true := by
  unfold badAt
  rw [List.find?_range_eq_some]
  simp only [List.mem_range, Bool.not_eq_true', Bool.not_not]
  constructor
  · rintro ⟨h1, h2, h3⟩; exact ⟨h2, h1, fun j hj => by simpa using h3 j hj⟩
  · rintro ⟨h1, h2, h3⟩; exact ⟨h2, h1, fun j hj => by simpa using h3 j hj⟩
theorem badAt_none {xs : List S36} : badAt xs = none ↔ ∀ j, j < xs.length → okN xs.length (rd_T36 xs j) = true := by
  unfold badAt
  rw [List.find?_eq_none]
  simp only [List.mem_range, Bool.not_eq_true, Bool.not_eq_false']
/-- What Check and Depths say: the depths, or where and what is wrong. -/
def lookP (xs : List S36) (p : Int) : Sum (List Int) (Int × Int) :=
  if p < 0 ∨ 100 < p then .inr (0, 1) else if 8192 < xs.length then .inr (0, 2) else if xs.length = 0 then .inr (0, 3) else
  match badAt xs with
  | some i => .inr ((i : Int), 3)
  | none => match lookL (nodN xs) (frN xs) xs.length with
    | .inr i => .inr ((i : Int), 140)
    | .inl d => .inl d
/-- Every instruction's Op is a byte. -/
def Bytes (xs : List S36) : Prop := ∀ i : Nat, i < xs.length → 0 ≤ (rd_T36 xs i).f0 ∧ (rd_T36 xs i).f0 < 256
theorem good {xs : List S36} (hU : Bytes xs) (h1 : xs.length ≤ 8192) (h2 : xs.length ≠ 0) (h3 : badAt xs = none) : Good xs :=
  ⟨h1, by omega, fun i hi => okN_fit (hU i hi).1 (hU i hi).2 h1 (badAt_none.1 h3 i hi)⟩
theorem rd_out {xs : List S36} {i : Nat} (h : xs.length ≤ i) : rd_T36 xs (i : Int) = z36 := by
  unfold rd_T36
  rw [Int.toNat_natCast, List.getD_eq_getElem?_getD, List.getElem?_eq_none h]; rfl
theorem kd0 : (kd 0).2.1 = 0 ∧ (kd 0).2.2.2.2.1 = 0 ∧ (kd 0).2.2.2.2.2.1 = 0 ∧ (kd 0).2.2.2.2.2.2.1 = false := ⟨by kernel_rfl, by kernel_rfl, by kernel_rfl, by kernel_rfl⟩
theorem sound {xs : List S36} (hG : Good xs) : Sound (nodN xs) xs.length := by
  have h0 : ∀ i, xs.length ≤ i → nodN xs i = nod z36 := fun i hi => by unfold nodN; rw [rd_out hi]
  have e1 : (nod z36).takes = 0 := by show (kd 0).2.2.2.2.1 + (if (kd 0).2.2.2.2.2.2.1 = true then 0 else 0) = 0; rw [kd0.2.1]; split <;> rfl
  have e2 : (nod z36).leave = 0 := kd0.2.2.1
  have e3 : (nod z36).tgt = none := by show (if (kd 0).2.1 = 116 then some ((0 : Int).toNat) else none) = none; rw [kd0.1]; rfl
  refine ⟨fun i => ?_, fun i => ?_, fun i t ht => ?_⟩
  · by_cases hi : i < xs.length
    · exact (nod_le (hG.fit i hi)).2
    · rw [h0 i (by omega), e1]; exact Int.le_refl _
  · by_cases hi : i < xs.length
    · have hF := hG.fit i hi
      exact (kd_le hF.op0 hF.op1).2.2.1
    · rw [h0 i (by omega), e2]; exact Int.le_refl _
  · by_cases hi : i < xs.length
    · have hF := hG.fit i hi
      have h2 := hF.a0
      have h3 : (if (kd (rd_T36 xs i).f0).2.1 = 116 then some (rd_T36 xs i).f1.toNat else none) = some t := ht
      split at h3
      · next e => have := hF.tgt e; cases h3; omega
      · cases h3
    · rw [h0 i (by omega), e3] at ht; cases ht
theorem all_done {xs : List S36} (hG : Good xs) {d : List Int} (h : allR xs = some (.inl d)) : d.length = xs.length ∧ dp d 0 = 0 ∧ ∀ i, 0 ≤ dp d i → Done (nodN xs) xs.length d i := by
  obtain ⟨hx, hd⟩ := runL_fits (sound hG) (xs.length + 1) (Lk.start xs.length) (noneGone xs.length) d (by simp [Lk.start]) (by simp [noneGone]) (fun i hi => by rw [noneGone_gn] at hi; cases hi) h
  refine ⟨by rw [hx.1]; simp [Lk.start], ?_, hd⟩
  rw [hx.2 0 (by rw [start_dp hG.pos]; simp), start_dp hG.pos]; rfl
theorem all_some (xs : List S36) : ∃ r, allR xs = some r := runL_some (nodN xs) xs.length (xs.length + 1) (Lk.start xs.length) (noneGone xs.length) (by simp [noneGone]) (by simp [noneGone, List.count_replicate])
theorem lookL_is (xs : List S36) : lookL (nodN xs) (frN xs) xs.length = match allR xs with
    | some (.inr i) => .inr i
    | some (.inl d) => (match circL (frN xs) xs.length d with | some i => .inr i | none => .inl d)
    | none => .inr 0 := rfl
theorem drop_cons {xs : List S36} {i : Nat} (h : i < xs.length) : xs.drop i = rd_T36 xs (i : Int) :: xs.drop (i + 1) := by
  rw [List.drop_eq_getElem_cons h]
  unfold rd_T36
  simp [h]
theorem dropd_cons {d : List Int} {i : Nat} (h : i < d.length) : d.drop i = dp d i :: d.drop (i + 1) := by
  rw [List.drop_eq_getElem_cons h]
  unfold dp
  simp [h]
def slotStep (s : Int) (x : S36) : Int := if (kd x.f0).2.1 = 115 then mx s (x.f1 + 1) else s
end Go.Proofs.Ytcpjjnikehcleaa.Rt
