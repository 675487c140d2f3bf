/- A walk through code, in memory: meet as a whole, through. -/
import Derived.Test.YtcpjjnikehcleaaG1
namespace Go.Proofs.Ytcpjjnikehcleaa.Gw
open Go.RowKit PChk Hq Lk Go.Proofs.YtcpjjnikehcleaaW.PrintWords Go.Proofs.YtcpjjnikehcleaaW.PrintLast Go.Proofs.YtcpjjnikehcleaaW.PrintMore
open Go.Maps (Keyed)
set_option linter.unusedVariables false
set_option linter.unusedSimpArgs false

/-- Behind meet. -/
def Met (w0 : World) (y : WL) (xs : List S36) (d : List Int) (g : List Bool) (b : Bool) (w : World) (e : Ending) (w' : World) : Prop :=
  ∃ h s', e = .returned (.bool b) ∧ WAt w0 w' { y with h := h } xs d s' ∧ Rel xs.length d g s' ∧ Ch (Touch y) w w' ∧ (∀ k, h.own k → y.h.own k ∨ w.heap.size ≤ k)
theorem meet_calls (w0 w : World) (y : WL) (xs : List S36) (d : List Int) (g : List Bool) (s : HS) (t : Nat) (x : Int) (h : WAt w0 w y xs d s) (hR : Rel xs.length d g s) (hn : xs.length ≤ 8192) (ht : t ≤ xs.length) (hx : 0 ≤ x) :
    Calls Try.prog 46 #[.pointer (some ⟨y.g, 0, none⟩), .int .i64 (t : Int), .int .i64 x] w (Met w0 y xs (if t = xs.length then d else meetL d t x) g (decide (t ≠ xs.length) && okL d t x) w) := by
  by_cases he : t = xs.length
  · subst he
    refine (meet_end w0 w y xs d s x h).mono ?_
    rintro e w' ⟨rfl, h', hW, hC, hO⟩
    exact ⟨h', s, by simp, by rw [if_pos rfl]; exact hW, by rw [if_pos rfl]; exact hR, hC, hO⟩
  · have ht' : t < xs.length := by omega
    rw [if_neg he]
    by_cases hd : dp d t < 0
    · obtain ⟨h1, h2, h3⟩ := hR.small
      refine (meet_new w0 w y xs d s t x h ht' hd hR.inv (by omega) (by omega)).mono ?_
      rintro e w' ⟨rfl, h', hW, hC, hO⟩
      have hm : meetL d t x = d.set t x := by unfold meetL; rw [if_pos hd]
      refine ⟨h', _, ?_, by rw [hm]; exact hW, by rw [hm]; exact hR.push ht' hd hx, hC, hO⟩
      have : okL d t x = true := by rw [okL_iff, hm, dp_set (by rw [h.len]; exact ht'), if_pos rfl]
      rw [this]; simp [he]
    · refine (meet_met w0 w y xs d s t x h ht' (by omega)).mono ?_
      rintro e w' ⟨rfl, h', hW, hC, hO⟩
      have hm : meetL d t x = d := by unfold meetL; rw [if_neg hd]
      refine ⟨h', s, ?_, by rw [hm]; exact hW, by rw [hm]; exact hR, hC, hO⟩
      have : okL d t x = (dp d t == x) := by unfold okL; rw [hm]; by_cases e : dp d t = x <;> simp [e]
      rw [this]; simp [he]

/-- What an instruction's kind is. -/
def kd (op : Int) : ByteArray × Int × Bool × Int × Int × Int × Bool × Bool := (instr_kindOf.f op).getD (⟨#[]⟩, 0, false, 0, 0, 0, false, false)
def kdOk (op : Int) : Bool := (instr_kindOf.f op).isSome && decide (0 ≤ (kd op).2.2.2.2.1 ∧ (kd op).2.2.2.2.1 ≤ 2 ∧ 0 ≤ (kd op).2.2.2.2.2.1 ∧ (kd op).2.2.2.2.2.1 ≤ 1)
theorem kd_all : (List.range 256).all (fun i => kdOk (i : Int)) = true := by kernel_rfl
theorem kd_ok {op : Int} (h0 : 0 ≤ op) (h1 : op < 256) : kdOk op = true := by
  have := List.all_eq_true.1 kd_all op.toNat (List.mem_range.2 (by omega))
  rw [show ((op.toNat : Nat) : Int) = op from by omega] at this
  exact this
theorem kd_some {op : Int} (h0 : 0 ≤ op) (h1 : op < 256) : instr_kindOf.f op = some (kd op) := by
  have := kd_ok h0 h1
  unfold kdOk at this
  simp only [Bool.and_eq_true] at this
  obtain ⟨r, hr⟩ := Option.isSome_iff_exists.1 this.1
  unfold kd
  rw [hr]; rfl
theorem kd_le {op : Int} (h0 : 0 ≤ op) (h1 : op < 256) : 0 ≤ (kd op).2.2.2.2.1 ∧ (kd op).2.2.2.2.1 ≤ 2 ∧ 0 ≤ (kd op).2.2.2.2.2.1 ∧ (kd op).2.2.2.2.2.1 ≤ 1 := by
  have := kd_ok h0 h1
  unfold kdOk at this
  simp only [Bool.and_eq_true, decide_eq_true_eq] at this
  exact this.2
def nod (x : S36) : Nod where
  takes := (kd x.f0).2.2.2.2.1 + (if (kd x.f0).2.2.2.2.2.2.1 = true then x.f1 else 0)
  leave := (kd x.f0).2.2.2.2.2.1
  ends := (kd x.f0).2.2.2.2.2.2.2
  tgt := if (kd x.f0).2.1 = 116 then some x.f1.toNat else none
  jump := x.f0 == 1
  mode := if x.f0 = 53 then 1 else if x.f0 = 3 ∨ x.f0 = 4 then 2 else 0
/-- An instruction that may be in code of so many. -/
structure Fit (n : Nat) (x : S36) : Prop where
  op0 : 0 ≤ x.f0
  op1 : x.f0 < 256
  a0 : 0 ≤ x.f1
  a1 : x.f1 < 1000000
  tgt : (kd x.f0).2.1 = 116 → x.f1 < n
end Go.Proofs.Ytcpjjnikehcleaa.Gw
