/- Which instructions may be: the program's answer and the document's, in plain. -/
import Derived.Test.YtcpjjnikehcleaaGe
import Derived.Test.YtcpjjnikehcleaaPChkx3
import Derived.Test.YtcpjjnikehcleaaPChkx6
import Derived.Test.YtcpjjnikehcleaaPChkx7
namespace Go.Proofs.Ytcpjjnikehcleaa.Rt
open Go.RowKit PChk Hq Lk Gw Go.Proofs.YtcpjjnikehcleaaW.PrintWords Go.Proofs.YtcpjjnikehcleaaW.PrintLast Go.Proofs.YtcpjjnikehcleaaW.PrintMore
set_option linter.unusedVariables false
set_option linter.unusedSimpArgs false

/-- With more fuel the answer is the same. -/
theorem up {α : Type} {f : Nat → Option α} (h : ∀ k, LeO (f k) (f (k + 1))) {k m : Nat} (hk : k ≤ m) {r : α} (e : f k = some r) : f m = some r := by
  induction hk with
  | refl => exact e
  | step _ ih => exact h _ _ ih
theorem toList_nil (s : ByteArray) : s.toList = [] ↔ s.size = 0 := by
  rw [ByteArray.toList_eq]
  show s.data.toList = [] ↔ s.data.size = 0
  rw [← Array.length_toList, List.length_eq_zero_iff]

theorem name_loop (b : ByteArray) (hs : b.size ≤ 24) (h0 : 97 ≤ bt b 0 ∧ bt b 0 ≤ 122) (m : Nat) : ∀ i : Nat, i + m = b.size → ∃ r, value_Name.l0 (m + 1) b (b.size : Int) (i : Int) = some r ∧ prompterref04_Name.l0 (m + 1) b (i : Int) = some r := by
  induction m with
  | zero =>
    intro i hi
    refine ⟨true, ?_, ?_⟩
    · simp only [value_Name.l0]; rw [if_neg (by omega)]
    · simp only [prompterref04_Name.l0]; rw [if_neg (by omega)]
  | succ m ih =>
    intro i hi
    obtain ⟨r, h1, h2⟩ := ih (i + 1) (by omega)
    have hw : wrap64 ((i : Int) + 1) = ((i + 1 : Nat) : Int) := by unfold wrap64; omega
    have hz : (i : Int) = 0 → 97 ≤ bt b (i : Int) ∧ bt b (i : Int) ≤ 122 := fun e => by rw [e]; exact h0
    have p1 : (i : Int) < (b.size : Int) := by omega
    have p2 : (0 : Int) ≤ (i : Int) := by omega
    rw [value_Name.l0, prompterref04_Name.l0]
    rw [if_pos p1, if_pos p1, if_pos p2, if_pos p2, hw, h1, h2]
    generalize bt b (i : Int) = c at *
    by_cases hc : (97 ≤ c ∧ c ≤ 122) ∨ (48 ≤ c ∧ c ≤ 57) ∨ c = 95
    · refine ⟨r, ?_, ?_⟩
      · repeat' split
        all_goals first | rfl | omega
      · repeat' split
        all_goals first | rfl | omega
    · refine ⟨false, ?_, ?_⟩
      · repeat' split
        all_goals first | rfl | omega
      · repeat' split
        all_goals first | rfl | omega
theorem name_ref0 (b : ByteArray) (h1 : 0 < b.size) (hs : b.size ≤ 24) (h0 : ¬ (97 ≤ bt b 0 ∧ bt b 0 ≤ 122)) (k : Nat) : prompterref04_Name.l0 (k + 1) b 0 = some false := by
  have p1 : (0 : Int) < (b.size : Int) := by omega
  have p2 : (0 : Int) ≤ (0 : Int) := by omega
  rw [prompterref04_Name.l0]
  rw [if_pos p1, if_pos p2]
  generalize bt b 0 = c at *
  repeat' split
  all_goals first | rfl | omega
theorem name_both (b : ByteArray) : ∃ r, value_Name.f 30 b = some r ∧ prompterref04_Name.f 30 b = some r := by
  unfold value_Name.f prompterref04_Name.f
  by_cases h0 : b.size = 0
  · rw [if_pos ((toList_nil b).2 h0), if_pos (by omega)]
    exact ⟨false, rfl, rfl⟩
  · rw [if_neg (fun e => h0 ((toList_nil b).1 e)), if_neg (show ¬ (b.size : Int) < 1 by omega)]
    by_cases h24 : b.size ≤ 24
    · rw [if_neg (by omega), if_pos (by omega), decide_eq_false (show ¬ (b.size : Int) > 24 by omega)]
      by_cases hc : 97 ≤ bt b 0 ∧ bt b 0 ≤ 122
      · obtain ⟨r, h1, h2⟩ := name_loop b h24 hc b.size 0 (by omega)
        refine ⟨r, ?_, ?_⟩
        · rw [if_neg (by omega), decide_eq_false (by omega)]
          simp only [value_Name.j0]
          rw [if_neg (by decide)]
          have e : (fun k => value_Name.l0 k b (b.size : Int) 0) (b.size + 1) = some r := h1
          exact up (fun k => (value_Name.mono_l k).2 _ _ _) (show b.size + 1 ≤ 29 by omega) e
        · simp only [prompterref04_Name.j0]
          rw [if_neg (by decide)]
          have e : (fun k => prompterref04_Name.l0 k b 0) (b.size + 1) = some r := h2
          exact up (fun k => (prompterref04_Name.mono_l k).2 _ _) (show b.size + 1 ≤ 29 by omega) e
      · refine ⟨false, ?_, ?_⟩
        · split
          · rfl
          · rw [decide_eq_true (by omega)]; rfl
        · simp only [prompterref04_Name.j0]
          rw [if_neg (by decide)]
          exact name_ref0 b (by omega) h24 hc 28
    · rw [if_pos (by omega), decide_eq_true (show (b.size : Int) > 24 by omega)]
      exact ⟨false, rfl, rfl⟩
/-- Is a text a name? -/
def nameB (b : ByteArray) : Bool := (value_Name.f 30 b).getD false
theorem name_val (b : ByteArray) {k : Nat} (hk : 30 ≤ k) : value_Name.f k b = some (nameB b) := by
  obtain ⟨r, h1, _⟩ := name_both b
  have : nameB b = r := by unfold nameB; rw [h1]; rfl
  rw [this]
  exact up (fun k => value_Name.mono b k) hk h1
theorem name_ref (b : ByteArray) {k : Nat} (hk : 30 ≤ k) : prompterref04_Name.f k b = some (nameB b) := by
  obtain ⟨r, h1, h2⟩ := name_both b
  have : nameB b = r := by unfold nameB; rw [h1]; rfl
  rw [this]
  exact up (fun k => prompterref04_Name.mono b k) hk h2

/-! ### the tables -/
def ow (op : Int) : ByteArray × Int × Bool × Bool × Bool × Int × Int := (prompterref14_Of.f 5 op).getD (⟨#[]⟩, 0, false, false, false, 0, 0)
def aOf (a : Int) : Int := if a = 116 then 1 else if a = 115 then 2 else if a = 99 then 3 else 0
/-- Both tables say the same of an instruction. -/
def tabOk (op : Int) : Bool :=
  (prompterref14_Of.f 5 op).isSome && decide ((kd op).1.data = (ow op).1.data) && decide ((ow op).2.1 = aOf (kd op).2.1) && decide ((kd op).2.1 = 0 ∨ (kd op).2.1 = 116 ∨ (kd op).2.1 = 115 ∨ (kd op).2.1 = 99)
    && ((kd op).2.2.1 == (ow op).2.2.1) && ((ow op).2.2.2.1 == decide ((kd op).2.2.2.1 = 120)) && ((ow op).2.2.2.2.1 == decide ((kd op).2.2.2.1 = 110)) && decide ((kd op).2.2.2.1 = 0 ∨ (kd op).2.2.2.1 = 120 ∨ (kd op).2.2.2.1 = 110)
    && decide ((kd op).2.2.2.2.1 = (ow op).2.2.2.2.2.1) && decide ((kd op).2.2.2.2.2.1 = (ow op).2.2.2.2.2.2) && ((kd op).2.2.2.2.2.2.1 == decide ((ow op).2.1 = 3)) && ((kd op).2.2.2.2.2.2.2 == decide (op = 8 ∨ op = 9 ∨ op = 28))
    && (decide ((ow op).2.1 ≠ 3) || decide ((ow op).2.2.2.2.2.1 = 0))
theorem tab_all : (List.range 256).all (fun i => tabOk (i : Int)) = true := by kernel_rfl
structure Tab (op : Int) : Prop where
  some : ∀ k, 5 ≤ k → prompterref14_Of.f k op = Option.some (ow op)
  word : (ow op).1 = (kd op).1
  a : (ow op).2.1 = aOf (kd op).2.1
  aa : (kd op).2.1 = 0 ∨ (kd op).2.1 = 116 ∨ (kd op).2.1 = 115 ∨ (kd op).2.1 = 99
  num : (ow op).2.2.1 = (kd op).2.2.1
  any : (ow op).2.2.2.1 = decide ((kd op).2.2.2.1 = 120)
  name : (ow op).2.2.2.2.1 = decide ((kd op).2.2.2.1 = 110)
  text : (kd op).2.2.2.1 = 0 ∨ (kd op).2.2.2.1 = 120 ∨ (kd op).2.2.2.1 = 110
  takes : (ow op).2.2.2.2.2.1 = (kd op).2.2.2.2.1
  leave : (ow op).2.2.2.2.2.2 = (kd op).2.2.2.2.2.1
  many : (kd op).2.2.2.2.2.2.1 = decide ((ow op).2.1 = 3)
  ends : (kd op).2.2.2.2.2.2.2 = decide (op = 8 ∨ op = 9 ∨ op = 28)
  none : (ow op).2.1 = 3 → (ow op).2.2.2.2.2.1 = 0
theorem tab {op : Int} (h0 : 0 ≤ op) (h1 : op < 256) : Tab op := by
  have := List.all_eq_true.1 tab_all op.toNat (List.mem_range.2 (by omega))
  rw [show ((op.toNat : Nat) : Int) = op from by omega] at this
  unfold tabOk at this
  simp only [Bool.and_eq_true, Bool.or_eq_true, decide_eq_true_eq, beq_iff_eq] at this
  obtain ⟨⟨⟨⟨⟨⟨⟨⟨⟨⟨⟨⟨t1, t2⟩, t3⟩, t4⟩, t5⟩, t6⟩, t7⟩, t8⟩, t9⟩, t10⟩, t11⟩, t12⟩, t13⟩ := this
  obtain ⟨r, hr⟩ := Option.isSome_iff_exists.1 t1
  have hw : ow op = r := by unfold ow; rw [hr]; rfl
  exact ⟨fun k hk => by rw [hw]; exact up (fun k => prompterref14_Of.mono op k) hk hr, (ByteArray.ext t2).symm, t3, t4, t5.symm, t6, t7, t8, t9.symm, t10.symm, t11, t12, fun e => t13.elim (fun h => absurd e h) id⟩

/-! ### right -/
def topN (n : Int) (a : Int) : Int := if a = 116 then n else if a = 115 then 100 else if a = 99 then 2049 else 1
def txtB (t : Int) (s : ByteArray) : Bool := if t = 120 then decide ((s.size : Int) < 4096) else if t = 110 then nameB s else s.toList == []
/-- Is an instruction right in code of so many? -/
def okN (n : Int) (x : S36) : Bool :=
  if (kd x.f0).1.toList = [] then false else if (kd x.f0).2.2.1 = false ∧ x.f2 ≠ 0 then false else if x.f1 < 0 ∨ topN n (kd x.f0).2.1 ≤ x.f1 then false else txtB (kd x.f0).2.2.2.1 x.f3
theorem right_is {x : S36} (h0 : 0 ≤ x.f0) (h1 : x.f0 < 256) (n : Int) {k : Nat} (hk : 40 ≤ k) : instr_right.f k x.f0 x.f1 x.f2 x.f3 n = some (okN n x) := by
  obtain ⟨k, rfl⟩ : ∃ m, k = m + 3 := ⟨k - 3, by omega⟩
  have hn := name_val x.f3 (k := k) (by omega)
  unfold instr_right.f okN
  rw [kd_some h0 h1, Option.bind_some]
  obtain ⟨f0, f1, f2, f3⟩ := x
  simp only at *
  generalize kd f0 = K
  obtain ⟨word, a, num, text, takes, leave, many, ends⟩ := K
  simp only
  have j2 : ∀ b : Bool, instr_right.j2 (k + 1) b f0 f1 f2 f3 word a num text takes leave many ends = some (if b then false else txtB text f3) := fun b => by
    simp only [instr_right.j2, hn, Option.bind_some]
    unfold txtB
    cases b <;> simp <;> repeat' split
    all_goals first | rfl | simp_all
  have j1 : ∀ t : Int, instr_right.j1 (k + 2) t f0 f1 f2 f3 word a num text takes leave many ends = some (if f1 < 0 ∨ t ≤ f1 then false else txtB text f3) := fun t => by
    simp only [instr_right.j1, j2]
    by_cases e1 : f1 < 0 <;> by_cases e2 : t ≤ f1 <;> simp [e1, e2]
  have j0 : ∀ b : Bool, instr_right.j0 (k + 3) n b f0 f1 f2 f3 word a num text takes leave many ends = some (if b then false else if f1 < 0 ∨ topN n a ≤ f1 then false else txtB text f3) := fun b => by
    simp only [instr_right.j0, j1]
    unfold topN
    cases b <;> by_cases e1 : a = 116 <;> by_cases e2 : a = 115 <;> by_cases e3 : a = 99 <;> simp [e1, e2, e3]
  simp only [j0]
  by_cases w0 : word.toList = []
  · rw [if_pos w0, if_pos w0]; rfl
  · rw [if_neg w0, if_neg w0]
    cases num <;> by_cases e : f2 = 0 <;> simp [e]
theorem Right_is {x : S36} (h0 : 0 ≤ x.f0) (h1 : x.f0 < 256) (n : Int) {k : Nat} (hk : 40 ≤ k) : prompterref14_Right.f k x.f0 x.f1 x.f2 x.f3 n = some (okN n x) := by
  obtain ⟨k, rfl⟩ : ∃ m, k = m + 2 := ⟨k - 2, by omega⟩
  have hn := name_ref x.f3 (k := k) (by omega)
  have T := tab h0 h1
  unfold prompterref14_Right.f okN
  rw [T.some _ (by omega), Option.bind_some]
  obtain ⟨t1, t2, t3, t4, t5, t6, t7, t8, t9, t10, t11, t12, t13⟩ := T
  obtain ⟨f0, f1, f2, f3⟩ := x
  simp only at *
  generalize kd f0 = K at *
  generalize ow f0 = O at *
  obtain ⟨word, a, num, text, takes, leave, many, ends⟩ := K
  obtain ⟨oword, oa, onum, oany, oname, otakes, oleave⟩ := O
  simp only at *
  subst t2 t3 t5 t6 t7
  have j1 : ∀ b : Bool, prompterref14_Right.j1 (k + 1) b f0 f1 f2 f3 oword (aOf a) onum (decide (text = 120)) (decide (text = 110)) otakes oleave = some (if b then false else txtB text f3) := fun b => by
    simp only [prompterref14_Right.j1, hn, Option.bind_some]
    unfold txtB
    cases b
    · rcases t8 with e | e | e
      · subst e; simp
      · subst e
        have : decide ((f3.size : Int) ≤ 4095) = decide ((f3.size : Int) < 4096) := decide_eq_decide.mpr (by omega)
        rw [this]; simp
      · subst e; simp
    · simp
  have j0 : ∀ b : Bool, prompterref14_Right.j0 (k + 2) n b f0 f1 f2 f3 oword (aOf a) onum (decide (text = 120)) (decide (text = 110)) otakes oleave = some (if b then false else if topN n a ≤ f1 ∨ (a = 0 ∧ f1 < 0) then false else txtB text f3) := fun b => by
    simp only [prompterref14_Right.j0, j1]
    unfold topN
    cases b
    · rcases t4 with e | e | e | e
      · subst e
        by_cases h : f1 = 0
        · subst h; simp [aOf]
        · have : 1 ≤ f1 ∨ f1 < 0 := by omega
          simp [aOf, h, this]
      · subst e
        by_cases h : n ≤ f1 <;> simp [aOf, h]
      · subst e
        by_cases h : 100 ≤ f1 <;> simp [aOf, h]
      · subst e
        by_cases h : f1 > 2048
        · have h2 : 2049 ≤ f1 := by omega
          have h3 : 2048 < f1 := h
          simp [aOf, h2, h3]
        · have h2 : ¬ 2049 ≤ f1 := by omega
          have h3 : ¬ 2048 < f1 := by omega
          simp [aOf, h2, h3]
    · simp
  simp only [j0]
  have fin : (if decide (f1 < 0) = true then false else if topN n a ≤ f1 ∨ (a = 0 ∧ f1 < 0) then false else txtB text f3) = (if f1 < 0 ∨ topN n a ≤ f1 then false else txtB text f3) := by
    by_cases e1 : f1 < 0 <;> by_cases e2 : topN n a ≤ f1 <;> simp [e1, e2]
  by_cases w0 : oword.toList = []
  · rw [if_pos w0, if_pos w0]; rfl
  · rw [if_neg w0, if_neg w0, fin]
    cases onum <;> by_cases e : f2 = 0 <;> simp [e]
/-- What is right may be gone through. -/
theorem okN_fit {x : S36} {n : Nat} (h0 : 0 ≤ x.f0) (h1 : x.f0 < 256) (hn : n ≤ 8192) (h : okN n x = true) : Fit n x := by
  have T := tab h0 h1
  unfold okN at h
  split at h
  · cases h
  · split at h
    · cases h
    · split at h
      · cases h
      · next h2 =>
        have h3 : topN n (kd x.f0).2.1 ≤ 8192 := by unfold topN; split; omega; split; omega; split <;> omega
        refine ⟨h0, h1, by omega, by omega, fun e => ?_⟩
        unfold topN at h2
        rw [if_pos e] at h2
        omega
end Go.Proofs.Ytcpjjnikehcleaa.Rt
