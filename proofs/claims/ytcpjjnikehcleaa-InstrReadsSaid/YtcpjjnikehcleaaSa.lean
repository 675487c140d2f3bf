/- InstrReads, in plain. -/
import Derived.Test.YtcpjjnikehcleaaS9
import Derived.Test.YtcpjjnikehcleaaPRdx4
import Derived.Test.YtcpjjnikehcleaaPa
namespace Go.Proofs.Ytcpjjnikehcleaa.Sr
open Go.RowKit PChk Hq Gw Rt Go.Proofs.YtcpjjnikehcleaaW.PrintWords Go.Proofs.YtcpjjnikehcleaaW.PrintLast Go.Proofs.YtcpjjnikehcleaaW.PrintMore
set_option linter.unusedVariables false
set_option linter.unusedSimpArgs false

theorem refread_l0 {bs : List Int} (hb : U8 bs) (hl : bs.length < 1000000) {N : Nat} (hN : N ≤ 8192) (m : Nat) : ∀ (i p : Nat) (l : List S36), i + m = N → p ≤ bs.length → l.length = i →
    prompterref14_Read.l0 (m + 61) bs (N : Int) (p : Int) l (i : Int) = some (readGo bs (N : Int) m p l) := by
  have hwN : wrap64 (N : Int) = (N : Int) := by unfold wrap64; omega
  induction m with
  | zero =>
    intro i p l hi hp hl2
    have q1 : ¬ (i : Int) < (N : Int) := by omega
    rw [show 0 + 61 = 60 + 1 from rfl, prompterref14_Read.l0, hwN, if_neg q1, readGo]
    by_cases h : p < bs.length
    · rw [if_pos (show (p : Int) < (bs.length : Int) by omega), if_pos h]
    · rw [if_neg (show ¬ (p : Int) < (bs.length : Int) by omega), if_neg h]
  | succ m ih =>
    intro i p l hi hp hl2
    have q1 : (i : Int) < (N : Int) := by omega
    have q2 : l.length < 3518437208883 := by omega
    have hwi : wrap64 ((i : Int) + 1) = ((i + 1 : Nat) : Int) := wadd (a := i) (b := 1) (by omega)
    have hr := refone hb hl hp (nn := (N : Int)) (by omega) (k := m + 61) (by omega)
    have hf := oneP_fine (nn := (N : Int)) hb hp
    rw [show m + 1 + 61 = (m + 61) + 1 from by omega, prompterref14_Read.l0, hwN, if_pos q1, readGo, hwi]
    clear hwi
    cases ho : oneP bs p (N : Int) with
    | inr r =>
      obtain ⟨t, e⟩ := r
      rw [ho] at hr
      obtain ⟨a, b, c, d, hr⟩ := hr
      have he := (hf.2 t e ho).2
      rw [hr, Option.bind_some]
      simp only
      rw [if_neg (e34 he)]
    | inl r =>
      obtain ⟨x, t⟩ := r
      rw [ho] at hr
      replace hr : prompterref14_one.f (m + 61) bs (p : Int) (N : Int) = some (x.f0, x.f1, x.f2, x.f3, (t : Int), 0) := hr
      rw [hr, Option.bind_some]
      simp only
      rw [if_pos trivial, if_pos q2]
      exact ih (i + 1) t (l ++ [x]) (by omega) (hf.1 x t ho).1 (by simp [hl2])
theorem refread {bs : List Int} (hb : U8 bs) (hl : bs.length < 1000000) : prompterref14_Read.f 8300 bs = some (readP bs) := by
  unfold prompterref14_Read.f readP
  have hu := refuint hb hl (p := 0) (Nat.zero_le _) (k := 8300) (by omega)
  cases h : numP bs 0 with
  | inr r =>
    obtain ⟨q, e⟩ := r
    have he := (numP_err (Nat.zero_le _) h).2
    rw [h] at hu
    replace hu : prompterref05_ReadUint.f 8300 bs 0 = some (0, (q : Int), e) := hu
    rw [hu, Option.bind_some]
    simp only
    rw [if_neg (e34 he)]
  | inl r =>
    obtain ⟨n, q⟩ := r
    have hbd := numP_bd hb h
    rw [h] at hu
    replace hu : prompterref05_ReadUint.f 8300 bs 0 = some (n, (q : Int), 0) := hu
    rw [hu, Option.bind_some]
    simp only
    rw [if_pos trivial]
    by_cases hn : n > 8192
    · rw [if_pos hn, if_pos hn]
    · rw [if_neg hn, if_neg hn]
      obtain ⟨N, rfl⟩ := Int.eq_ofNat_of_zero_le hbd.1
      rw [Int.toNat_natCast]
      have hN : N ≤ 8192 := by omega
      have := refread_l0 hb hl hN N 0 q [] (by omega) hbd.2.2.1 rfl
      exact up (f := fun k => prompterref14_Read.l0 k bs (N : Int) (q : Int) [] 0) (fun k => (prompterref14_Read.mono_l k) _ _ _ _ _) (show N + 61 ≤ 8300 by omega) this
theorem same_l (l : List S36) (hl : l.length ≤ 1000000) (m : Nat) : ∀ i : Nat, i + m = l.length → prompterref14_Same.l0 (m + 1) l l (i : Int) = some true := by
  induction m with
  | zero =>
    intro i hi
    rw [prompterref14_Same.l0, if_neg (show ¬ (i : Int) < (l.length : Int) by omega)]
  | succ m ih =>
    intro i hi
    have q1 : (i : Int) < (l.length : Int) := by omega
    have q2 : (0 : Int) ≤ (i : Int) := by omega
    have hwi : wrap64 ((i : Int) + 1) = ((i + 1 : Nat) : Int) := wadd (a := i) (b := 1) (by omega)
    rw [prompterref14_Same.l0, if_pos q1, if_pos q2, if_pos q1, hwi]
    simp only [beq_self_eq_true, Bool.not_true, Bool.or_self]
    rw [if_neg (by decide)]
    exact ih (i + 1) (by omega)
theorem readGo_len (bs : List Int) (nn : Int) : ∀ (m p : Nat) (l : List S36), (readGo bs nn m p l).1.length ≤ l.length + m := by
  intro m
  induction m with
  | zero => intro p l; rw [readGo]; split <;> simp
  | succ m ih =>
    intro p l
    rw [readGo]
    cases oneP bs p nn with
    | inr r => simp
    | inl r => obtain ⟨x, t⟩ := r; have := ih t (l ++ [x]); simp at this ⊢; omega
theorem readP_len (bs : List Int) : (readP bs).1.length ≤ 8192 := by
  unfold readP
  cases numP bs 0 with
  | inr r => simp
  | inl r =>
    obtain ⟨n, q⟩ := r
    simp only
    split
    · simp
    · have := readGo_len bs n n.toNat q []
      simp at this
      omega
theorem reads_true {bs : List Int} (hb : U8 bs) : ∃ k, prompterlaw14_InstrReads.f k bs = some true := by
  refine ⟨8300, ?_⟩
  unfold prompterlaw14_InstrReads.f
  rw [awake_is, Option.bind_some, if_pos rfl]
  by_cases h : (bs.length : Int) > 20000
  · rw [if_pos h]
  · rw [if_neg h]
    have hi : instr_Read.f bs = some (readP bs) := if_pos (u8B_of hb)
    have hl := readP_len bs
    rw [hi, Option.bind_some, refread hb (by omega), Option.bind_some]
    generalize readP bs = r at *
    obtain ⟨l, t, e⟩ := r
    simp only at hl ⊢
    have hs : prompterref14_Same.f 8300 l l = some true := by
      unfold prompterref14_Same.f
      rw [if_pos rfl]
      have := same_l l (by omega) l.length 0 (by omega)
      exact up (f := fun k => prompterref14_Same.l0 k l l 0) (fun k => (prompterref14_Same.mono_l k) _ _ _) (show l.length + 1 ≤ 8300 by omega) this
    rw [hs, Option.bind_some]
    simp
end Go.Proofs.Ytcpjjnikehcleaa.Sr
