/- The ring as a list: cut and first, in plain. -/
import Derived.Test.YtcfdldgekfacfaaS8
namespace Go.Proofs.Ytcfdldgekfacfaa.Sk
set_option linter.unusedVariables false
set_option linter.unusedSimpArgs false

/-- From a the places L follow, and then z, by f; back by g. -/
def Lk (f g : Nat → Nat) : Nat → List Nat → Nat → Prop
  | a, [], z => f a = z ∧ g z = a
  | a, b :: L, z => f a = b ∧ g b = a ∧ Lk f g b L z
theorem Lk.app {f g : Nat → Nat} {b z : Nat} {B : List Nat} : ∀ {a : Nat} {A : List Nat}, Lk f g a (A ++ b :: B) z ↔ Lk f g a A b ∧ Lk f g b B z
  | a, [] => by simp [Lk, and_assoc]
  | a, c :: A => by simp [Lk, Lk.app (a := c) (A := A), and_assoc]
theorem Lk.congr {f g f' g' : Nat → Nat} {z : Nat} : ∀ {a : Nat} {L : List Nat}, (∀ k, k ∈ a :: L → f' k = f k) → (∀ k, k ∈ L ++ [z] → g' k = g k) → Lk f g a L z → Lk f' g' a L z
  | a, [], hf, hg, h => ⟨(hf a (by simp)).trans h.1, (hg z (by simp)).trans h.2⟩
  | a, b :: L, hf, hg, h => ⟨(hf a (by simp)).trans h.1, (hg b (by simp)).trans h.2.1, Lk.congr (fun k hk => hf k (List.mem_cons_of_mem _ hk)) (fun k hk => hg k (List.mem_cons_of_mem _ hk)) h.2.2⟩
def lst (a : Nat) : List Nat → Nat
  | [] => a
  | b :: L => lst b L
def fst (L : List Nat) (z : Nat) : Nat := match L with | [] => z | b :: _ => b
theorem Lk.back {f g : Nat → Nat} {z : Nat} : ∀ {a : Nat} {L : List Nat} (_ : Lk f g a L z), g z = lst a L
  | a, [], h => h.2
  | a, b :: L, h => Lk.back (a := b) (L := L) h.2.2
theorem Lk.fore {f g : Nat → Nat} {a z : Nat} {L : List Nat} (h : Lk f g a L z) : f a = fst L z := by cases L with | nil => exact h.1 | cons b L => exact h.1
theorem lst_mem : ∀ (a : Nat) (L : List Nat), lst a L ∈ a :: L
  | a, [] => by simp [lst]
  | a, b :: L => List.mem_cons_of_mem _ (lst_mem b L)
theorem fst_mem (L : List Nat) (z : Nat) : fst L z ∈ L ++ [z] := by cases L <;> simp [fst]
def upd (f : Nat → Nat) (p q : Nat) (k : Nat) : Nat := if k = p then q else f k
theorem Lk.join {f g : Nat → Nat} {i z : Nat} {B : List Nat} (hB : Lk f g i B z) : ∀ {a : Nat} {A : List Nat}, Lk f g a A i → (a :: (A ++ B)).Nodup → (A ++ B ++ [z]).Nodup → Lk (upd f (lst a A) (fst B z)) (upd g (fst B z) (lst a A)) a (A ++ B) z
  | a, [], hA, n1, n2 => by
    cases B with
    | nil => exact ⟨by simp [upd, lst, fst], by simp [upd, lst, fst]⟩
    | cons b B =>
      refine ⟨by simp [upd, lst, fst], by simp [upd, lst, fst], ?_⟩
      refine Lk.congr (fun k hk => ?_) (fun k hk => ?_) hB.2.2
      · have : k ≠ a := fun e => by subst e; exact (List.nodup_cons.1 n1).1 (by simpa using hk)
        simp [upd, lst, this]
      · have : k ≠ b := fun e => by subst e; exact (List.nodup_cons.1 (show (k :: (B ++ [z])).Nodup from n2)).1 hk
        simp [upd, fst, this]
  | a, c :: A, hA, n1, n2 => by
    have n1' := List.nodup_cons.1 n1
    have n2' : c ∉ A ++ B ++ [z] ∧ (A ++ B ++ [z]).Nodup := List.nodup_cons.1 (by simpa using n2)
    have ih := Lk.join hB (a := c) (A := A) hA.2.2 (by simpa using n1'.2) n2'.2
    have h1 : a ≠ lst c A := fun e => n1'.1 (by rw [e]; have := lst_mem c A; simp at this ⊢; rcases this with h | h; exact .inl h; exact .inr (.inl h))
    have h2 : c ≠ fst B z := fun e => n2'.1 (by rw [e]; have := fst_mem B z; simp at this ⊢; rcases this with h | h; exact .inr (.inl h); exact .inr (.inr h))
    have e1 : upd f (lst a (c :: A)) (fst B z) a = f a := if_neg h1
    have e2 : upd g (fst B z) (lst a (c :: A)) c = g c := if_neg h2
    exact ⟨e1.trans hA.1, e2.trans hA.2.1, ih⟩

/-- Another place is put ahead. -/
def pf (f : Nat → Nat) (i : Nat) (k : Nat) : Nat := if k = 0 then i else if k = i then f 0 else f k
def pg (f g : Nat → Nat) (i : Nat) (k : Nat) : Nat := if k = f 0 then i else if k = i then 0 else g k
theorem Lk.ahead {f g : Nat → Nat} {i : Nat} {L : List Nat} (h : Lk f g 0 L 0) (n : (0 :: L).Nodup) (hi : i ∉ 0 :: L) : Lk (pf f i) (pg f g i) 0 (i :: L) 0 := by
  have hi0 : i ≠ 0 := fun e => hi (by simp [e])
  have hf : f 0 ≠ i := fun e => by
    rw [h.fore] at e
    have := fst_mem L 0
    rw [e] at this
    exact hi (by simp at this ⊢; rcases this with h | h; exact .inr h; exact .inl h)
  refine ⟨by simp [pf], by simp [pg, hf.symm], ?_⟩
  cases L with
  | nil =>
    have h1 : f 0 = 0 := h.1
    exact ⟨by simp [pf, hi0, h1], by simp [pg, h1]⟩
  | cons b L =>
    have h1 : f 0 = b := h.1
    refine ⟨by simp [pf, hi0, h1], by simp [pg, h1], ?_⟩
    refine Lk.congr (fun k hk => ?_) (fun k hk => ?_) h.2.2
    · have k0 : k ≠ 0 := fun e => by subst e; exact (List.nodup_cons.1 n).1 hk
      have ki : k ≠ i := fun e => by subst e; exact hi (List.mem_cons_of_mem _ hk)
      simp [pf, k0, ki]
    · have kb : k ≠ b := fun e => by
        subst e
        have := n
        simp at this hk
        rcases hk with h | h
        · exact this.2.1 h
        · exact absurd h.symm this.1.1
      have ki : k ≠ i := fun e => by
        subst e
        simp at hk hi
        rcases hk with h | h
        · exact hi.2.2 h
        · exact hi.1 h
      simp [pg, h1, kb, ki]

def nxf (cs : List Cel) (k : Nat) : Nat := (ce cs k).nx
def ahf (cs : List Cel) (k : Nat) : Nat := (ce cs k).ah
theorem ce_setAh {cs : List Cel} {i a k : Nat} (hi : i < cs.length) : ce (setAh cs i a) k = if i = k then { ce cs i with ah := a } else ce cs k := ce_set hi
theorem ce_setNx {cs : List Cel} {i a k : Nat} (hi : i < cs.length) : ce (setNx cs i a) k = if i = k then { ce cs i with nx := a } else ce cs k := ce_set hi
theorem cut_nx {cs : List Cel} {i : Nat} (ha : (ce cs i).ah < cs.length) (hn : (ce cs i).nx < cs.length) (k : Nat) : nxf (cutL cs i) k = upd (nxf cs) (ce cs i).ah (ce cs i).nx k := by
  unfold nxf cutL upd
  rw [ce_setAh (by simpa using hn), ce_setNx ha, ce_setNx ha]
  by_cases h1 : (ce cs i).nx = k <;> by_cases h2 : (ce cs i).ah = k <;> simp [h1, h2, eq_comm]
  all_goals (try split)
  all_goals (try simp_all)
  all_goals (try (intro e; exact absurd e.symm (by assumption)))
theorem cut_ah {cs : List Cel} {i : Nat} (ha : (ce cs i).ah < cs.length) (hn : (ce cs i).nx < cs.length) (k : Nat) : ahf (cutL cs i) k = upd (ahf cs) (ce cs i).nx (ce cs i).ah k := by
  unfold ahf cutL upd
  rw [ce_setAh (by simpa using hn), ce_setNx ha, ce_setNx ha]
  by_cases h1 : (ce cs i).nx = k <;> by_cases h2 : (ce cs i).ah = k <;> simp [h1, h2, eq_comm]
  all_goals (try split)
  all_goals (try simp_all)
  all_goals (try (intro e; exact absurd e.symm (by assumption)))
end Go.Proofs.Ytcfdldgekfacfaa.Sk
