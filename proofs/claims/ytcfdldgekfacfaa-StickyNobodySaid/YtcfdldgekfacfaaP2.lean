/- A cache in order: its things are a list. -/
import Derived.Test.YtcfdldgekfacfaaP1
namespace Go.Proofs.Ytcfdldgekfacfaa.Sk
set_option linter.unusedVariables false
set_option linter.unusedSimpArgs false

theorem first_nx {cs : List Cel} {i : Nat} (hi : i < cs.length) (h0 : 0 < cs.length) (hn : (ce cs 0).nx < cs.length) (hi0 : i ≠ 0) (k : Nat) : nxf (firstL cs i) k = pf (nxf cs) i k := by
  unfold nxf firstL pf
  generalize hx : (ce cs 0).nx = n at *
  rw [ce_setNx (by simpa using h0)]
  by_cases h1 : 0 = k
  · subst h1; simp
  · rw [if_neg h1, if_neg (fun e => h1 e.symm), ce_setAh (by simpa using hn)]
    by_cases h2 : n = k
    · subst h2
      rw [if_pos rfl]
      show (ce (setNx (setAh cs i 0) i n) n).nx = _
      rw [ce_setNx (by simpa using hi)]
      by_cases h3 : i = n
      · subst h3; simp [hx]
      · rw [if_neg h3, if_neg (fun e => h3 e.symm), ce_setAh hi, if_neg h3]
    · rw [if_neg h2, ce_setNx (by simpa using hi)]
      by_cases h3 : i = k
      · subst h3; simp [hx]
      · rw [if_neg h3, if_neg (fun e => h3 e.symm), ce_setAh hi, if_neg h3]
theorem first_ah {cs : List Cel} {i : Nat} (hi : i < cs.length) (h0 : 0 < cs.length) (hn : (ce cs 0).nx < cs.length) (k : Nat) : ahf (firstL cs i) k = pg (nxf cs) (ahf cs) i k := by
  unfold ahf firstL pg nxf
  generalize hx : (ce cs 0).nx = n at *
  have e1 : ∀ (c : List Cel) (a b j : Nat), a < c.length → (ce (setNx c a b) j).ah = (ce c j).ah := fun c a b j ha => by rw [ce_setNx ha]; split; (rename_i e; subst e; rfl); rfl
  rw [e1 _ _ _ _ (by simpa using h0), ce_setAh (by simpa using hn)]
  by_cases h2 : n = k
  · subst h2; simp
  · rw [if_neg h2, if_neg (fun e => h2 e.symm), e1 _ _ _ _ (by simpa using hi), ce_setAh hi]
    by_cases h3 : i = k
    · subst h3; simp
    · rw [if_neg h3, if_neg (fun e => h3 e.symm)]

/-- Name and value. -/
def nv (cs : List Cel) (k : Nat) : ByteArray × Int := ((ce cs k).nm, (ce cs k).v)
theorem nv_setAh (cs : List Cel) (i a k : Nat) : nv (setAh cs i a) k = nv cs k := by
  by_cases hi : i < cs.length
  · unfold nv; rw [ce_setAh hi]; split
    · rename_i e; subst e; rfl
    · rfl
  · unfold setAh; rw [List.set_eq_of_length_le (by omega)]
theorem nv_setNx (cs : List Cel) (i a k : Nat) : nv (setNx cs i a) k = nv cs k := by
  by_cases hi : i < cs.length
  · unfold nv; rw [ce_setNx hi]; split
    · rename_i e; subst e; rfl
    · rfl
  · unfold setNx; rw [List.set_eq_of_length_le (by omega)]
theorem nv_cut (cs : List Cel) (i k : Nat) : nv (cutL cs i) k = nv cs k := by unfold cutL; rw [nv_setAh, nv_setNx]
theorem nv_first (cs : List Cel) (i k : Nat) : nv (firstL cs i) k = nv cs k := by unfold firstL; rw [nv_setNx, nv_setAh, nv_setNx, nv_setAh]
theorem nv_touch (cs : List Cel) (i k : Nat) : nv (touchL cs i) k = nv cs k := by unfold touchL; rw [nv_first, nv_cut]

/-- The ring holds L. -/
structure Ri (cs : List Cel) (L : List Nat) : Prop where
  wf : Wf cs
  lk : Lk (nxf cs) (ahf cs) 0 L 0
  nd : (0 :: L).Nodup
  lt : ∀ i, i ∈ L → i < cs.length
theorem nodup_end {L : List Nat} {z : Nat} (h : (z :: L).Nodup) : (L ++ [z]).Nodup := by
  rw [List.nodup_cons] at h
  rw [List.nodup_append]
  exact ⟨h.2, by simp, fun a ha b hb e => by simp at hb; subst hb; subst e; exact h.1 ha⟩
theorem Ri.cut {cs : List Cel} {L : List Nat} (h : Ri cs L) {i : Nat} (hi : i ∈ L) : Ri (cutL cs i) (L.erase i) := by
  obtain ⟨A, B, rfl⟩ := List.append_of_mem hi
  have hlt := h.lt i hi
  have hw := h.wf.2 i hlt
  have n1 := h.nd
  have hiA : i ∉ A := by
    intro hm
    have := (List.nodup_cons.1 n1).2
    rw [List.nodup_append] at this
    exact this.2.2 i hm i (by simp) rfl
  have hiB : i ∉ B := by
    intro hm
    have := (List.nodup_cons.1 n1).2
    rw [List.nodup_append] at this
    exact (List.nodup_cons.1 this.2.1).1 hm
  have he : (A ++ i :: B).erase i = A ++ B := by rw [List.erase_append_right _ hiA]; simp
  rw [he]
  have hs : (A ++ B).Sublist (A ++ i :: B) := (List.Sublist.refl A).append (List.sublist_cons_self i B)
  have n2 : (0 :: (A ++ B)).Nodup := n1.sublist (hs.cons_cons 0)
  obtain ⟨h1, h2⟩ := Lk.app.1 h.lk
  have hj := Lk.join h2 h1 n2 (nodup_end n2)
  have ep : (ce cs i).ah = lst 0 A := h1.back
  have eq : (ce cs i).nx = fst B 0 := h2.fore
  refine ⟨h.wf.cut hlt, ?_, n2, fun j hj => by rw [cutL_length]; exact h.lt j (hs.mem hj)⟩
  refine Lk.congr (fun k _ => ?_) (fun k _ => ?_) hj
  · rw [cut_nx hw.1 hw.2, ep, eq]
  · rw [cut_ah hw.1 hw.2, ep, eq]
theorem Ri.first {cs : List Cel} {L : List Nat} (h : Ri cs L) {i : Nat} (hi : i < cs.length) (h0 : i ≠ 0) (hn : i ∉ L) : Ri (firstL cs i) (i :: L) := by
  have hw := h.wf.2 0 h.wf.1
  have hm : i ∉ 0 :: L := by simp [h0, hn]
  refine ⟨h.wf.first hi, ?_, ?_, fun j hj => ?_⟩
  · refine Lk.congr (fun k _ => ?_) (fun k _ => ?_) (h.lk.ahead h.nd hm)
    · exact first_nx hi h.wf.1 hw.2 h0 k
    · exact first_ah hi h.wf.1 hw.2 k
  · have := h.nd
    simp at this ⊢
    exact ⟨⟨fun e => h0 e.symm, this.1⟩, hn, this.2⟩
  · rw [firstL_length]
    rcases List.mem_cons.1 hj with rfl | hj
    · exact hi
    · exact h.lt j hj
theorem Ri.touch {cs : List Cel} {L : List Nat} (h : Ri cs L) {i : Nat} (hi : i ∈ L) : Ri (touchL cs i) (i :: L.erase i) := by
  have n := h.nd
  refine (h.cut hi).first (by rw [cutL_length]; exact h.lt i hi) (fun e => ?_) (fun hm => ?_)
  · subst e; exact (List.nodup_cons.1 n).1 hi
  · exact ((List.Nodup.mem_erase_iff (List.nodup_cons.1 n).2).1 hm).1 rfl
/-- A cell that is not in the ring may hold anything. -/
theorem Ri.other {cs : List Cel} {L : List Nat} (h : Ri cs L) {i : Nat} (c : Cel) (hc1 : c.ah < cs.length) (hc2 : c.nx < cs.length) (h0 : i ≠ 0) (hn : i ∉ L) : Ri (cs.set i c) L := by
  by_cases hi : i < cs.length
  · have hk : ∀ k, k ∈ 0 :: L → ce (cs.set i c) k = ce cs k := fun k hk => by rw [ce_set hi, if_neg (fun e => by subst e; simp [h0, hn] at hk)]
    have hk2 : ∀ k, k ∈ L ++ [0] → ce (cs.set i c) k = ce cs k := fun k hm => hk k (by simp at hm ⊢; rcases hm with h | h; exact .inr h; exact .inl h)
    refine ⟨⟨by simpa using h.wf.1, fun j hj => ?_⟩, h.lk.congr (fun k hm => by unfold nxf; rw [hk k hm]) (fun k hm => by unfold ahf; rw [hk2 k hm]), h.nd, fun j hj => by simpa using h.lt j hj⟩
    simp only [List.length_set] at hj ⊢
    rw [ce_set hi]
    split
    · exact ⟨hc1, hc2⟩
    · exact h.wf.2 j hj
  · rw [List.set_eq_of_length_le (by omega)]; exact h
/-- .. and the ring's own may hold another name and value. -/
theorem Ri.renamed {cs : List Cel} {L : List Nat} (h : Ri cs L) {i : Nat} (c : Cel) (hc1 : c.ah = (ce cs i).ah) (hc2 : c.nx = (ce cs i).nx) : Ri (cs.set i c) L := by
  by_cases hi : i < cs.length
  · have h1 : ∀ k, nxf (cs.set i c) k = nxf cs k := fun k => by unfold nxf; rw [ce_set hi]; split; (rename_i e; subst e; exact hc2); rfl
    have h2 : ∀ k, ahf (cs.set i c) k = ahf cs k := fun k => by unfold ahf; rw [ce_set hi]; split; (rename_i e; subst e; exact hc1); rfl
    refine ⟨⟨by simpa using h.wf.1, fun j hj => ?_⟩, h.lk.congr (fun k _ => h1 k) (fun k _ => h2 k), h.nd, fun j hj => by simpa using h.lt j hj⟩
    simp only [List.length_set] at hj ⊢
    have := h.wf.2 j hj
    exact ⟨by have e := h2 j; unfold ahf at e; rw [e]; exact this.1, by have e := h1 j; unfold nxf at e; rw [e]; exact this.2⟩
  · rw [List.set_eq_of_length_le (by omega)]; exact h
theorem Ri.grown {cs : List Cel} {L : List Nat} (h : Ri cs L) : Ri (cs ++ [zc]) L := by
  have e1 : ∀ k, ce (cs ++ [zc]) k = ce cs k := fun k => by
    unfold ce
    simp only [List.getD_eq_getElem?_getD]
    by_cases hk : k < cs.length
    · rw [List.getElem?_append_left hk]
    · rw [List.getElem?_append_right (by omega), List.getElem?_eq_none (l := cs) (by omega)]
      by_cases hk2 : k - cs.length = 0
      · simp [hk2]
      · rw [List.getElem?_eq_none (by simp; omega)]
  refine ⟨⟨by simp, fun j hj => ?_⟩, h.lk.congr (fun k _ => by unfold nxf; rw [e1]) (fun k _ => by unfold ahf; rw [e1]), h.nd, fun j hj => by have := h.lt j hj; simp; omega⟩
  rw [e1]
  simp at hj ⊢
  by_cases hk : j < cs.length
  · have := h.wf.2 j hk; omega
  · have : ce cs j = zc := by unfold ce; rw [List.getD_eq_getElem?_getD, List.getElem?_eq_none (by omega)]; rfl
    rw [this]; simp [zc]
theorem Ri.path {cs : List Cel} {L : List Nat} (h : Ri cs L) : Path cs (ce cs 0).nx L := by
  have go : ∀ (L : List Nat) (a : Nat), Lk (nxf cs) (ahf cs) a L 0 → (∀ i, i ∈ L → i ≠ 0 ∧ i < cs.length) → Path cs (ce cs a).nx L := by
    intro L
    induction L with
    | nil => intro a h _; exact h.1
    | cons b L ih => intro a h hm; exact ⟨h.1, (hm b (by simp)).1, (hm b (by simp)).2, ih b h.2.2 (fun i hi => hm i (List.mem_cons_of_mem _ hi))⟩
  exact go L 0 h.lk (fun i hi => ⟨fun e => by subst e; exact (List.nodup_cons.1 h.nd).1 hi, h.lt i hi⟩)
theorem Ri.last {cs : List Cel} {L : List Nat} (h : Ri cs L) (hL : L ≠ []) : (ce cs 0).ah = L.getLast hL := by
  have h1 : (ce cs 0).ah = lst 0 L := h.lk.back
  rw [h1]
  have : ∀ (L : List Nat) (a : Nat) (hL : L ≠ []), lst a L = L.getLast hL := by
    intro L
    induction L with
    | nil => intro a h; exact absurd rfl h
    | cons b L ih =>
      intro a _
      cases L with
      | nil => rfl
      | cons c L => rw [List.getLast_cons (by simp)]; exact ih b (by simp)
  exact this L 0 hL
end Go.Proofs.Ytcfdldgekfacfaa.Sk
