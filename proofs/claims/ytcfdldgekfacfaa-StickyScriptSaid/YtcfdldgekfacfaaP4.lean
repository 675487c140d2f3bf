/- A cache in order: a new thing. -/
import Derived.Test.YtcfdldgekfacfaaP3
namespace Go.Proofs.Ytcfdldgekfacfaa.Sk
set_option linter.unusedVariables false
set_option linter.unusedSimpArgs false

theorem ce_grown (cs : List Cel) (k : Nat) : ce (cs ++ [zc]) k = ce cs k := by
  unfold ce
  simp only [List.getD_eq_getElem?_getD]
  by_cases hk : k < cs.length
  · rw [List.getElem?_append_left hk]
  · rw [List.getElem?_append_right (by omega), List.getElem?_eq_none (l := cs) (by omega)]
    by_cases hk2 : k - cs.length = 0
    · simp [hk2]
    · rw [List.getElem?_eq_none (by simp; omega)]
/-- A place was found. -/
structure Found (s : St) (L : List Nat) (p : Nat) (t : St) : Prop where
  p0 : p ≠ 0
  pL : p ∉ L
  lt : p < t.cs.length
  ri : Ri t.cs L
  D : t.D = s.D
  nv : ∀ j, nv t.cs j = nv s.cs j
  fnd : t.fr.Nodup
  fin : ∀ i, i ∈ t.fr → i ≠ 0 ∧ i < t.cs.length ∧ i ∉ L ∧ i ≠ p
  cnt : t.cs.length = 2 + L.length + t.fr.length
  cap : t.cs.length ≤ 4097
  room : t.room = s.room
  hits : t.hits = s.hits
  misses : t.misses = s.misses
theorem Inv.found {s : St} {L : List Nat} (h : Inv s L) (hL : L.length < 4096) : Found s L (placeI s) (placeS s) := by
  by_cases hf : s.fr = []
  · have e1 : placeI s = s.cs.length := by unfold placeI; rw [if_pos hf]
    have e2 : placeS s = { s with cs := s.cs ++ [zc] } := by unfold placeS; rw [if_pos hf]
    have hc := h.cnt
    rw [hf] at hc
    simp at hc
    rw [e1, e2]
    refine ⟨by omega, fun hm => by have := h.ri.lt _ hm; omega, by simp, h.ri.grown, rfl, fun j => ?_, h.fnd, fun i hi => ?_, ?_, ?_, rfl, rfl, rfl⟩
    · show nv (s.cs ++ [zc]) j = _; unfold Sk.nv; rw [ce_grown]
    · have hi' : i ∈ s.fr := hi
      rw [hf] at hi'; simp at hi'
    · show (s.cs ++ [zc]).length = 2 + _ + s.fr.length
      rw [hf]; simp; omega
    · show (s.cs ++ [zc]).length ≤ _
      simp; omega
  · obtain ⟨l, i, hli⟩ : ∃ l i, s.fr = l ++ [i] := ⟨s.fr.dropLast, s.fr.getLast hf, (List.dropLast_concat_getLast hf).symm⟩
    have e1 : placeI s = i := by unfold placeI; rw [if_neg hf, hli]; simp
    have e2 : placeS s = { s with fr := l } := by unfold placeS; rw [if_neg hf, hli]; simp
    have hi := h.fin i (by rw [hli]; simp)
    have hn := h.fnd
    rw [hli, List.nodup_append] at hn
    have hc := h.cnt
    rw [hli] at hc
    simp at hc
    rw [e1, e2]
    refine ⟨hi.1, hi.2.2, hi.2.1, h.ri, rfl, fun j => rfl, hn.1, fun j hj => ?_, ?_, h.cap, rfl, rfl, rfl⟩
    · have := h.fin j (by rw [hli]; exact List.mem_append_left _ hj)
      exact ⟨this.1, this.2.1, this.2.2, hn.2.2 j hj i (by simp)⟩
    · show s.cs.length = 2 + _ + l.length
      omega
theorem nv_setNV {cs : List Cel} {i : Nat} (hi : i < cs.length) (nm : ByteArray) (v : Int) (j : Nat) : nv (setNV cs i nm v) j = if i = j then (nm, v) else nv cs j := by
  unfold nv setNV
  rw [ce_set hi]
  split <;> rfl
theorem ins_nv {s : St} {L : List Nat} (h : Inv s L) (hL : L.length < 4096) (nm : ByteArray) (v : Int) (j : Nat) : nv (insS s nm v).cs j = if placeI s = j then (nm, v) else nv s.cs j := by
  have F := h.found hL
  show nv (firstL (setNV (placeS s).cs (placeI s) nm v) (placeI s)) j = _
  rw [nv_first, nv_setNV F.lt, F.nv]
theorem Inv.ins {s : St} {L : List Nat} (h : Inv s L) (hL : L.length < 4096) (nm : ByteArray) (v : Int) (hno : Maps.has s.D (key nm) = false) (hsz : nm.size ≤ maxLen) : Inv (insS s nm v) (placeI s :: L) ∧ th (insS s nm v) (placeI s :: L) = (nm, v) :: th s L := by
  have F := h.found hL
  have hnv := ins_nv h hL nm v
  have hp : ∀ j, j ∈ L → nv (insS s nm v).cs j = nv s.cs j := fun j hj => by rw [hnv, if_neg (fun e : placeI s = j => F.pL (e.symm ▸ hj))]
  have hpn : ∀ j, j ∈ L → (ce (insS s nm v).cs j).nm = (ce s.cs j).nm := fun j hj => nv_nm (hp j hj)
  have hpp : nv (insS s nm v).cs (placeI s) = (nm, v) := by rw [hnv, if_pos rfl]
  have hppn : (ce (insS s nm v).cs (placeI s)).nm = nm := congrArg Prod.fst hpp
  have hoth : ∀ j, j ∈ L → (ce s.cs j).nm ≠ nm := fun j hj e => by
    have := (h.has nm).2 ⟨j, hj, e⟩
    rw [hno] at this
    cases this
  have hD : (insS s nm v).D = s.D.put (key nm) (.lit (.int .i64 (placeI s : Int))) := rfl
  have hfr : (insS s nm v).fr = (placeS s).fr := rfl
  have hcl : (insS s nm v).cs.length = (placeS s).cs.length := by show (firstL (setNV _ _ _ _) _).length = _; simp
  have hri : Ri (insS s nm v).cs (placeI s :: L) := (F.ri.renamed (i := placeI s) { ce (placeS s).cs (placeI s) with nm := nm, v := v } rfl rfl).first (by simpa using F.lt) F.p0 F.pL
  refine ⟨⟨hri, ?_, fun n => ?_, fun j hj => ?_, fun j hj => ?_, ?_, hfr ▸ F.fnd, fun j hj => ?_, ?_, hcl ▸ F.cap⟩, ?_⟩
  · rw [hD]; exact h.tidy.put (key_lit _) _
  · rw [hD]
    by_cases e : n = nm
    · subst e
      rw [Maps.has_put_same h.tidy.isMap (key_lit _)]
      simp only [true_iff]
      exact ⟨placeI s, by simp, hppn⟩
    · rw [Maps.has_put_other (key_ne e), h.has]
      constructor
      · rintro ⟨j, hj, rfl⟩
        exact ⟨j, List.mem_cons_of_mem _ hj, hpn j hj⟩
      · rintro ⟨j, hj, e'⟩
        rcases List.mem_cons.1 hj with rfl | hj
        · exact absurd (e'.symm.trans hppn) e
        · exact ⟨j, hj, (hpn j hj).symm.trans e'⟩
  · rw [hD]
    rcases List.mem_cons.1 hj with rfl | hj
    · rw [hppn]
      unfold idx
      rw [Maps.atKey_put_same h.tidy.isMap (key_lit _)]
    · rw [hpn j hj]
      unfold idx
      rw [Maps.atKey_put_other (key_ne (hoth j hj))]
      exact h.ix j hj
  · rcases List.mem_cons.1 hj with rfl | hj
    · rw [hppn]; exact hsz
    · rw [hpn j hj]; exact h.small j hj
  · rw [hD, Maps.size_put h.tidy, hno, h.size]; simp
  · rw [hfr] at hj
    rw [hcl]
    have := F.fin j hj
    exact ⟨this.1, this.2.1, by simp [this.2.2.1, this.2.2.2]⟩
  · rw [hcl, hfr, F.cnt]; simp; omega
  · unfold th
    rw [List.map_cons, hpp]
    congr 1
    exact List.map_congr_left (fun j hj => hp j hj)
end Go.Proofs.Ytcfdldgekfacfaa.Sk
