/- A cache in order: ring, map and free places; what each call leaves. -/
import Derived.Test.YtcfdldgekfacfaaP2
namespace Go.Proofs.Ytcfdldgekfacfaa.Sk
set_option linter.unusedVariables false
set_option linter.unusedSimpArgs false

theorem key_inj {a b : ByteArray} (h : key a = key b) : a = b := by
  unfold key at h
  injection h with h
  obtain ⟨a⟩ := a
  obtain ⟨b⟩ := b
  simp at h
  rw [h]
theorem key_ne {a b : ByteArray} (h : a ≠ b) : key a ≠ key b := fun e => h (key_inj e)
theorem key_lit (a : ByteArray) : WideAt.IsKeyLit (key a) := trivial

structure Inv (s : St) (L : List Nat) : Prop where
  ri : Ri s.cs L
  tidy : Maps.Tidy s.D
  has : ∀ nm, Maps.has s.D (key nm) = true ↔ ∃ i, i ∈ L ∧ (ce s.cs i).nm = nm
  ix : ∀ i, i ∈ L → idx s.D (ce s.cs i).nm = (i : Int)
  small : ∀ i, i ∈ L → (ce s.cs i).nm.size ≤ maxLen
  size : Maps.size s.D = L.length
  fnd : s.fr.Nodup
  fin : ∀ i, i ∈ s.fr → i ≠ 0 ∧ i < s.cs.length ∧ i ∉ L
  cnt : s.cs.length = 1 + L.length + s.fr.length
  cap : s.cs.length ≤ 4097
theorem Inv.new (room : Int) : Inv (newS room) [] where
  ri := ⟨⟨by simp [newS], fun i hi => by simp [newS] at hi; subst hi; simp [newS, ce, zc]⟩, ⟨rfl, rfl⟩, by simp, by simp⟩
  tidy := Maps.tidy_empty
  has := fun nm => by simp [newS, Maps.has]
  ix := by simp
  small := by simp
  size := rfl
  fnd := by simp [newS]
  fin := by simp [newS]
  cnt := rfl
  cap := by simp [newS]
theorem Inv.inj {s : St} {L : List Nat} (h : Inv s L) {i j : Nat} (hi : i ∈ L) (hj : j ∈ L) (e : (ce s.cs i).nm = (ce s.cs j).nm) : i = j := by
  have h1 := h.ix i hi
  have h2 := h.ix j hj
  rw [e, h2] at h1
  omega
/-- Its things in order. -/
def th (s : St) (L : List Nat) : List (ByteArray × Int) := L.map (nv s.cs)
theorem nv_nm {cs cs' : List Cel} {i : Nat} (h : nv cs' i = nv cs i) : (ce cs' i).nm = (ce cs i).nm := congrArg Prod.fst h
/-- Another ring with the same names. -/
theorem Inv.ring {s : St} {L L' : List Nat} (h : Inv s L) {cs : List Cel} (hr : Ri cs L') (hp : L'.Perm L) (hl : cs.length = s.cs.length) (hn : ∀ i, i ∈ L → (ce cs i).nm = (ce s.cs i).nm) : Inv { s with cs := cs } L' where
  ri := hr
  tidy := h.tidy
  has := fun nm => (h.has nm).trans ⟨fun ⟨i, hi, e⟩ => ⟨i, hp.mem_iff.2 hi, (hn i hi).trans e⟩, fun ⟨i, hi, e⟩ => ⟨i, hp.mem_iff.1 hi, (hn i (hp.mem_iff.1 hi)).symm.trans e⟩⟩
  ix := fun i hi => by show idx s.D (ce cs i).nm = _; rw [hn i (hp.mem_iff.1 hi)]; exact h.ix i (hp.mem_iff.1 hi)
  small := fun i hi => by show (ce cs i).nm.size ≤ _; rw [hn i (hp.mem_iff.1 hi)]; exact h.small i (hp.mem_iff.1 hi)
  size := h.size.trans hp.length_eq.symm
  fnd := h.fnd
  fin := fun i hi => ⟨(h.fin i hi).1, by show i < cs.length; rw [hl]; exact (h.fin i hi).2.1, fun hm => (h.fin i hi).2.2 (hp.mem_iff.1 hm)⟩
  cnt := by show cs.length = _; rw [hl, hp.length_eq]; exact h.cnt
  cap := by show cs.length ≤ _; rw [hl]; exact h.cap
theorem Inv.touch {s : St} {L : List Nat} (h : Inv s L) {i : Nat} (hi : i ∈ L) : Inv { s with cs := touchL s.cs i } (i :: L.erase i) :=
  h.ring (h.ri.touch hi) (List.perm_cons_erase hi).symm (touchL_length _ _) (fun j _ => nv_nm (nv_touch s.cs i j))
theorem th_touch (s : St) (L : List Nat) (i : Nat) : th { s with cs := touchL s.cs i } (i :: L.erase i) = nv s.cs i :: th s (L.erase i) := by
  have e : nv (touchL s.cs i) = nv s.cs := funext fun j => nv_touch s.cs i j
  unfold th
  show List.map (nv (touchL s.cs i)) _ = _
  rw [e, List.map_cons]
theorem Inv.counted {s : St} {L : List Nat} (h : Inv s L) (a b c : Int) : Inv { s with hits := a, misses := b, room := c } L := ⟨h.ri, h.tidy, h.has, h.ix, h.small, h.size, h.fnd, h.fin, h.cnt, h.cap⟩
theorem Inv.setV {s : St} {L : List Nat} (h : Inv s L) (i : Nat) (v : Int) : Inv { s with cs := setV s.cs i v } L :=
  h.ring (h.ri.renamed _ rfl rfl) (List.Perm.refl _) (setV_length _ _ _) (fun j _ => by
    by_cases hi : i < s.cs.length
    · show (ce (s.cs.set i _) j).nm = _
      rw [ce_set hi]; split
      · rename_i e; subst e; rfl
      · rfl
    · show (ce (s.cs.set i _) j).nm = _
      rw [List.set_eq_of_length_le (by omega)])
theorem nv_setV {cs : List Cel} {i : Nat} (hi : i < cs.length) (v : Int) (j : Nat) : nv (setV cs i v) j = if i = j then ((ce cs i).nm, v) else nv cs j := by
  unfold nv setV
  rw [ce_set hi]
  split <;> rfl
/-- The names of what is left are other ones. -/
theorem erase_nm {s : St} {L : List Nat} (h : Inv s L) {i j : Nat} (hi : i ∈ L) (hj : j ∈ L.erase i) : j ∈ L ∧ j ≠ i ∧ (ce s.cs j).nm ≠ (ce s.cs i).nm := by
  have hn := (List.nodup_cons.1 h.ri.nd).2
  obtain ⟨h1, h2⟩ := (List.Nodup.mem_erase_iff hn).1 hj
  exact ⟨h2, h1, fun e => h1 (h.inj h2 hi e)⟩
theorem th_erase {s : St} {L : List Nat} (h : Inv s L) {i : Nat} (hi : i ∈ L) : th s (L.erase i) = (th s L).filter (fun p => decide (p.1 ≠ (ce s.cs i).nm)) := by
  have hn := (List.nodup_cons.1 h.ri.nd).2
  unfold th
  rw [List.filter_map, hn.erase_eq_filter]
  congr 1
  apply List.filter_congr
  intro j hj
  by_cases e : j = i
  · subst e; simp [nv]
  · have : (ce s.cs j).nm ≠ (ce s.cs i).nm := fun e' => e (h.inj hj hi e')
    simp [nv, e, this]
theorem Inv.out {s : St} {L : List Nat} (h : Inv s L) {i : Nat} (hi : i ∈ L) : Inv (outS s i) (L.erase i) := by
  have hn := (List.nodup_cons.1 h.ri.nd).2
  have hi0 : i ≠ 0 := fun e => by subst e; exact (List.nodup_cons.1 h.ri.nd).1 hi
  have hlt := h.ri.lt i hi
  have hni : i ∉ L.erase i := fun hm => ((List.Nodup.mem_erase_iff hn).1 hm).1 rfl
  have hle : (L.erase i).length + 1 = L.length := by rw [List.length_erase_of_mem hi]; have := List.length_pos_of_mem hi; omega
  have hnm : ∀ j, j ∈ L.erase i → (ce (outS s i).cs j).nm = (ce s.cs j).nm := fun j hj => by
    show (ce ((cutL s.cs i).set i zc) j).nm = _
    rw [ce_set (by simpa using hlt), if_neg (fun e : i = j => hni (e.symm ▸ hj))]
    exact nv_nm (nv_cut s.cs i j)
  have hcl : (outS s i).cs.length = s.cs.length := by show ((cutL s.cs i).set i zc).length = _; simp
  refine ⟨(h.ri.cut hi).other zc (by simp [zc]; exact h.ri.wf.1) (by simp [zc]; exact h.ri.wf.1) hi0 hni, h.tidy.del _, fun nm => ?_, fun j hj => ?_, fun j hj => ?_, ?_, ?_, fun j hj => ?_, ?_, by rw [hcl]; exact h.cap⟩
  · show Maps.has (s.D.del (key (ce s.cs i).nm)) (key nm) = true ↔ _
    by_cases e : nm = (ce s.cs i).nm
    · subst e
      rw [Maps.has_del_same]
      simp only [Bool.false_eq_true, false_iff]
      rintro ⟨j, hj, e⟩
      rw [hnm j hj] at e
      exact (erase_nm h hi hj).2.2 e
    · rw [Maps.has_del_other (key_ne e), h.has]
      constructor
      · rintro ⟨j, hj, rfl⟩
        have hj2 : j ∈ L.erase i := (List.Nodup.mem_erase_iff hn).2 ⟨fun e' => e (by rw [e']), hj⟩
        exact ⟨j, hj2, hnm j hj2⟩
      · rintro ⟨j, hj, e'⟩
        exact ⟨j, (erase_nm h hi hj).1, (hnm j hj).symm.trans e'⟩
  · rw [hnm j hj]
    show idx (s.D.del (key (ce s.cs i).nm)) _ = _
    unfold idx
    rw [Maps.atKey_del_other (key_ne (erase_nm h hi hj).2.2)]
    exact h.ix j (erase_nm h hi hj).1
  · rw [hnm j hj]; exact h.small j (erase_nm h hi hj).1
  · have := Maps.size_del (k := key (ce s.cs i).nm) h.tidy
    rw [if_pos ((h.has _).2 ⟨i, hi, rfl⟩), h.size] at this
    show Maps.size (s.D.del _) = _
    omega
  · show (s.fr ++ [i]).Nodup
    rw [List.nodup_append]
    exact ⟨h.fnd, by simp, fun a ha b hb e => by simp at hb; subst hb; subst e; exact (h.fin a ha).2.2 hi⟩
  · have hj' : j ∈ s.fr ++ [i] := hj
    rw [hcl]
    simp at hj'
    rcases hj' with hj | rfl
    · exact ⟨(h.fin j hj).1, (h.fin j hj).2.1, fun hm => (h.fin j hj).2.2 (erase_nm h hi hm).1⟩
    · exact ⟨hi0, hlt, hni⟩
  · rw [hcl, h.cnt]
    show _ = 1 + _ + (s.fr ++ [i]).length
    simp
    omega
theorem th_out {s : St} {L : List Nat} (h : Inv s L) {i : Nat} (hi : i ∈ L) : th (outS s i) (L.erase i) = th s (L.erase i) := by
  have hn := (List.nodup_cons.1 h.ri.nd).2
  unfold th
  apply List.map_congr_left
  intro j hj
  show nv ((cutL s.cs i).set i zc) j = _
  have : nv ((cutL s.cs i).set i zc) j = nv (cutL s.cs i) j := by
    unfold nv
    rw [ce_set (by simpa using h.ri.lt i hi), if_neg (fun e => (erase_nm h hi hj).2.1 e.symm)]
  rw [this, nv_cut]
end Go.Proofs.Ytcfdldgekfacfaa.Sk
