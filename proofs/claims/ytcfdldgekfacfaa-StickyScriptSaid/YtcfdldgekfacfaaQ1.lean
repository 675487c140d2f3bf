/- Two rooms, the same steps: in plain. -/
import Derived.Test.YtcfdldgekfacfaaA2
namespace Go.Proofs.Ytcfdldgekfacfaa.Sk
set_option linter.unusedVariables false
set_option linter.unusedSimpArgs false

def Nd (l : Things) : Prop := (l.map (·.1)).Nodup
theorem isIn_mem {l : Things} {nm : ByteArray} : isIn l nm ↔ nm ∈ l.map (·.1) := by
  unfold isIn
  rw [List.mem_map]
  constructor
  · rintro ⟨v, h⟩; exact ⟨_, h, rfl⟩
  · rintro ⟨p, h, rfl⟩; exact ⟨p.2, h⟩
theorem Nd.sub {l l' : Things} (h : Nd l) (hs : l'.Sublist l) : Nd l' := List.Nodup.sublist (hs.map _) h
theorem wo_sub (l : Things) (nm : ByteArray) : (wo l nm).Sublist l := List.filter_sublist
theorem not_in_wo (l : Things) (nm : ByteArray) : ¬ isIn (wo l nm) nm := by
  rintro ⟨v, hv⟩
  have := (List.mem_filter.1 hv).2
  simp at this
theorem Nd.cons {l : Things} {nm : ByteArray} {v : Int} (h : Nd l) (hn : ¬ isIn l nm) : Nd ((nm, v) :: l) := by
  unfold Nd
  rw [List.map_cons, List.nodup_cons]
  exact ⟨fun hm => hn (isIn_mem.2 hm), h⟩
theorem isIn_sub {l l' : Things} {nm : ByteArray} (hs : l'.Sublist l) (h : isIn l' nm) : isIn l nm := by
  obtain ⟨v, hv⟩ := h; exact ⟨v, hs.subset hv⟩
theorem wo_mono {l l' : Things} (nm : ByteArray) (hs : l'.Sublist l) : (wo l' nm).Sublist (wo l nm) := hs.filter _
theorem wo_len {l : Things} {nm : ByteArray} (hd : Nd l) (h : isIn l nm) : (wo l nm).length + 1 = l.length := by
  induction l with
  | nil => obtain ⟨v, hv⟩ := h; simp at hv
  | cons p l ih =>
    unfold Nd at hd
    rw [List.map_cons, List.nodup_cons] at hd
    by_cases e : p.1 = nm
    · have hno : ¬ isIn l nm := fun h => hd.1 (e ▸ isIn_mem.1 h)
      have : wo (p :: l) nm = wo l nm := by unfold wo; rw [List.filter_cons_of_neg (by simp [e])]
      rw [this, wo_out hno]; rfl
    · have : wo (p :: l) nm = p :: wo l nm := by unfold wo; rw [List.filter_cons_of_pos (by simp [e])]
      rw [this, List.length_cons, List.length_cons]
      rw [ih hd.2 (by obtain ⟨v, hv⟩ := h; rcases List.mem_cons.1 hv with h1 | h1; exact absurd (congrArg Prod.fst h1).symm e; exact ⟨v, h1⟩)]
theorem val_mem {l : Things} {nm : ByteArray} {v : Int} (hd : Nd l) (h : (nm, v) ∈ l) : val l nm = v := by
  unfold val
  induction l with
  | nil => simp at h
  | cons p l ih =>
    unfold Nd at hd
    rw [List.map_cons, List.nodup_cons] at hd
    rcases List.mem_cons.1 h with rfl | h
    · simp
    · have : p.1 ≠ nm := fun e => hd.1 (e ▸ List.mem_map.2 ⟨_, h, rfl⟩)
      rw [List.find?_cons_of_neg (by simp [this])]
      exact ih hd.2 h
theorem dropLast_mono {l l' : Things} (hs : l'.Sublist l) : l'.dropLast.Sublist l.dropLast := by
  rw [← List.reverse_sublist]
  rw [← List.reverse_sublist] at hs
  rw [← List.tail_reverse, ← List.tail_reverse]
  exact hs.tail

structure Rel (c d : Cs) : Prop where
  sub : c.l.Sublist d.l
  eq : (c.l.length : Int) < c.room → c.l = d.l
  room : c.room ≤ d.room
  pos : 1 ≤ c.room
  nc : Nd c.l
  nd : Nd d.l
  lc : (c.l.length : Int) ≤ c.room
  ld : (d.l.length : Int) ≤ d.room
theorem Rel.start (a b : Int) (h : a ≤ b) (h1 : 1 ≤ a) : Rel ⟨a, 0, 0, []⟩ ⟨b, 0, 0, []⟩ := ⟨List.Sublist.refl _, fun _ => rfl, h, h1, by simp [Nd], by simp [Nd], by simp; omega, by simp; omega⟩
theorem put_in {room : Int} {l : Things} {nm : ByteArray} {v : Int} (h : isIn l nm) : putL room l nm v = (nm, v) :: wo l nm := by unfold putL; rw [if_pos h]
theorem put_full' {room : Int} {l : Things} {nm : ByteArray} {v : Int} (h : ¬ isIn l nm) (hf : (l.length : Int) = room) : putL room l nm v = (nm, v) :: l.dropLast := by unfold putL; rw [if_neg h, if_pos hf]
theorem put_room {room : Int} {l : Things} {nm : ByteArray} {v : Int} (h : ¬ isIn l nm) (hf : ¬ (l.length : Int) = room) : putL room l nm v = (nm, v) :: l := by unfold putL; rw [if_neg h, if_neg hf]
theorem put_nd {room : Int} {l : Things} {nm : ByteArray} {v : Int} (hd : Nd l) (hl : (l.length : Int) ≤ room) (hp : 1 ≤ room) : Nd (putL room l nm v) ∧ ((putL room l nm v).length : Int) ≤ room := by
  by_cases h : isIn l nm
  · rw [put_in h]
    have := wo_len hd h
    exact ⟨(hd.sub (wo_sub l nm)).cons (not_in_wo l nm), by rw [List.length_cons]; omega⟩
  · by_cases hf : (l.length : Int) = room
    · rw [put_full' h hf]
      exact ⟨(hd.sub (List.dropLast_sublist l)).cons (fun hm => h (isIn_sub (List.dropLast_sublist l) hm)), by rw [List.length_cons, List.length_dropLast]; omega⟩
    · rw [put_room h hf]
      exact ⟨hd.cons h, by rw [List.length_cons]; omega⟩
theorem Rel.put {c d : Cs} (h : Rel c d) (nm : ByteArray) (v : Int) : Rel (c.put nm v) (d.put nm v) := by
  have nc := put_nd (nm := nm) (v := v) h.nc h.lc h.pos
  have nd := put_nd (nm := nm) (v := v) h.nd h.ld (Int.le_trans h.pos h.room)
  have key : (putL c.room c.l nm v).Sublist (putL d.room d.l nm v) ∧ (((putL c.room c.l nm v).length : Int) < c.room → putL c.room c.l nm v = putL d.room d.l nm v) := by
    by_cases hc : isIn c.l nm
    · have hd := isIn_sub h.sub hc
      rw [put_in hc, put_in hd]
      refine ⟨(wo_mono nm h.sub).cons_cons _, fun hl => ?_⟩
      have := wo_len h.nc hc
      rw [List.length_cons] at hl
      rw [h.eq (by omega)]
    · by_cases hd : isIn d.l nm
      · have hf : (c.l.length : Int) = c.room := by
          by_cases hlt : (c.l.length : Int) < c.room
          · rw [h.eq hlt] at hc; exact absurd hd hc
          · have := h.lc; omega
        rw [put_full' hc hf, put_in hd]
        refine ⟨((List.dropLast_sublist c.l).trans ?_).cons_cons _, fun hl => ?_⟩
        · have := wo_mono nm h.sub
          rwa [wo_out hc] at this
        · rw [List.length_cons, List.length_dropLast] at hl
          have := h.pos
          omega
      · by_cases hlt : (c.l.length : Int) < c.room
        · have e := h.eq hlt
          have hr := h.room
          rw [put_room hc (by omega), put_room hd (by rw [← e]; omega), e]
          exact ⟨List.Sublist.refl _, fun _ => rfl⟩
        · have hf : (c.l.length : Int) = c.room := by have := h.lc; omega
          rw [put_full' hc hf]
          have hnl : ¬ ((((nm, v) :: c.l.dropLast).length : Nat) : Int) < c.room := by
            rw [List.length_cons, List.length_dropLast]; have := h.pos; omega
          by_cases hfd : (d.l.length : Int) = d.room
          · rw [put_full' hd hfd]
            exact ⟨(dropLast_mono h.sub).cons_cons _, fun hl => absurd hl hnl⟩
          · rw [put_room hd hfd]
            exact ⟨((List.dropLast_sublist c.l).trans h.sub).cons_cons _, fun hl => absurd hl hnl⟩
  exact ⟨key.1, key.2, h.room, h.pos, nc.1, nd.1, nc.2, nd.2⟩
theorem get_in {l : Things} {nm : ByteArray} (h : isIn l nm) : getL l nm = (nm, val l nm) :: wo l nm := by unfold getL; rw [if_pos h]
theorem get_out {l : Things} {nm : ByteArray} (h : ¬ isIn l nm) : getL l nm = l := by unfold getL; rw [if_neg h]
theorem inB_iff {l : Things} {nm : ByteArray} : inB l nm = true ↔ isIn l nm := by
  classical
  unfold inB
  exact decide_eq_true_iff
theorem get_nd {l : Things} {nm : ByteArray} (hd : Nd l) : Nd (getL l nm) ∧ (getL l nm).length = l.length := by
  by_cases h : isIn l nm
  · rw [get_in h]
    exact ⟨(hd.sub (wo_sub l nm)).cons (not_in_wo l nm), by rw [List.length_cons]; exact wo_len hd h⟩
  · rw [get_out h]; exact ⟨hd, rfl⟩
theorem Rel.get {c d : Cs} (h : Rel c d) (nm : ByteArray) : Rel (c.get nm) (d.get nm) ∧ (inB c.l nm = true → inB d.l nm = true ∧ val c.l nm = val d.l nm) := by
  have nc := get_nd (nm := nm) h.nc
  have nd := get_nd (nm := nm) h.nd
  have hval : isIn c.l nm → val c.l nm = val d.l nm := by
    rintro ⟨v, hv⟩
    rw [val_mem h.nc hv, val_mem h.nd (h.sub.subset hv)]
  have key : (getL c.l nm).Sublist (getL d.l nm) ∧ ((c.l.length : Int) < c.room → getL c.l nm = getL d.l nm) := by
    refine ⟨?_, fun hl => by rw [h.eq hl]⟩
    by_cases hc : isIn c.l nm
    · rw [get_in hc, get_in (isIn_sub h.sub hc), hval hc]
      exact (wo_mono nm h.sub).cons_cons _
    · rw [get_out hc]
      by_cases hd : isIn d.l nm
      · rw [get_in hd]
        have := wo_mono nm h.sub
        rw [wo_out hc] at this
        exact this.cons _
      · rw [get_out hd]; exact h.sub
  refine ⟨⟨key.1, fun hl => key.2 (by rw [← nc.2]; exact hl), h.room, h.pos, nc.1, nd.1, by show ((getL c.l nm).length : Int) ≤ _; rw [nc.2]; exact h.lc, by show ((getL d.l nm).length : Int) ≤ _; rw [nd.2]; exact h.ld⟩, fun hb => ?_⟩
  have hc := inB_iff.1 hb
  exact ⟨inB_iff.2 (isIn_sub h.sub hc), hval hc⟩
end Go.Proofs.Ytcfdldgekfacfaa.Sk
