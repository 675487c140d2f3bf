/- A cache as a list of names and values: what its methods do to it. -/
import Derived.Test.YtcfdldgekfacfaaP4
namespace Go.Proofs.Ytcfdldgekfacfaa.Sk
open Go.RowKit
set_option linter.unusedVariables false
set_option linter.unusedSimpArgs false

abbrev Things := List (ByteArray × Int)
/-- All but one name. -/
def wo (l : Things) (nm : ByteArray) : Things := l.filter (fun p => decide (p.1 ≠ nm))
def isIn (l : Things) (nm : ByteArray) : Prop := ∃ v, (nm, v) ∈ l
def val (l : Things) (nm : ByteArray) : Int := match l.find? (fun p => decide (p.1 = nm)) with | some p => p.2 | none => 0
/-- In W, at y: a cache of these things. -/
def Holds (B : Nat) (W : World) (y : Lay) (room hits misses : Int) (l : Things) : Prop :=
  ∃ s L, CAt B W y s ∧ Inv s L ∧ th s L = l ∧ s.room = room ∧ s.hits = hits ∧ s.misses = misses ∧ 1 ≤ room ∧ room ≤ 4096 ∧ (l.length : Int) ≤ room
/-- Behind a call it is another one. -/
def Chg (B : Nat) (y : Lay) (room hits misses : Int) (l : Things) (v : Value) (w : World) (e : Ending) (w' : World) : Prop :=
  e = .returned v ∧ ∃ y', Holds B w' y' room hits misses l ∧ y'.g = y.g ∧ (∀ k, y'.own k → y.own k ∨ w.heap.size ≤ k) ∧ Ch y.own w w'
theorem th_length (s : St) (L : List Nat) : (th s L).length = L.length := by simp [th]
theorem Holds.ch {B : Nat} {W V : World} {y : Lay} {room hits misses : Int} {l : Things} (h : Holds B W y room hits misses l) {S : Nat → Prop} (hc : Ch S W V) (hn : ∀ k, y.own k → ¬ S k) : Holds B V y room hits misses l := by
  obtain ⟨s, L, hc1, h⟩ := h
  exact ⟨s, L, hc1.ch hc hn, h⟩
theorem Holds.ge {B : Nat} {W : World} {y : Lay} {room hits misses : Int} {l : Things} (h : Holds B W y room hits misses l) {k : Nat} (hk : y.own k) : B ≤ k ∧ k < W.heap.size := by
  obtain ⟨s, L, hc1, h⟩ := h
  exact ⟨hc1.ge hk, hc1.ltOwn hk⟩
theorem isIn_iff {s : St} {L : List Nat} (h : Inv s L) (nm : ByteArray) : isIn (th s L) nm ↔ Maps.has s.D (key nm) = true := by
  rw [h.has]
  unfold isIn th
  constructor
  · rintro ⟨v, hv⟩
    obtain ⟨i, hi, e⟩ := List.mem_map.1 hv
    exact ⟨i, hi, congrArg Prod.fst e⟩
  · rintro ⟨i, hi, rfl⟩
    exact ⟨_, List.mem_map.2 ⟨i, hi, rfl⟩⟩
theorem has_false {s : St} {L : List Nat} (h : Inv s L) {nm : ByteArray} (hn : ¬ isIn (th s L) nm) : Maps.has s.D (key nm) = false := by
  cases hh : Maps.has s.D (key nm)
  · rfl
  · exact absurd ((isIn_iff h nm).2 hh) hn
theorem find_th {s : St} {L : List Nat} (h : Inv s L) {i : Nat} (hi : i ∈ L) : val (th s L) (ce s.cs i).nm = (ce s.cs i).v := by
  unfold val th
  rw [List.find?_map]
  have : L.find? ((fun p : ByteArray × Int => decide (p.1 = (ce s.cs i).nm)) ∘ nv s.cs) = some i := by
    have h1 : (L.find? ((fun p : ByteArray × Int => decide (p.1 = (ce s.cs i).nm)) ∘ nv s.cs)).isSome := by
      rw [List.find?_isSome]; exact ⟨i, hi, by simp [nv]⟩
    obtain ⟨j, hj⟩ := Option.isSome_iff_exists.1 h1
    have h2 := List.mem_of_find?_eq_some hj
    have h3 := List.find?_some hj
    simp [nv] at h3
    rw [hj, h.inj h2 hi (of_decide_eq_true h3)]
  rw [this]
  rfl
theorem fr_small {s : St} {L : List Nat} (h : Inv s L) : s.fr.length < 1000000 ∧ s.cs.length < 1000000 := by have := h.cnt; have := h.cap; omega
theorem L_small {B : Nat} {W : World} {s : St} {L : List Nat} (h : Inv s L) : L.length < 1000000 := by have := h.cnt; have := h.cap; omega

/-- What Put tells, and what is there behind it. -/
noncomputable def putT (room : Int) (l : Things) (nm : ByteArray) : ByteArray × Bool := by classical exact if isIn l nm then (⟨#[]⟩, false) else if (l.length : Int) = room then ((l.getLastD (⟨#[]⟩, 0)).1, true) else (⟨#[]⟩, false)
noncomputable def putL (room : Int) (l : Things) (nm : ByteArray) (v : Int) : Things := by classical exact if isIn l nm then (nm, v) :: wo l nm else if (l.length : Int) = room then (nm, v) :: l.dropLast else (nm, v) :: l

theorem put_calls (B : Nat) (w : World) (y : Lay) (room hits misses : Int) (l : Things) (nm : ByteArray) (v : Int) (h : Holds B w y room hits misses l) (hB : B ≤ w.heap.size) (hn : nm.size ≤ maxLen) :
    Calls Try.prog 9 #[.pointer (some ⟨y.g, 0, none⟩), .string nm, .int .i64 v] w (Chg B y room hits misses (putL room l nm v) (.tuple #[.string (putT room l nm).1, .bool (putT room l nm).2]) w) := by
  classical
  obtain ⟨s, L, hc, hI, rfl, rfl, rfl, rfl, r1, r2, hle⟩ := h
  have hsm := fr_small hI
  have hsz := hI.size
  rw [th_length] at hle
  by_cases hin : isIn (th s L) nm
  · have hh := (isIn_iff hI nm).1 hin
    obtain ⟨i, hi, rfl⟩ := (hI.has nm).1 hh
    refine (put_hit B w y s _ v i hc hn (by omega) hh (hI.ix i hi) (hI.ri.lt i hi) hI.ri.wf).mono fun e w' ⟨he, hc', hch⟩ => ?_
    have I2 := (hI.setV i v).touch hi
    have e1 : th { s with cs := touchL (setV s.cs i v) i } (i :: L.erase i) = ((ce s.cs i).nm, v) :: wo (th s L) (ce s.cs i).nm := by
      rw [show ({ s with cs := touchL (setV s.cs i v) i } : St) = { ({ s with cs := setV s.cs i v } : St) with cs := touchL ({ s with cs := setV s.cs i v } : St).cs i } from rfl, th_touch]
      show nv (setV s.cs i v) i :: _ = _
      rw [nv_setV (hI.ri.lt i hi), if_pos rfl]
      congr 1
      unfold wo
      rw [← th_erase hI hi]
      unfold th
      apply List.map_congr_left
      intro j hj
      show nv (setV s.cs i v) j = _
      rw [nv_setV (hI.ri.lt i hi), if_neg (fun e => (erase_nm hI hi hj).2.1 e.symm)]
    have hl := List.length_erase_of_mem hi
    have hp := List.length_pos_of_mem hi
    refine ⟨?_, y, ⟨_, _, hc', I2, ?_, rfl, rfl, rfl, r1, r2, ?_⟩, rfl, fun k hk => .inl hk, hch⟩
    · rw [he]; unfold putT; rw [if_pos hin]
    · rw [e1]; unfold putL; rw [if_pos hin]
    · unfold putL; rw [if_pos hin, ← e1, th_length]; simp; omega
  · have hh := has_false hI hin
    by_cases hf : (L.length : Int) = s.room
    · have hL : L ≠ [] := fun e => by rw [e] at hf; simp at hf; omega
      have hlast := hI.ri.last hL
      have hmem : (ce s.cs 0).ah ∈ L := hlast ▸ List.getLast_mem hL
      have hnd := (List.nodup_cons.1 hI.ri.nd).2
      have I1 := hI.out hmem
      have hel : L.erase (ce s.cs 0).ah = L.dropLast := by
        rw [hlast]
        conv => lhs; arg 1; rw [← List.dropLast_concat_getLast hL]
        have hnot : L.getLast hL ∉ L.dropLast := by
          have := hnd
          rw [← List.dropLast_concat_getLast hL, List.nodup_append] at this
          exact fun hm => this.2.2 _ hm _ (by simp) rfl
        rw [List.erase_append_right _ hnot]
        simp
      have hle2 : (L.erase (ce s.cs 0).ah).length < 4096 := by rw [List.length_erase_of_mem hmem]; have := List.length_pos_of_mem hmem; omega
      have hno2 : Maps.has (outS s (ce s.cs 0).ah).D (key nm) = false := by
        show Maps.has (s.D.del _) _ = false
        by_cases e : nm = (ce s.cs (ce s.cs 0).ah).nm
        · rw [e]; exact Maps.has_del_same
        · rw [Maps.has_del_other (key_ne e)]; exact hh
      have F := I1.found hle2
      obtain ⟨I2, ht⟩ := I1.ins hle2 nm v hno2 hn
      have hsm1 := fr_small I1
      refine (put_full B w y s nm v hc hB hn (by omega) hh (by rw [hsz]; exact hf) _ rfl hI.ri.wf (hI.small _ hmem) hsm.1 hsm1.1 hsm1.2 (by rw [I1.size]; omega) F.lt F.ri.wf).mono fun e w' ⟨he, y', hc', hg, ho, hch⟩ => ?_
      have hd : th (outS s (ce s.cs 0).ah) (L.erase (ce s.cs 0).ah) = (th s L).dropLast := by
        rw [th_out hI hmem, hel]; unfold th; rw [List.map_dropLast]
      refine ⟨?_, y', ⟨_, _, hc', I2, ?_, ?_, ?_, ?_, r1, r2, ?_⟩, hg, ho, hch⟩
      · rw [he]; unfold putT; rw [if_neg hin, th_length, if_pos hf]
        have : (th s L).getLastD (⟨#[]⟩, 0) = nv s.cs (ce s.cs 0).ah := by
          unfold th
          rw [hlast, List.getLastD_eq_getLast?, List.getLast?_map, List.getLast?_eq_some_getLast hL]
          rfl
        rw [this]; rfl
      · rw [ht, hd]; unfold putL; rw [if_neg hin, th_length, if_pos hf]
      · exact (F.room).trans rfl
      · exact (F.hits).trans rfl
      · exact (F.misses).trans rfl
      · unfold putL; rw [if_neg hin, th_length, if_pos hf, List.length_cons, List.length_dropLast, th_length]; omega
    · have hle2 : L.length < 4096 := by omega
      have F := hI.found hle2
      obtain ⟨I2, ht⟩ := hI.ins hle2 nm v hh hn
      refine (put_new B w y s nm v hc hB hn (by omega) hh (by rw [hsz]; exact hf) hsm.1 hsm.2 (by rw [hsz]; omega) F.lt F.ri.wf).mono fun e w' ⟨he, y', hc', hg, ho, hch⟩ => ?_
      refine ⟨?_, y', ⟨_, _, hc', I2, ?_, F.room, F.hits, F.misses, r1, r2, ?_⟩, hg, ho, hch⟩
      · rw [he]; unfold putT; rw [if_neg hin, th_length, if_neg hf]
      · rw [ht]; unfold putL; rw [if_neg hin, th_length, if_neg hf]
      · unfold putL; rw [if_neg hin, th_length, if_neg hf, List.length_cons, th_length]; omega
end Go.Proofs.Ytcfdldgekfacfaa.Sk
