/- A cache as a list: Get, Peek, Drop, Names, Len, Room, Counts, New. -/
import Derived.Test.YtcfdldgekfacfaaP5
namespace Go.Proofs.Ytcfdldgekfacfaa.Sk
open Go.RowKit
set_option linter.unusedVariables false
set_option linter.unusedSimpArgs false

theorem stay_chg {B : Nat} {y : Lay} {s' : St} {v : Value} {w : World} {e : Ending} {w' : World} {room hits misses : Int} {l : Things} (h : Stay B y s' v w e w') (hh : CAt B w' y s' → Holds B w' y room hits misses l) : Chg B y room hits misses l v w e w' :=
  ⟨h.1, y, hh h.2.1, rfl, fun k hk => .inl hk, h.2.2⟩

noncomputable def getL (l : Things) (nm : ByteArray) : Things := by classical exact if isIn l nm then (nm, val l nm) :: wo l nm else l
noncomputable def inB (l : Things) (nm : ByteArray) : Bool := by classical exact decide (isIn l nm)
theorem val_out {l : Things} {nm : ByteArray} (h : ¬ isIn l nm) : val l nm = 0 := by
  unfold val
  rw [List.find?_eq_none.2 (fun p hp => ?_)]
  intro e
  simp at e
  exact h ⟨p.2, by rw [← e]; exact hp⟩

theorem get_calls (B : Nat) (w : World) (y : Lay) (room hits misses : Int) (l : Things) (nm : ByteArray) (h : Holds B w y room hits misses l) (hn : nm.size ≤ maxLen) :
    Calls Try.prog 10 #[.pointer (some ⟨y.g, 0, none⟩), .string nm] w (Chg B y room (if inB l nm then wrap64 (hits + 1) else hits) (if inB l nm then misses else wrap64 (misses + 1)) (getL l nm) (.tuple #[.int .i64 (val l nm), .bool (inB l nm)]) w) := by
  classical
  obtain ⟨s, L, hc, hI, rfl, rfl, rfl, rfl, r1, r2, hle⟩ := h
  rw [th_length] at hle
  by_cases hin : isIn (th s L) nm
  · have hh := (isIn_iff hI nm).1 hin
    obtain ⟨i, hi, rfl⟩ := (hI.has nm).1 hh
    have eb : inB (th s L) (ce s.cs i).nm = true := by unfold inB; exact decide_eq_true hin
    rw [eb, if_pos rfl, if_pos rfl, find_th hI hi]
    refine (get_hit B w y s _ i hc hn (by omega) hh (hI.ix i hi) (hI.ri.lt i hi) hI.ri.wf).mono fun e w' hs => stay_chg hs fun hc' => ?_
    have I2 := (hI.touch hi).counted (wrap64 (s.hits + 1)) s.misses s.room
    have hl := List.length_erase_of_mem hi
    have hp := List.length_pos_of_mem hi
    have ht : th { s with cs := touchL s.cs i } (i :: L.erase i) = getL (th s L) (ce s.cs i).nm := by
      rw [th_touch, th_erase hI hi]; unfold getL; rw [if_pos hin, find_th hI hi]; rfl
    refine ⟨_, _, hc', I2, ht, rfl, rfl, rfl, r1, r2, ?_⟩
    rw [← ht, th_length]; simp; omega
  · have hh := has_false hI hin
    have eb : inB (th s L) nm = false := by unfold inB; exact decide_eq_false hin
    rw [eb, if_neg (by simp), if_neg (by simp), val_out hin]
    refine (get_miss B w y s nm hc hn (by omega) hh).mono fun e w' hs => stay_chg hs fun hc' => ?_
    have hg : getL (th s L) nm = th s L := by unfold getL; rw [if_neg hin]
    rw [hg]
    exact ⟨_, _, hc', hI.counted s.hits (wrap64 (s.misses + 1)) s.room, rfl, rfl, rfl, rfl, r1, r2, by rw [th_length]; exact hle⟩
theorem peek_calls (B : Nat) (w : World) (y : Lay) (room hits misses : Int) (l : Things) (nm : ByteArray) (h : Holds B w y room hits misses l) (hn : nm.size ≤ maxLen) :
    Calls Try.prog 18 #[.pointer (some ⟨y.g, 0, none⟩), .string nm] w (Chg B y room hits misses l (.tuple #[.int .i64 (val l nm), .bool (inB l nm)]) w) := by
  classical
  obtain ⟨s, L, hc, hI, rfl, rfl, rfl, rfl, r1, r2, hle⟩ := h
  by_cases hin : isIn (th s L) nm
  · have hh := (isIn_iff hI nm).1 hin
    obtain ⟨i, hi, rfl⟩ := (hI.has nm).1 hh
    have eb : inB (th s L) (ce s.cs i).nm = true := by unfold inB; exact decide_eq_true hin
    rw [eb, find_th hI hi]
    exact (peek_hit B w y s _ i hc hn hh (hI.ix i hi) (hI.ri.lt i hi)).mono fun e w' hs => stay_chg hs fun hc' => ⟨_, _, hc', hI, rfl, rfl, rfl, rfl, r1, r2, hle⟩
  · have hh := has_false hI hin
    have eb : inB (th s L) nm = false := by unfold inB; exact decide_eq_false hin
    rw [eb, val_out hin]
    exact (peek_miss B w y s nm hc hn hh).mono fun e w' hs => stay_chg hs fun hc' => ⟨_, _, hc', hI, rfl, rfl, rfl, rfl, r1, r2, hle⟩
theorem wo_out {l : Things} {nm : ByteArray} (h : ¬ isIn l nm) : wo l nm = l := by
  unfold wo
  rw [List.filter_eq_self]
  intro p hp
  exact decide_eq_true (fun e => h ⟨p.2, by rw [← e]; exact hp⟩)
theorem drop_calls (B : Nat) (w : World) (y : Lay) (room hits misses : Int) (l : Things) (nm : ByteArray) (h : Holds B w y room hits misses l) (hB : B ≤ w.heap.size) (hn : nm.size ≤ maxLen) :
    Calls Try.prog 20 #[.pointer (some ⟨y.g, 0, none⟩), .string nm] w (Chg B y room hits misses (wo l nm) (.bool (inB l nm)) w) := by
  classical
  obtain ⟨s, L, hc, hI, rfl, rfl, rfl, rfl, r1, r2, hle⟩ := h
  rw [th_length] at hle
  by_cases hin : isIn (th s L) nm
  · have hh := (isIn_iff hI nm).1 hin
    obtain ⟨i, hi, rfl⟩ := (hI.has nm).1 hh
    have eb : inB (th s L) (ce s.cs i).nm = true := by unfold inB; exact decide_eq_true hin
    rw [eb]
    have hl := List.length_erase_of_mem hi
    have ht : th (outS s i) (L.erase i) = wo (th s L) (ce s.cs i).nm := by rw [th_out hI hi, th_erase hI hi]; rfl
    refine (drop_hit B w y s _ i hc hB hn hh (hI.ix i hi) (hI.ri.lt i hi) hI.ri.wf (hI.small i hi) (fr_small hI).1).mono fun e w' ⟨he, y', hc', hg, ho, hch⟩ => ⟨he, y', ⟨_, _, hc', hI.out hi, ht, rfl, rfl, rfl, r1, r2, ?_⟩, hg, ho, hch⟩
    rw [← ht, th_length]; omega
  · have hh := has_false hI hin
    have eb : inB (th s L) nm = false := by unfold inB; exact decide_eq_false hin
    rw [eb, wo_out hin]
    exact (drop_miss B w y s nm hc hn hh).mono fun e w' hs => stay_chg hs fun hc' => ⟨_, _, hc', hI, rfl, rfl, rfl, rfl, r1, r2, by rw [th_length]; exact hle⟩
theorem namesL_calls (B : Nat) (w : World) (y : Lay) (room hits misses : Int) (l : Things) (h : Holds B w y room hits misses l) : Calls Try.prog 12 #[.pointer (some ⟨y.g, 0, none⟩)] w (Told (l.map (·.1)) w) := by
  obtain ⟨s, L, hc, hI, rfl, rfl, rfl, rfl, r1, r2, hle⟩ := h
  have := names_calls B w y s L hc (by omega) hI.ri.wf.1 hI.ri.path (L_small (B := B) (W := w) hI)
  have e : (th s L).map (·.1) = L.map fun i => (ce s.cs i).nm := by unfold th; rw [List.map_map]; rfl
  rw [e]
  exact this
theorem lenL_calls (B : Nat) (w : World) (y : Lay) (room hits misses : Int) (l : Things) (h : Holds B w y room hits misses l) : Calls Try.prog 14 #[.pointer (some ⟨y.g, 0, none⟩)] w (Same (.int .i64 (l.length : Int)) w) := by
  obtain ⟨s, L, hc, hI, rfl, rfl, rfl, rfl, r1, r2, hle⟩ := h
  have := len_calls B w y s hc
  rw [hI.size] at this
  rw [th_length]
  exact this
theorem roomL_calls (B : Nat) (w : World) (y : Lay) (room hits misses : Int) (l : Things) (h : Holds B w y room hits misses l) : Calls Try.prog 36 #[.pointer (some ⟨y.g, 0, none⟩)] w (Same (.int .i64 room) w) := by
  obtain ⟨s, L, hc, hI, rfl, rfl, rfl, rfl, r1, r2, hle⟩ := h
  exact room_calls B w y s hc
theorem countsL_calls (B : Nat) (w : World) (y : Lay) (room hits misses : Int) (l : Things) (h : Holds B w y room hits misses l) : Calls Try.prog 46 #[.pointer (some ⟨y.g, 0, none⟩)] w (Same (.tuple #[.int .i64 hits, .int .i64 misses]) w) := by
  obtain ⟨s, L, hc, hI, rfl, rfl, rfl, rfl, r1, r2, hle⟩ := h
  exact counts_calls B w y s hc
theorem newL_calls (w : World) (room : Int) (h : 1 ≤ room ∧ room ≤ 4096) :
    Calls Try.prog 8 #[.int .i64 room] w fun e w' => Ch (fun _ => False) w w' ∧ ∃ y, e = .returned (.tuple #[.pointer (some ⟨y.g, 0, none⟩), .int .i64 0]) ∧ Holds w.heap.size w' y room 0 0 [] := by
  refine (new_calls w room).mono fun e w' ⟨hc, hh⟩ => ⟨hc, ?_⟩
  rw [if_pos h] at hh
  obtain ⟨y, he, ha⟩ := hh
  exact ⟨y, he, _, _, ha, Inv.new room, rfl, rfl, rfl, rfl, h.1, h.2, by simp; omega⟩
theorem newL_no (w : World) (room : Int) (h : ¬ (1 ≤ room ∧ room ≤ 4096)) : Calls Try.prog 8 #[.int .i64 room] w (Same (.tuple #[.pointer none, .int .i64 1]) w) := by
  refine (new_calls w room).mono fun e w' ⟨hc, hh⟩ => ⟨?_, hc⟩
  rw [if_neg h] at hh
  exact hh
end Go.Proofs.Ytcfdldgekfacfaa.Sk
