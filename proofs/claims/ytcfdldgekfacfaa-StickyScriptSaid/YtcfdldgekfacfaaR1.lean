/- The document's cache in memory: find, without. -/
import Derived.Test.YtcfdldgekfacfaaQ1
namespace Go.Proofs.Ytcfdldgekfacfaa.Rf
open Go.RowKit Sk PRef Go.Proofs.YtcfdldgekfacfaaW.PrintWords Go.Proofs.YtcfdldgekfacfaaW.PrintLast Go.Proofs.YtcfdldgekfacfaaW.PrintMore
set_option linter.unusedVariables false
set_option linter.unusedSimpArgs false

theorem toList_loop (bs : ByteArray) (i : Nat) (r : List UInt8) : ByteArray.toList.loop bs i r = r.reverse ++ bs.data.toList.drop i := by
  by_cases h : i < bs.size
  · rw [ByteArray.toList.loop, if_pos h, toList_loop bs (i+1)]
    have h' : i < bs.data.toList.length := by simpa using h
    rw [List.drop_eq_getElem_cons h']
    have : bs.get! i = bs.data.toList[i] := by
      cases bs with | mk d =>
      show d[i]! = _
      have : i < d.size := h
      simp [this]
    rw [this]
    simp
  · rw [ByteArray.toList.loop, if_neg h, List.drop_eq_nil_of_le]
    · simp
    · have : bs.data.toList.length = bs.size := by rw [Array.length_toList]; rfl
      omega
termination_by bs.size - i
theorem toList_inj {a b : ByteArray} (h : a.toList = b.toList) : a = b := by
  unfold ByteArray.toList at h
  rw [toList_loop, toList_loop] at h
  simp at h
  cases a; cases b; simp_all

def sT (l : Things) : List S72 := l.map fun p => ⟨p.1, p.2⟩
@[simp] theorem sT_length (l : Things) : (sT l).length = l.length := by simp [sT]
/-- At g: the document's cache of these things, its row one of its own. -/
structure RAt (N : Nat) (W : World) (g : Nat) (v : Value) (c : Cs) : Prop where
  blk : W.heap[g]? = some (.cells #[.int .i64 c.room, v, .int .i64 c.hits, .int .i64 c.misses] 45 (0, 0))
  row : Kd.R k72 72 W N (fun _ => True) v (sT c.l)
  ge : N ≤ g
theorem R_ch {W V : World} {N : Nat} {v : Value} {xs : List S72} (h : Kd.R k72 72 W N (fun _ => True) v xs) {S : Nat → Prop} (hc : Ch S W V) (hn : ∀ k, v.ownBlock = some k → ¬ S k) : Kd.R k72 72 V N (fun _ => True) v xs := by
  obtain ⟨h0, inner, ho, hr⟩ := h
  refine ⟨fun _ _ => trivial, inner, ownsRow_ch ho hc hn, hr.imp_ fun p c hp => ?_⟩
  rw [k72_openM hp]
  exact k72_mkM _ _ _ _
theorem RAt.ne {N : Nat} {W : World} {g : Nat} {v : Value} {c : Cs} (h : RAt N W g v c) : ∀ k, v.ownBlock = some k → k ≠ g := by
  intro k hk e
  subst e
  exact Kd.R_ne h.row h.blk (by decide) hk.symm
theorem RAt.ch {N : Nat} {W V : World} {g : Nat} {v : Value} {c : Cs} (h : RAt N W g v c) {S : Nat → Prop} (hc : Ch S W V) (hg : ¬ S g) (hn : ∀ k, v.ownBlock = some k → ¬ S k) : RAt N V g v c :=
  ⟨hc.keep h.blk hg, R_ch h.row hc hn, h.ge⟩
theorem RAt.same {N : Nat} {W V : World} {g : Nat} {v : Value} {c : Cs} (h : RAt N W g v c) (hc : Ch (fun _ => False) W V) : RAt N V g v c := h.ch hc (fun h => h) (fun _ _ h => h)
theorem RAt.reads {N : Nat} {W : World} {g : Nat} {v : Value} {c : Cs} (h : RAt N W g v c) : ∃ A cap, v = .slice A c.l.length cap ∧ c.l.length ≤ cap ∧ Kd.C k72 W A c.l.length (sT c.l) := by
  obtain ⟨A, cap, h1, h2, h3⟩ := Kd.R_reads h.row
  rw [sT_length] at h1 h2 h3
  exact ⟨A, cap, h1, h2, h3⟩
theorem rd_sT {l : Things} {i : Nat} (hi : i < l.length) : rd_T72 (sT l) (i : Int) = ⟨(l[i]).1, (l[i]).2⟩ := by
  unfold rd_T72 sT
  simp [hi]
theorem RAt.at_ {W : World} {A : Option Addr} {l : Things} (h : Kd.C k72 W A l.length (sT l)) {i : Nat} (hi : i < l.length) :
    ∃ ad, A = some ad ∧ W.cell? (ad.add (i * 2)) = some (.string (l[i]).1) ∧ W.cell? ⟨(ad.add (i * 2)).block, (ad.add (i * 2)).off + 1, none⟩ = some (.int .i64 (l[i]).2) := by
  obtain ⟨ad, e, h0, h1⟩ := at_T72 h (i : Int) (by omega) (by omega)
  rw [rd_sT hi] at h0 h1
  exact ⟨ad, e, h0, h1⟩

/-- Where a name stands; -1: nowhere. -/
def fnd (l : Things) (nm : ByteArray) : Int := match l.findIdx? (fun p => decide (p.1 = nm)) with | some i => (i : Int) | none => -1
theorem fnd_at {l : Things} {nm : ByteArray} {i : Nat} (hi : i < l.length) (he : (l[i]).1 = nm) (hno : ∀ j, (h : j < i) → (l[j]'(by omega)).1 ≠ nm) : fnd l nm = i := by
  have : l.findIdx? (fun p => decide (p.1 = nm)) = some i := by
    rw [List.findIdx?_eq_some_iff_getElem]
    exact ⟨hi, by simpa using he, fun j hj => by simpa using hno j hj⟩
  unfold fnd
  rw [this]
theorem fnd_none {l : Things} {nm : ByteArray} (hno : ∀ j, (h : j < l.length) → (l[j]).1 ≠ nm) : fnd l nm = -1 := by
  have : l.findIdx? (fun p => decide (p.1 = nm)) = none := by
    rw [List.findIdx?_eq_none_iff]
    intro p hp
    obtain ⟨j, hj, rfl⟩ := List.mem_iff_getElem.1 hp
    simpa using hno j hj
  unfold fnd
  rw [this]
theorem wr1 {p : Nat} (h : p < 1000000) : wrap64 ((p : Int) + 1) = ((p + 1 : Nat) : Int) := by unfold wrap64; omega

set_option maxHeartbeats 2000000 in
set_option maxRecDepth 100000 in
theorem find_calls (N : Nat) (w : World) (g : Nat) (v : Value) (c : Cs) (nm : ByteArray) (h : RAt N w g v c) (hl : c.l.length < 1000000) :
    Calls Try.prog 42 #[.pointer (some ⟨g, 0, none⟩), .string nm] w (Same (.int .i64 (fnd c.l nm)) w) := by
  have hu45 := Try.underlying45
  have hu43 := Try.underlying43
  have hu72 := Try.underlying72
  obtain ⟨A, cap, rfl, hcap, hr⟩ := h.reads
  have g1 := blk_cell h.blk 1
  have HR := Aside0.mk hr
  clear hr h hcap
  simp only [List.getElem?_toArray, List.getElem?_cons_succ, List.getElem?_cons_zero] at g1
  go_enter Try.func42, Try.ntmps42
  go_wp2
  go_loopg [5] c.l.length (fun kq v5 w' => ∃ (i : Nat), v5 = .int .i64 (i : Int) ∧ Aside0 (i + kq = c.l.length) ∧ Aside0 (∀ j, j < i → (h : j < c.l.length) → (c.l[j]).1 ≠ nm) ∧ Drawn0 w w')
  case atStart => exact ⟨0, rfl, ⟨by omega⟩, ⟨fun j hj => by omega⟩, Drawn0.refl _⟩
  case round =>
    obtain ⟨i, rfl, HI, HN, ⟨m, rfl⟩⟩ := hrel
    by_cases hi : i < c.l.length
    · have p0 : decide ((i : Int) < (c.l.length : Int)) = true := decide_eq_true (by omega)
      have p1 : (0 ≤ (i : Int)) = True := eq_true (by omega)
      have p2 : ((i : Int) < (c.l.length : Int)) = True := eq_true (by omega)
      obtain ⟨ad, hA, s0, s1⟩ := RAt.at_ HR.out hi
      subst hA
      by_cases he : (c.l[i]).1 = nm
      · have hf := fnd_at hi he (fun j hj => HN.out j hj (by omega))
        rw [he] at s0
        rw [hf]
        clear hf he
        go_wp2
        go_ret
        exact ⟨rfl, (Ch.refl _ w).drewN m⟩
      · have e0 : (((c.l[i]).1).toList == nm.toList) = false := beq_eq_false_iff_ne.mpr (fun h => he (toList_inj h))
        have HN2 := Aside0.mk (show ∀ j, j < i + 1 → (h : j < c.l.length) → (c.l[j]).1 ≠ nm from fun j hj h => by
          by_cases hji : j = i
          · subst hji; exact he
          · exact HN.out j (by omega) h)
        clear he
        generalize (c.l[i]).1 = z at *
        go_wp2
        go_roundg (gk - 1)
        case measure => have := HI.out; omega
        case rel => exact ⟨i + 1, by simp, ⟨by have := HI.out; omega⟩, HN2, m, rfl⟩
    · have p0 : decide ((i : Int) < (c.l.length : Int)) = false := decide_eq_false (by omega)
      have hf := fnd_none (l := c.l) (nm := nm) (fun j h => HN.out j (by omega) h)
      have HF := Aside0.mk hf
      clear hf
      go_wp2
      go_ret
      exact ⟨by rw [HF.out]; rfl, (Ch.refl _ w).drewN m⟩
theorem sT_take (l : Things) (i : Nat) : (sT l).take i = sT (l.take i) := by unfold sT; rw [List.map_take]
theorem sT_drop (l : Things) (i : Nat) : (sT l).drop i = sT (l.drop i) := by unfold sT; rw [List.map_drop]
theorem sT_append (a b : Things) : sT a ++ sT b = sT (a ++ b) := by unfold sT; rw [List.map_append]
/-- Behind a call a new row is there; nothing that was has changed. -/
def NewRow (l : Things) (w : World) (e : Ending) (w' : World) : Prop := ∃ A n cap, e = .returned (.slice A n cap) ∧ n = l.length ∧ Kd.R k72 72 w' w.heap.size (fun _ => True) (.slice A n cap) (sT l) ∧ Ch (fun _ => False) w w'
theorem NewRow.of {l : Things} {w : World} {e : Ending} {w' : World} (h : ∃ v, e = .returned v ∧ Kd.R k72 72 w' w.heap.size (fun _ => True) v (sT l) ∧ Ch (fun _ => False) w w') : NewRow l w e w' := by
  obtain ⟨v, he, hr, hc⟩ := h
  obtain ⟨A, cap, rfl⟩ := Kd.R_slice hr
  exact ⟨A, _, cap, he, by simp, hr, hc⟩
set_option maxHeartbeats 2000000 in
set_option maxRecDepth 100000 in
theorem without_calls (N : Nat) (w : World) (g : Nat) (v : Value) (c : Cs) (i : Nat) (h : RAt N w g v c) (hi : i < c.l.length) (hl : c.l.length < 1000000) :
    Calls Try.prog 44 #[.pointer (some ⟨g, 0, none⟩), .int .i64 (i : Int)] w (NewRow (c.l.take i ++ c.l.drop (i + 1)) w) := by
  have hu45 := Try.underlying45
  have hu43 := Try.underlying43
  have hu72 := Try.underlying72
  obtain ⟨A, cap, rfl, hcap, hr⟩ := h.reads
  have g1 := blk_cell h.blk 1
  have H := Aside0.mk h
  have HR := Aside0.mk hr
  have HC := Aside0.mk hcap
  have HI := Aside0.mk hi
  have HL := Aside0.mk hl
  have hr' : Kd.C k72 w A (sT c.l).length (sT c.l) := by rw [sT_length]; exact hr
  have HT := Aside0.mk (Kd.C_take (m := i) hr' (by rw [sT_length]; omega))
  have HD := Aside0.mk (Kd.C_drop (m := i + 1) (c := cap) hr' (by rw [sT_length]; omega) (by rw [sT_length]; omega))
  have p1 : (0 ≤ (i : Int)) = True := eq_true (by omega)
  have p2 : ((i : Int) ≤ (cap : Int)) = True := eq_true (by omega)
  have e1 : wrap64 ((i : Int) + 1) = ((i + 1 : Nat) : Int) := wr1 (by omega)
  have p3 : (0 ≤ (i : Int) + 1 ∧ (i : Int) + 1 ≤ (c.l.length : Int)) = True := eq_true (by omega)
  have p4 : (0 ≤ (i : Int) + 1) = True := eq_true (by omega)
  have p5 : ((i : Int) + 1 ≤ (c.l.length : Int)) = True := eq_true (by omega)
  clear hr h hcap hi hl hr'
  simp only [List.getElem?_toArray, List.getElem?_cons_succ, List.getElem?_cons_zero] at g1
  go_enter Try.func44, Try.ntmps44
  go_wp2_with (first
    | (have B1x := B1; at_builtin; go_loud (refine Kd.R_append_rows k72 (w0 := w) w.heap.size rfl (.tmp 14) (.tmp 21) 43 72 (.agg #[(.string ⟨#[]⟩), (.int .i64 0)]) 24 rfl hu43 info72 rfl (by decide) (by omega) v1 (sT (c.l.take i)) (sT (c.l.drop (i + 1))) _ (c.l.length - (i + 1)) _ (fun _ => True) (fun _ => False) rfl rfl HO.out ?aR (fun _ _ h => h) (fun _ h => h.elim) (fun _ _ => trivial) B1.out B1.out.size (by have := HL.out; have := HI.out; simp; omega) ?_); (case aR => rw [← sT_drop]; have := Kd.C_below HD.out B1.out; rw [List.length_drop, sT_length] at this; exact this); intro v2 w2 ho hb hg hat; have HO2 := Aside0.mk ho; have B2 := Aside0.mk hb; clear ho hb hg hat B1)
    | (at_builtin; go_loud (refine Kd.R_append_rows k72 (w0 := w) w.heap.size rfl (.tmp 6) (.tmp 12) 43 72 (.agg #[(.string ⟨#[]⟩), (.int .i64 0)]) 24 rfl hu43 info72 rfl (by decide) (by omega) (.slice none 0 0) [] (sT (c.l.take i)) A i cap (fun _ => True) (fun _ => False) rfl rfl (Kd.R_nil _ _ _ _ _) ?aR (fun _ _ h => h) (fun _ h => h.elim) (fun _ _ => trivial) (Below.refl _ _) (Nat.le_refl _) (by have := HL.out; have := HI.out; simp; omega) ?_); (case aR => rw [← sT_take]; have := HT.out; rw [List.length_take, sT_length, Nat.min_eq_left (by have := HI.out; omega)] at this; exact this); intro v1 w1 ho hb hg hat; have HO := Aside0.mk ho; have B1 := Aside0.mk hb; have g1' := pw_cell_below hb g1; clear ho hb hg hat g1))
  all_goals go_ret
  all_goals exact NewRow.of ⟨_, rfl, by rw [← sT_append]; exact HO2.out, Ch.of_below B2.out (fun k hk hle => by omega)⟩
end Go.Proofs.Ytcfdldgekfacfaa.Rf
