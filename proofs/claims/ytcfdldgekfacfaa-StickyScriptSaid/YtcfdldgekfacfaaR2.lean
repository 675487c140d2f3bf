/- The document's cache in memory: ahead, Peek, Drop, Get, Put. -/
import Derived.Test.YtcfdldgekfacfaaR1
import Derived.StillTailTactics
namespace Go.Proofs.Ytcfdldgekfacfaa.Rf
open Go.RowKit Sk PRef Go.Proofs.YtcfdldgekfacfaaW.PrintWords Go.Proofs.YtcfdldgekfacfaaW.PrintLast Go.Proofs.YtcfdldgekfacfaaW.PrintMore
set_option linter.unusedVariables false
set_option linter.unusedSimpArgs false

theorem ahead_calls (w : World) (nm : ByteArray) (v : Int) (A : Option Addr) (cap : Nat) (l : Things) (h : Kd.C k72 w A l.length (sT l)) (hc : l.length ≤ cap) (hl : l.length < 1000000) :
    Calls Try.prog 43 #[.agg #[.string nm, .int .i64 v], .slice A l.length cap] w (NewRow ((nm, v) :: l) w) := by
  have h' : Kd.C k72 w A (sT l).length (sT l) := by rw [sT_length]; exact h
  have := prompterref19_ahead.calls nm v A cap (sT l) (⟨nm, v⟩ :: sT l) w h' (by simpa using hc) (by
    unfold prompterref19_ahead.f
    simp
    omega)
  rw [sT_length] at this
  exact this.mono fun e w' ⟨v0, he, hr, hb⟩ => NewRow.of ⟨v0, he, hr, Ch.of_below hb (fun k hk hle => by omega)⟩
theorem ahead_row (w : World) (nm : ByteArray) (v : Int) (A : Option Addr) (n cap N : Nat) (l : Things) (hr : Kd.R k72 72 w N (fun _ => True) (.slice A n cap) (sT l)) (hl : l.length < 1000000) :
    Calls Try.prog 43 #[.agg #[.string nm, .int .i64 v], .slice A n cap] w (NewRow ((nm, v) :: l) w) := by
  obtain ⟨e, h2, h3⟩ := Kd.R_reads' hr
  rw [sT_length] at e h3
  subst e
  exact ahead_calls w nm v A cap l h3 h2 hl
/-- Where a name is found. -/
theorem fnd_cases (l : Things) (nm : ByteArray) : (fnd l nm = -1 ∧ ¬ isIn l nm) ∨ ∃ (i : Nat) (h : i < l.length), fnd l nm = (i : Int) ∧ (l[i]).1 = nm := by
  unfold fnd
  cases hf : l.findIdx? (fun p => decide (p.1 = nm)) with
  | none =>
    refine .inl ⟨rfl, ?_⟩
    rintro ⟨v, hv⟩
    have := List.findIdx?_eq_none_iff.1 hf _ hv
    simp at this
  | some i =>
    obtain ⟨hi, hp, _⟩ := List.findIdx?_eq_some_iff_getElem.1 hf
    exact .inr ⟨i, hi, rfl, of_decide_eq_true hp⟩
theorem at_wo {l : Things} {nm : ByteArray} {i : Nat} (hd : (l.map (·.1)).Nodup) (hi : i < l.length) (he : (l[i]).1 = nm) : l.take i ++ l.drop (i + 1) = wo l nm ∧ val l nm = (l[i]).2 ∧ isIn l nm := by
  have hsp : l = l.take i ++ l[i] :: l.drop (i + 1) := by rw [← List.drop_eq_getElem_cons hi, List.take_append_drop]
  generalize hx : l[i] = x at *
  generalize l.take i = a at *
  generalize l.drop (i + 1) = b at *
  subst hsp
  clear hi hx
  rw [List.map_append, List.map_cons, List.nodup_append, List.nodup_cons] at hd
  obtain ⟨h1, ⟨h2, h3⟩, h4⟩ := hd
  have ha : ∀ p, p ∈ a → p.1 ≠ nm := fun p hp e => h4 _ (List.mem_map.2 ⟨p, hp, rfl⟩) _ (List.mem_cons_self ..) (e.trans he.symm)
  have hb : ∀ p, p ∈ b → p.1 ≠ nm := fun p hp e => h2 (List.mem_map.2 ⟨p, hp, e.trans he.symm⟩)
  refine ⟨?_, ?_, ⟨x.2, by rw [← he]; simp⟩⟩
  · unfold wo
    rw [List.filter_append, List.filter_cons_of_neg (by simp [he]), List.filter_eq_self.2 (fun p hp => by simpa using ha p hp), List.filter_eq_self.2 (fun p hp => by simpa using hb p hp)]
  · unfold val
    rw [List.find?_append]
    have : a.find? (fun p => decide (p.1 = nm)) = none := List.find?_eq_none.2 (fun p hp => by simpa using ha p hp)
    rw [this]
    simp [he]
/-- Behind a call the document's cache is another. -/
def RPost (N g : Nat) (c' : Cs) (v : Value) (w : World) (e : Ending) (w' : World) : Prop := e = .returned v ∧ (∃ u, RAt N w' g u c') ∧ Ch (fun k => k = g) w w'
theorem Ch.toG {g : Nat} {w w' : World} (h : Ch (fun _ => False) w w') : Ch (fun k => k = g) w w' := h.mono (fun _ _ hk => hk.elim)
/-- Its row is another, that came since. -/
theorem RAt.rowed {N : Nat} {W V : World} {g : Nat} {v v' : Value} {c : Cs} {l : Things} (h : RAt N W g v c) (hN : N ≤ W.heap.size) (hc : Ch (fun _ => False) W V) (hr : Kd.R k72 72 V W.heap.size (fun _ => True) v' (sT l)) :
    (∃ u, V.cell? ⟨g, 1, none⟩ = some u) ∧ V.frozen? ⟨g, 1, none⟩ = false ∧ RAt N (V.setCell ⟨g, 1, none⟩ v') g v' { c with l := l } ∧ Ch (fun k => k = g) W (V.setCell ⟨g, 1, none⟩ v') := by
  have hb := hc.keep h.blk (fun h => h)
  have hs : Ch (fun k => k = g) V (V.setCell ⟨g, 1, none⟩ v') := (Ch.refl (fun k => k = g) V).set (.inl rfl) _
  have hr' : Kd.R k72 72 V N (fun _ => True) v' (sT l) := Kd.R_lower hr hN
  refine ⟨⟨_, blk_cell hb 1⟩, blk_frozen hb 1, ⟨by simpa using blk_set hb 1 v', R_ch hr' hs (fun k hk e => ?_), h.ge⟩, (Ch.toG hc).trans hs (fun _ _ hk => hk)⟩
  subst e
  exact Kd.R_ne hr' hb (by decide) hk.symm
set_option maxHeartbeats 2000000 in
set_option maxRecDepth 100000 in
theorem peek_calls (N : Nat) (w : World) (g : Nat) (v : Value) (c : Cs) (nm : ByteArray) (h : RAt N w g v c) (hl : c.l.length < 1000000) (hd : Nd c.l) :
    Calls Try.prog 19 #[.pointer (some ⟨g, 0, none⟩), .string nm] w (Same (.tuple #[.int .i64 (val c.l nm), .bool (inB c.l nm)]) w) := by
  have hu45 := Try.underlying45
  have hu43 := Try.underlying43
  have hu72 := Try.underlying72
  rcases fnd_cases c.l nm with ⟨hf, hn⟩ | ⟨i, hi, hf, he⟩
  · have hb : inB c.l nm = false := by
      cases hb : inB c.l nm
      · rfl
      · exact absurd (inB_iff.1 hb) hn
    have hv : val c.l nm = 0 := val_out hn
    rw [hb, hv]
    have H := Aside0.mk h
    have HF := Aside0.mk hf
    clear h hf hb hv hn
    go_enter Try.func19, Try.ntmps19
    go_wp2_with (go_at_call 42; go_loud (refine (find_calls N w g v c nm H.out hl).mono ?_); rintro e w1 ⟨rfl, hc⟩; rw [HF.out]; have C1 := Aside0.mk hc; clear hc)
    go_ret2
    exact ⟨rfl, C1.out⟩
  · obtain ⟨hw, hv, hin⟩ := at_wo hd hi he
    rw [inB_iff.2 hin, hv]
    obtain ⟨A, cap, rfl, hcap, hr⟩ := h.reads
    obtain ⟨ad, rfl, s0, s1⟩ := RAt.at_ hr hi
    have g1 := blk_cell h.blk 1
    simp only [List.getElem?_toArray, List.getElem?_cons_succ, List.getElem?_cons_zero] at g1
    have H := Aside0.mk h
    have HF := Aside0.mk hf
    have p1 : (0 ≤ (i : Int)) = True := eq_true (by omega)
    have p2 : ((i : Int) < (c.l.length : Int)) = True := eq_true (by omega)
    have p3 : decide ((i : Int) < 0) = false := decide_eq_false (by omega)
    clear h hf hw hv hin he hr hcap
    generalize (c.l[i]).2 = z at *
    generalize (c.l[i]).1 = y at *
    go_enter Try.func19, Try.ntmps19
    go_wp2_with (go_at_call 42; go_loud (refine (find_calls N w g _ c nm H.out hl).mono ?_); rintro e w1 ⟨rfl, hc⟩; rw [HF.out]; have C1 := Aside0.mk hc; have g1' := pw_cell_below (hc.below (Nat.le_refl _) (fun _ hk => hk.elim)) g1; have s0' := pw_cell_below (hc.below (Nat.le_refl _) (fun _ hk => hk.elim)) s0; have s1' := pw_cell_below (hc.below (Nat.le_refl _) (fun _ hk => hk.elim)) s1; clear hc g1 s0 s1)
    go_ret2
    exact ⟨rfl, C1.out⟩
set_option maxHeartbeats 2000000 in
set_option maxRecDepth 100000 in
theorem drop_calls (N : Nat) (w : World) (g : Nat) (v : Value) (c : Cs) (nm : ByteArray) (h : RAt N w g v c) (hN : N ≤ w.heap.size) (hl : c.l.length < 1000000) (hd : Nd c.l) :
    Calls Try.prog 21 #[.pointer (some ⟨g, 0, none⟩), .string nm] w (RPost N g { c with l := wo c.l nm } (.bool (inB c.l nm)) w) := by
  have hu45 := Try.underlying45
  have hu43 := Try.underlying43
  have hu72 := Try.underlying72
  have HN := Aside0.mk hN
  clear hN
  rcases fnd_cases c.l nm with ⟨hf, hn⟩ | ⟨i, hi, hf, he⟩
  · have hb : inB c.l nm = false := by
      cases hb : inB c.l nm
      · rfl
      · exact absurd (inB_iff.1 hb) hn
    rw [hb, wo_out hn]
    have H := Aside0.mk h
    have HF := Aside0.mk hf
    clear h hf hb hn
    go_enter Try.func21, Try.ntmps21
    go_wp2_with (go_at_call 42; go_loud (refine (find_calls N w g v c nm H.out hl).mono ?_); rintro e w1 ⟨rfl, hc⟩; rw [HF.out]; have C1 := Aside0.mk hc; clear hc)
    go_ret
    exact ⟨rfl, ⟨_, H.out.same C1.out⟩, Ch.toG C1.out⟩
  · obtain ⟨hw, hv, hin⟩ := at_wo hd hi he
    rw [inB_iff.2 hin, ← hw]
    have H := Aside0.mk h
    have HF := Aside0.mk hf
    have p3 : decide ((i : Int) < 0) = false := decide_eq_false (by omega)
    clear h hf hw hv hin he
    go_enter Try.func21, Try.ntmps21
    go_wp2_with (first
      | (go_at_call 42; go_loud (refine (find_calls N w g _ c nm H.out hl).mono ?_); rintro e w1 ⟨rfl, hc⟩; rw [HF.out]; have C1 := Aside0.mk hc; have H1 := Aside0.mk (H.out.same hc); clear hc)
      | (go_at_call 44; go_loud (refine (without_calls N _ g _ c i H1.out hi hl).mono ?_); rintro e w2 ⟨A2, n2, c2, rfl, hn2, hr, hc⟩; clear hn2; have HR := Aside0.mk (H1.out.rowed (Nat.le_trans HN.out C1.out.size) hc hr); clear hc hr; obtain ⟨c5, k5⟩ := HR.out.1; have f5 := HR.out.2.1))
    go_ret
    exact ⟨rfl, ⟨_, HR.out.2.2.1⟩, (Ch.toG C1.out).trans HR.out.2.2.2 (fun _ _ hk => hk)⟩
theorem RAt.alloc {N : Nat} {W : World} {g : Nat} {v : Value} {c : Cs} (h : RAt N W g v c) (o : Obj) : RAt N (W.alloc o) g v c := h.same ((Ch.refl _ W).alloc o)
theorem RAt.away {N : Nat} {W : World} {g n cap : Nat} {ad : Addr} {c : Cs} (h : RAt N W g (.slice (some ad) n cap) c) (k : Nat) : (ad.add k).block ≠ g := by
  have : (ad.add k).block = ad.block := by unfold Addr.add; split <;> rfl
  rw [this]
  obtain ⟨inner, ho⟩ := Kd.R_own h.row
  rcases ho.2 with ⟨e, _⟩ | ⟨k', cap', cur, e, _⟩
  · cases e
  · simp only [Value.slice.injEq, Option.some.injEq] at e
    rw [e.1]
    exact h.ne k' (by rw [e.1]; rfl)
theorem blk_new_set (W : World) (p : Addr) (u : Value) (o : Obj) : ((W.setCell p u).alloc o).heap[W.heap.size]? = some o := by
  have := blk_new (W.setCell p u) o
  rwa [show (W.setCell p u).heap.size = W.heap.size from by simp [World.setCell]] at this
theorem RAt.counted {N : Nat} {W : World} {g : Nat} {v : Value} {c : Cs} (h : RAt N W g v c) :
    (∀ x, RAt N (W.setCell ⟨g, 2, none⟩ (.int .i64 x)) g v { c with hits := x } ∧ RAt N (W.setCell ⟨g, 3, none⟩ (.int .i64 x)) g v { c with misses := x }) ∧ ∀ k u, Ch (fun k => k = g) W (W.setCell ⟨g, k, none⟩ u) := by
  have hs : ∀ k u, Ch (fun k => k = g) W (W.setCell ⟨g, k, none⟩ u) := fun k u => (Ch.refl (fun k => k = g) W).set (.inl rfl) _
  refine ⟨fun x => ⟨⟨by simpa using blk_set h.blk 2 (.int .i64 x), R_ch h.row (hs 2 _) (fun k hk => h.ne k hk), h.ge⟩, ⟨by simpa using blk_set h.blk 3 (.int .i64 x), R_ch h.row (hs 3 _) (fun k hk => h.ne k hk), h.ge⟩⟩, hs⟩
set_option maxHeartbeats 2000000 in
set_option maxRecDepth 100000 in
theorem get_calls (N : Nat) (w : World) (g : Nat) (v : Value) (c : Cs) (nm : ByteArray) (h : RAt N w g v c) (hN : N ≤ w.heap.size) (hl : c.l.length < 1000000) (hd : Nd c.l) :
    Calls Try.prog 17 #[.pointer (some ⟨g, 0, none⟩), .string nm] w (RPost N g (c.get nm) (.tuple #[.int .i64 (val c.l nm), .bool (inB c.l nm)]) w) := by
  have hu45 := Try.underlying45
  have hu43 := Try.underlying43
  have hu72 := Try.underlying72
  have HN := Aside0.mk hN
  clear hN
  rcases fnd_cases c.l nm with ⟨hf, hn⟩ | ⟨i, hi, hf, he⟩
  · have hb : inB c.l nm = false := by
      cases hb : inB c.l nm
      · rfl
      · exact absurd (inB_iff.1 hb) hn
    have hg : c.get nm = { c with misses := wrap64 (c.misses + 1) } := by unfold Cs.get; rw [hb, get_out hn]; rfl
    rw [hb, val_out hn, hg]
    have H := Aside0.mk h
    have HF := Aside0.mk hf
    clear h hf hb hn hg
    go_enter Try.func17, Try.ntmps17
    go_wp2_with (go_at_call 42; go_loud (refine (find_calls N w g v c nm H.out hl).mono ?_); rintro e w1 ⟨rfl, hc⟩; rw [HF.out]; have C1 := Aside0.mk hc; have H1 := Aside0.mk (H.out.same hc); have HC := Aside0.mk (H1.out.counted); have c3 := blk_cell H1.out.blk 3; have f3 := blk_frozen H1.out.blk 3; clear hc)
    go_ret2
    exact ⟨rfl, ⟨_, (HC.out.1 _).2⟩, (Ch.toG C1.out).trans (HC.out.2 3 _) (fun _ _ hk => hk)⟩
  · obtain ⟨hw, hv, hin⟩ := at_wo hd hi he
    have hg : c.get nm = { c with hits := wrap64 (c.hits + 1), l := (nm, (c.l[i]).2) :: (c.l.take i ++ c.l.drop (i + 1)) } := by unfold Cs.get; rw [inB_iff.2 hin, get_in hin, hw, hv]; rfl
    rw [inB_iff.2 hin, hv, hg]
    obtain ⟨A, cap, rfl, hcap, hr⟩ := h.reads
    obtain ⟨ad, rfl, s0, s1⟩ := RAt.at_ hr hi
    have H := Aside0.mk h
    have HF := Aside0.mk hf
    have HV := Aside0.mk (fun j : Nat => fnd_cases c.l nm)
    have HI := Aside0.mk hi
    have HL := Aside0.mk hl
    rw [he] at s0
    have p1 : (0 ≤ (i : Int)) = True := eq_true (by omega)
    have p2 : ((i : Int) < (c.l.length : Int)) = True := eq_true (by omega)
    have p3 : decide ((i : Int) < 0) = false := decide_eq_false (by omega)
    have hlw : (c.l.take i ++ c.l.drop (i + 1)).length < 1000000 := by simp; omega
    have HLW := Aside0.mk hlw
    have hne := h.away (i * 2)
    have hne' : g ≠ (ad.add (i * 2)).block := fun e => hne e.symm
    clear h hf hw hv hin he hg hr hcap hlw
    generalize (c.l[i]).2 = z at *
    clear hi hl
    go_enter Try.func17, Try.ntmps17
    go_wp2_with (first
      | (go_at_call 42; go_loud (refine (find_calls N w g _ c nm H.out HL.out).mono ?_); rintro e w1 ⟨rfl, hc⟩; rw [HF.out]; have C1 := Aside0.mk hc; have H1 := Aside0.mk (H.out.same hc); have HC := Aside0.mk (H1.out.counted); have c2 := blk_cell H1.out.blk 2; have f2 := blk_frozen H1.out.blk 2; have g1 := blk_cell H1.out.blk 1; have s0' := pw_cell_below (hc.below (Nat.le_refl _) (fun _ hk => hk.elim)) s0; have s1' := pw_cell_below (hc.below (Nat.le_refl _) (fun _ hk => hk.elim)) s1; have t0 : ∀ u, (w1.setCell ⟨g, 2, none⟩ u).cell? (ad.add (i * 2)) = some (.string nm) := fun u => (World.cell?_setCell_far _ _ _ _ hne').trans s0'; have t1 : ∀ u, (w1.setCell ⟨g, 2, none⟩ u).cell? ⟨(ad.add (i * 2)).block, (ad.add (i * 2)).off + 1, none⟩ = some (.int .i64 z) := fun u => (World.cell?_setCell_far _ _ _ _ hne').trans s1'; clear hc s0 s1 s0' s1'))
    have H2 := Aside0.mk ((HC.out.1 (wrap64 (c.hits + 1))).1.alloc (.cells #[.string nm, .int .i64 z] 72))
    have C2 := Aside0.mk (((Ch.toG C1.out).trans (HC.out.2 2 (.int .i64 (wrap64 (c.hits + 1)))) (fun _ _ hk => hk)).alloc (.cells #[.string nm, .int .i64 z] 72))
    have xb := blk_new_set w1 ⟨g, 2, none⟩ (.int .i64 (wrap64 (c.hits + 1))) (.cells #[.string nm, .int .i64 z] 72)
    have x0 := (blk_cell xb 0).trans rfl
    have x1 := (blk_cell xb 1).trans rfl
    have hsz : w1.heap.size < ((w1.setCell ⟨g, 2, none⟩ (.int .i64 (wrap64 (c.hits + 1)))).alloc (.cells #[.string nm, .int .i64 z] 72)).heap.size := by simp
    have hxg : w1.heap.size ≠ g := by have := blk_lt H1.out.blk; omega
    clear t0 t1 g1 c2 f2 HC xb
    generalize ((w1.setCell ⟨g, 2, none⟩ (.int .i64 (wrap64 (c.hits + 1)))).alloc (.cells #[.string nm, .int .i64 z] 72)) = W2 at *
    generalize w1.heap.size = b at *
    have SZ := Aside0.mk hsz
    have XG := Aside0.mk hxg
    clear hsz hxg H1 C1
    go_region_with (first
      | (go_at_call 44; go_loud (refine (without_calls N _ g _ { c with hits := wrap64 (c.hits + 1) } i (H2.out.same (Ch.refl _ W2).drew) HI.out HL.out).mono ?_); rintro e w3 ⟨A3, n3, c3, rfl, hn3, hr, hc⟩; have N3 := Aside0.mk hn3; have R3 := Aside0.mk hr; have C3 := Aside0.mk hc; have H3 := Aside0.mk ((H2.out.same (Ch.refl _ W2).drew).same hc); have y0 := pw_cell_below (hc.below (Nat.le_refl _) (fun _ hk => hk.elim)) x0; have y1 := pw_cell_below (hc.below (Nat.le_refl _) (fun _ hk => hk.elim)) x1; clear hn3 hr hc)
      | (go_at_call 43; go_loud (refine (ahead_row w3 nm z A3 n3 c3 _ _ R3.out HLW.out).mono ?_); rintro e w4 ⟨A4, n4, c4, rfl, hn4, hr, hc⟩; have RR := Aside0.mk (H3.out.rowed (Nat.le_trans HN.out (Nat.le_trans C2.out.size C3.out.size)) hc hr); obtain ⟨u5, k5⟩ := RR.out.1; have f5 := RR.out.2.1; have z1 : ∀ u, (w4.setCell ⟨g, 1, none⟩ u).cell? ⟨b, 1, none⟩ = some (.int .i64 z) := fun u => (World.cell?_setCell_far _ _ _ _ (fun e => XG.out e.symm)).trans (pw_cell_below (hc.below (Nat.le_refl _) (fun _ hk => hk.elim)) y1); clear hn4 hr hc))
    all_goals go_wp2
    all_goals (try go_region)
    all_goals (try go_wp2)
    all_goals go_ret2
    all_goals exact ⟨rfl, ⟨_, RR.out.2.2.1⟩, C2.out.trans ((((Ch.refl (fun k => k = g) W2).drew).trans (Ch.toG C3.out) (fun _ _ hk => hk)).trans RR.out.2.2.2 (fun _ _ hk => hk)) (fun _ _ hk => hk)⟩
end Go.Proofs.Ytcfdldgekfacfaa.Rf
