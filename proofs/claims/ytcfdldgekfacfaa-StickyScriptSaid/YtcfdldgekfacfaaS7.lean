/- Get, Peek, Drop. -/
import Derived.Test.YtcfdldgekfacfaaS6
namespace Go.Proofs.Ytcfdldgekfacfaa.Sk
open Go.RowKit Go.Proofs.YtcfdldgekfacfaaW.PrintWords Go.Proofs.YtcfdldgekfacfaaW.PrintLast Go.Proofs.YtcfdldgekfacfaaW.PrintMore
open Go.Maps (Keyed)
set_option linter.unusedVariables false
set_option linter.unusedSimpArgs false

theorem CAt.counted {B : Nat} {W : World} {y : Lay} {s : St} (h : CAt B W y s) (x : Int) :
    CAt B (W.setCell ⟨y.g, 5, none⟩ (.int .i64 x)) y { s with misses := x } ∧ CAt B (W.setCell ⟨y.g, 4, none⟩ (.int .i64 x)) y { s with hits := x } ∧ CAt B (W.setCell ⟨y.g, 0, none⟩ (.int .i64 x)) y { s with room := x } ∧
    ∀ j, Ch y.own W (W.setCell ⟨y.g, j, none⟩ (.int .i64 x)) := by
  have ha := h.apart
  have hs : ∀ j, Ch (fun k => k = y.g) W (W.setCell ⟨y.g, j, none⟩ (.int .i64 x)) := fun j => (Ch.refl (fun k => k = y.g) W).set (.inl rfl) _
  have rest : ∀ j, (W.setCell ⟨y.g, j, none⟩ (.int .i64 x)).ownsMap Try.prog 9 (plainElem Try.prog 3) y.gm (Maps.size s.D) s.D ∧ Ring (W.setCell ⟨y.g, j, none⟩ (.int .i64 x)) y.gc y.cap s.cs y.tail ∧ (W.setCell ⟨y.g, j, none⟩ (.int .i64 x)).ownsRow B 3 1 y.vf s.fr.length (nums s.fr) :=
    fun j => ⟨ownsMap_ch h.map (hs j) (fun e => ha.1 e.symm), h.ring.ch (hs j) (fun e => ha.2.1 e.symm), ownsRow_ch h.free (hs j) (fun k hk => (ha.2.2.2 k hk).1)⟩
  refine ⟨⟨blk_put h.blk 5 _ rfl, (rest 5).1, (rest 5).2.1, (rest 5).2.2, h.bg, h.bm, h.bc⟩, ⟨blk_put h.blk 4 _ rfl, (rest 4).1, (rest 4).2.1, (rest 4).2.2, h.bg, h.bm, h.bc⟩, ⟨blk_put h.blk 0 _ rfl, (rest 0).1, (rest 0).2.1, (rest 0).2.2, h.bg, h.bm, h.bc⟩, fun j => (hs j).mono (fun k _ hk => .inl hk)⟩

theorem ce_setAh_v (cs : List Cel) (i j a : Nat) : (ce (setAh cs i a) j).v = (ce cs j).v := by
  by_cases hi : i < cs.length
  · unfold setAh; rw [ce_set hi]; split
    · rename_i e; subst e; rfl
    · rfl
  · unfold setAh; rw [List.set_eq_of_length_le (by omega)]
theorem ce_setNx_v (cs : List Cel) (i j a : Nat) : (ce (setNx cs i a) j).v = (ce cs j).v := by
  by_cases hi : i < cs.length
  · unfold setNx; rw [ce_set hi]; split
    · rename_i e; subst e; rfl
    · rfl
  · unfold setNx; rw [List.set_eq_of_length_le (by omega)]
theorem touchL_v (cs : List Cel) (i j : Nat) : (ce (touchL cs i) j).v = (ce cs j).v := by
  unfold touchL firstL cutL
  simp only [ce_setAh_v, ce_setNx_v]

set_option maxHeartbeats 1000000 in
set_option maxRecDepth 100000 in
theorem get_miss (B : Nat) (w : World) (y : Lay) (s : St) (nm : ByteArray) (h : CAt B w y s) (hn : nm.size ≤ maxLen) (hroom : s.room ≠ 0) (hhas : Maps.has s.D (key nm) = false) :
    Calls Try.prog 10 #[.pointer (some ⟨y.g, 0, none⟩), .string nm] w (Stay B y { s with misses := wrap64 (s.misses + 1) } (.tuple #[.int .i64 0, .bool false]) w) := by
  have hu64 := Try.underlying64
  have hr0 : (s.room == 0) = false := beq_eq_false_iff_ne.mpr hroom
  have H := Aside0.mk h
  have HN := Aside0.mk hn
  have HH := Aside0.mk hhas
  clear h hn hroom hhas
  go_enter Try.func10, Try.ntmps10
  go_wp2_with (first
    | (go_at_call 36; go_loud (refine (room_calls B w y s H.out).mono ?_); rintro e w1 ⟨rfl, hc⟩; have H1 := Aside0.mk (H.out.ch hc (fun _ _ hk => hk)); have C1 := Aside0.mk (hc.mono (T := y.own) (fun _ _ hk => hk.elim)); clear hc)
    | (go_at_call 41; go_loud (refine (find_calls B w1 y s nm H1.out HN.out).mono ?_); rintro e w2 ⟨rfl, hc⟩; rw [HH.out]; have H2 := Aside0.mk (H1.out.ch hc (fun _ _ hk => hk)); have C2 := Aside0.mk (C1.out.trans (hc.mono (T := y.own) (fun _ _ hk => hk.elim)) (fun _ _ hk => hk)); clear hc; have c5 := blk_cell H2.out.blk 5; have f5 := blk_frozen H2.out.blk 5; have H3 := Aside0.mk (H2.out.counted (wrap64 (s.misses + 1)))))
  go_ret2
  exact ⟨rfl, H3.out.1, C2.out.trans (H3.out.2.2.2 5) (fun _ _ hk => hk)⟩
set_option maxHeartbeats 1000000 in
set_option maxRecDepth 100000 in
theorem get_hit (B : Nat) (w : World) (y : Lay) (s : St) (nm : ByteArray) (i : Nat) (h : CAt B w y s) (hn : nm.size ≤ maxLen) (hroom : s.room ≠ 0) (hhas : Maps.has s.D (key nm) = true) (hidx : idx s.D nm = (i : Int)) (hi : i < s.cs.length) (hw : Wf s.cs) :
    Calls Try.prog 10 #[.pointer (some ⟨y.g, 0, none⟩), .string nm] w (Stay B y { s with hits := wrap64 (s.hits + 1), cs := touchL s.cs i } (.tuple #[.int .i64 (ce s.cs i).v, .bool true]) w) := by
  have hu64 := Try.underlying64
  have hu66 := Try.underlying66
  have hu62 := Try.underlying62
  have hr0 : (s.room == 0) = false := beq_eq_false_iff_ne.mpr hroom
  have p1 : (0 ≤ (i : Int)) = True := eq_true (by omega)
  have p2 : ((i : Int) < (s.cs.length : Int)) = True := eq_true (by omega)
  have H := Aside0.mk h
  have HN := Aside0.mk hn
  have HH := Aside0.mk hhas
  have HX := Aside0.mk hidx
  have HW := Aside0.mk hw
  clear h hn hroom hhas hidx hw
  go_enter Try.func10, Try.ntmps10
  go_wp2_with (first
    | (go_at_call 36; go_loud (refine (room_calls B w y s H.out).mono ?_); rintro e w1 ⟨rfl, hc⟩; have H1 := Aside0.mk (H.out.ch hc (fun _ _ hk => hk)); have C1 := Aside0.mk (hc.mono (T := y.own) (fun _ _ hk => hk.elim)); clear hc)
    | (go_at_call 41; go_loud (refine (find_calls B w1 y s nm H1.out HN.out).mono ?_); rintro e w2 ⟨rfl, hc⟩; rw [HH.out, HX.out]; have H2 := Aside0.mk (H1.out.ch hc (fun _ _ hk => hk)); have C2 := Aside0.mk (C1.out.trans (hc.mono (T := y.own) (fun _ _ hk => hk.elim)) (fun _ _ hk => hk)); clear hc; have c4 := blk_cell H2.out.blk 4; have f4 := blk_frozen H2.out.blk 4; have H3 := Aside0.mk (H2.out.counted (wrap64 (s.hits + 1))))
    | (go_at_call 37; go_loud (refine (touch_calls _ y.g y.gc y.cap i s.cs y.tail H3.out.2.1.head H3.out.2.1.ring hi HW.out).mono ?_); rintro e w4 ⟨rfl, hr4, hc4⟩; have H4 := Aside0.mk (H3.out.2.1.ringed hc4 hr4 (by simp)); have C4 := Aside0.mk (C2.out.trans ((H3.out.2.2.2 4).trans hc4.gc (fun _ _ hk => hk)) (fun _ _ hk => hk)); have g2 := H4.out.head.cell; obtain ⟨-, b1, -, -⟩ := hr4.cell (i := i) (by simpa using hi); rw [touchL_v] at b1; rw [touchL_length] at g2; clear hr4 hc4))
  go_ret2
  exact ⟨rfl, H4.out, C4.out⟩
set_option maxHeartbeats 1000000 in
set_option maxRecDepth 100000 in
theorem peek_miss (B : Nat) (w : World) (y : Lay) (s : St) (nm : ByteArray) (h : CAt B w y s) (hn : nm.size ≤ maxLen) (hhas : Maps.has s.D (key nm) = false) :
    Calls Try.prog 18 #[.pointer (some ⟨y.g, 0, none⟩), .string nm] w (Stay B y s (.tuple #[.int .i64 0, .bool false]) w) := by
  have H := Aside0.mk h
  have HN := Aside0.mk hn
  have HH := Aside0.mk hhas
  clear h hn hhas
  go_enter Try.func18, Try.ntmps18
  go_wp2_with (go_at_call 41; go_loud (refine (find_calls B w y s nm H.out HN.out).mono ?_); rintro e w2 ⟨rfl, hc⟩; rw [HH.out]; have H2 := Aside0.mk (H.out.ch hc (fun _ _ hk => hk)); have C2 := Aside0.mk (hc.mono (T := y.own) (fun _ _ hk => hk.elim)); clear hc)
  go_ret2
  exact ⟨rfl, H2.out, C2.out⟩
set_option maxHeartbeats 1000000 in
set_option maxRecDepth 100000 in
theorem peek_hit (B : Nat) (w : World) (y : Lay) (s : St) (nm : ByteArray) (i : Nat) (h : CAt B w y s) (hn : nm.size ≤ maxLen) (hhas : Maps.has s.D (key nm) = true) (hidx : idx s.D nm = (i : Int)) (hi : i < s.cs.length) :
    Calls Try.prog 18 #[.pointer (some ⟨y.g, 0, none⟩), .string nm] w (Stay B y s (.tuple #[.int .i64 (ce s.cs i).v, .bool true]) w) := by
  have hu64 := Try.underlying64
  have hu66 := Try.underlying66
  have hu62 := Try.underlying62
  have p1 : (0 ≤ (i : Int)) = True := eq_true (by omega)
  have p2 : ((i : Int) < (s.cs.length : Int)) = True := eq_true (by omega)
  have H := Aside0.mk h
  have HN := Aside0.mk hn
  have HH := Aside0.mk hhas
  have HX := Aside0.mk hidx
  clear h hn hhas hidx
  go_enter Try.func18, Try.ntmps18
  go_wp2_with (go_at_call 41; go_loud (refine (find_calls B w y s nm H.out HN.out).mono ?_); rintro e w2 ⟨rfl, hc⟩; rw [HH.out, HX.out]; have H2 := Aside0.mk (H.out.ch hc (fun _ _ hk => hk)); have C2 := Aside0.mk (hc.mono (T := y.own) (fun _ _ hk => hk.elim)); clear hc; have g2 := H2.out.head.cell; obtain ⟨-, b1, -, -⟩ := H2.out.ring.cell hi)
  go_ret2
  exact ⟨rfl, H2.out, C2.out⟩
set_option maxHeartbeats 1000000 in
set_option maxRecDepth 100000 in
theorem drop_miss (B : Nat) (w : World) (y : Lay) (s : St) (nm : ByteArray) (h : CAt B w y s) (hn : nm.size ≤ maxLen) (hhas : Maps.has s.D (key nm) = false) :
    Calls Try.prog 20 #[.pointer (some ⟨y.g, 0, none⟩), .string nm] w (Stay B y s (.bool false) w) := by
  have H := Aside0.mk h
  have HN := Aside0.mk hn
  have HH := Aside0.mk hhas
  clear h hn hhas
  go_enter Try.func20, Try.ntmps20
  go_wp2_with (go_at_call 41; go_loud (refine (find_calls B w y s nm H.out HN.out).mono ?_); rintro e w2 ⟨rfl, hc⟩; rw [HH.out]; have H2 := Aside0.mk (H.out.ch hc (fun _ _ hk => hk)); have C2 := Aside0.mk (hc.mono (T := y.own) (fun _ _ hk => hk.elim)); clear hc)
  go_ret
  exact ⟨rfl, H2.out, C2.out⟩
set_option maxHeartbeats 1000000 in
set_option maxRecDepth 100000 in
theorem drop_hit (B : Nat) (w : World) (y : Lay) (s : St) (nm : ByteArray) (i : Nat) (h : CAt B w y s) (hB : B ≤ w.heap.size) (hn : nm.size ≤ maxLen) (hhas : Maps.has s.D (key nm) = true) (hidx : idx s.D nm = (i : Int)) (hi : i < s.cs.length) (hw : Wf s.cs) (hnm : (ce s.cs i).nm.size ≤ maxLen) (hfr : s.fr.length < 1000000) :
    Calls Try.prog 20 #[.pointer (some ⟨y.g, 0, none⟩), .string nm] w (Next B y (outS s i) (.bool true) w) := by
  have H := Aside0.mk h
  have HB := Aside0.mk hB
  have HN := Aside0.mk hn
  have HH := Aside0.mk hhas
  have HX := Aside0.mk hidx
  have HW := Aside0.mk hw
  have HM := Aside0.mk hnm
  clear h hn hhas hidx hw hnm hB
  go_enter Try.func20, Try.ntmps20
  go_wp2_with (first
    | (go_at_call 41; go_loud (refine (find_calls B w y s nm H.out HN.out).mono ?_); rintro e w2 ⟨rfl, hc⟩; rw [HH.out, HX.out]; have H2 := Aside0.mk (H.out.ch hc (fun _ _ hk => hk)); have C2 := Aside0.mk (hc.mono (T := y.own) (fun _ _ hk => hk.elim)); clear hc)
    | (go_at_call 45; go_loud (refine (out_calls B w2 y s i H2.out (Nat.le_trans HB.out C2.out.size) hi HW.out HM.out hfr).mono ?_); rintro e w3 ⟨rfl, y', h3, hg, ho, hc⟩; have H3 := Aside0.mk h3; have G3 := Aside0.mk hg; have O3 := Aside0.mk ho; have C3 := Aside0.mk (C2.out.trans hc (fun _ _ hk => hk)); clear h3 hg ho hc))
  go_ret
  exact ⟨rfl, y', H3.out, G3.out, fun k hk => (O3.out k hk).imp id (fun h => Nat.le_trans C2.out.size h), C3.out⟩
end Go.Proofs.Ytcfdldgekfacfaa.Sk
