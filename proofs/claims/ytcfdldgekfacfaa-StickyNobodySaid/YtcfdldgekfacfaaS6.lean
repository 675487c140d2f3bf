/- Put. -/
import Derived.Test.YtcfdldgekfacfaaS5
namespace Go.Proofs.Ytcfdldgekfacfaa.Sk
open Go.RowKit Go.Proofs.YtcfdldgekfacfaaW.PrintWords Go.Proofs.YtcfdldgekfacfaaW.PrintLast Go.Proofs.YtcfdldgekfacfaaW.PrintMore
open Go.Maps (Keyed)
set_option linter.unusedVariables false
set_option linter.unusedSimpArgs false

def setV (cs : List Cel) (i : Nat) (v : Int) : List Cel := cs.set i { ce cs i with v := v }
def setNV (cs : List Cel) (i : Nat) (nm : ByteArray) (v : Int) : List Cel := cs.set i { ce cs i with nm := nm, v := v }
@[simp] theorem setV_length (cs : List Cel) (i : Nat) (v : Int) : (setV cs i v).length = cs.length := by simp [setV]
@[simp] theorem setNV_length (cs : List Cel) (i : Nat) (nm : ByteArray) (v : Int) : (setNV cs i nm v).length = cs.length := by simp [setNV]
@[simp] theorem touchL_length (cs : List Cel) (i : Nat) : (touchL cs i).length = cs.length := by simp [touchL]
theorem Wf.setV {cs : List Cel} (h : Wf cs) (i : Nat) (v : Int) : Wf (setV cs i v) := by
  refine ⟨by simpa using h.1, fun j hj => ?_⟩
  rw [setV_length] at hj ⊢
  by_cases hi : i < cs.length
  · unfold Sk.setV
    rw [ce_set hi]
    split
    · exact h.2 i hi
    · exact h.2 j hj
  · unfold Sk.setV; rw [List.set_eq_of_length_le (by omega)]; exact h.2 j hj
theorem Wf.setNV {cs : List Cel} (h : Wf cs) (i : Nat) (nm : ByteArray) (v : Int) : Wf (setNV cs i nm v) := by
  refine ⟨by simpa using h.1, fun j hj => ?_⟩
  rw [setNV_length] at hj ⊢
  by_cases hi : i < cs.length
  · unfold Sk.setNV
    rw [ce_set hi]
    split
    · exact h.2 i hi
    · exact h.2 j hj
  · unfold Sk.setNV; rw [List.set_eq_of_length_le (by omega)]; exact h.2 j hj
theorem CAt.valued {B : Nat} {W : World} {y : Lay} {s : St} (h : CAt B W y s) {i : Nat} (hi : i < s.cs.length) (v : Int) :
    CAt B (W.setCell ⟨y.gc, i * 4 + 1, none⟩ (.int .i64 v)) y { s with cs := setV s.cs i v } ∧ Ch y.own W (W.setCell ⟨y.gc, i * 4 + 1, none⟩ (.int .i64 v)) := by
  have hc : Ch (fun k => k = y.gc) W (W.setCell ⟨y.gc, i * 4 + 1, none⟩ (.int .i64 v)) := (Ch.refl (fun k => k = y.gc) W).set (.inl rfl) _
  exact ⟨h.ringed hc (h.ring.set _ hi (by omega) rfl) (by simp), hc.gc⟩
/-- Behind a call the cache has other contents in the same place. -/
def Stay (B : Nat) (y : Lay) (s' : St) (v : Value) (w : World) (e : Ending) (w' : World) : Prop := e = .returned v ∧ CAt B w' y s' ∧ Ch y.own w w'

set_option maxHeartbeats 1000000 in
set_option maxRecDepth 100000 in
theorem put_hit (B : Nat) (w : World) (y : Lay) (s : St) (nm : ByteArray) (v : Int) (i : Nat) (h : CAt B w y s) (hn : nm.size ≤ maxLen) (hroom : s.room ≠ 0) (hhas : Maps.has s.D (key nm) = true) (hidx : idx s.D nm = (i : Int)) (hi : i < s.cs.length) (hw : Wf s.cs) :
    Calls Try.prog 9 #[.pointer (some ⟨y.g, 0, none⟩), .string nm, .int .i64 v] w (Stay B y { s with cs := touchL (setV s.cs i v) i } (.tuple #[.string ⟨#[]⟩, .bool false]) w) := by
  have hu64 := Try.underlying64
  have hu66 := Try.underlying66
  have hu62 := Try.underlying62
  have hr0 : (s.room == 0) = false := beq_eq_false_iff_ne.mpr hroom
  have p1 : (0 ≤ (i : Int)) = True := eq_true (by omega)
  have p2 : ((i : Int) < (s.cs.length : Int)) = True := eq_true (by omega)
  have H := Aside0.mk h
  have HN := Aside0.mk hn
  have HW := Aside0.mk hw
  have HX := Aside0.mk hidx
  have HH := Aside0.mk hhas
  clear h hn hw hroom hidx hhas
  go_enter Try.func9, Try.ntmps9
  go_wp2_with (first
    | (go_at_call 36; go_loud (refine (room_calls B w y s H.out).mono ?_); rintro e w1 ⟨rfl, hc⟩; have H1 := Aside0.mk (H.out.ch hc (fun _ _ hk => hk)); have C1 := Aside0.mk (hc.mono (T := y.own) (fun _ _ hk => hk.elim)); clear hc; have c1 := blk_cell H1.out.blk 1; obtain ⟨x0, x1, x2, x3, g2', g3', f3, b0, b1, b2, b3, fz2, hg1, hg3, hne⟩ := H1.out.facts rfl hi; have H2 := Aside0.mk (H1.out.valued hi v))
    | (at_lookup; go_loud (refine wpList_lookup_own_ok_int _ rfl _ _ 51 rfl 9 3 .i64 (Maps.string_keyed Try.underlying9) Try.underlying51 Try.underlying3 (zero3 _) y.gm _ s.D rfl H1.out.map _ (key nm) rfl (WideMaps.keyOf_string_mk Try.underlying9 HN.out) ?_); intro c hat hwc; obtain rfl : c = (i : Int) := (idx_of hat).symm.trans HX.out; rw [HH.out]; clear hat hwc)
    | (go_at_call 37; go_loud (refine (touch_calls _ y.g y.gc y.cap i (setV s.cs i v) y.tail H2.out.1.head H2.out.1.ring (by simpa using hi) (HW.out.setV i v)).mono ?_); rintro e w3 ⟨rfl, hr3, hc3⟩; have H3 := Aside0.mk (H2.out.1.ringed hc3 hr3 (by simp)); have C3 := Aside0.mk (C1.out.trans (H2.out.2.trans hc3.gc (fun _ _ hk => hk)) (fun _ _ hk => hk)); clear hr3 hc3))
  go_ret2
  exact ⟨rfl, H3.out, C3.out⟩

/-- A new thing is put there. -/
def insS (s : St) (nm : ByteArray) (v : Int) : St :=
  { placeS s with D := s.D.put (key nm) (.lit (.int .i64 (placeI s : Int))), cs := firstL (setNV (placeS s).cs (placeI s) nm v) (placeI s) }
theorem placeS_D (s : St) : (placeS s).D = s.D := by unfold placeS; split <;> rfl
theorem placeS_room (s : St) : (placeS s).room = s.room := by unfold placeS; split <;> rfl
theorem CAt.named {B : Nat} {W : World} {y : Lay} {s : St} (h : CAt B W y s) {i : Nat} (hi : i < s.cs.length) (nm : ByteArray) (v : Int) :
    CAt B ((W.setCell ⟨y.gc, i * 4, none⟩ (.string nm)).setCell ⟨y.gc, i * 4 + 1, none⟩ (.int .i64 v)) y { s with cs := setNV s.cs i nm v } ∧ Ch y.own W ((W.setCell ⟨y.gc, i * 4, none⟩ (.string nm)).setCell ⟨y.gc, i * 4 + 1, none⟩ (.int .i64 v)) := by
  have hc : Ch (fun k => k = y.gc) W ((W.setCell ⟨y.gc, i * 4, none⟩ (.string nm)).setCell ⟨y.gc, i * 4 + 1, none⟩ (.int .i64 v)) := ((Ch.refl (fun k => k = y.gc) W).set (.inl rfl) _).set (.inl rfl) _
  have h0 : Ring (W.setCell ⟨y.gc, i * 4, none⟩ (.string nm)) y.gc y.cap (s.cs.set i { ce s.cs i with nm := nm }) y.tail := h.ring.set (j := 0) { ce s.cs i with nm := nm } hi (by omega) rfl
  have h1 := h0.set (i := i) (j := 1) (u := .int .i64 v) { ce s.cs i with nm := nm, v := v } (by simpa using hi) (by omega) (by rw [ce_set hi, if_pos rfl]; rfl)
  rw [List.set_set] at h1
  exact ⟨h.ringed hc h1 (by simp), hc.gc⟩
theorem own_trans {y y' : Lay} {n : Nat} (h : ∀ k, y'.own k → y.own k ∨ n ≤ k) {a b c : World} (hn : a.heap.size ≤ n) (h1 : Ch y.own a b) (h2 : Ch y'.own b c) : Ch y.own a c :=
  h1.trans h2 (fun k hk ho => (h k ho).elim id (fun hle => by omega))

set_option maxHeartbeats 2000000 in
set_option maxRecDepth 100000 in
theorem put_new (B : Nat) (w : World) (y : Lay) (s : St) (nm : ByteArray) (v : Int) (h : CAt B w y s) (hB : B ≤ w.heap.size) (hn : nm.size ≤ maxLen) (hroom : s.room ≠ 0) (hhas : Maps.has s.D (key nm) = false) (hfull : (Maps.size s.D : Int) ≠ s.room)
    (hf : s.fr.length < 1000000) (hmax : s.cs.length < 1000000) (hD : Maps.size s.D < 1000000) (hpl : placeI s < (placeS s).cs.length) (hwp : Wf (placeS s).cs) :
    Calls Try.prog 9 #[.pointer (some ⟨y.g, 0, none⟩), .string nm, .int .i64 v] w (Next B y (insS s nm v) (.tuple #[.string ⟨#[]⟩, .bool false]) w) := by
  have hu64 := Try.underlying64
  have hu66 := Try.underlying66
  have hu62 := Try.underlying62
  have hr0 : (s.room == 0) = false := beq_eq_false_iff_ne.mpr hroom
  have hr1 : ((Maps.size s.D : Int) == s.room) = false := beq_eq_false_iff_ne.mpr hfull
  have p1 : (0 ≤ (placeI s : Int)) = True := eq_true (by omega)
  have p2 : ((placeI s : Int) < ((placeS s).cs.length : Int)) = True := eq_true (by omega)
  have hlen : (placeS s).cs.length ≤ s.cs.length + 1 := by unfold placeS; split <;> simp
  have hval : plainElem (H := Nat) Try.prog 3 (.int .i64 (placeI s : Int)) = some (.lit (.int .i64 (placeI s : Int)), []) := plainElem_int Try.underlying3 (by simp [Lit.wf, IntKind.min, IntKind.max, IntKind.bits, IntKind.signed]; omega)
  have H := Aside0.mk h
  have HB := Aside0.mk hB
  have HN := Aside0.mk hn
  have HW := Aside0.mk hwp
  have HH := Aside0.mk hhas
  have HP := Aside0.mk hpl
  have HV := Aside0.mk hval
  have HF := Aside0.mk hf
  have HM := Aside0.mk hmax
  have HD := Aside0.mk hD
  clear h hB hn hwp hroom hhas hfull hpl hlen hval hf hmax hD
  go_enter Try.func9, Try.ntmps9
  go_wp2_with (first
    | (go_at_call 36; go_loud (refine (room_calls B w y s H.out).mono ?_); rintro e w1 ⟨rfl, hc⟩; have H1 := Aside0.mk (H.out.ch hc (fun _ _ hk => hk)); have C1 := Aside0.mk (hc.mono (T := y.own) (fun _ _ hk => hk.elim)); clear hc; have c1 := blk_cell H1.out.blk 1; have c0 := blk_cell H1.out.blk 0; have hlm : (Builtin.len_ #[51] 3 #[.map (some y.gm)]).run Try.prog w1.drew = .ok (.int .i64 (Maps.size s.D)) w1.drew := (H1.out.map.drew).len Try.underlying51 3)
    | (at_lookup; go_loud (refine wpList_lookup_own_ok_int _ rfl _ _ 51 rfl 9 3 .i64 (Maps.string_keyed Try.underlying9) Try.underlying51 Try.underlying3 (zero3 _) y.gm _ s.D rfl H1.out.map _ (key nm) rfl (WideMaps.keyOf_string_mk Try.underlying9 HN.out) ?_); intro c hat hwc; rw [HH.out]; clear hat hwc))
  go_region
  go_wp2_with (go_at_call 39; go_loud (refine (place_calls B _ y s H1.out.drew (Nat.le_trans HB.out C1.out.size) HF.out HM.out).mono ?_); rintro e w2 ⟨rfl, y', h2, hg, ho, hc⟩; have H2 := Aside0.mk h2; have G2 := Aside0.mk hg; have O2 := Aside0.mk ho; have C2 := Aside0.mk ((C1.out.drew).trans hc (fun _ _ hk => hk)); have c1' := blk_cell h2.blk 1; obtain ⟨x0, x1, x2, x3, g2', g3', f3, b0, b1, b2, b3, fz2, hg1, hg3, hne⟩ := h2.facts rfl HP.out; rw [hg] at c1' g2' g3' f3 hg1 hne; clear g3' f3 h2 hg ho hc; have H3 := Aside0.mk (H2.out.named HP.out nm v))
  go_region
  go_wp2_with (first
    | (at_mapUpdate; go_loud (refine wpList_mapUpdate_own _ rfl _ _ _ 51 rfl 9 3 (Maps.string_keyed Try.underlying9) Try.underlying51 (plainElem Try.prog 3) y'.gm _ _ rfl H3.out.1.drew.map ?hn _ _ (key nm) rfl rfl (WideMaps.keyOf_string_mk Try.underlying9 HN.out) (.lit (.int .i64 (placeI s : Int))) [] HV.out ?_); (case hn => show Maps.size (placeS s).D < maxLen; rw [placeS_D]; have := HD.out; unfold maxLen; omega); intro w4 hown4 hgrow4; have hch4 := (Ch.refl (fun k => k = y'.gm) _).grown hgrow4 (fun k hk => .inl (Option.some.inj hk).symm); have H4 := Aside0.mk (H3.out.1.drew.mapped hch4 hown4); have C4 := Aside0.mk ((H3.out.2.drew).trans hch4.gm (fun _ _ hk => hk)); clear hown4 hgrow4 hch4; have FC := Aside0.mk (first_calls w4 y'.g y'.gc y'.cap (placeI s) _ y'.tail H4.out.head H4.out.ring (by show placeI s < (setNV _ _ _ _).length; rw [setNV_length]; exact HP.out) ((HW.out.setNV _ nm v).2 0 (HW.out.setNV _ nm v).1).2))
    | (go_at_call 40; have FC2 := FC.out; rw [G2.out] at FC2; go_loud (refine FC2.mono ?_); rintro e w5 ⟨rfl, hr5, hc5⟩; have H5 := Aside0.mk (H4.out.ringed hc5 hr5 (by simp)); have C5 := Aside0.mk (C4.out.trans hc5.gc (fun _ _ hk => hk)); clear hr5 hc5 FC2))
  go_ret2
  have he : ({ { { placeS s with cs := setNV (placeS s).cs (placeI s) nm v } with D := (placeS s).D.put (key nm) (.lit (.int .i64 (placeI s : Int))) } with cs := firstL (setNV (placeS s).cs (placeI s) nm v) (placeI s) } : St) = insS s nm v := by unfold insS; rw [← placeS_D s]
  exact ⟨rfl, y', he ▸ H5.out, G2.out, fun k hk => (O2.out k hk).imp id (fun h => Nat.le_trans (C1.out.size) h), own_trans (n := w1.heap.size) O2.out C1.out.size C2.out C5.out⟩
set_option maxHeartbeats 2000000 in
set_option maxRecDepth 100000 in
theorem put_full (B : Nat) (w : World) (y : Lay) (s : St) (nm : ByteArray) (v : Int) (h : CAt B w y s) (hB : B ≤ w.heap.size) (hn : nm.size ≤ maxLen) (hroom : s.room ≠ 0) (hhas : Maps.has s.D (key nm) = false) (hfull : (Maps.size s.D : Int) = s.room) (z : St) (hz : z = outS s (ce s.cs 0).ah) (hws : Wf s.cs) (hnm : (ce s.cs (ce s.cs 0).ah).nm.size ≤ maxLen)
    (hf0 : s.fr.length < 1000000) (hf : z.fr.length < 1000000) (hmax : z.cs.length < 1000000) (hD : Maps.size z.D < 1000000) (hpl : placeI z < (placeS z).cs.length) (hwp : Wf (placeS z).cs) :
    Calls Try.prog 9 #[.pointer (some ⟨y.g, 0, none⟩), .string nm, .int .i64 v] w (Next B y (insS z nm v) (.tuple #[.string (ce s.cs (ce s.cs 0).ah).nm, .bool true]) w) := by
  have hu64 := Try.underlying64
  have hu66 := Try.underlying66
  have hu62 := Try.underlying62
  have hr0 : (s.room == 0) = false := beq_eq_false_iff_ne.mpr hroom
  have hr1 : ((Maps.size s.D : Int) == s.room) = true := beq_iff_eq.mpr hfull
  have p1 : (0 ≤ (placeI z : Int)) = True := eq_true (by omega)
  have p2 : ((placeI z : Int) < ((placeS z).cs.length : Int)) = True := eq_true (by omega)
  have hlen : (placeS z).cs.length ≤ z.cs.length + 1 := by unfold placeS; split <;> simp
  have hval : plainElem (H := Nat) Try.prog 3 (.int .i64 (placeI z : Int)) = some (.lit (.int .i64 (placeI z : Int)), []) := plainElem_int Try.underlying3 (by simp [Lit.wf, IntKind.min, IntKind.max, IntKind.bits, IntKind.signed]; omega)
  have H := Aside0.mk h
  have HWS := Aside0.mk hws
  have HNM := Aside0.mk hnm
  have HF0 := Aside0.mk hf0
  have HZ := Aside0.mk hz
  have HB := Aside0.mk hB
  have HN := Aside0.mk hn
  have HW := Aside0.mk hwp
  have HH := Aside0.mk hhas
  have HP := Aside0.mk hpl
  have HV := Aside0.mk hval
  have HF := Aside0.mk hf
  have HM := Aside0.mk hmax
  have HD := Aside0.mk hD
  clear h hB hn hwp hroom hhas hfull hpl hlen hval hf hmax hD hws hnm hf0 hz
  generalize hgn : (ce s.cs (ce s.cs 0).ah).nm = gnm at *
  have HG := Aside0.mk hgn
  clear hgn
  go_enter Try.func9, Try.ntmps9
  go_wp2_with (first
    | (go_at_call 36; go_loud (refine (room_calls B w y s H.out).mono ?_); rintro e w1 ⟨rfl, hc⟩; have H1 := Aside0.mk (H.out.ch hc (fun _ _ hk => hk)); have C1 := Aside0.mk (hc.mono (T := y.own) (fun _ _ hk => hk.elim)); clear hc; have c1 := blk_cell H1.out.blk 1; have c0 := blk_cell H1.out.blk 0; have hlm : (Builtin.len_ #[51] 3 #[.map (some y.gm)]).run Try.prog w1.drew = .ok (.int .i64 (Maps.size s.D)) w1.drew := (H1.out.map.drew).len Try.underlying51 3)
    | (at_lookup; go_loud (refine wpList_lookup_own_ok_int _ rfl _ _ 51 rfl 9 3 .i64 (Maps.string_keyed Try.underlying9) Try.underlying51 Try.underlying3 (zero3 _) y.gm _ s.D rfl H1.out.map _ (key nm) rfl (WideMaps.keyOf_string_mk Try.underlying9 HN.out) ?_); intro c hat hwc; rw [HH.out]; clear hat hwc))
  go_region
  go_wp2_with (first
    | (go_at_call 38; go_loud (refine (eldest_calls B _ y s H1.out.drew (Nat.le_trans HB.out C1.out.size) HWS.out (by rw [HG.out]; exact HNM.out) HF0.out).mono ?_); rintro e wz ⟨rfl, yz, hz1, hzg, hzo, hzc⟩; rw [HG.out]; rw [← HZ.out] at hz1; have E1 := Aside0.mk hz1; have EG := Aside0.mk hzg; have EO := Aside0.mk hzo; have EC := Aside0.mk ((C1.out.drew).trans hzc (fun _ _ hk => hk)); have ZS := Aside0.mk (show w1.heap.size ≤ wz.heap.size from hzc.size); clear hz1 hzg hzo hzc)
    | (go_at_call 39; have PC := place_calls B _ yz z E1.out (Nat.le_trans HB.out EC.out.size) HF.out HM.out; rw [EG.out] at PC; go_loud (refine PC.mono ?_); clear PC; rintro e w2 ⟨rfl, y', h2, hg0, ho0, hc0⟩; have hg := hg0.trans EG.out; have H2 := Aside0.mk h2; have G2 := Aside0.mk hg; have O2 := Aside0.mk (show ∀ k, y'.own k → y.own k ∨ w1.heap.size ≤ k from fun k hk => (ho0 k hk).elim (fun h => EO.out k h) (fun h => .inr (Nat.le_trans ZS.out h))); have C2 := Aside0.mk (own_trans (n := w1.heap.size) EO.out C1.out.size EC.out hc0); have c1' := blk_cell h2.blk 1; obtain ⟨x0, x1, x2, x3, g2', g3', f3, b0, b1, b2, b3, fz2, hg1, hg3, hne⟩ := h2.facts rfl HP.out; rw [hg] at c1' g2' g3' f3 hg1 hne; clear g3' f3 h2 hg ho0 hc0 hg0; have H3 := Aside0.mk (H2.out.named HP.out nm v)))
  go_region
  go_wp2_with (first
    | (at_mapUpdate; go_loud (refine wpList_mapUpdate_own _ rfl _ _ _ 51 rfl 9 3 (Maps.string_keyed Try.underlying9) Try.underlying51 (plainElem Try.prog 3) y'.gm _ _ rfl H3.out.1.drew.map ?hn _ _ (key nm) rfl rfl (WideMaps.keyOf_string_mk Try.underlying9 HN.out) (.lit (.int .i64 (placeI z : Int))) [] HV.out ?_); (case hn => show Maps.size (placeS z).D < maxLen; rw [placeS_D]; have := HD.out; unfold maxLen; omega); intro w4 hown4 hgrow4; have hch4 := (Ch.refl (fun k => k = y'.gm) _).grown hgrow4 (fun k hk => .inl (Option.some.inj hk).symm); have H4 := Aside0.mk (H3.out.1.drew.mapped hch4 hown4); have C4 := Aside0.mk ((H3.out.2.drew).trans hch4.gm (fun _ _ hk => hk)); clear hown4 hgrow4 hch4; have FC := Aside0.mk (first_calls w4 y'.g y'.gc y'.cap (placeI z) _ y'.tail H4.out.head H4.out.ring (by show placeI z < (setNV _ _ _ _).length; rw [setNV_length]; exact HP.out) ((HW.out.setNV _ nm v).2 0 (HW.out.setNV _ nm v).1).2))
    | (go_at_call 40; have FC2 := FC.out; rw [G2.out] at FC2; go_loud (refine FC2.mono ?_); rintro e w5 ⟨rfl, hr5, hc5⟩; have H5 := Aside0.mk (H4.out.ringed hc5 hr5 (by simp)); have C5 := Aside0.mk (C4.out.trans hc5.gc (fun _ _ hk => hk)); clear hr5 hc5 FC2))
  go_ret2
  have he : ({ { { placeS z with cs := setNV (placeS z).cs (placeI z) nm v } with D := (placeS z).D.put (key nm) (.lit (.int .i64 (placeI z : Int))) } with cs := firstL (setNV (placeS z).cs (placeI z) nm v) (placeI z) } : St) = insS z nm v := by unfold insS; rw [← placeS_D z]
  exact ⟨rfl, y', he ▸ H5.out, G2.out, fun k hk => (O2.out k hk).imp id (fun h => Nat.le_trans (C1.out.size) h), own_trans (n := w1.heap.size) O2.out C1.out.size C2.out C5.out⟩
end Go.Proofs.Ytcfdldgekfacfaa.Sk
