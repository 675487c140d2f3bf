/- find, out, eldest. -/
import Derived.Test.YtcfdldgekfacfaaS2
namespace Go.Proofs.Ytcfdldgekfacfaa.Sk
open Go.RowKit Go.Proofs.YtcfdldgekfacfaaW.PrintWords Go.Proofs.YtcfdldgekfacfaaW.PrintLast Go.Proofs.YtcfdldgekfacfaaW.PrintMore
open Go.Maps (Keyed)
set_option linter.unusedVariables false
set_option linter.unusedSimpArgs false

theorem zero3 (w : World) : (zeroValue 3).run Try.prog w = .ok (.int .i64 0) w := by kernel_rfl
theorem info3 : (Try.prog.info? 3).map (fun i => (i.zero, i.size, i.bytes)) = some (some (.int .i64 0), 1, 8) := by kernel_rfl
theorem info66 : (Try.prog.info? 66).map (fun i => (i.zero, i.size, i.bytes)) = some (some (.agg #[(.string ⟨#[]⟩), (.int .i64 0), (.int .i64 0), (.int .i64 0)]), 4, 40) := by kernel_rfl
/-- A name as a key. -/
def key (nm : ByteArray) : Lit := .string nm.data.toList
/-- Where a name is said to lie. -/
def idx (D : DataW Nat) (nm : ByteArray) : Int := match D.atKey (key nm) (.lit (.int .i64 0)) with | .lit (.int .i64 c) => c | _ => 0
theorem idx_of {D : DataW Nat} {nm : ByteArray} {c : Int} (h : D.atKey (key nm) (.lit (.int .i64 0)) = .lit (.int .i64 c)) : idx D nm = c := by unfold idx; rw [h]
theorem ownsMap_tight {W : World} {b n : Nat} {D : DataW Nat} (h : W.ownsMap Try.prog 9 (plainElem Try.prog 3) b n D) : W.ownsMap Try.prog 9 (plainElem Try.prog 3) b (Maps.size D) D := by
  obtain ⟨es, clock, hb, F, _, rfl⟩ := h
  refine ⟨es, clock, hb, F, ?_, rfl⟩
  have e1 : Maps.size (DataW.map ((es.toList.map (Go.WideElems.rg Try.prog 9 (plainElem (H := Nat) Try.prog 3))).foldr DataW.insert [])) = es.size := by simp [Maps.size, length_sorted]
  rw [e1]
  exact Nat.le_refl _
theorem ch_turned {W V : World} {b : Nat} (h : W.mapTurned V b) : Ch (fun k => k = b) W V := by
  obtain ⟨es, c, es', c', hb, rfl⟩ := h
  exact ⟨rfl, rfl, rfl, by simp [ChangeMaps.setBlock], fun k hk hn => ChangeMaps.heap_setBlock_other hb _ (fun e => hn e)⟩

set_option maxHeartbeats 1000000 in
set_option maxRecDepth 100000 in
theorem find_calls (B : Nat) (w : World) (y : Lay) (s : St) (nm : ByteArray) (h : CAt B w y s) (hn : nm.size ≤ maxLen) :
    Calls Try.prog 41 #[.pointer (some ⟨y.g, 0, none⟩), .string nm] w (Same (.tuple #[.int .i64 (idx s.D nm), .bool (Maps.has s.D (key nm))]) w) := by
  have hu := Try.underlying64
  have c1 := blk_cell h.blk 1
  have HM := Aside0.mk h.map
  have HN := Aside0.mk hn
  clear h hn
  go_enter Try.func41, Try.ntmps41
  go_wp2_with (at_lookup; go_loud (refine wpList_lookup_own_ok_int _ rfl _ _ 51 rfl 9 3 .i64 (Maps.string_keyed Try.underlying9) Try.underlying51 Try.underlying3 (zero3 _) y.gm _ s.D rfl HM.out _ (key nm) rfl (WideMaps.keyOf_string_mk Try.underlying9 HN.out) ?_); intro c hat hwc; obtain rfl := idx_of hat; clear hat hwc)
  go_ret2
  exact ⟨rfl, Ch.refl _ _⟩
set_option maxHeartbeats 1000000 in
set_option maxRecDepth 100000 in
theorem find_nil (w : World) (nm : ByteArray) : Calls Try.prog 41 #[.pointer none, .string nm] w (Same (.tuple #[.int .i64 0, .bool false]) w) := by
  go_enter Try.func41, Try.ntmps41
  go_wp2
  go_ret2
  exact ⟨rfl, Ch.refl _ _⟩

theorem Ring.setAll {W : World} {gc cap : Nat} {cs : List Cel} {tail : List Value} (h : Ring W gc cap cs tail) {i : Nat} (hi : i < cs.length) (c : Cel) :
    Ring ((((W.setCell ⟨gc, i * 4, none⟩ (.string c.nm)).setCell ⟨gc, i * 4 + 1, none⟩ (.int .i64 c.v)).setCell ⟨gc, i * 4 + 2, none⟩ (.int .i64 (c.ah : Int))).setCell ⟨gc, i * 4 + 3, none⟩ (.int .i64 (c.nx : Int))) gc cap (cs.set i c) tail := by
  have h0 : Ring (W.setCell ⟨gc, i * 4, none⟩ (.string c.nm)) gc cap (cs.set i { ce cs i with nm := c.nm }) tail := h.set (j := 0) { ce cs i with nm := c.nm } hi (by omega) rfl
  have h1 := h0.set (i := i) (j := 1) (u := .int .i64 c.v) { c with ah := (ce cs i).ah, nx := (ce cs i).nx } (by simpa using hi) (by omega) (by rw [ce_set hi, if_pos rfl]; rfl)
  have h2 := h1.set (i := i) (j := 2) (u := .int .i64 (c.ah : Int)) { c with nx := (ce cs i).nx } (by simpa using hi) (by omega) (by rw [ce_set (by simpa using hi), if_pos rfl]; rfl)
  have h3 := h2.set (i := i) (j := 3) (u := .int .i64 (c.nx : Int)) c (by simpa using hi) (by omega) (by rw [ce_set (by simpa using hi), if_pos rfl]; rfl)
  simpa [List.set_set] using h3

/-- Behind a call the cache is another; it may lie elsewhere, but for its head. -/
def Next (B : Nat) (y : Lay) (s' : St) (v : Value) (w : World) (e : Ending) (w' : World) : Prop :=
  e = .returned v ∧ ∃ y', CAt B w' y' s' ∧ y'.g = y.g ∧ (∀ k, y'.own k → y.own k ∨ w.heap.size ≤ k) ∧ Ch y.own w w'
/-- Another map. -/
theorem CAt.mapped {B : Nat} {W V : World} {y : Lay} {s : St} (h : CAt B W y s) {n : Nat} {D : DataW Nat} (hc : Ch (fun k => k = y.gm) W V) (hm : V.ownsMap Try.prog 9 (plainElem Try.prog 3) y.gm n D) : CAt B V y { s with D := D } := by
  have ha := h.apart
  exact ⟨hc.keep h.blk ha.1, ownsMap_tight hm, h.ring.ch hc (fun e => ha.2.2.1 e.symm), ownsRow_ch h.free hc (fun k hk => (ha.2.2.2 k hk).2.1), h.bg, h.bm, h.bc⟩
theorem Ch.gm {y : Lay} {W V : World} (h : Ch (fun k => k = y.gm) W V) : Ch y.own W V := h.mono (fun k _ hk => .inr (.inl hk))
theorem CAt.facts {B : Nat} {W : World} {y : Lay} {s : St} (h : CAt B W y s) {n i : Nat} (hl : s.cs.length = n) (hi : i < n) : ∃ (x0 : ByteArray) (x1 x2 x3 : Int),
    W.cell? ⟨y.g, 2, none⟩ = some (.slice (some ⟨y.gc, 0, none⟩) n y.cap) ∧ W.cell? ⟨y.g, 3, none⟩ = some y.vf ∧ W.frozen? ⟨y.g, 3, none⟩ = false ∧
    W.cell? ⟨y.gc, i * 4, none⟩ = some (.string x0) ∧ W.cell? ⟨y.gc, i * 4 + 1, none⟩ = some (.int .i64 x1) ∧ W.cell? ⟨y.gc, i * 4 + 2, none⟩ = some (.int .i64 x2) ∧ W.cell? ⟨y.gc, i * 4 + 3, none⟩ = some (.int .i64 x3) ∧
    (∀ k, W.frozen? ⟨y.gc, k, none⟩ = false) ∧ y.g < W.heap.size ∧ y.gc < W.heap.size ∧ y.g ≠ y.gc := by
  subst hl
  obtain ⟨b0, b1, b2, b3⟩ := h.ring.cell hi
  exact ⟨_, _, _, _, blk_cell h.blk 2, blk_cell h.blk 3, blk_frozen h.blk 3, b0, b1, b2, b3, h.ring.frozen, h.lt.1, h.lt.2.2, h.apart.2.1⟩
theorem CAt.zeroed {B : Nat} {W : World} {y : Lay} {s : St} (h : CAt B W y s) {i : Nat} (hi : i < s.cs.length) :
    CAt B ((((W.setCell ⟨y.gc, i * 4, none⟩ (.string ⟨#[]⟩)).setCell ⟨y.gc, i * 4 + 1, none⟩ (.int .i64 0)).setCell ⟨y.gc, i * 4 + 2, none⟩ (.int .i64 0)).setCell ⟨y.gc, i * 4 + 3, none⟩ (.int .i64 0)) y { s with cs := s.cs.set i zc } ∧
    Ch y.own W ((((W.setCell ⟨y.gc, i * 4, none⟩ (.string ⟨#[]⟩)).setCell ⟨y.gc, i * 4 + 1, none⟩ (.int .i64 0)).setCell ⟨y.gc, i * 4 + 2, none⟩ (.int .i64 0)).setCell ⟨y.gc, i * 4 + 3, none⟩ (.int .i64 0)) := by
  have hc : Ch (fun k => k = y.gc) W ((((W.setCell ⟨y.gc, i * 4, none⟩ (.string ⟨#[]⟩)).setCell ⟨y.gc, i * 4 + 1, none⟩ (.int .i64 0)).setCell ⟨y.gc, i * 4 + 2, none⟩ (.int .i64 0)).setCell ⟨y.gc, i * 4 + 3, none⟩ (.int .i64 0)) :=
    ((((Ch.refl (fun k => k = y.gc) W).set (.inl rfl) _).set (.inl rfl) _).set (.inl rfl) _).set (.inl rfl) _
  exact ⟨h.ringed hc (h.ring.setAll hi zc) (by simp), hc.gc⟩
theorem CAt.alloc {B : Nat} {W : World} {y : Lay} {s : St} (h : CAt B W y s) (o : Obj) : CAt B (W.alloc o) y s := h.ch ((Ch.refl (fun _ => False) W).alloc o) (fun _ _ hk => hk)
theorem CAt.drew {B : Nat} {W : World} {y : Lay} {s : St} (h : CAt B W y s) : CAt B W.drew y s := h.ch (Ch.refl (fun _ => False) W).drew (fun _ _ hk => hk)
/-- The free places lie elsewhere, maybe. -/
theorem CAt.freed {B : Nat} {W V : World} {y : Lay} {s : St} (h : CAt B W y s) {v : Value} {fr : List Nat} {n : Nat} (hg : W.grownBy V y.vf.ownBlock) (hown : V.ownsRow B 3 1 v n (nums fr)) (hn : n = fr.length) (hat : v.ownBlock = y.vf.ownBlock ∨ ∀ k, v.ownBlock = some k → W.heap.size ≤ k) :
    (∃ c, V.cell? ⟨y.g, 3, none⟩ = some c) ∧ V.frozen? ⟨y.g, 3, none⟩ = false ∧
    CAt B (V.setCell ⟨y.g, 3, none⟩ v) { y with vf := v } { s with fr := fr } ∧ Ch y.own W (V.setCell ⟨y.g, 3, none⟩ v) ∧ (∀ k, Lay.own { y with vf := v } k → y.own k ∨ W.heap.size ≤ k) := by
  subst hn
  have ha := h.apart
  have hc : Ch (fun k => y.vf.ownBlock = some k) W V := (Ch.refl _ W).grown hg (fun k hk => .inl hk)
  have hb : V.heap[y.g]? = some (.cells #[.int .i64 s.room, .map (some y.gm), .slice (some ⟨y.gc, 0, none⟩) s.cs.length y.cap, y.vf, .int .i64 s.hits, .int .i64 s.misses] 64 (0, 0)) := hc.keep h.blk (fun e => (ha.2.2.2 _ e).1 rfl)
  have hs : Ch (fun k => k = y.g) V (V.setCell ⟨y.g, 3, none⟩ v) := (Ch.refl (fun k => k = y.g) V).set (.inl rfl) _
  refine ⟨⟨_, blk_cell hb 3⟩, blk_frozen hb 3, ⟨blk_put hb 3 v rfl, ownsMap_ch (ownsMap_ch h.map hc (fun e => (ha.2.2.2 _ e).2.1 rfl)) hs (fun e => ha.1 e.symm), (h.ring.ch hc (fun e => (ha.2.2.2 _ e).2.2 rfl)).ch hs (fun e => ha.2.1 e.symm), ownsRow_ch hown hs ?_, h.bg, h.bm, h.bc⟩, (hc.mono (fun k _ hk => .inr (.inr (.inr hk)))).trans (hs.mono (T := y.own) (fun k _ hk => .inl hk)) (fun _ _ hk => hk), ?_⟩
  · intro k hk e
    rcases hown.2 with ⟨e1, _⟩ | ⟨g, cap, cur, e1, _, h2, _⟩
    · rw [e1] at hk; simp [Value.ownBlock] at hk
    · rw [e1] at hk
      simp [Value.ownBlock] at hk
      rw [hk, e, hb] at h2
      simp at h2
  · rintro k (hk | hk | hk | hk)
    · exact .inl (.inl hk)
    · exact .inl (.inr (.inl hk))
    · exact .inl (.inr (.inr (.inl hk)))
    · rcases hat with h1 | h1
      · exact .inl (.inr (.inr (.inr (h1 ▸ hk))))
      · exact .inr (h1 k hk)
theorem own_shape {W : World} {B e size n : Nat} {v : Value} {xs : List Value} (h : W.ownsRow B e size v n xs) (hn : 0 < n) : ∃ g cap, v = .slice (some ⟨g, 0, none⟩) n cap := by
  rcases h.2 with ⟨_, h0⟩ | ⟨g, cap, cur, e1, _⟩
  · omega
  · exact ⟨g, cap, e1⟩
theorem cell_one_at {W : World} {x : Value} {t n : Nat} (hn : W.heap.size = n) : ∀ j u, [x][j]? = some u → (W.alloc (.cells #[x] t)).cell? ((⟨n, 0, none⟩ : Addr).add j) = some u := by subst hn; exact cell_one_new W x t
def outS (s : St) (i : Nat) : St := { s with D := s.D.del (key (ce s.cs i).nm), cs := (cutL s.cs i).set i zc, fr := s.fr ++ [i] }

set_option maxHeartbeats 400000 in
set_option maxRecDepth 100000 in
theorem out_calls (B : Nat) (w : World) (y : Lay) (s : St) (i : Nat) (h : CAt B w y s) (hB : B ≤ w.heap.size) (hi : i < s.cs.length) (hw : Wf s.cs) (hnm : (ce s.cs i).nm.size ≤ maxLen) (hfr : s.fr.length < 1000000) :
    Calls Try.prog 45 #[.pointer (some ⟨y.g, 0, none⟩), .int .i64 (i : Int)] w (Next B y (outS s i) (.string (ce s.cs i).nm) w) := by
  have hu64 := Try.underlying64
  have hu66 := Try.underlying66
  have hu62 := Try.underlying62
  have hu53 := Try.underlying53
  obtain ⟨ti, ht0, ht1, ht2, ht3⟩ := info_parts info3
  have g2 := blk_cell h.blk 2
  obtain ⟨a0, -, -, -⟩ := h.ring.cell hi
  have H0 := Aside0.mk h
  have HW := Aside0.mk hw
  have HN := Aside0.mk hnm
  have p1 : (0 ≤ (i : Int)) = True := eq_true (by omega)
  have p2 : ((i : Int) < (s.cs.length : Int)) = True := eq_true (by omega)
  clear h hw hnm
  go_enter Try.func45, Try.ntmps45
  go_wp2_with (first
    | (go_at_call 53; refine (cut_calls w y.g y.gc y.cap i s.cs y.tail H0.out.head H0.out.ring hi (HW.out.2 i hi).1 (HW.out.2 i hi).2).mono ?_; rintro e w1 ⟨rfl, hr1, hc1⟩; have H1 := Aside0.mk (H0.out.ringed hc1 hr1 (by simp)); have C1 := Aside0.mk hc1.gc; clear hr1 hc1; have g1 := blk_cell H1.out.blk 1)
    | (at_delete; go_loud (refine wpList_delete_own _ rfl _ _ 51 9 rfl 3 (Maps.string_keyed Try.underlying9) Try.underlying51 _ y.gm _ s.D rfl H1.out.map _ (key (ce s.cs i).nm) rfl (WideMaps.keyOf_string_mk Try.underlying9 HN.out) ?_); intro w2 hown2 hturn2; have X2 := Aside0.mk hown2; have C2 := Aside0.mk (ch_turned hturn2); have H2 := Aside0.mk (H1.out.mapped (ch_turned hturn2) hown2); have C2 := Aside0.mk (C1.out.trans (ch_turned hturn2).gm (fun _ _ hk => hk)); clear hown2 hturn2; obtain ⟨x0, x1, x2, x3, g2', g3', f3, b0, b1, b2, b3, fz2, hg1, hg3, hne⟩ := H2.out.facts (n := s.cs.length) (cutL_length _ _) hi; have H3 := Aside0.mk (H2.out.zeroed (i := i) (by rw [cutL_length]; exact hi)))
    | (at_builtin; go_loud (refine wpList_append_own_at _ rfl _ _ 53 rfl B 3 ti (.int .i64 0) 1 8 Try.underlying53 ht0 ht1 ht2 ht3 rfl (by decide) y.vf s.fr.length (nums s.fr) rfl (H3.out.1.free.alloc _) ⟨_, 0, none⟩ 1 1 [.int .i64 (i : Int)] rfl rfl (cell_one_at (by simp)) (ints_oneCell .i64 [(i : Int)]) (by unfold maxLen; omega) (by omega) ?hb ?_); (case hb => have := C2.out.size; simp; omega); intro v' w5 hown' hgrow hnil hloc; obtain ⟨gf, cf, rfl⟩ := own_shape hown' (Nat.succ_pos _); have F := Aside0.mk ((H3.out.1.alloc _).freed (fr := s.fr ++ [i]) hgrow (by simpa [nums] using hown') (by simp) (hloc.imp id (fun e k hk => by rw [e] at hk; cases hk; exact Nat.le_refl _))); have C3 := Aside0.mk ((C2.out.trans H3.out.2 (fun _ _ hk => hk)).alloc (.cells #[.int .i64 (i : Int)] 3)); clear hown' hgrow hnil hloc; obtain ⟨c5, k5⟩ := F.out.1; have f5 := F.out.2.1))
  go_ret
  exact ⟨rfl, _, F.out.2.2.1, rfl, fun k hk => (F.out.2.2.2.2 k hk).imp id (fun h => Nat.le_trans C3.out.size h), C3.out.trans F.out.2.2.2.1 (fun _ _ hk => hk)⟩
end Go.Proofs.Ytcfdldgekfacfaa.Sk
