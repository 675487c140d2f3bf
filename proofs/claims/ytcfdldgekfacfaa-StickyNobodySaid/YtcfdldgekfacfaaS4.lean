/- eldest, place. -/
import Derived.Test.YtcfdldgekfacfaaS3
namespace Go.Proofs.Ytcfdldgekfacfaa.Sk
open Go.RowKit Go.Proofs.YtcfdldgekfacfaaW.PrintWords Go.Proofs.YtcfdldgekfacfaaW.PrintLast Go.Proofs.YtcfdldgekfacfaaW.PrintMore
open Go.Maps (Keyed)
set_option linter.unusedVariables false
set_option linter.unusedSimpArgs false

set_option maxHeartbeats 1000000 in
set_option maxRecDepth 100000 in
theorem eldest_calls (B : Nat) (w : World) (y : Lay) (s : St) (h : CAt B w y s) (hB : B ≤ w.heap.size) (hw : Wf s.cs) (hnm : (ce s.cs (ce s.cs 0).ah).nm.size ≤ maxLen) (hfr : s.fr.length < 1000000) :
    Calls Try.prog 38 #[.pointer (some ⟨y.g, 0, none⟩)] w (Next B y (outS s (ce s.cs 0).ah) (.string (ce s.cs (ce s.cs 0).ah).nm) w) := by
  have hu64 := Try.underlying64
  have hu66 := Try.underlying66
  have hu62 := Try.underlying62
  have g2 := blk_cell h.blk 2
  obtain ⟨-, -, a2, -⟩ := h.ring.cell hw.1
  rw [Nat.zero_mul, Nat.zero_add] at a2
  have HO := Aside0.mk (out_calls B w y s (ce s.cs 0).ah h hB (hw.2 0 hw.1).1 hw hnm hfr)
  have p2 := hw.1
  clear h hw hnm
  generalize (ce s.cs 0).ah = i at *
  go_enter Try.func38, Try.ntmps38
  go_wp2_with (go_at_call 45; refine HO.out.mono ?_; rintro e w1 ⟨rfl, hn⟩; have HN := Aside0.mk hn; clear hn)
  go_ret
  exact ⟨rfl, HN.out⟩

/-- A free place, and what is left. -/
def placeS (s : St) : St := if s.fr = [] then { s with cs := s.cs ++ [zc] } else { s with fr := s.fr.dropLast }
def placeI (s : St) : Nat := if s.fr = [] then s.cs.length else s.fr.getLastD 0

theorem own_drop {W : World} {B e n g cap : Nat} {xs : List Value} (h : W.ownsRow B e 1 (.slice (some ⟨g, 0, none⟩) n cap) n xs) (hn : 0 < n) : W.ownsRow B e 1 (.slice (some ⟨g, 0, none⟩) (n - 1) cap) (n - 1) xs.dropLast := by
  obtain ⟨hl, h⟩ := h
  refine ⟨by simp [hl], .inr ?_⟩
  rcases h with ⟨e1, _⟩ | ⟨g', cap', cur, e1, h1, h2, h3, h4, h5, h6⟩
  · cases e1
  · cases e1
    refine ⟨g, cap, cur, rfl, h1, h2, by omega, h4, h5, ?_⟩
    rw [← h6, List.dropLast_eq_take, List.take_take]
    congr 1
    simp
    omega

set_option maxHeartbeats 1000000 in
set_option maxRecDepth 100000 in
theorem place_old (B : Nat) (w : World) (y : Lay) (s : St) (h : CAt B w y s) (hB : B ≤ w.heap.size) (hfr : s.fr ≠ []) (hmax : s.fr.length < 1000000) :
    Calls Try.prog 39 #[.pointer (some ⟨y.g, 0, none⟩)] w (Next B y (placeS s) (.int .i64 (placeI s : Int)) w) := by
  have hu64 := Try.underlying64
  have hu53 := Try.underlying53
  obtain ⟨l, i, hli⟩ : ∃ l i, s.fr = l ++ [i] := ⟨s.fr.dropLast, s.fr.getLast hfr, (List.dropLast_concat_getLast hfr).symm⟩
  have hlen : s.fr.length = l.length + 1 := by rw [hli]; simp
  have hpI : placeI s = i := by unfold placeI; rw [if_neg hfr, hli]; simp
  have hpS : placeS s = { s with fr := l } := by unfold placeS; rw [if_neg hfr, hli]; simp
  have ho := h.free
  obtain ⟨gf, cf, hv⟩ := own_shape ho (by omega)
  rw [hv] at ho
  have hc := ho.cellAt l.length (by omega)
  have hd := own_drop ho (by omega)
  have hn1 : nums s.fr = nums l ++ [.int .i64 (i : Int)] := by rw [hli]; simp [nums]
  rw [hn1, List.getElem?_append_right (by simp [nums])] at hc
  rw [hn1, List.dropLast_concat] at hd
  simp [nums] at hc
  have g3 := blk_cell h.blk 3
  simp [hv] at g3
  have f3 := blk_frozen h.blk 3
  have hcap : l.length + 1 ≤ cf := by
    rcases ho.2 with ⟨e1, _⟩ | ⟨g', cap', cur, e1, h1, h2, h3, h4, h5, h6⟩
    · cases e1
    · cases e1; omega
  rw [hlen] at g3 hd
  rw [show l.length + 1 - 1 = l.length from by omega] at hd
  have F := Aside0.mk (h.freed (fr := l) (v := .slice (some ⟨gf, 0, none⟩) l.length cf) (World.grownBy.refl _ _) hd rfl (.inl (by rw [hv]; rfl)))
  rw [hpI, hpS]
  clear hpI hpS hd ho hfr hli hn1 h
  have p0 : (0 < ((l.length + 1 : Nat) : Int)) = True := eq_true (by omega)
  have e1 : wrap64 (((l.length + 1 : Nat) : Int) - 1) = (l.length : Int) := by unfold wrap64; omega
  go_enter Try.func39, Try.ntmps39
  go_wp2
  go_ret
  exact ⟨rfl, _, F.out.2.2.1, rfl, F.out.2.2.2.2, F.out.2.2.2.1⟩

theorem flat_append (a b : List Cel) : flat (a ++ b) = flat a ++ flat b := by
  induction a with
  | nil => rfl
  | cons c a ih => simp [flat, ih]
theorem Ring.row {W : World} {gc cap B : Nat} {cs : List Cel} {tail : List Value} (h : Ring W gc cap cs tail) (hB : B ≤ gc) (hc : cs.length ≤ cap) : W.ownsRow B 66 4 (.slice (some ⟨gc, 0, none⟩) cs.length cap) cs.length (flat cs) := by
  have hl := flat_length cs
  refine ⟨hl, .inr ⟨gc, cap, _, rfl, hB, h.blk, hc, h.max, by have := h.len; simp [hl]; omega, ?_⟩⟩
  rw [List.take_append_of_le_length (by simp [hl])]
  rw [List.take_of_length_le (by simp [hl])]
theorem Ring.of_row {W : World} {g cap B n : Nat} {cs : List Cel} (h : W.ownsRow B 66 4 (.slice (some ⟨g, 0, none⟩) n cap) n (flat cs)) : ∃ tail, Ring W g cap cs tail ∧ n = cs.length ∧ B ≤ g := by
  obtain ⟨hl, h⟩ := h
  rw [flat_length] at hl
  rcases h with ⟨e1, _⟩ | ⟨g', cap', cur, e1, h1, h2, h3, h4, h5, h6⟩
  · cases e1
  · cases e1
    have hs : cur.toList = flat cs ++ cur.toList.drop (n * 4) := by rw [← h6]; exact (List.take_append_drop _ _).symm
    refine ⟨cur.toList.drop (n * 4), ⟨?_, ?_, h4⟩, by omega, h1⟩
    · rw [h2, ← hs]
    · simp [h5]; omega
theorem CAt.le_cap {B : Nat} {W : World} {y : Lay} {s : St} (h : CAt B W y s) : s.cs.length ≤ y.cap := by have := h.ring.len; omega
/-- The cells lie elsewhere, maybe, and one more is there. -/
theorem CAt.grew {B : Nat} {W V : World} {y : Lay} {s : St} (h : CAt B W y s) {g cap n : Nat} {cs : List Cel} (hg : W.grownBy V (some y.gc)) (hown : V.ownsRow B 66 4 (.slice (some ⟨g, 0, none⟩) n cap) n (flat cs)) (hat : g = y.gc ∨ W.heap.size ≤ g) :
    (∃ c, V.cell? ⟨y.g, 2, none⟩ = some c) ∧ V.frozen? ⟨y.g, 2, none⟩ = false ∧ y.g ≠ g ∧ n = cs.length ∧
    ∃ tail, CAt B (V.setCell ⟨y.g, 2, none⟩ (.slice (some ⟨g, 0, none⟩) n cap)) { y with gc := g, cap := cap, tail := tail } { s with cs := cs } ∧ Ch y.own W (V.setCell ⟨y.g, 2, none⟩ (.slice (some ⟨g, 0, none⟩) n cap)) ∧ (∀ k, Lay.own { y with gc := g, cap := cap, tail := tail } k → y.own k ∨ W.heap.size ≤ k) := by
  obtain ⟨tail, hr, rfl, hBg⟩ := Ring.of_row hown
  have ha := h.apart
  have hc : Ch (fun k => k = y.gc) W V := (Ch.refl _ W).grown hg (fun k hk => .inl (Option.some.inj hk).symm)
  have hb : V.heap[y.g]? = some (.cells #[.int .i64 s.room, .map (some y.gm), .slice (some ⟨y.gc, 0, none⟩) s.cs.length y.cap, y.vf, .int .i64 s.hits, .int .i64 s.misses] 64 (0, 0)) := hc.keep h.blk ha.2.1
  have hs : Ch (fun k => k = y.g) V (V.setCell ⟨y.g, 2, none⟩ (.slice (some ⟨g, 0, none⟩) cs.length cap)) := (Ch.refl (fun k => k = y.g) V).set (.inl rfl) _
  have hgg : y.g ≠ g := blk_ne hb hr.blk (by decide)
  refine ⟨⟨_, blk_cell hb 2⟩, blk_frozen hb 2, hgg, rfl, tail, ⟨blk_put hb 2 _ rfl, ownsMap_ch (ownsMap_ch h.map hc ha.2.2.1) hs (fun e => ha.1 e.symm), hr.ch hs (fun e => hgg e.symm), ownsRow_ch (ownsRow_ch h.free hc (fun k hk => (ha.2.2.2 k hk).2.2)) hs (fun k hk => (ha.2.2.2 k hk).1), h.bg, h.bm, hBg⟩, (hc.gc).trans (hs.mono (T := y.own) (fun k _ hk => .inl hk)) (fun _ _ hk => hk), ?_⟩
  rintro k (hk | hk | hk | hk)
  · exact .inl (.inl hk)
  · exact .inl (.inr (.inl hk))
  · rcases hat with h1 | h1
    · exact .inl (.inr (.inr (.inl (hk.trans h1))))
    · exact .inr (by have : k = g := hk; omega)
  · exact .inl (.inr (.inr (.inr hk)))

theorem cells_new_at {W : World} {xs : List Value} {t n : Nat} (hn : W.heap.size = n) : ∀ j u, xs[j]? = some u → (W.alloc (.cells xs.toArray t)).cell? ((⟨n, 0, none⟩ : Addr).add j) = some u := by
  subst hn
  intro j u hj
  rw [add_plain, blk_cell (blk_new W _)]
  simpa using hj
set_option maxHeartbeats 1000000 in
set_option maxRecDepth 100000 in
theorem place_new (B : Nat) (w : World) (y : Lay) (s : St) (h : CAt B w y s) (hB : B ≤ w.heap.size) (hfr : s.fr = []) (hmax : s.cs.length < 1000000) :
    Calls Try.prog 39 #[.pointer (some ⟨y.g, 0, none⟩)] w (Next B y (placeS s) (.int .i64 (placeI s : Int)) w) := by
  have hu64 := Try.underlying64
  have hu66 := Try.underlying66
  have hu62 := Try.underlying62
  have hu53 := Try.underlying53
  obtain ⟨ti, ht0, ht1, ht2, ht3⟩ := info_parts info66
  have hpI : placeI s = s.cs.length := by unfold placeI; rw [if_pos hfr]
  have hpS : placeS s = { s with cs := s.cs ++ [zc] } := by unfold placeS; rw [if_pos hfr]
  rw [hpI, hpS]
  have g2 := blk_cell h.blk 2
  have g3 := blk_cell h.blk 3
  have hv : ∃ A c, y.vf = .slice A 0 c := by
    have := h.free.2
    rw [hfr] at this
    rcases this with ⟨e1, _⟩ | ⟨g', cap', cur, e1, _⟩
    · exact ⟨_, _, e1⟩
    · exact ⟨_, _, e1⟩
  obtain ⟨A, c, hv⟩ := hv
  simp [hv] at g3
  have H := Aside0.mk h
  clear hpI hpS hfr h hv
  go_enter Try.func39, Try.ntmps39
  go_wp2_with (at_builtin; go_loud (refine wpList_append_own_at _ rfl _ _ 62 rfl B 66 ti _ 4 40 Try.underlying62 ht0 ht1 ht2 ht3 rfl (by decide) _ s.cs.length (flat s.cs) rfl ((H.out.ring.row H.out.bc H.out.le_cap).alloc _) ⟨_, 0, none⟩ 1 1 zc.cells rfl rfl (cells_new_at rfl) (by simp [zc, Cel.cells, Value.oneCell']) (by unfold maxLen; omega) (by omega) (by simp; omega) ?_); intro v' w5 hown' hgrow hnil hloc; obtain ⟨gn, cn, rfl⟩ := own_shape hown' (Nat.succ_pos _); have F := Aside0.mk ((H.out.alloc _).grew (cs := s.cs ++ [zc]) hgrow (by rw [flat_append]; simpa [flat] using hown') (hloc.imp (fun e => Option.some.inj e) (fun e => Nat.le_of_eq (Option.some.inj e).symm))); have C3 := Aside0.mk ((Ch.refl y.own w).alloc (.cells #[.string ⟨#[]⟩, .int .i64 0, .int .i64 0, .int .i64 0] 66)); clear hown' hgrow hnil hloc; obtain ⟨c5, k5⟩ := F.out.1; have f5 := F.out.2.1; have n5 := F.out.2.2.1)
  obtain ⟨tail, hc, hch, ho⟩ := F.out.2.2.2.2
  go_ret
  exact ⟨rfl, _, hc, rfl, fun k hk => (ho k hk).imp id (fun h => Nat.le_trans C3.out.size h), C3.out.trans hch (fun _ _ hk => hk)⟩
theorem place_calls (B : Nat) (w : World) (y : Lay) (s : St) (h : CAt B w y s) (hB : B ≤ w.heap.size) (hf : s.fr.length < 1000000) (hmax : s.cs.length < 1000000) :
    Calls Try.prog 39 #[.pointer (some ⟨y.g, 0, none⟩)] w (Next B y (placeS s) (.int .i64 (placeI s : Int)) w) := by
  by_cases hfr : s.fr = []
  · exact place_new B w y s h hB hfr hmax
  · exact place_old B w y s h hB hfr hf
end Go.Proofs.Ytcfdldgekfacfaa.Sk
