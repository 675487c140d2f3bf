/- The heap's steps, walked: Len, Peek, New, Push. -/
import Derived.Test.YtcpjjnikehcleaaH3
import Derived.Deep.AppendLies
namespace Go.Proofs.Ytcpjjnikehcleaa.Hq
open Go.RowKit PChk Go.Proofs.YtcpjjnikehcleaaW.PrintWords Go.Proofs.YtcpjjnikehcleaaW.PrintLast Go.Proofs.YtcpjjnikehcleaaW.PrintMore
open Go.Maps (Keyed)
set_option linter.unusedVariables false
set_option linter.unusedSimpArgs false

theorem results_tmp4 {fn : Func} {t u v x : Tmp} (h : fn.results = #[.tmp t, .tmp u, .tmp v, .tmp x]) (tmps : Array Value) (P : Program) (w : World) :
    (results fn tmps).run P w = .ok (.tuple #[tmps.getD t undef, tmps.getD u undef, tmps.getD v undef, tmps.getD x undef]) w := by
  simp [results, h]
theorem row_shape {W : World} {B e size n : Nat} {v : Value} {xs : List Value} (h : W.ownsRow B e size v n xs) : ∃ A c, v = .slice A n c := by
  rcases h.2 with ⟨e1, h0⟩ | ⟨g, cap, cur, e1, _⟩
  · exact ⟨_, _, by rw [h0]; exact e1⟩
  · exact ⟨_, _, e1⟩
theorem len_calls (B : Nat) (w : World) (y : Lay) (s : HS) (h : HAt B w y s) :
    Calls Try.prog 63 #[.pointer (some ⟨y.g, 0, none⟩)] w (Same (.int .i64 (s.l.length : Int)) w) := by
  have hu94 := Try.underlying94
  have hu92 := Try.underlying92
  obtain ⟨A, c, hv⟩ := row_shape h.row
  have g1 := (blk_cell h.blk 1).trans rfl
  rw [hv] at g1
  go_enter Try.func63, Try.ntmps63
  go_wp2
  go_ret
  exact ⟨rfl, Ch.refl _ _⟩
/-- What a first thing is told as. -/
def peekV : List Th → Value
  | [] => .tuple #[.int .i64 0, .int .i64 0, .int .i64 0, .bool false]
  | x :: _ => .tuple #[.int .i64 x.key, .int .i64 x.v, .int .i64 x.num, .bool true]
set_option maxHeartbeats 2000000 in
set_option maxRecDepth 100000 in
theorem peek_calls (B : Nat) (w : World) (y : Lay) (s : HS) (h : HAt B w y s) :
    Calls Try.prog 58 #[.pointer (some ⟨y.g, 0, none⟩)] w (Same (peekV s.l) w) := by
  have hu94 := Try.underlying94
  have hu92 := Try.underlying92
  have hu115 := Try.underlying115
  cases hl : s.l with
  | nil =>
    have LC := len_calls B w y s h
    rw [hl] at LC
    have LC := Aside0.mk LC
    go_enter Try.func58, Try.ntmps58
    go_wp2_with (go_at_call 63; go_loud (refine LC.out.mono ?_); rintro e w1 ⟨rfl, hc⟩; have C1 := Aside0.mk hc; clear hc)
    (refine bodyPost_ret (results_tmp4 rfl _ _ _) rfl ?_; try simp only [List.getD_eq_getElem?_getD, Array.getD_eq_getD_getElem?, List.getElem?_toArray, List.getElem?_cons_succ, List.getElem?_cons_zero, Option.getD_some])
    exact ⟨rfl, C1.out⟩
  | cons x l =>
    have LC := len_calls B w y s h
    obtain ⟨n, hn⟩ : ∃ n, s.l.length = n := ⟨_, rfl⟩
    have hn0 : 0 < n := by rw [← hn, hl]; simp
    rw [hn] at LC
    have LC := Aside0.mk LC
    have d1 : ((n : Int) == 0) = false := beq_eq_false_iff_ne.mpr (by omega)
    have d2 : decide (n = 0) = false := decide_eq_false (by omega)
    have q1 : (0 < n) = True := eq_true hn0
    have q2 : ((0:Int) < (n : Int)) = True := eq_true (by omega)
    obtain ⟨g, cap, hv, -⟩ := h.at_ (i := 0) (by omega)
    rw [hn] at hv
    have H := Aside0.mk h
    have HV := Aside0.mk hv
    have HL := Aside0.mk hl
    have HN := Aside0.mk hn
    clear h hv hl hn
    go_enter Try.func58, Try.ntmps58
    go_wp2_with (go_at_call 63; go_loud (refine LC.out.mono ?_); rintro e w1 ⟨rfl, hc⟩; have C1 := Aside0.mk hc; clear hc; obtain ⟨g1, a0, a1, a2, fz⟩ := (H.out.same C1.out).atv HV.out (i := 0) (by have := HN.out; omega); rw [show at_ s.l 0 = x from by rw [HL.out]; rfl] at a0 a1 a2; rw [Nat.zero_mul] at a0 a1 a2)
    go_region
    go_wp2
    (refine bodyPost_ret (results_tmp4 rfl _ _ _) rfl ?_; try simp only [List.getD_eq_getElem?_getD, Array.getD_eq_getD_getElem?, List.getElem?_toArray, List.getElem?_cons_succ, List.getElem?_cons_zero, Option.getD_some])
    exact ⟨rfl, (C1.out.alloc _).drew⟩
theorem info115 : (Try.prog.info? 115).map (fun i => (i.zero, i.size, i.bytes)) = some (some (.agg #[.int .i64 0, .int .i64 0, .int .i64 0]), 3, 24) := by kernel_rfl
theorem HAt.nexted {B : Nat} {W : World} {y : Lay} {s : HS} (h : HAt B W y s) (n : Int) : HAt B (W.setCell ⟨y.g, 3, none⟩ (.int .i64 n)) y { s with next := n } ∧ Ch (fun k => k = y.g) W (W.setCell ⟨y.g, 3, none⟩ (.int .i64 n)) := by
  have ha := h.apart
  have hs : Ch (fun k => k = y.g) W (W.setCell ⟨y.g, 3, none⟩ (.int .i64 n)) := (Ch.refl (fun k => k = y.g) W).set (.inl rfl) _
  exact ⟨⟨blk_put h.blk 3 _ rfl, ownsMap_ch h.map hs (fun e => ha.1 e.symm), ownsRow_ch h.row hs (fun k hk => (ha.2 k hk).1), h.bg, h.bm⟩, hs⟩
/-- The things lie elsewhere, maybe, and others are there. -/
theorem HAt.grew {B : Nat} {W V : World} {y : Lay} {s : HS} (h : HAt B W y s) {g cap n : Nat} {l : List Th} (hg : W.grownBy V y.v.ownBlock) (hown : V.ownsRow B 115 3 (.slice (some ⟨g, 0, none⟩) n cap) n (flat l)) (hat : y.v.ownBlock = some g ∨ g = W.heap.size) :
    (∃ c, V.cell? ⟨y.g, 1, none⟩ = some c) ∧ V.frozen? ⟨y.g, 1, none⟩ = false ∧ n = l.length ∧
    HAt B (V.setCell ⟨y.g, 1, none⟩ (.slice (some ⟨g, 0, none⟩) n cap)) { y with v := .slice (some ⟨g, 0, none⟩) n cap } { s with l := l } ∧ Ch y.own W (V.setCell ⟨y.g, 1, none⟩ (.slice (some ⟨g, 0, none⟩) n cap)) ∧ (∀ k, Lay.own { y with v := .slice (some ⟨g, 0, none⟩) n cap } k → y.own k ∨ W.heap.size ≤ k) := by
  have ha := h.apart
  have hn : n = l.length := by have := hown.1; rw [flat_length] at this; omega
  have hc : Ch (fun k => y.v.ownBlock = some k) W V := (Ch.refl _ W).grown hg (fun k hk => .inl hk)
  have hb : V.heap[y.g]? = some (.cells #[.bool true, y.v, .map (some y.gm), .int .i64 s.next] 94 (0, 0)) := hc.keep h.blk (fun e => (ha.2 _ e).1 rfl)
  have hs : Ch (fun k => k = y.g) V (V.setCell ⟨y.g, 1, none⟩ (.slice (some ⟨g, 0, none⟩) n cap)) := (Ch.refl (fun k => k = y.g) V).set (.inl rfl) _
  have hgg : y.g ≠ g := by
    rcases hown.2 with ⟨e1, _⟩ | ⟨g', cap', cur, e1, hb2, h2, h3, h4, h5, h6⟩
    · cases e1
    · simp only [Value.slice.injEq, Option.some.injEq, Addr.mk.injEq] at e1
      obtain ⟨⟨rfl, -⟩, -⟩ := e1
      exact fun e => blk_ne h2 hb (by decide) e.symm
  refine ⟨⟨_, blk_cell hb 1⟩, blk_frozen hb 1, hn, ⟨blk_put hb 1 _ rfl, ownsMap_ch (ownsMap_ch h.map hc (fun e => (ha.2 _ e).2 rfl)) hs (fun e => ha.1 e.symm), ?_, h.bg, h.bm⟩, (hc.mono (T := y.own) (fun k _ hk => .inr (.inr hk))).trans (hs.mono (T := y.own) (fun k _ hk => .inl hk)) (fun _ _ hk => hk), ?_⟩
  · show World.ownsRow _ B 115 3 _ l.length (flat l)
    rw [← hn]
    exact ownsRow_ch hown hs (fun k hk => by simp only [Value.ownBlock, Option.some.injEq] at hk; omega)
  · rintro k (hk | hk | hk)
    · exact .inl (.inl hk)
    · exact .inl (.inr (.inl hk))
    · simp only [Value.ownBlock, Option.some.injEq] at hk
      subst hk
      exact hat.imp (fun e => .inr (.inr e)) (fun e => by omega)
theorem HAt.appended {B : Nat} {W W1 V : World} {y : Lay} {s : HS} (h : HAt B W y s) (hc : Ch (fun _ => False) W W1) {v' : Value} (hv : y.v = v') {x : Th} {g cap : Nat}
    (hown : V.ownsRow B 115 3 (.slice (some ⟨g, 0, none⟩) (s.l.length + 1) cap) (s.l.length + 1) (flat s.l ++ x.cells)) (hg : W1.grownBy V v'.ownBlock) (hat : v'.ownBlock = some g ∨ g = W1.heap.size) :
    (∃ c, V.cell? ⟨y.g, 1, none⟩ = some c) ∧ V.frozen? ⟨y.g, 1, none⟩ = false ∧
    HAt B (V.setCell ⟨y.g, 1, none⟩ (.slice (some ⟨g, 0, none⟩) (s.l.length + 1) cap)) { y with v := .slice (some ⟨g, 0, none⟩) (s.l.length + 1) cap } { s with l := s.l ++ [x] } ∧ Ch y.own W (V.setCell ⟨y.g, 1, none⟩ (.slice (some ⟨g, 0, none⟩) (s.l.length + 1) cap)) ∧ (∀ k, Lay.own { y with v := .slice (some ⟨g, 0, none⟩) (s.l.length + 1) cap } k → y.own k ∨ W.heap.size ≤ k) := by
  subst hv
  obtain ⟨a1, a2, -, a4, a5, a6⟩ := (h.same hc).grew (l := s.l ++ [x]) hg (by rw [flat_append]; simpa [flat] using hown) hat
  exact ⟨a1, a2, a4, (hc.mono (fun _ _ hk => hk.elim)).trans a5 (fun _ _ hk => hk), fun k hk => (a6 k hk).imp id (fun h => Nat.le_trans hc.size h)⟩
/-- Behind a call the heap has other contents, maybe elsewhere. -/
def Next (B : Nat) (y : Lay) (s' : HS) (v : Value) (w : World) (e : Ending) (w' : World) : Prop :=
  e = .returned v ∧ ∃ y', HAt B w' y' s' ∧ y'.g = y.g ∧ (∀ k, y'.own k → y.own k ∨ w.heap.size ≤ k) ∧ Ch y.own w w'
def newS : HS := ⟨[], 0, .map []⟩
theorem make_map (w : World) : (Instr.makeMap 91 none).run Try.prog w = .ok (.map (some w.heap.size)) (w.alloc (.map #[] 0)) := by kernel_rfl
theorem born (w : World) (B : Nat) (hB : B ≤ w.heap.size) :
    HAt B ((w.alloc (.map #[] 0)).alloc (.cells #[.bool true, .slice none 0 0, .map (some w.heap.size), .int .i64 0] 94)) ⟨w.heap.size + 1, w.heap.size, .slice none 0 0⟩ newS := by
  have hm : (w.alloc (.map #[] 0)).ownsMap Try.prog 3 (plainElem (H := Nat) Try.prog 3) w.heap.size 0 (.map []) := World.ownsMap_made w Try.prog 3 _
  have hb := blk_new (w.alloc (.map #[] 0)) (.cells #[.bool true, .slice none 0 0, .map (some w.heap.size), .int .i64 0] 94)
  rw [World.size_alloc] at hb
  exact ⟨hb, hm.alloc _, World.ownsRow_nil _ _ _ _, by simp; omega, by simpa using hB⟩
theorem new_calls (w : World) : Calls Try.prog 30 #[] w fun e w' => ∃ y, e = .returned (.pointer (some ⟨y.g, 0, none⟩)) ∧ HAt w.heap.size w' y newS ∧ Ch (fun _ => False) w w' := by
  have hu94 := Try.underlying94
  have hu92 := Try.underlying92
  have hu91 := Try.underlying91
  have hmm := make_map
  go_enter Try.func30, Try.ntmps30
  go_wp2
  go_ret
  exact ⟨_, rfl, born w _ (Nat.le_refl _), ((Ch.refl _ w).alloc _).alloc _⟩
theorem cells_new_at {W : World} {xs : List Value} {t n : Nat} (hn : W.heap.size = n) : ∀ j u, xs[j]? = some u → (W.alloc (.cells xs.toArray t)).cell? ((⟨n, 0, none⟩ : Addr).add j) = some u := by
  subst hn
  exact World.news_of_block (blk_new W _)
def pushX (s : HS) (key v : Int) : Th := ⟨key, s.next, v⟩
def pushS (s : HS) (key v : Int) : HS := riseS { s with l := s.l ++ [pushX s key v], next := s.next + 1 } (pushX s key v) s.l.length
set_option maxHeartbeats 2000000 in
set_option maxRecDepth 100000 in
theorem push_calls (B : Nat) (w : World) (y : Lay) (s : HS) (key v : Int) (h : HAt B w y s) (hB : B ≤ w.heap.size) (hl : s.l.length < 400000) (hD : Maps.size s.D < 400000) (hn : ∀ j, W64 (at_ s.l j).num) (ht : Maps.Tidy s.D) (hx : 0 ≤ s.next ∧ s.next < 1000000) :
    Calls Try.prog 57 #[.pointer (some ⟨y.g, 0, none⟩), .int .i64 key, .int .i64 v] w (Next B y (pushS s key v) (.int .i64 s.next) w) := by
  have hu94 := Try.underlying94
  have hu92 := Try.underlying92
  have hu115 := Try.underlying115
  obtain ⟨ti, ht0, ht1, ht2, ht3⟩ := info_parts info115
  have g0 := (blk_cell h.blk 0).trans rfl
  have g3 := (blk_cell h.blk 3).trans rfl
  have f3 := blk_frozen h.blk 3
  have w1 : IntKind.i64.wrap (s.next + 1) = s.next + 1 := by rw [IntKind.wrap_i64]; omega
  have w2 : wrap64 (s.l.length : Int) = s.l.length := (by unfold wrap64; omega)
  have HA := Aside0.mk (show at_ (s.l ++ [pushX s key v]) s.l.length = pushX s key v by simp [at_])
  have HNP := Aside0.mk (show ∀ j, W64 (at_ (s.l ++ [pushX s key v]) j).num from fun j => by
    by_cases hj : j < s.l.length
    · have := hn j; simpa [at_, List.getElem?_append_left hj] using this
    · by_cases hj2 : j = s.l.length
      · subst hj2; rw [HA.out]; simp [pushX, W64, Lit.wf, IntKind.min, IntKind.max, IntKind.bits, IntKind.signed]; omega
      · have e : at_ (s.l ++ [pushX s key v]) j = zt := by simp [at_]; rw [List.getElem?_append_right (by omega), List.getElem?_eq_none (by simp; omega)]; rfl
        rw [e]; exact w64_nat (n := 0) (by omega))
  have H1 := Aside0.mk (h.nexted (s.next + 1))
  obtain ⟨A, c, hv⟩ := row_shape h.row
  have g1 := (blk_cell H1.out.1.blk 1).trans rfl
  rw [hv] at g1
  have g0' := (blk_cell H1.out.1.blk 0).trans rfl
  have HV := Aside0.mk hv
  have HB := Aside0.mk hB
  have HL := Aside0.mk hl
  have HD := Aside0.mk hD
  have HN := Aside0.mk hn
  have HT := Aside0.mk ht
  have HX := Aside0.mk hx
  clear h hv hB hl hD hn ht hx
  go_enter Try.func57, Try.ntmps57
  go_wp2_with (first | (at_builtin; go_loud (refine wpList_append_lies _ rfl _ _ 92 rfl B 115 ti _ 3 24 Try.underlying92 ht0 ht1 ht2 ht3 rfl (by decide) _ s.l.length (flat s.l) rfl (by have := H1.out.1.row; rw [HV.out] at this; exact this.alloc _) ⟨_, 0, none⟩ 1 1 (pushX s key v).cells rfl rfl (cells_new_at (by simp [World.setCell])) (by simp [pushX, Th.cells, Value.oneCell']) (by decide) (by have := HL.out; unfold maxLen; omega) (by have := HL.out; omega) (Nat.le_trans HB.out (by simp [World.setCell])) _ rfl ?_; intro g cap w5 hown hgrow hat hlt; have G := Aside0.mk (H1.out.1.appended ((Ch.refl (fun _ => False) _).alloc (.cells (pushX s key v).cells.toArray 115)) HV.out hown hgrow hat); obtain ⟨c5, k5⟩ := G.out.1; have f5 := G.out.2.1; clear hown hgrow hat hlt)) | (go_at_call 62; go_loud (have RC := rise_calls B _ _ _ s.l.length G.out.2.2.1 (by simp) (by have := HL.out; simp; omega) (by have := HL.out; have := HD.out; show Maps.size s.D + _ < _; omega) HNP.out HT.out; refine RC.mono ?_; rintro e w6 ⟨rfl, h6, c6⟩; rw [HA.out] at h6; have H6 := Aside0.mk h6; have C6 := Aside0.mk c6; clear h6 c6 RC)))
  go_ret
  refine ⟨rfl, _, H6.out, rfl, fun k hk => (G.out.2.2.2.2 k hk).imp id (fun h => Nat.le_trans H1.out.2.size h), ?_⟩
  exact ((H1.out.2.mono (T := y.own) (fun k _ hk => .inl hk)).trans G.out.2.2.2.1 (fun _ _ hk => hk)).trans C6.out (fun k hk ho => (G.out.2.2.2.2 k ho).elim id (fun h => by have := H1.out.2.size; omega))
end Go.Proofs.Ytcpjjnikehcleaa.Hq
