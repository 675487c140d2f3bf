/- Shrink. -/
import Derived.Test.YtcfdldgekfacfaaA2
namespace Go.Proofs.Ytcfdldgekfacfaa.Sk
open Go.RowKit Go.Proofs.YtcfdldgekfacfaaW.PrintWords Go.Proofs.YtcfdldgekfacfaaW.PrintLast Go.Proofs.YtcfdldgekfacfaaW.PrintMore
open Go.Maps (Keyed)
set_option linter.unusedVariables false
set_option linter.unusedSimpArgs false

theorem Inv.eldest {s : St} {L : List Nat} (h : Inv s L) (hL : L ≠ []) : (ce s.cs 0).ah ∈ L ∧ Inv (outS s (ce s.cs 0).ah) L.dropLast ∧ th (outS s (ce s.cs 0).ah) L.dropLast = (th s L).dropLast ∧ (th s L).getLast? = some (nv s.cs (ce s.cs 0).ah) := by
  have hlast := h.ri.last hL
  have hmem : (ce s.cs 0).ah ∈ L := hlast ▸ List.getLast_mem hL
  have hnd := (List.nodup_cons.1 h.ri.nd).2
  have hel : L.erase (ce s.cs 0).ah = L.dropLast := by
    rw [hlast]
    conv => lhs; arg 1; rw [← List.dropLast_concat_getLast hL]
    have hnot : L.getLast hL ∉ L.dropLast := by
      have := hnd
      rw [← List.dropLast_concat_getLast hL, List.nodup_append] at this
      exact fun hm => this.2.2 _ hm _ (by simp) rfl
    rw [List.erase_append_right _ hnot]
    simp
  have I1 := h.out hmem
  have ht := th_out h hmem
  rw [hel] at I1 ht
  refine ⟨hmem, I1, ?_, ?_⟩
  · rw [ht]; unfold th; rw [List.map_dropLast]
  · unfold th; rw [List.getLast?_map, List.getLast?_eq_some_getLast hL, hlast]; rfl
/-- A row of names is none of a cache's blocks. -/
theorem Row.apart {B N : Nat} {W : World} {y : Lay} {s : St} {v : Value} {l : List ByteArray} (h : CAt B W y s) (hr : Row N W v l) : ∀ k, v.ownBlock = some k → ¬ y.own k := by
  intro k hk ho
  have hb : ∃ cur, W.heap[k]? = some (.cells cur 9 (0, 0)) := by
    rcases hr.2 with ⟨e, _⟩ | ⟨g, cap, cur, e, _, h2, _⟩
    · rw [e] at hk; simp [Value.ownBlock] at hk
    · rw [e] at hk
      simp [Value.ownBlock] at hk
      subst hk
      exact ⟨cur, h2⟩
  obtain ⟨cur, hb⟩ := hb
  rcases ho with ho | ho | ho | ho
  · subst ho; exact blk_ne h.blk hb (by decide) rfl
  · subst ho
    obtain ⟨es, clock, hm, _⟩ := h.map
    rw [hm] at hb; simp at hb
  · subst ho; exact blk_ne h.ring.blk hb (by decide) rfl
  · rcases h.free.2 with ⟨e, _⟩ | ⟨g, cap, cur', e, _, h2, _⟩
    · rw [e] at ho; simp [Value.ownBlock] at ho
    · rw [e] at ho
      simp [Value.ownBlock] at ho
      subst ho
      exact blk_ne h2 hb (by decide) rfl
/-- Behind a call the cache is another, and names are told in a row of their own. -/
def ShPost (B : Nat) (y : Lay) (room hits misses : Int) (l : Things) (ns : List ByteArray) (w : World) (e : Ending) (w' : World) : Prop :=
  ∃ v, e = .returned v ∧ Row w.heap.size w' v ns ∧ ∃ y', Holds B w' y' room hits misses l ∧ y'.g = y.g ∧ (∀ k, y'.own k → y.own k ∨ w.heap.size ≤ k) ∧ Ch y.own w w'
def gone (l : Things) (r : Nat) : List ByteArray := ((l.drop r).reverse).map (·.1)
set_option maxHeartbeats 1000000 in
set_option maxRecDepth 100000 in
theorem shrink_no (B : Nat) (w : World) (y : Lay) (room hits misses r : Int) (l : Things) (h : Holds B w y room hits misses l) (hr : ¬ (1 ≤ r ∧ r ≤ 4096)) :
    Calls Try.prog 22 #[.pointer (some ⟨y.g, 0, none⟩), .int .i64 r] w (ShPost B y room hits misses l [] w) := by
  have h0 := h
  obtain ⟨s, L, hc, hI, rfl, rfl, rfl, rfl, r1, r2, hle⟩ := h
  have e1 : decide (1 ≤ r ∧ r ≤ 4096) = false := decide_eq_false hr
  have e2 : (s.room == 0) = false := beq_eq_false_iff_ne.mpr (by omega)
  have H := Aside0.mk hc
  have H0 := Aside0.mk h0
  clear hc hI hle hr h0 r1 r2
  go_enter Try.func22, Try.ntmps22
  go_wp2_with (first
    | (go_at_call 36; go_loud (refine (room_calls B w y s H.out).mono ?_); rintro e w1 ⟨rfl, hc⟩; have C1 := Aside0.mk hc; clear hc)
    | (go_at_call 35; go_loud (refine (may_calls _ r).mono ?_); rintro e w2 ⟨rfl, hc⟩; rw [e1]; have C2 := Aside0.mk (C1.out.trans hc (fun _ _ hk => hk)); clear hc))
  go_ret
  exact ⟨_, rfl, Row.nil _ _, y, H0.out.ch C2.out (fun _ _ hk => hk), rfl, fun k hk => .inl hk, C2.out.mono (fun _ _ hk => hk.elim)⟩
structure ShInv (B : Nat) (w : World) (y : Lay) (r : Nat) (hits misses : Int) (l : Things) (n : Nat) (v : Value) (W : World) (y' : Lay) (s : St) (L : List Nat) : Prop where
  cat : CAt B W y' s
  inv : Inv s L
  len : L.length = n
  th : th s L = l.take n
  room : s.room = r
  hits : s.hits = hits
  misses : s.misses = misses
  g : y'.g = y.g
  own : ∀ k, y'.own k → y.own k ∨ w.heap.size ≤ k
  ch : Ch y.own w W
  row : Row w.heap.size W v (gone l n)
  le : n ≤ l.length
  ge : r ≤ n ∨ n = l.length
theorem gone_next {l : Things} {n : Nat} (h : n < l.length) : gone l n = gone l (n + 1) ++ [(l[n]).1] := by
  unfold gone
  rw [List.drop_eq_getElem_cons h, List.reverse_cons, List.map_append]
  rfl
set_option maxHeartbeats 2000000 in
set_option maxRecDepth 100000 in
theorem shrink_yes (B : Nat) (w : World) (y : Lay) (room hits misses : Int) (r : Nat) (l : Things) (h : Holds B w y room hits misses l) (hB : B ≤ w.heap.size) (hr : 1 ≤ r ∧ r ≤ 4096) :
    Calls Try.prog 22 #[.pointer (some ⟨y.g, 0, none⟩), .int .i64 (r : Int)] w (ShPost B y r hits misses (l.take r) (gone l r) w) := by
  have hu64 := Try.underlying64
  have hu35 := Try.underlying35
  obtain ⟨ti, ht0, ht1, ht2, ht3⟩ := info_parts info9
  obtain ⟨s, L, hc, hI, rfl, rfl, rfl, rfl, r1, r2, hle⟩ := h
  have e1 : decide (1 ≤ (r : Int) ∧ (r : Int) ≤ 4096) = true := decide_eq_true (by omega)
  have e2 : (s.room == 0) = false := beq_eq_false_iff_ne.mpr (by omega)
  have hLs := L_small (B := B) (W := w) hI
  have H := Aside0.mk hc
  have HB := Aside0.mk hB
  have HI := Aside0.mk hI
  have HR := Aside0.mk hr
  have HLs := Aside0.mk hLs
  have R1 := Aside0.mk r1
  have hth := th_length s L
  have HTL := Aside0.mk hth
  clear hc hI hle hr r1 r2 hB hLs hth
  go_enter Try.func22, Try.ntmps22
  go_wp2_with (first
    | (go_at_call 36; go_loud (refine (room_calls B w y s H.out).mono ?_); rintro e w1 ⟨rfl, hc⟩; have C1 := Aside0.mk hc; clear hc)
    | (go_at_call 35; go_loud (refine (may_calls _ r).mono ?_); rintro e w2 ⟨rfl, hc⟩; rw [e1]; have C2 := Aside0.mk (C1.out.trans hc (fun _ _ hk => hk)); have H2 := Aside0.mk (H.out.ch C2.out (fun _ _ hk => hk)); have g0 := (blk_cell H2.out.blk 0).trans rfl; have f0 := blk_frozen H2.out.blk 0; have K2 := Aside0.mk (H2.out.counted r); clear hc))
  go_loopg [5] (th s L).length (fun kq v5 w' => ∃ (y' : Lay) (s' : St) (L' : List Nat), Aside0 (ShInv B w y r s.hits s.misses (th s L) kq v5 w' y' s' L'))
  case atStart =>
    exact ⟨y, _, L, ⟨⟨K2.out.2.2.1, HI.out.counted s.hits s.misses r, HTL.out.symm, by rw [List.take_length]; rfl, rfl, rfl, rfl, rfl, fun k hk => .inl hk, (C2.out.mono (fun _ _ hk => hk.elim)).trans (K2.out.2.2.2 0) (fun _ _ hk => hk), by unfold gone; rw [List.drop_length]; exact Row.nil _ _, Nat.le_refl _, .inr rfl⟩⟩⟩
  case round =>
    obtain ⟨y', s', L', HV⟩ := hrel
    clear g0 f0 K2 C2 H2 C1
    have hg := HV.out.g
    have hb := HV.out.cat.blk
    rw [hg] at hb
    have g1 := (blk_cell hb 1).trans rfl
    have hsz : Maps.size s'.D = gk := HV.out.inv.size.trans HV.out.len
    have HS := Aside0.mk hsz
    have HG := Aside0.mk hg
    clear hb hsz hg
    by_cases hk : r < gk
    · have p0 : decide ((gk : Int) > (r : Int)) = true := decide_eq_true (by omega)
      obtain ⟨n, rfl⟩ : ∃ n, gk = n + 1 := ⟨gk - 1, by omega⟩
      have p1 : decide ((r : Int) < (n : Int) + 1) = true := decide_eq_true (by omega)
      have hL : L' ≠ [] := fun e => by have := HV.out.len; rw [e] at this; simp at this
      obtain ⟨hmem, I1, ht1, hlast⟩ := HV.out.inv.eldest hL
      have hsm := fr_small HV.out.inv
      have hle := HV.out.le
      have hname : nv s'.cs (ce s'.cs 0).ah = (th s L)[n]'(by omega) := by
        rw [HV.out.th, List.getLast?_eq_getElem?, List.length_take, Nat.min_eq_left hle, List.getElem?_take_of_lt (by omega), Nat.add_sub_cancel, List.getElem?_eq_getElem (by omega)] at hlast
        exact (Option.some.inj hlast).symm
      have hnm := congrArg Prod.fst hname
      have EC := eldest_calls B wr y' s' HV.out.cat (Nat.le_trans HB.out HV.out.ch.size) HV.out.inv.ri.wf (HV.out.inv.small _ hmem) hsm.1
      rw [HG.out] at EC
      have EC := Aside0.mk EC
      have I1 := Aside0.mk I1
      have T1 := Aside0.mk (show Sk.th (outS s' (ce s'.cs 0).ah) L'.dropLast = (Sk.th s L).take n from by
        rw [ht1, HV.out.th, List.dropLast_eq_take, List.length_take, Nat.min_eq_left hle, List.take_take]; congr 1; omega)
      have LN := Aside0.mk (show L'.dropLast.length = n by rw [List.length_dropLast, HV.out.len]; rfl)
      have GN := Aside0.mk (gone_next (l := Sk.th s L) (n := n) (by omega))
      have hnm' : (ce s'.cs (ce s'.cs 0).ah).nm = ((Sk.th s L)[n]'(by omega)).1 := hnm
      have HLE := Aside0.mk hle
      have HK := Aside0.mk hk
      have glen := Aside0.mk (show (gone (Sk.th s L) (n + 1)).length < 1000000 by
        unfold gone; rw [List.length_map, List.length_reverse, List.length_drop, HTL.out]; have := HLs.out; omega)
      clear hmem ht1 hlast hsm hname hnm hL hk
      generalize hz : ((Sk.th s L)[n]'(by have := HLE.out; omega)).1 = z at *
      generalize hzi : (ce s'.cs 0).ah = zi at *
      rw [hnm'] at EC
      clear hnm' hz hzi hle
      go_wp2_with (first
        | (at_len; refine wpList_len_own _ rfl _ 51 rfl 9 3 Try.underlying51 _ _ _ _ rfl HV.out.cat.map ?_; rw [HS.out])
        | (go_at_call 38; go_loud (refine EC.out.mono ?_); rintro e w4 ⟨rfl, y4, h4, hg4, ho4, hc4⟩; have H4 := Aside0.mk h4; have G4 := Aside0.mk (show y4.g = y.g from hg4.trans HG.out); have O4 := Aside0.mk (show ∀ k, y4.own k → y.own k ∨ w.heap.size ≤ k from fun k hk => (ho4 k hk).elim (fun h => HV.out.own k h) (fun h => .inr (Nat.le_trans HV.out.ch.size h))); have C4 := Aside0.mk (own_trans HV.out.own (Nat.le_refl _) HV.out.ch hc4); have W4 := Aside0.mk (show Row w.heap.size w4 u5 (gone (Sk.th s L) (n + 1)) from ownsRow_ch HV.out.row hc4 (Row.apart HV.out.cat HV.out.row)); clear h4 hg4 ho4 hc4)
        | (at_builtin; go_loud (refine wpList_append_own_at _ rfl _ _ 35 rfl w.heap.size 9 ti (.string ⟨#[]⟩) 1 16 Try.underlying35 ht0 ht1 ht2 ht3 rfl (by decide) _ _ _ rfl (W4.out.alloc _) ⟨_, 0, none⟩ 1 1 [.string z] rfl rfl (cell_one_at (by simp)) (by simp [Value.oneCell']) (by have := glen.out; unfold maxLen; omega) (by have := glen.out; omega) (by have := C4.out.size; simp; omega) ?_); intro v' w5 hown' hgrow hnil hloc; obtain ⟨gn, cn, rfl⟩ := own_shape hown' (Nat.succ_pos _); have D5 := (Ch.refl (fun k => w4.heap.size ≤ k ∨ u5.ownBlock = some k) w4).alloc (.cells #[.string z] 9); have D6 := Aside0.mk (D5.grown hgrow (fun k hk => .inl (.inr hk))); have W5 := Aside0.mk (show Row w.heap.size w5 (.slice (some ⟨gn, 0, none⟩) _ cn) (gone (Sk.th s L) n) from by rw [GN.out]; simpa [Row, strs] using hown'); clear hown' hgrow hnil hloc D5; have NO := Aside0.mk (show ∀ k, y4.own k → ¬ (w4.heap.size ≤ k ∨ u5.ownBlock = some k) from fun k hk h => h.elim (fun hle => by have := H4.out.ltOwn hk; omega) (fun he => Row.apart H4.out W4.out k he hk)); have H5 := Aside0.mk (H4.out.ch D6.out NO.out)))
      go_roundg n
      case measure => omega
      case rel => exact ⟨y4, _, _, ⟨⟨H5.out, I1.out, LN.out, T1.out, HV.out.room, HV.out.hits, HV.out.misses, G4.out, O4.out, C4.out.trans D6.out (fun k hk ho => ho.elim (fun h => by have := C4.out.size; omega) (fun h => by have := (HV.out.row.lt k h).1; omega)), W5.out, by have := HLE.out; omega, .inl (by have := HK.out; omega)⟩⟩⟩
    · have p0 : decide ((gk : Int) > (r : Int)) = false := decide_eq_false (by omega)
      have p1 : decide (r < gk) = false := decide_eq_false hk
      have hkr : gk = r ∨ (gk = (th s L).length ∧ gk ≤ r) := by have := HV.out.ge; have := HV.out.le; omega
      have e1 : (th s L).take r = (th s L).take gk ∧ gone (th s L) r = gone (th s L) gk := by
        rcases hkr with rfl | ⟨rfl, hle⟩
        · exact ⟨rfl, rfl⟩
        · refine ⟨by rw [List.take_length, List.take_of_length_le hle], ?_⟩
          unfold gone
          rw [List.drop_length, List.drop_eq_nil_of_le hle]
      have E1 := Aside0.mk e1
      have HK := Aside0.mk hkr
      clear e1 hkr hk
      go_wp2_with (at_len; refine wpList_len_own _ rfl _ 51 rfl 9 3 Try.underlying51 _ _ _ _ rfl HV.out.cat.map ?_; rw [HS.out])
      go_ret
      refine ⟨_, rfl, by rw [E1.out.2]; exact HV.out.row, y', ⟨s', L', HV.out.cat, HV.out.inv, by rw [E1.out.1]; exact HV.out.th, HV.out.room, HV.out.hits, HV.out.misses, by have := HR.out; omega, by have := HR.out; omega, ?_⟩, HG.out, HV.out.own, HV.out.ch⟩
      rw [E1.out.1, List.length_take]
      have := HK.out
      omega
end Go.Proofs.Ytcfdldgekfacfaa.Sk
