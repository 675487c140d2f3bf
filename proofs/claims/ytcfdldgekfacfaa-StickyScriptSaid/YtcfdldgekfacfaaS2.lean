/- A cache in memory; what only reads. -/
import Derived.Test.YtcfdldgekfacfaaS1
import Derived.Maps.OwnOps
import Derived.Maps.OwnSet
import Derived.Maps.Views
import Derived.Maps.AppendAt
namespace Go.Proofs.Ytcfdldgekfacfaa.Sk
open Go.RowKit Go.Proofs.YtcfdldgekfacfaaW.PrintWords Go.Proofs.YtcfdldgekfacfaaW.PrintLast Go.Proofs.YtcfdldgekfacfaaW.PrintMore
open Go.Maps (Keyed)
set_option linter.unusedVariables false
set_option linter.unusedSimpArgs false

/-- Where a cache lies. -/
structure Lay where
  g : Nat
  gm : Nat
  gc : Nat
  cap : Nat
  tail : List Value
  vf : Value
def Lay.own (y : Lay) (k : Nat) : Prop := k = y.g ∨ k = y.gm ∨ k = y.gc ∨ y.vf.ownBlock = some k
/-- What a cache holds. -/
structure St where
  room : Int
  hits : Int
  misses : Int
  D : DataW Nat
  cs : List Cel
  fr : List Nat
def nums (l : List Nat) : List Value := l.map fun (i : Nat) => Value.int .i64 (i : Int)

structure CAt (B : Nat) (W : World) (y : Lay) (s : St) : Prop where
  blk : W.heap[y.g]? = some (.cells #[.int .i64 s.room, .map (some y.gm), .slice (some ⟨y.gc, 0, none⟩) s.cs.length y.cap, y.vf, .int .i64 s.hits, .int .i64 s.misses] 64 (0, 0))
  map : W.ownsMap Try.prog 9 (plainElem Try.prog 3) y.gm (Maps.size s.D) s.D
  ring : Ring W y.gc y.cap s.cs y.tail
  free : W.ownsRow B 3 1 y.vf s.fr.length (nums s.fr)
  bg : B ≤ y.g
  bm : B ≤ y.gm
  bc : B ≤ y.gc
theorem CAt.head {B : Nat} {W : World} {y : Lay} {s : St} (h : CAt B W y s) : Head W y.g y.gc s.cs.length y.cap := ⟨_, _, _, _, _, h.blk⟩
theorem ownsRow_ch {W V : World} {B e size n : Nat} {v : Value} {xs : List Value} {S : Nat → Prop} (h : W.ownsRow B e size v n xs) (hc : Ch S W V) (hn : ∀ k, v.ownBlock = some k → ¬ S k) : V.ownsRow B e size v n xs := by
  refine ⟨h.1, h.2.imp id ?_⟩
  rintro ⟨g, cap, cur, rfl, h1, h2, h3⟩
  exact ⟨g, cap, cur, rfl, h1, hc.keep h2 (hn g rfl), h3⟩
theorem ownsMap_ch {W V : World} {b n : Nat} {D : DataW Nat} {S : Nat → Prop} (h : W.ownsMap Try.prog 9 (plainElem Try.prog 3) b n D) (hc : Ch S W V) (hn : ¬ S b) : V.ownsMap Try.prog 9 (plainElem Try.prog 3) b n D := by
  have hlt := h.lt
  obtain ⟨es, clock, hb, F, hs, hD⟩ := h
  exact ⟨es, clock, (hc.block b hlt hn).trans hb, F, hs, hD⟩
/-- The blocks of a cache are unlike. -/
theorem CAt.apart {B : Nat} {W : World} {y : Lay} {s : St} (h : CAt B W y s) : y.g ≠ y.gm ∧ y.g ≠ y.gc ∧ y.gm ≠ y.gc ∧ (∀ k, y.vf.ownBlock = some k → k ≠ y.g ∧ k ≠ y.gm ∧ k ≠ y.gc) := by
  obtain ⟨es, clock, hb, -⟩ := h.map
  refine ⟨?_, blk_ne h.blk h.ring.blk (by decide), ?_, ?_⟩
  · intro e; have := h.blk; rw [e, hb] at this; simp at this
  · intro e; have := h.ring.blk; rw [← e, hb] at this; simp at this
  · intro k hk
    rcases h.free.2 with ⟨e, _⟩ | ⟨g, cap, cur, e, _, h2, _⟩
    · rw [e] at hk; simp [Value.ownBlock] at hk
    · rw [e] at hk
      simp [Value.ownBlock] at hk
      subst hk
      refine ⟨blk_ne h2 h.blk (by decide), ?_, blk_ne h2 h.ring.blk (by decide)⟩
      intro e; rw [e, hb] at h2; simp at h2
theorem CAt.lt {B : Nat} {W : World} {y : Lay} {s : St} (h : CAt B W y s) : y.g < W.heap.size ∧ y.gm < W.heap.size ∧ y.gc < W.heap.size := ⟨blk_lt h.blk, h.map.lt, h.ring.lt⟩
theorem CAt.ge {B : Nat} {W : World} {y : Lay} {s : St} (h : CAt B W y s) {k : Nat} (hk : y.own k) : B ≤ k := by
  rcases hk with rfl | rfl | rfl | hk
  · exact h.bg
  · exact h.bm
  · exact h.bc
  · exact (h.free.lt k hk).1
theorem CAt.ltOwn {B : Nat} {W : World} {y : Lay} {s : St} (h : CAt B W y s) {k : Nat} (hk : y.own k) : k < W.heap.size := by
  rcases hk with rfl | rfl | rfl | hk
  · exact h.lt.1
  · exact h.lt.2.1
  · exact h.lt.2.2
  · exact (h.free.lt k hk).2
/-- What is another's leaves a cache as it was. -/
theorem CAt.ch {B : Nat} {W V : World} {y : Lay} {s : St} (h : CAt B W y s) {S : Nat → Prop} (hc : Ch S W V) (hn : ∀ k, y.own k → ¬ S k) : CAt B V y s :=
  ⟨hc.keep h.blk (hn _ (.inl rfl)), ownsMap_ch h.map hc (hn _ (.inr (.inl rfl))), h.ring.ch hc (hn _ (.inr (.inr (.inl rfl)))), ownsRow_ch h.free hc (fun k hk => hn k (.inr (.inr (.inr hk)))), h.bg, h.bm, h.bc⟩
/-- Other cells in the ring. -/
theorem CAt.ringed {B : Nat} {W V : World} {y : Lay} {s : St} (h : CAt B W y s) {cs : List Cel} (hc : Ch (fun k => k = y.gc) W V) (hr : Ring V y.gc y.cap cs y.tail) (hl : cs.length = s.cs.length) : CAt B V y { s with cs := cs } := by
  have ha := h.apart
  refine ⟨?_, ownsMap_ch h.map hc ha.2.2.1, hr, ownsRow_ch h.free hc (fun k hk => (ha.2.2.2 k hk).2.2), h.bg, h.bm, h.bc⟩
  show V.heap[y.g]? = some (.cells #[_, _, .slice _ cs.length _, _, _, _] 64 (0, 0))
  rw [hl]
  exact hc.keep h.blk ha.2.1
theorem Ch.gc {y : Lay} {W V : World} (h : Ch (fun k => k = y.gc) W V) : Ch y.own W V := h.mono (fun k _ hk => .inr (.inr (.inl hk)))

/-- Every place that a cell names is one of the cells. -/
def Wf (cs : List Cel) : Prop := 0 < cs.length ∧ ∀ i, i < cs.length → (ce cs i).ah < cs.length ∧ (ce cs i).nx < cs.length
theorem Wf.setAh {cs : List Cel} (h : Wf cs) {i a : Nat} (ha : a < cs.length) : Wf (setAh cs i a) := by
  refine ⟨by simpa using h.1, fun j hj => ?_⟩
  rw [setAh_length] at hj ⊢
  by_cases hi : i < cs.length
  · unfold Sk.setAh
    rw [ce_set hi]
    split
    · exact ⟨ha, (h.2 i hi).2⟩
    · exact h.2 j hj
  · unfold Sk.setAh; rw [List.set_eq_of_length_le (by omega)]; exact h.2 j hj
theorem Wf.setNx {cs : List Cel} (h : Wf cs) {i a : Nat} (ha : a < cs.length) : Wf (setNx cs i a) := by
  refine ⟨by simpa using h.1, fun j hj => ?_⟩
  rw [setNx_length] at hj ⊢
  by_cases hi : i < cs.length
  · unfold Sk.setNx
    rw [ce_set hi]
    split
    · exact ⟨(h.2 i hi).1, ha⟩
    · exact h.2 j hj
  · unfold Sk.setNx; rw [List.set_eq_of_length_le (by omega)]; exact h.2 j hj
@[simp] theorem cutL_length (cs : List Cel) (i : Nat) : (cutL cs i).length = cs.length := by simp [cutL]
@[simp] theorem firstL_length (cs : List Cel) (i : Nat) : (firstL cs i).length = cs.length := by simp [firstL]
theorem Wf.cut {cs : List Cel} (h : Wf cs) {i : Nat} (hi : i < cs.length) : Wf (cutL cs i) := (h.setNx (h.2 i hi).2).setAh (by simpa using (h.2 i hi).1)
theorem Wf.first {cs : List Cel} (h : Wf cs) {i : Nat} (hi : i < cs.length) : Wf (firstL cs i) :=
  (((h.setAh h.1).setNx (by simpa using (h.2 0 h.1).2)).setAh (by simpa using hi)).setNx (by simpa using hi)
def touchL (cs : List Cel) (i : Nat) : List Cel := firstL (cutL cs i) i

set_option maxHeartbeats 1000000 in
set_option maxRecDepth 100000 in
theorem touch_calls (w : World) (g gc cap i : Nat) (cs : List Cel) (tail : List Value) (hh : Head w g gc cs.length cap) (hr : Ring w gc cap cs tail) (hi : i < cs.length) (hw : Wf cs) :
    Calls Try.prog 37 #[.pointer (some ⟨g, 0, none⟩), .int .i64 (i : Int)] w (RingPost gc cap (touchL cs i) tail w) := by
  have hne := hh.ne hr
  have hw2 := Aside0.mk (hw.cut hi)
  have HH := Aside0.mk hh
  have HR := Aside0.mk hr
  have HW := Aside0.mk hw
  clear hh hr hw
  go_enter Try.func37, Try.ntmps37
  go_wp2_with (first
    | (go_at_call 53; refine (cut_calls w g gc cap i cs tail HH.out HR.out hi (HW.out.2 i hi).1 (HW.out.2 i hi).2).mono ?_; rintro e w1 ⟨rfl, hr1, hc1⟩; have HR1 := Aside0.mk hr1; have HC1 := Aside0.mk hc1; clear hr1 hc1)
    | (go_at_call 40; refine (first_calls w1 g gc cap i (cutL cs i) tail (by rw [cutL_length]; exact HH.out.ch HC1.out hne) HR1.out (by simpa using hi) (hw2.out.2 0 hw2.out.1).2).mono ?_; rintro e w2 ⟨rfl, hr2, hc2⟩; have HR2 := Aside0.mk hr2; have HC2 := Aside0.mk hc2; clear hr2 hc2))
  go_end0
  exact ⟨rfl, HR2.out, HC1.out.trans HC2.out (fun _ _ h => h)⟩

/-- A call that changes nothing that was. -/
def Same (v : Value) (w : World) (e : Ending) (w' : World) : Prop := e = .returned v ∧ Ch (fun _ => False) w w'
set_option maxHeartbeats 1000000 in
set_option maxRecDepth 100000 in
theorem room_calls (B : Nat) (w : World) (y : Lay) (s : St) (h : CAt B w y s) : Calls Try.prog 36 #[.pointer (some ⟨y.g, 0, none⟩)] w (Same (.int .i64 s.room) w) := by
  have hu := Try.underlying64
  have c0 := blk_cell h.blk 0
  clear h
  go_enter Try.func36, Try.ntmps36
  go_wp2
  go_ret
  exact ⟨rfl, Ch.refl _ _⟩
set_option maxHeartbeats 1000000 in
set_option maxRecDepth 100000 in
theorem room_nil (w : World) : Calls Try.prog 36 #[.pointer none] w (Same (.int .i64 0) w) := by
  go_enter Try.func36, Try.ntmps36
  go_wp2
  go_ret
  exact ⟨rfl, Ch.refl _ _⟩
set_option maxHeartbeats 1000000 in
set_option maxRecDepth 100000 in
theorem len_calls (B : Nat) (w : World) (y : Lay) (s : St) (h : CAt B w y s) : Calls Try.prog 14 #[.pointer (some ⟨y.g, 0, none⟩)] w (Same (.int .i64 (Maps.size s.D : Nat)) w) := by
  have hu := Try.underlying64
  have c1 := blk_cell h.blk 1
  have HM := Aside0.mk h.map
  clear h
  go_enter Try.func14, Try.ntmps14
  go_wp2_with (at_len; refine wpList_len_own _ rfl _ 51 rfl 9 3 Try.underlying51 _ _ _ _ rfl HM.out ?_)
  go_ret
  exact ⟨rfl, Ch.refl _ _⟩
set_option maxHeartbeats 1000000 in
set_option maxRecDepth 100000 in
theorem counts_calls (B : Nat) (w : World) (y : Lay) (s : St) (h : CAt B w y s) : Calls Try.prog 46 #[.pointer (some ⟨y.g, 0, none⟩)] w (Same (.tuple #[.int .i64 s.hits, .int .i64 s.misses]) w) := by
  have hu := Try.underlying64
  have c1 := blk_cell h.blk 4
  have c2 := blk_cell h.blk 5
  clear h
  go_enter Try.func46, Try.ntmps46
  go_wp2
  go_region
  go_wp2
  go_ret2
  exact ⟨rfl, (Ch.refl _ _).drew⟩
end Go.Proofs.Ytcfdldgekfacfaa.Sk
