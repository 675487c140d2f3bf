/- A walk through code, in memory: meet. -/
import Derived.Test.YtcpjjnikehcleaaH7
import Derived.Test.YtcpjjnikehcleaaLk
import Derived.Test.YtcpjjnikehcleaaPChkx0
import Derived.Test.YtcpjjnikehcleaaTb
namespace Go.Proofs.Ytcpjjnikehcleaa.Gw
open Go.RowKit PChk Hq Lk Go.Proofs.YtcpjjnikehcleaaW.PrintWords Go.Proofs.YtcpjjnikehcleaaW.PrintLast Go.Proofs.YtcpjjnikehcleaaW.PrintMore
open Go.Maps (Keyed)
set_option linter.unusedVariables false
set_option linter.unusedSimpArgs false

def ints (d : List Int) : List Value := d.map (fun x => .int .i64 x)
theorem ints_get {d : List Int} {i : Nat} (h : i < d.length) : (ints d)[i]? = some (.int .i64 (dp d i)) := by simp [ints, dp, h]
theorem ints_set (d : List Int) (i : Nat) (x : Int) : (ints d).set i (.int .i64 x) = ints (d.set i x) := by unfold ints; rw [List.map_set]
theorem ints_length (d : List Int) : (ints d).length = d.length := by simp [ints]
/-- Where a walk lies. -/
structure WL where
  g : Nat
  A : Option Addr
  c : Nat
  gd : Nat
  cd : Nat
  h : Lay
/-- What a walk holds: the depths, the heap; w0: where the code lay. -/
structure WAt (w0 W : World) (y : WL) (xs : List S36) (d : List Int) (s : HS) : Prop where
  blk : W.heap[y.g]? = some (.cells #[.slice y.A xs.length y.c, .slice (some ⟨y.gd, 0, none⟩) xs.length y.cd, .pointer (some ⟨y.h.g, 0, none⟩)] 59 (0, 0))
  code : Kd.C k36 w0 y.A xs.length xs
  row : W.ownsRow w0.heap.size 3 1 (.slice (some ⟨y.gd, 0, none⟩) xs.length y.cd) xs.length (ints d)
  heap : HAt w0.heap.size W y.h s
  bg : w0.heap.size ≤ y.g
  below : Below w0.heap.size w0 W
theorem WAt.len {w0 W : World} {y : WL} {xs : List S36} {d : List Int} {s : HS} (h : WAt w0 W y xs d s) : d.length = xs.length := by
  have := h.row.1; rw [ints_length] at this; omega
theorem WAt.gd_blk {w0 W : World} {y : WL} {xs : List S36} {d : List Int} {s : HS} (h : WAt w0 W y xs d s) : ∃ cs, W.heap[y.gd]? = some (.cells cs 3 (0, 0)) := by
  rcases h.row.2 with ⟨e, _⟩ | ⟨g', cap', cur, e, _, h2, _⟩
  · cases e
  · simp only [Value.slice.injEq, Option.some.injEq, Addr.mk.injEq] at e
    obtain ⟨⟨rfl, -⟩, -, -⟩ := e
    exact ⟨_, h2⟩
/-- The heap's own blocks are none of the walk's others. -/
theorem WAt.apart {w0 W : World} {y : WL} {xs : List S36} {d : List Int} {s : HS} (h : WAt w0 W y xs d s) : ¬ y.h.own y.g ∧ ¬ y.h.own y.gd ∧ y.g ≠ y.gd := by
  obtain ⟨cs, hd⟩ := h.gd_blk
  obtain ⟨es, clock, hm, -⟩ := h.heap.map
  have hv : ∀ k, y.h.v.ownBlock = some k → ∃ cs, W.heap[k]? = some (.cells cs 115 (0, 0)) := fun k hk => by
    rcases h.heap.row.2 with ⟨e, _⟩ | ⟨g', cap', cur, e, _, h2, _⟩
    · rw [e] at hk; simp [Value.ownBlock] at hk
    · rw [e] at hk; simp [Value.ownBlock] at hk; subst hk; exact ⟨_, h2⟩
  refine ⟨?_, ?_, ?_⟩
  · rintro (hk | hk | hk)
    · exact blk_ne h.blk h.heap.blk (by decide) hk
    · have := h.blk; rw [hk, hm] at this; simp at this
    · obtain ⟨cs', h2⟩ := hv _ hk
      exact blk_ne h.blk h2 (by decide) rfl
  · rintro (hk | hk | hk)
    · exact blk_ne hd h.heap.blk (by decide) hk
    · rw [hk, hm] at hd; simp at hd
    · obtain ⟨cs', h2⟩ := hv _ hk
      exact blk_ne hd h2 (by decide) rfl
  · exact blk_ne h.blk hd (by decide)
theorem WAt.same {w0 W V : World} {y : WL} {xs : List S36} {d : List Int} {s : HS} (h : WAt w0 W y xs d s) (hc : Ch (fun _ => False) W V) : WAt w0 V y xs d s :=
  ⟨hc.keep h.blk (fun h => h), h.code, ownsRow_ch h.row hc (fun _ _ h => h), h.heap.same hc, h.bg, h.below.trans (hc.below h.below.size (fun _ h => h.elim))⟩
/-- Another depth is written. -/
theorem WAt.put {w0 W : World} {y : WL} {xs : List S36} {d : List Int} {s : HS} (h : WAt w0 W y xs d s) (i : Nat) (x : Int) : WAt w0 (W.setCell ⟨y.gd, i, none⟩ (.int .i64 x)) y xs (d.set i x) s := by
  have ha := h.apart
  have hc : Ch (fun k => k = y.gd) W (W.setCell ⟨y.gd, i, none⟩ (.int .i64 x)) := (Ch.refl (fun k => k = y.gd) W).set (.inl rfl) _
  have hr := (h.row.stored i (.int .i64 x)).1
  rw [ints_set] at hr
  have hgd : w0.heap.size ≤ y.gd := (h.row.lt y.gd rfl).1
  exact ⟨hc.keep h.blk ha.2.2, h.code, hr, h.heap.ch hc (fun k hk e => ha.2.1 (e ▸ hk)), h.bg, h.below.trans (hc.below h.below.size (fun k hk => by subst hk; exact hgd))⟩
/-- The heap has changed. -/
theorem WAt.heaped {w0 W V : World} {y : WL} {xs : List S36} {d : List Int} {s s' : HS} (h : WAt w0 W y xs d s) {y' : Lay} (hc : Ch y.h.own W V) (hh : HAt w0.heap.size V y' s') (hg : y'.g = y.h.g) : WAt w0 V { y with h := y' } xs d s' := by
  have ha := h.apart
  refine ⟨?_, h.code, ownsRow_ch h.row hc (fun k hk => by simp only [Value.ownBlock, Option.some.injEq] at hk; subst hk; exact ha.2.1), hh, h.bg, h.below.trans (hc.below h.below.size (fun k hk => (h.heap.lt hk).1))⟩
  have := hc.keep h.blk ha.1
  show V.heap[y.g]? = some (.cells #[_, _, .pointer (some ⟨y'.g, 0, none⟩)] 59 (0, 0))
  rw [hg]; exact this
theorem WAt.depth {w0 W : World} {y : WL} {xs : List S36} {d : List Int} {s : HS} (h : WAt w0 W y xs d s) {i : Nat} (hi : i < xs.length) : W.cell? ⟨y.gd, i, none⟩ = some (.int .i64 (dp d i)) := by
  rw [← ints_get (by rw [h.len]; exact hi), h.row.cellAt i (by omega)]
theorem WAt.thaw {w0 W : World} {y : WL} {xs : List S36} {d : List Int} {s : HS} (h : WAt w0 W y xs d s) (k : Nat) : W.frozen? ⟨y.gd, k, none⟩ = false := by
  obtain ⟨cs, hd⟩ := h.gd_blk
  exact blk_frozen hd k
/-- What a step of the walk may change. -/
def Touch (y : WL) (k : Nat) : Prop := k = y.gd ∨ y.h.own k
/-- Behind a step of the walk. -/
def Went (w0 : World) (y : WL) (xs : List S36) (d : List Int) (s : HS) (v : Value) (w : World) (e : Ending) (w' : World) : Prop :=
  e = .returned v ∧ ∃ h, WAt w0 w' { y with h := h } xs d s ∧ Ch (Touch y) w w' ∧ (∀ k, h.own k → y.h.own k ∨ w.heap.size ≤ k)
set_option maxHeartbeats 2000000 in
set_option maxRecDepth 100000 in
theorem meet_end (w0 w : World) (y : WL) (xs : List S36) (d : List Int) (s : HS) (x : Int) (h : WAt w0 w y xs d s) :
    Calls Try.prog 46 #[.pointer (some ⟨y.g, 0, none⟩), .int .i64 (xs.length : Int), .int .i64 x] w (Went w0 y xs d s (.bool false) w) := by
  have hu59 := Try.underlying59
  have hu22 := Try.underlying22
  have g0 := (blk_cell h.blk 0).trans rfl
  have H := Aside0.mk h
  clear h
  go_enter Try.func46, Try.ntmps46
  go_wp2
  go_ret
  exact ⟨rfl, y.h, H.out, Ch.refl _ _, fun _ hk => .inl hk⟩
set_option maxHeartbeats 2000000 in
set_option maxRecDepth 100000 in
theorem meet_met (w0 w : World) (y : WL) (xs : List S36) (d : List Int) (s : HS) (t : Nat) (x : Int) (h : WAt w0 w y xs d s) (ht : t < xs.length) (hd : 0 ≤ dp d t) :
    Calls Try.prog 46 #[.pointer (some ⟨y.g, 0, none⟩), .int .i64 (t : Int), .int .i64 x] w (Went w0 y xs d s (.bool (dp d t == x)) w) := by
  have hu59 := Try.underlying59
  have hu22 := Try.underlying22
  have hu28 := Try.underlying28
  have g0 := (blk_cell h.blk 0).trans rfl
  have g1 := (blk_cell h.blk 1).trans rfl
  have c1 := h.depth ht
  obtain ⟨n, hn⟩ : ∃ n, xs.length = n := ⟨_, rfl⟩
  rw [hn] at g0 g1
  have d1 : ((t : Int) == (n : Int)) = false := beq_eq_false_iff_ne.mpr (by omega)
  have d2 : decide (t = n) = false := decide_eq_false (by omega)
  have d3 : decide (dp d t < 0) = false := decide_eq_false (by omega)
  have q1 : (0 ≤ (t : Int)) = True := eq_true (by omega)
  have q2 : ((t : Int) < (n : Int)) = True := eq_true (by omega)
  have H := Aside0.mk h
  clear h ht hd hn
  go_enter Try.func46, Try.ntmps46
  go_wp2
  go_ret
  exact ⟨rfl, y.h, H.out, Ch.refl _ _, fun _ hk => .inl hk⟩
set_option maxHeartbeats 2000000 in
set_option maxRecDepth 100000 in
theorem meet_new (w0 w : World) (y : WL) (xs : List S36) (d : List Int) (s : HS) (t : Nat) (x : Int) (h : WAt w0 w y xs d s) (ht : t < xs.length) (hd : dp d t < 0) (hI : HInv s) (hl : s.l.length < 100000) (hx : s.next < 1000000) :
    Calls Try.prog 46 #[.pointer (some ⟨y.g, 0, none⟩), .int .i64 (t : Int), .int .i64 x] w (Went w0 y xs (d.set t x) (pushS s t x) (.bool true) w) := by
  have hu59 := Try.underlying59
  have hu22 := Try.underlying22
  have hu28 := Try.underlying28
  have g0 := (blk_cell h.blk 0).trans rfl
  have g1 := (blk_cell h.blk 1).trans rfl
  have c1 := h.depth ht
  have f1 := h.thaw t
  have hne : ¬ y.gd = y.g := fun e => h.apart.2.2 e.symm
  have hne2 : ¬ y.g = y.gd := fun e => h.apart.2.2 e
  obtain ⟨n, hn⟩ : ∃ n, xs.length = n := ⟨_, rfl⟩
  have H1 := Aside0.mk (h.put t x)
  have g2 := (blk_cell H1.out.blk 2).trans rfl
  rw [hn] at g0 g1
  have d1 : ((t : Int) == (n : Int)) = false := beq_eq_false_iff_ne.mpr (by omega)
  have d2 : decide (t = n) = false := decide_eq_false (by omega)
  have d3 : decide (dp d t < 0) = true := decide_eq_true (by omega)
  have q1 : (0 ≤ (t : Int)) = True := eq_true (by omega)
  have q2 : ((t : Int) < (n : Int)) = True := eq_true (by omega)
  have HN := Aside0.mk hn
  have HT := Aside0.mk ht
  have HLD := Aside0.mk h.len
  have PC := Aside0.mk (push_calls w0.heap.size _ y.h s t x H1.out.heap H1.out.below.size (by omega) (by rw [hI.kn.size]; omega) (hI.w64 (by omega)) hI.kn.tidy ⟨hI.next, hx⟩)
  clear h ht hd hn
  go_enter Try.func46, Try.ntmps46
  go_wp2_with (go_at_call 57; go_loud (refine PC.out.mono ?_; rintro e w2 ⟨rfl, y2, h2, hg2, ho2, hc2⟩; have H2 := Aside0.mk (H1.out.heaped hc2 h2 hg2); have C2 := Aside0.mk (show Ch (Touch y) w w2 from ((Ch.refl (Touch y) w).set (.inl (.inl rfl)) _).trans (hc2.mono (fun k _ hk => .inr hk)) (fun _ _ hk => hk)); have O2 := Aside0.mk (show ∀ k, y2.own k → y.h.own k ∨ w.heap.size ≤ k from fun k hk => by have := ho2 k hk; simpa [World.setCell] using this); have k1 := (blk_cell H2.out.blk 1).trans rfl; rw [HN.out] at k1; have k2 := H2.out.depth HT.out; rw [show dp (d.set t x) t = x from by rw [dp_set (by rw [HLD.out]; exact HT.out), if_pos rfl]] at k2; clear h2 hg2 ho2 hc2))
  go_ret
  exact ⟨rfl, y2, H2.out, C2.out, O2.out⟩
end Go.Proofs.Ytcpjjnikehcleaa.Gw
