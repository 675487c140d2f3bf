/- A walk through code, in memory: meet. -/
import Derived.Test.YtcpjjnikehcleaaHc
import Derived.Test.YtcpjjnikehcleaaLk
import Derived.Test.YtcpjjnikehcleaaPChkx0
import Derived.Test.YtcpjjnikehcleaaTb
/- A walk through code, in memory: meet. -/
namespace Go.Proofs.Ytcpjjnikehcleaa.Gw
open Go.RowKit PChk Hq Lk Go.Proofs.YtcpjjnikehcleaaW.PrintWords Go.Proofs.YtcpjjnikehcleaaW.PrintLast Go.Proofs.YtcpjjnikehcleaaW.PrintMore
open Go.Maps (Keyed)
set_option linter.unusedVariables false
set_option linter.unusedSimpArgs false

def ints (d : List Int) : List Value := d.map (fun x => .int .i64 x)
theorem ints_get {d : List Int} {i : Nat} (h : i < d.length) : (ints d)[i]? = some (.int .i64 (dp d i)) := by simp [ints, dp, h]
theorem ints_set (d : List Int) (i : Nat) (x : Int) : (ints d).set i (.int .i64 x) = ints (d.set i x) := by unfold ints; rw [List.map_set]
theorem ints_length (d : List Int) : (ints d).length = d.length := by simp [ints]
/-- Where a walk lies. -/
structure WL where
  g : Nat
  A : Option Addr
  c : Nat
  gd : Nat
  cd : Nat
  h : Lay
/-- What a walk holds: the depths, the heap; w0: where the code lay. -/
structure WAt (w0 W : World) (y : WL) (xs : List S36) (d : List Int) (s : HS) : Prop where
  blk : W.heap[y.g]? = some (.cells #[.slice y.A xs.length y.c, .slice (some ⟨y.gd, 0, none⟩) xs.length y.cd, .pointer (some ⟨y.h.g, 0, none⟩)] 59 (0, 0))
  code : Kd.C k36 w0 y.A xs.length xs
  row : W.ownsRow w0.heap.size 3 1 (.slice (some ⟨y.gd, 0, none⟩) xs.length y.cd) xs.length (ints d)
  heap : HAt w0.heap.size W y.h s
  bg : w0.heap.size ≤ y.g
  below : Below w0.heap.size w0 W
theorem WAt.len {w0 W : World} {y : WL} {xs : List S36} {d : List Int} {s : HS} (h : WAt w0 W y xs d s) : d.length = xs.length := by
  have := h.row.1; rw [ints_length] at this; omega
theorem WAt.gd_blk {w0 W : World} {y : WL} {xs : List S36} {d : List Int} {s : HS} (h : WAt w0 W y xs d s) : ∃ cs, W.heap[y.gd]? = some (.cells cs 3 (0, 0)) := by
  rcases h.row.2 with ⟨e, _⟩ | ⟨g', cap', cur, e, _, h2, _⟩
  · cases e
  · simp only [Value.slice.injEq, Option.some.injEq, Addr.mk.injEq] at e
    obtain ⟨⟨rfl, -⟩, -, -⟩ := e
    exact ⟨_, h2⟩
/-- The heap's own blocks are none of the walk's others. -/
theorem WAt.apart {w0 W : World} {y : WL} {xs : List S36} {d : List Int} {s : HS} (h : WAt w0 W y xs d s) : ¬ y.h.own y.g ∧ ¬ y.h.own y.gd ∧ y.g ≠ y.gd := by
  obtain ⟨cs, hd⟩ := h.gd_blk
  obtain ⟨es, clock, hm, -⟩ := h.heap.map
  have hv : ∀ k, y.h.v.ownBlock = some k → ∃ cs, W.heap[k]? = some (.cells cs 115 (0, 0)) := fun k hk => by
    rcases h.heap.row.2 with ⟨e, _⟩ | ⟨g', cap', cur, e, _, h2, _⟩
    · rw [e] at hk; simp [Value.ownBlock] at hk
    · rw [e] at hk; simp [Value.ownBlock] at hk; subst hk; exact ⟨_, h2⟩
  refine ⟨?_, ?_, ?_⟩
  · rintro (hk | hk | hk)
    · exact blk_ne h.blk h.heap.blk (by decide) hk
    · have := h.blk; rw [hk, hm] at this; simp at this
    · obtain ⟨cs', h2⟩ := hv _ hk
      exact blk_ne h.blk h2 (by decide) rfl
  · rintro (hk | hk | hk)
    · exact blk_ne hd h.heap.blk (by decide) hk
    · rw [hk, hm] at hd; simp at hd
    · obtain ⟨cs', h2⟩ := hv _ hk
      exact blk_ne hd h2 (by decide) rfl
  · exact blk_ne h.blk hd (by decide)
theorem WAt.same {w0 W V : World} {y : WL} {xs : List S36} {d : List Int} {s : HS} (h : WAt w0 W y xs d s) (hc : Ch (fun _ => False) W V) : WAt w0 V y xs d s :=
  ⟨hc.keep h.blk (fun h => h), h.code, ownsRow_ch h.row hc (fun _ _ h => h), h.heap.same hc, h.bg, h.below.trans (hc.below h.below.size (fun _ h => h.elim))⟩
/-- Another depth is written. -/
theorem WAt.put {w0 W : World} {y : WL} {xs : List S36} {d : List Int} {s : HS} (h : WAt w0 W y xs d s) (i : Nat) (x : Int) : WAt w0 (W.setCell ⟨y.gd, i, none⟩ (.int .i64 x)) y xs (d.set i x) s := by
  have ha := h.apart
  have hc : Ch (fun k => k = y.gd) W (W.setCell ⟨y.gd, i, none⟩ (.int .i64 x)) := (Ch.refl (fun k => k = y.gd) W).set (.inl rfl) _
  have hr := (h.row.stored i (.int .i64 x)).1
  rw [ints_set] at hr
  have hgd : w0.heap.size ≤ y.gd := (h.row.lt y.gd rfl).1
  exact ⟨hc.keep h.blk ha.2.2, h.code, hr, h.heap.ch hc (fun k hk e => ha.2.1 (e ▸ hk)), h.bg, h.below.trans (hc.below h.below.size (fun k hk => by subst hk; exact hgd))⟩
/-- The heap has changed. -/
theorem WAt.heaped {w0 W V : World} {y : WL} {xs : List S36} {d : List Int} {s s' : HS} (h : WAt w0 W y xs d s) {y' : Lay} (hc : Ch y.h.own W V) (hh : HAt w0.heap.size V y' s') (hg : y'.g = y.h.g) : WAt w0 V { y with h := y' } xs d s' := by
  have ha := h.apart
  refine ⟨?_, h.code, ownsRow_ch h.row hc (fun k hk => by simp only [Value.ownBlock, Option.some.injEq] at hk; subst hk; exact ha.2.1), hh, h.bg, h.below.trans (hc.below h.below.size (fun k hk => (h.heap.lt hk).1))⟩
  have := hc.keep h.blk ha.1
  show V.heap[y.g]? = some (.cells #[_, _, .pointer (some ⟨y'.g, 0, none⟩)] 59 (0, 0))
  rw [hg]; exact this
theorem WAt.depth {w0 W : World} {y : WL} {xs : List S36} {d : List Int} {s : HS} (h : WAt w0 W y xs d s) {i : Nat} (hi : i < xs.length) : W.cell? ⟨y.gd, i, none⟩ = some (.int .i64 (dp d i)) := by
  rw [← ints_get (by rw [h.len]; exact hi), h.row.cellAt i (by omega)]
theorem WAt.thaw {w0 W : World} {y : WL} {xs : List S36} {d : List Int} {s : HS} (h : WAt w0 W y xs d s) (k : Nat) : W.frozen? ⟨y.gd, k, none⟩ = false := by
  obtain ⟨cs, hd⟩ := h.gd_blk
  exact blk_frozen hd k
/-- What a step of the walk may change. -/
def Touch (y : WL) (k : Nat) : Prop := k = y.gd ∨ y.h.own k
/-- Behind a step of the walk. -/
def Went (w0 : World) (y : WL) (xs : List S36) (d : List Int) (s : HS) (v : Value) (w : World) (e : Ending) (w' : World) : Prop :=
  e = .returned v ∧ ∃ h, WAt w0 w' { y with h := h } xs d s ∧ Ch (Touch y) w w' ∧ (∀ k, h.own k → y.h.own k ∨ w.heap.size ≤ k)
set_option maxHeartbeats 2000000 in
set_option maxRecDepth 100000 in
theorem meet_end (w0 w : World) (y : WL) (xs : List S36) (d : List Int) (s : HS) (x : Int) (h : WAt w0 w y xs d s) :
    Calls Try.prog 46 #[.pointer (some ⟨y.g, 0, none⟩), .int .i64 (xs.length : Int), .int .i64 x] w (Went w0 y xs d s (.bool false) w) := by
  have hu59 := Try.underlying59
  have hu22 := Try.underlying22
  have g0 := (blk_cell h.blk 0).trans rfl
  have H := Aside0.mk h
  clear h
  go_enter Try.func46, Try.ntmps46
  go_wp2
  go_ret
  exact ⟨rfl, y.h, H.out, Ch.refl _ _, fun _ hk => .inl hk⟩
set_option maxHeartbeats 2000000 in
set_option maxRecDepth 100000 in
theorem meet_met (w0 w : World) (y : WL) (xs : List S36) (d : List Int) (s : HS) (t : Nat) (x : Int) (h : WAt w0 w y xs d s) (ht : t < xs.length) (hd : 0 ≤ dp d t) :
    Calls Try.prog 46 #[.pointer (some ⟨y.g, 0, none⟩), .int .i64 (t : Int), .int .i64 x] w (Went w0 y xs d s (.bool (dp d t == x)) w) := by
  have hu59 := Try.underlying59
  have hu22 := Try.underlying22
  have hu28 := Try.underlying28
  have g0 := (blk_cell h.blk 0).trans rfl
  have g1 := (blk_cell h.blk 1).trans rfl
  have c1 := h.depth ht
  obtain ⟨n, hn⟩ : ∃ n, xs.length = n := ⟨_, rfl⟩
  rw [hn] at g0 g1
  have d1 : ((t : Int) == (n : Int)) = false := beq_eq_false_iff_ne.mpr (by omega)
  have d2 : decide (t = n) = false := decide_eq_false (by omega)
  have d3 : decide (dp d t < 0) = false := decide_eq_false (by omega)
  have q1 : (0 ≤ (t : Int)) = True := eq_true (by omega)
  have q2 : ((t : Int) < (n : Int)) = True := eq_true (by omega)
  have H := Aside0.mk h
  clear h ht hd hn
  go_enter Try.func46, Try.ntmps46
  go_wp2
  go_ret
  exact ⟨rfl, y.h, H.out, Ch.refl _ _, fun _ hk => .inl hk⟩
set_option maxHeartbeats 2000000 in
set_option maxRecDepth 100000 in
theorem meet_new (w0 w : World) (y : WL) (xs : List S36) (d : List Int) (s : HS) (t : Nat) (x : Int) (h : WAt w0 w y xs d s) (ht : t < xs.length) (hd : dp d t < 0) (hI : HInv s) (hl : s.l.length < 100000) (hx : s.next < 1000000) :
    Calls Try.prog 46 #[.pointer (some ⟨y.g, 0, none⟩), .int .i64 (t : Int), .int .i64 x] w (Went w0 y xs (d.set t x) (pushS s t x) (.bool true) w) := by
  have hu59 := Try.underlying59
  have hu22 := Try.underlying22
  have hu28 := Try.underlying28
  have g0 := (blk_cell h.blk 0).trans rfl
  have g1 := (blk_cell h.blk 1).trans rfl
  have c1 := h.depth ht
  have f1 := h.thaw t
  have hne : ¬ y.gd = y.g := fun e => h.apart.2.2 e.symm
  have hne2 : ¬ y.g = y.gd := fun e => h.apart.2.2 e
  obtain ⟨n, hn⟩ : ∃ n, xs.length = n := ⟨_, rfl⟩
  have H1 := Aside0.mk (h.put t x)
  have g2 := (blk_cell H1.out.blk 2).trans rfl
  rw [hn] at g0 g1
  have d1 : ((t : Int) == (n : Int)) = false := beq_eq_false_iff_ne.mpr (by omega)
  have d2 : decide (t = n) = false := decide_eq_false (by omega)
  have d3 : decide (dp d t < 0) = true := decide_eq_true (by omega)
  have q1 : (0 ≤ (t : Int)) = True := eq_true (by omega)
  have q2 : ((t : Int) < (n : Int)) = True := eq_true (by omega)
  have HN := Aside0.mk hn
  have HT := Aside0.mk ht
  have HLD := Aside0.mk h.len
  have PC := Aside0.mk (push_calls w0.heap.size _ y.h s t x H1.out.heap H1.out.below.size (by omega) (by rw [hI.kn.size]; omega) (hI.w64 (by omega)) hI.kn.tidy ⟨hI.next, hx⟩)
  clear h ht hd hn
  go_enter Try.func46, Try.ntmps46
  go_wp2_with (go_at_call 57; go_loud (refine PC.out.mono ?_; rintro e w2 ⟨rfl, y2, h2, hg2, ho2, hc2⟩; have H2 := Aside0.mk (H1.out.heaped hc2 h2 hg2); have C2 := Aside0.mk (show Ch (Touch y) w w2 from ((Ch.refl (Touch y) w).set (.inl (.inl rfl)) _).trans (hc2.mono (fun k _ hk => .inr hk)) (fun _ _ hk => hk)); have O2 := Aside0.mk (show ∀ k, y2.own k → y.h.own k ∨ w.heap.size ≤ k from fun k hk => by have := ho2 k hk; simpa [World.setCell] using this); have k1 := (blk_cell H2.out.blk 1).trans rfl; rw [HN.out] at k1; have k2 := H2.out.depth HT.out; rw [show dp (d.set t x) t = x from by rw [dp_set (by rw [HLD.out]; exact HT.out), if_pos rfl]] at k2; clear h2 hg2 ho2 hc2))
  go_ret
  exact ⟨rfl, y2, H2.out, C2.out, O2.out⟩
end Go.Proofs.Ytcpjjnikehcleaa.Gw
/- The heap of a walk holds what was met and is not gone through: in plain. -/
namespace Go.Proofs.Ytcpjjnikehcleaa.Gw
open Go.RowKit PChk Hq Lk
set_option linter.unusedVariables false
set_option linter.unusedSimpArgs false

def metN (d : List Int) : Nat := d.countP (fun x => decide (0 ≤ x))
structure Rel (n : Nat) (d : List Int) (g : List Bool) (s : HS) : Prop where
  inv : HInv s
  dlen : d.length = n
  glen : g.length = n
  cnt : s.l.length + g.count true = metN d
  nx : s.next = metN d
  fwd : ∀ x ∈ s.l, ∃ i : Nat, i < n ∧ x.key = i ∧ x.v = dp d i ∧ wait d g i = true
  bwd : ∀ i, i < n → wait d g i = true → ∃ x ∈ s.l, x.key = (i : Int)
  keys : (s.l.map Th.key).Nodup
  gone : ∀ i, gn g i = true → 0 ≤ dp d i
theorem metN_set {d : List Int} {t : Nat} {x : Int} (ht : t < d.length) (hd : dp d t < 0) (hx : 0 ≤ x) : metN (d.set t x) = metN d + 1 := by
  induction d generalizing t with
  | nil => simp at ht
  | cons a d ih =>
    cases t with
    | zero =>
      have ha : ¬ 0 ≤ a := by simp [dp] at hd; omega
      simp [metN, hx, ha]
    | succ t =>
      have := ih (t := t) (by simpa using ht) (by simpa [dp] using hd)
      simp only [metN, List.set_cons_succ, List.countP_cons] at this ⊢
      omega
theorem metN_le (d : List Int) : metN d ≤ d.length := List.countP_le_length
theorem Rel.small {n : Nat} {d : List Int} {g : List Bool} {s : HS} (h : Rel n d g s) : s.l.length ≤ n ∧ 0 ≤ s.next ∧ s.next ≤ n := by
  have h1 := h.cnt
  have h2 := metN_le d
  have h3 := h.nx
  have h4 := h.dlen
  omega
theorem wait_set {d : List Int} {g : List Bool} {t i : Nat} {x : Int} (ht : t < d.length) : wait (d.set t x) g i = if t = i then decide (0 ≤ x) && !gn g i else wait d g i := by
  unfold wait
  rw [dp_set ht]
  split <;> rfl
theorem Rel.push {n : Nat} {d : List Int} {g : List Bool} {s : HS} (h : Rel n d g s) {t : Nat} {x : Int} (ht : t < n) (hd : dp d t < 0) (hx : 0 ≤ x) : Rel n (d.set t x) g (pushS s t x) := by
  obtain ⟨h1, h2, h3⟩ := h.inv.push t x
  have htd : t < d.length := by rw [h.dlen]; exact ht
  have hg : gn g t = false := by
    cases hc : gn g t with
    | false => rfl
    | true => have := h.gone t hc; omega
  have hw : ∀ i, wait (d.set t x) g i = if t = i then true else wait d g i := fun i => by
    rw [wait_set htd]
    split
    · next e => subst e; simp [hx, hg]
    · rfl
  have hwt : wait d g t = false := by unfold wait; rw [decide_eq_false (by omega)]; rfl
  have hfw : ∀ y ∈ s.l, y.key ≠ (t : Int) := fun y hy e => by
    obtain ⟨i, hi, hk, hv, hwi⟩ := h.fwd y hy
    have : i = t := by omega
    subst this
    rw [hwt] at hwi; cases hwi
  refine ⟨h1, by simpa using h.dlen, h.glen, ?_, ?_, fun y hy => ?_, fun i hi hwi => ?_, ?_, fun i hi => ?_⟩
  · rw [h2.length_eq, metN_set htd hd hx, List.length_append, ← h.cnt]; simp; omega
  · rw [h3, h.nx, metN_set htd hd hx]; omega
  · have := h2.mem_iff.1 hy
    rw [List.mem_append, List.mem_singleton] at this
    rcases this with hy | rfl
    · obtain ⟨i, hi, hk, hv, hwi⟩ := h.fwd y hy
      have hne : ¬ t = i := fun e => hfw y hy (by rw [hk, e])
      exact ⟨i, hi, hk, by rw [dp_set htd, if_neg hne]; exact hv, by rw [hw, if_neg hne]; exact hwi⟩
    · exact ⟨t, ht, rfl, by rw [dp_set htd, if_pos rfl]; rfl, by rw [hw, if_pos rfl]⟩
  · rw [hw] at hwi
    by_cases e : t = i
    · subst e
      exact ⟨_, h2.mem_iff.2 (List.mem_append.2 (.inr (List.mem_singleton.2 rfl))), rfl⟩
    · rw [if_neg e] at hwi
      obtain ⟨y, hy, hk⟩ := h.bwd i hi hwi
      exact ⟨y, h2.mem_iff.2 (List.mem_append.2 (.inl hy)), hk⟩
  · refine (h2.map Th.key).nodup_iff.2 ?_
    rw [List.map_append, List.nodup_append]
    refine ⟨h.keys, by simp, ?_⟩
    intro a ha b hb e
    obtain ⟨y, hy, rfl⟩ := List.mem_map.1 ha
    simp only [List.map_cons, List.map_nil, List.mem_singleton] at hb
    exact hfw y hy (by rw [e, hb]; rfl)
  · rw [dp_set htd]
    split
    · exact hx
    · exact h.gone i hi
/-- Nothing waits: the heap is empty. -/
theorem Rel.empty {n : Nat} {d : List Int} {g : List Bool} {s : HS} (h : Rel n d g s) (he : s.l = []) : nxt n d g = none := by
  rw [nxt_none]
  intro j hj
  cases hc : wait d g j with
  | false => rfl
  | true =>
    obtain ⟨y, hy, _⟩ := h.bwd j hj hc
    rw [he] at hy; simp at hy
/-- The first is the next place. -/
theorem Rel.first {n : Nat} {d : List Int} {g : List Bool} {s : HS} {x : Th} {l : List Th} (h : Rel n d g s) (he : s.l = x :: l) : ∃ i : Nat, nxt n d g = some i ∧ i < n ∧ x.key = i ∧ x.v = dp d i ∧ 0 ≤ dp d i ∧ Rel n d (g.set i true) (popS s) := by
  obtain ⟨i, hi, hk, hv, hw⟩ := h.fwd x (by rw [he]; simp)
  have hx0 : at_ s.l 0 = x := by rw [he]; rfl
  have hleast : ∀ j, j < i → wait d g j = false := fun j hj => by
    cases hc : wait d g j with
    | false => rfl
    | true =>
      obtain ⟨y, hy, hky⟩ := h.bwd j (by omega) hc
      obtain ⟨p, hp, rfl⟩ := List.getElem_of_mem hy
      have e : at_ s.l p = s.l[p] := by simp [at_, hp]
      have := h.inv.hp.least p hp
      rw [hx0, e] at this
      exact absurd (.inl (by omega)) this
  have hwi := hw
  unfold wait at hwi
  simp only [Bool.and_eq_true, decide_eq_true_eq, Bool.not_eq_true'] at hwi
  obtain ⟨h1, h2, h3⟩ := h.inv.pop (by rw [he]; simp)
  rw [hx0] at h2
  have hgl : i < g.length := by rw [h.glen]; exact hi
  have hkn : (x.key :: (popS s).l.map Th.key).Nodup := (h2.map Th.key).nodup_iff.2 h.keys
  rw [List.nodup_cons] at hkn
  have hws : ∀ j, wait d (g.set i true) j = if i = j then false else wait d g j := fun j => by
    unfold wait
    rw [gn_set hgl]
    split
    · simp
    · rfl
  have hcnt : (g.set i true).count true = g.count true + 1 := by
    have h5 := gone_count hgl hwi.2
    have h6 : ∀ l : List Bool, l.count true + l.count false = l.length := fun l => by
      induction l with
      | nil => rfl
      | cons b l ih => cases b <;> simp [List.count_cons] <;> omega
    have h7 := h6 g
    have h8 := h6 (g.set i true)
    rw [List.length_set] at h8
    omega
  refine ⟨i, nxt_some.2 ⟨hi, hw, hleast⟩, hi, hk, hv, hwi.1, h1, h.dlen, by simpa using h.glen, ?_, by rw [h3]; exact h.nx, fun y hy => ?_, fun j hj hwj => ?_, hkn.2, fun j hj => ?_⟩
  · have := h2.length_eq
    rw [List.length_cons] at this
    have := h.cnt
    omega
  · obtain ⟨j, hj, hkj, hvj, hwj⟩ := h.fwd y (h2.mem_iff.1 (List.mem_cons_of_mem _ hy))
    have hne : ¬ i = j := fun e => hkn.1 (List.mem_map.2 ⟨y, hy, by rw [hkj, hk, e]⟩)
    exact ⟨j, hj, hkj, hvj, by rw [hws, if_neg hne]; exact hwj⟩
  · rw [hws] at hwj
    by_cases e : i = j
    · rw [if_pos e] at hwj; cases hwj
    · rw [if_neg e] at hwj
      obtain ⟨y, hy, hky⟩ := h.bwd j hj hwj
      rcases List.mem_cons.1 (h2.mem_iff.2 hy) with rfl | hy'
      · exact absurd (by omega) e
      · exact ⟨y, hy', hky⟩
  · rw [gn_set hgl] at hj
    by_cases e : i = j
    · subst e; exact hwi.1
    · rw [if_neg e] at hj; exact h.gone j hj
end Go.Proofs.Ytcpjjnikehcleaa.Gw
/- A walk through code, in memory: meet as a whole, through. -/
namespace Go.Proofs.Ytcpjjnikehcleaa.Gw
open Go.RowKit PChk Hq Lk Go.Proofs.YtcpjjnikehcleaaW.PrintWords Go.Proofs.YtcpjjnikehcleaaW.PrintLast Go.Proofs.YtcpjjnikehcleaaW.PrintMore
open Go.Maps (Keyed)
set_option linter.unusedVariables false
set_option linter.unusedSimpArgs false

/-- Behind meet. -/
def Met (w0 : World) (y : WL) (xs : List S36) (d : List Int) (g : List Bool) (b : Bool) (w : World) (e : Ending) (w' : World) : Prop :=
  ∃ h s', e = .returned (.bool b) ∧ WAt w0 w' { y with h := h } xs d s' ∧ Rel xs.length d g s' ∧ Ch (Touch y) w w' ∧ (∀ k, h.own k → y.h.own k ∨ w.heap.size ≤ k)
theorem meet_calls (w0 w : World) (y : WL) (xs : List S36) (d : List Int) (g : List Bool) (s : HS) (t : Nat) (x : Int) (h : WAt w0 w y xs d s) (hR : Rel xs.length d g s) (hn : xs.length ≤ 8192) (ht : t ≤ xs.length) (hx : 0 ≤ x) :
    Calls Try.prog 46 #[.pointer (some ⟨y.g, 0, none⟩), .int .i64 (t : Int), .int .i64 x] w (Met w0 y xs (if t = xs.length then d else meetL d t x) g (decide (t ≠ xs.length) && okL d t x) w) := by
  by_cases he : t = xs.length
  · subst he
    refine (meet_end w0 w y xs d s x h).mono ?_
    rintro e w' ⟨rfl, h', hW, hC, hO⟩
    exact ⟨h', s, by simp, by rw [if_pos rfl]; exact hW, by rw [if_pos rfl]; exact hR, hC, hO⟩
  · have ht' : t < xs.length := by omega
    rw [if_neg he]
    by_cases hd : dp d t < 0
    · obtain ⟨h1, h2, h3⟩ := hR.small
      refine (meet_new w0 w y xs d s t x h ht' hd hR.inv (by omega) (by omega)).mono ?_
      rintro e w' ⟨rfl, h', hW, hC, hO⟩
      have hm : meetL d t x = d.set t x := by unfold meetL; rw [if_pos hd]
      refine ⟨h', _, ?_, by rw [hm]; exact hW, by rw [hm]; exact hR.push ht' hd hx, hC, hO⟩
      have : okL d t x = true := by rw [okL_iff, hm, dp_set (by rw [h.len]; exact ht'), if_pos rfl]
      rw [this]; simp [he]
    · refine (meet_met w0 w y xs d s t x h ht' (by omega)).mono ?_
      rintro e w' ⟨rfl, h', hW, hC, hO⟩
      have hm : meetL d t x = d := by unfold meetL; rw [if_neg hd]
      refine ⟨h', s, ?_, by rw [hm]; exact hW, by rw [hm]; exact hR, hC, hO⟩
      have : okL d t x = (dp d t == x) := by unfold okL; rw [hm]; by_cases e : dp d t = x <;> simp [e]
      rw [this]; simp [he]

/-- What an instruction's kind is. -/
def kd (op : Int) : ByteArray × Int × Bool × Int × Int × Int × Bool × Bool := (instr_kindOf.f op).getD (⟨#[]⟩, 0, false, 0, 0, 0, false, false)
def kdOk (op : Int) : Bool := (instr_kindOf.f op).isSome && decide (0 ≤ (kd op).2.2.2.2.1 ∧ (kd op).2.2.2.2.1 ≤ 2 ∧ 0 ≤ (kd op).2.2.2.2.2.1 ∧ (kd op).2.2.2.2.2.1 ≤ 1)
theorem kd_all : (List.range 256).all (fun i => kdOk (i : Int)) = true := by kernel_rfl
theorem kd_ok {op : Int} (h0 : 0 ≤ op) (h1 : op < 256) : kdOk op = true := by
  have := List.all_eq_true.1 kd_all op.toNat (List.mem_range.2 (by omega))
  rw [show ((op.toNat : Nat) : Int) = op from by omega] at this
  exact this
theorem kd_some {op : Int} (h0 : 0 ≤ op) (h1 : op < 256) : instr_kindOf.f op = some (kd op) := by
  have := kd_ok h0 h1
  unfold kdOk at this
  simp only [Bool.and_eq_true] at this
  obtain ⟨r, hr⟩ := Option.isSome_iff_exists.1 this.1
  unfold kd
  rw [hr]; rfl
theorem kd_le {op : Int} (h0 : 0 ≤ op) (h1 : op < 256) : 0 ≤ (kd op).2.2.2.2.1 ∧ (kd op).2.2.2.2.1 ≤ 2 ∧ 0 ≤ (kd op).2.2.2.2.2.1 ∧ (kd op).2.2.2.2.2.1 ≤ 1 := by
  have := kd_ok h0 h1
  unfold kdOk at this
  simp only [Bool.and_eq_true, decide_eq_true_eq] at this
  exact this.2
def nod (x : S36) : Nod where
  takes := (kd x.f0).2.2.2.2.1 + (if (kd x.f0).2.2.2.2.2.2.1 = true then x.f1 else 0)
  leave := (kd x.f0).2.2.2.2.2.1
  ends := (kd x.f0).2.2.2.2.2.2.2
  tgt := if (kd x.f0).2.1 = 116 then some x.f1.toNat else none
  jump := x.f0 == 1
  mode := if x.f0 = 53 then 1 else if x.f0 = 3 ∨ x.f0 = 4 then 2 else 0
/-- An instruction that may be in code of so many. -/
structure Fit (n : Nat) (x : S36) : Prop where
  op0 : 0 ≤ x.f0
  op1 : x.f0 < 256
  a0 : 0 ≤ x.f1
  a1 : x.f1 < 1000000
  tgt : (kd x.f0).2.1 = 116 → x.f1 < n
end Go.Proofs.Ytcpjjnikehcleaa.Gw
