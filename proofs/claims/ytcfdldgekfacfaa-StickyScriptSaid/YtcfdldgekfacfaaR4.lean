/- The document's cache in memory: Shrink. -/
import Derived.Test.YtcfdldgekfacfaaR3
import Derived.Test.YtcfdldgekfacfaaS9
import Derived.Deep.RegionLaw
namespace Go.Proofs.Ytcfdldgekfacfaa.Rf
open Go.RowKit Sk PRef Go.Proofs.YtcfdldgekfacfaaW.PrintWords Go.Proofs.YtcfdldgekfacfaaW.PrintLast Go.Proofs.YtcfdldgekfacfaaW.PrintMore
set_option linter.unusedVariables false
set_option linter.unusedSimpArgs false

theorem RAt.roomed {N : Nat} {W : World} {g : Nat} {v : Value} {c : Cs} (h : RAt N W g v c) (x : Int) : RAt N (W.setCell ⟨g, 0, none⟩ (.int .i64 x)) g v { c with room := x } ∧ Ch (fun k => k = g) W (W.setCell ⟨g, 0, none⟩ (.int .i64 x)) := by
  have hs : Ch (fun k => k = g) W (W.setCell ⟨g, 0, none⟩ (.int .i64 x)) := (Ch.refl (fun k => k = g) W).set (.inl rfl) _
  exact ⟨⟨by simpa using blk_set h.blk 0 (.int .i64 x), R_ch h.row hs (fun k hk => h.ne k hk), h.ge⟩, hs⟩
theorem may15 (w : World) (r : Int) : Calls Try.prog 15 #[.int .i64 r] w (Same (.bool (decide (1 ≤ r ∧ r ≤ 4096))) w) := by
  have h : prompterref19_May.f r = some (decide (1 ≤ r ∧ r ≤ 4096)) := by
    unfold prompterref19_May.f
    by_cases h1 : r ≥ 1
    · rw [if_pos h1]
      simp; omega
    · rw [if_neg h1]
      simp; omega
  exact (prompterref19_May.calls r _ w h).mono fun e w' ⟨he, hd⟩ => by
    obtain ⟨m, rfl⟩ := hd
    exact ⟨he, (Ch.refl _ w).drewN m⟩
/-- Behind a call the document's cache is another, and names are told. -/
def RShPost (N g : Nat) (c' : Cs) (ns : List ByteArray) (w : World) (e : Ending) (w' : World) : Prop :=
  ∃ v, e = .returned v ∧ Row w.heap.size w' v ns ∧ (∃ u, RAt N w' g u c') ∧ Ch (fun k => k = g) w w'
set_option maxHeartbeats 1000000 in
set_option maxRecDepth 100000 in
theorem shrink_no (N : Nat) (w : World) (g : Nat) (u0 : Value) (c : Cs) (r : Int) (h : RAt N w g u0 c) (hr : ¬ (1 ≤ r ∧ r ≤ 4096)) :
    Calls Try.prog 23 #[.pointer (some ⟨g, 0, none⟩), .int .i64 r] w (RShPost N g c [] w) := by
  have e1 : decide (1 ≤ r ∧ r ≤ 4096) = false := decide_eq_false hr
  have H := Aside0.mk h
  clear h hr
  go_enter Try.func23, Try.ntmps23
  go_wp2_with (go_at_call 15; go_loud (refine (may15 _ r).mono ?_); rintro e w2 ⟨rfl, hc⟩; rw [e1]; have C2 := Aside0.mk hc; clear hc)
  go_ret
  exact ⟨_, rfl, Row.nil _ _, ⟨_, H.out.same C2.out⟩, Ch.toG C2.out⟩
theorem Row.not {N g : Nat} {W : World} {v : Value} {c : Cs} {B : Nat} {u : Value} {l : List ByteArray} (h : RAt N W g v c) (hr : Row B W u l) : ∀ k, u.ownBlock = some k → k ≠ g := by
  intro k hk e
  subst e
  rcases hr.2 with ⟨e, _⟩ | ⟨g', cap, cur, e, _, h2, _⟩
  · rw [e] at hk; simp [Value.ownBlock] at hk
  · rw [e] at hk
    simp [Value.ownBlock] at hk
    subst hk
    exact blk_ne h2 h.blk (by decide) rfl
theorem Row.notR {N g : Nat} {W : World} {v : Value} {c : Cs} {B : Nat} {u : Value} {l : List ByteArray} (h : RAt N W g v c) (hr : Row B W u l) : ∀ k, u.ownBlock = some k → ¬ v.ownBlock = some k := by
  intro k hk hv
  obtain ⟨inner, ho⟩ := Kd.R_own h.row
  have hb : ∃ cur, W.heap[k]? = some (.cells cur 72 (0, 0)) := by
    rcases ho.2 with ⟨e, _⟩ | ⟨g', cap, cur, e, _, h2, _⟩
    · rw [e] at hv; simp [Value.ownBlock] at hv
    · rw [e] at hv
      simp [Value.ownBlock] at hv
      subst hv
      exact ⟨cur, h2⟩
  obtain ⟨cur, hb⟩ := hb
  rcases hr.2 with ⟨e, _⟩ | ⟨g', cap, cur', e, _, h2, _⟩
  · rw [e] at hk; simp [Value.ownBlock] at hk
  · rw [e] at hk
    simp [Value.ownBlock] at hk
    subst hk
    exact blk_ne h2 hb (by decide) rfl
set_option maxHeartbeats 2000000 in
set_option maxRecDepth 100000 in
theorem shrink_yes (N : Nat) (w : World) (g : Nat) (u0 : Value) (c : Cs) (r : Nat) (h : RAt N w g u0 c) (hr : 1 ≤ r ∧ r ≤ 4096) (hl : c.l.length < 1000000) :
    Calls Try.prog 23 #[.pointer (some ⟨g, 0, none⟩), .int .i64 (r : Int)] w (RShPost N g { c with room := r, l := c.l.take r } (gone c.l r) w) := by
  have hu45 := Try.underlying45
  have hu43 := Try.underlying43
  have hu72 := Try.underlying72
  have hu35 := Try.underlying35
  obtain ⟨ti, ht0, ht1, ht2, ht3⟩ := info_parts info9
  have e1 : decide (1 ≤ (r : Int) ∧ (r : Int) ≤ 4096) = true := decide_eq_true (by omega)
  obtain ⟨A, cap, rfl, hcap, hrow⟩ := h.reads
  have H := Aside0.mk h
  have HR := Aside0.mk hr
  have HL := Aside0.mk hl
  have HC := Aside0.mk hcap
  clear h hr hl hcap hrow
  go_enter Try.func23, Try.ntmps23
  go_wp2_with (go_at_call 15; go_loud (refine (may15 _ r).mono ?_); rintro e w2 ⟨rfl, hc⟩; rw [e1]; have C2 := Aside0.mk hc; have H2 := Aside0.mk ((H.out.same hc).roomed r); have g0 := (blk_cell (H.out.same hc).blk 0).trans rfl; have f0 := blk_frozen (H.out.same hc).blk 0; clear hc)
  go_loopg [5] c.l.length (fun kq v5 w' => Aside0 (RAt N w' g (.slice A kq cap) { c with room := r, l := c.l.take kq } ∧ kq ≤ c.l.length ∧ (r ≤ kq ∨ kq = c.l.length) ∧ Row w.heap.size w' v5 (gone c.l kq) ∧ Ch (fun k => k = g) w w'))
  case atStart =>
    exact ⟨by rw [List.take_length]; exact H2.out.1, Nat.le_refl _, .inr rfl, by unfold gone; rw [List.drop_length]; exact Row.nil _ _, (Ch.toG C2.out).trans H2.out.2 (fun _ _ hk => hk)⟩
  case round =>
    have HV := hrel
    clear hrel g0 f0 H2 C2
    have g1 := (blk_cell HV.out.1.blk 1).trans rfl
    have f1 := blk_frozen HV.out.1.blk 1
    by_cases hk : r < gk
    · obtain ⟨n, rfl⟩ : ∃ n, gk = n + 1 := ⟨gk - 1, by omega⟩
      have p0 : decide (((n + 1 : Nat) : Int) > (r : Int)) = true := decide_eq_true (by omega)
      have p1 : decide ((r : Int) < (n : Int) + 1) = true := decide_eq_true (by omega)
      have hle : n + 1 ≤ c.l.length := HV.out.2.1
      obtain ⟨A', cap', hAc, hle', hC⟩ := HV.out.1.reads
      have hlen : (c.l.take (n + 1)).length = n + 1 := by rw [List.length_take]; omega
      simp only [Value.slice.injEq] at hAc
      obtain ⟨rfl, -, rfl⟩ := hAc
      obtain ⟨ad, rfl, s0, s1⟩ := RAt.at_ hC (i := n) (by rw [hlen]; omega)
      have hel : (c.l.take (n + 1))[n]'(by rw [hlen]; omega) = c.l[n]'hle := by simp
      rw [hel] at s0
      have GN := Aside0.mk (gone_next (l := c.l) (n := n) hle)
      have q1 : wrap64 ((n : Int) + 1 - 1) = (n : Int) := by have := HL.out; unfold wrap64; omega
      have q1' : wrap64 (((n + 1 : Nat) : Int) - 1) = (n : Int) := by have := HL.out; unfold wrap64; omega
      have q5 : IntKind.i64.wrap (n : Int) = (n : Int) := by have := HL.out; rw [IntKind.wrap_i64]; omega
      have q2 : (0 ≤ (n : Int)) = True := eq_true (by omega)
      have q3 : ((n : Int) < (n : Int) + 1) = True := eq_true (by omega)
      have q4 : ((n : Int) ≤ (cap : Int)) = True := eq_true (by have := HC.out; omega)
      have HLE := Aside0.mk hle
      have HK := Aside0.mk hk
      have glen := Aside0.mk (show (gone c.l (n + 1)).length < 1000000 by
        unfold gone; rw [List.length_map, List.length_reverse, List.length_drop]; have := HL.out; omega)
      generalize (c.l[n]'hle).1 = z at *
      clear hle hk hlen hel hC s1 hle'
      go_wp2
      have HS := Aside0.mk HV.out.2.2.2.2.size
      go_region_law (refine step_append_cells (w0 := wr) (W := wr.drew) w.heap.size (by rfl) (.tmp 21) (.tmp 35) 35 9 (.string ⟨#[]⟩) 1 16 (by rfl) hu35 info9 rfl (by decide) (by decide) u5 (gone c.l (n + 1)).length (strs (gone c.l (n + 1))) [.string z] (by rfl) (by rfl) (by rfl) (by simp [Value.oneCell']) (show Row w.heap.size wr.drew u5 (gone c.l (n + 1)) from HV.out.2.2.2.1) (below_drew1 (Below.refl _ _)) HS.out (by have := glen.out; omega) ?_; intro v' w5 hown hb hgrow hloc; clear hb hloc; have C5 := Aside0.mk (((Ch.refl (fun k => u5.ownBlock = some k) wr).drew).grown hgrow (fun k hk => .inl hk)); have H5 := Aside0.mk (HV.out.1.ch C5.out (fun h => Row.not HV.out.1 HV.out.2.2.2.1 _ h rfl) (fun k hk h => Row.notR HV.out.1 HV.out.2.2.2.1 k h hk)); have g5 := (blk_cell H5.out.blk 1).trans rfl; have f5 := blk_frozen H5.out.blk 1; obtain ⟨gn, cn, rfl⟩ := own_shape hown (Nat.succ_pos _); have W5 := Aside0.mk (show Row w.heap.size w5 (.slice (some ⟨gn, 0, none⟩) _ cn) (gone c.l n) from by rw [GN.out]; simpa [Row, strs] using hown); clear hown hgrow)
      all_goals
        go_wp2
        go_region
        have T5 := Aside0.mk ((H5.out.same (Ch.refl _ w5).drew).trunc (m := n) (by have := HLE.out; rw [List.length_take]; omega))
        go_wp2
        go_roundg n
        case measure => omega
        case rel => exact ⟨by have h := T5.out.1; rw [List.take_take, Nat.min_eq_left (by omega)] at h; exact h, by have := HLE.out; omega, .inl (by have := HK.out; omega), ownsRow_ch (show Row w.heap.size w5.drew _ _ from W5.out) T5.out.2 (fun k hk h => Row.not H5.out W5.out k hk h), (HV.out.2.2.2.2.trans C5.out (fun k hk h => by have := (HV.out.2.2.2.1.lt k h).1; omega)).trans ((Ch.refl (fun k => k = g) w5).drew.trans T5.out.2 (fun _ _ hk => hk)) (fun _ _ hk => hk)⟩
    · have p0 : decide ((gk : Int) > (r : Int)) = false := decide_eq_false (by omega)
      have p1 : decide (r < gk) = false := decide_eq_false hk
      have hkr : gk = r ∨ (gk = c.l.length ∧ gk ≤ r) := by have := HV.out.2.2.1; have := HV.out.2.1; omega
      have e1 : c.l.take r = c.l.take gk ∧ gone c.l r = gone c.l gk := by
        rcases hkr with rfl | ⟨rfl, hle⟩
        · exact ⟨rfl, rfl⟩
        · refine ⟨by rw [List.take_length, List.take_of_length_le hle], ?_⟩
          unfold gone
          rw [List.drop_length, List.drop_eq_nil_of_le hle]
      have E1 := Aside0.mk e1
      clear e1 hkr hk
      go_wp2
      go_ret
      exact ⟨_, rfl, by rw [E1.out.2]; exact HV.out.2.2.2.1, ⟨_, by rw [E1.out.1]; exact HV.out.1⟩, HV.out.2.2.2.2⟩
end Go.Proofs.Ytcfdldgekfacfaa.Rf
