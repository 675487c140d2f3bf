/- The program's iterator gives the waits in order, for a policy that may be. -/
import Derived.RangeFuncBound
import Derived.RangeFuncCalls
import Derived.RangeFuncLeaves
import Derived.Shelf.Abstract
import Derived.Shelf.RegionOpen
import Derived.WalkKit
import Derived.OwnWalkIn
import Derived.TacticsInMore
import Derived.LoopNIn
import Derived.LoopIn
import Derived.Test.YtealggjnnihejaaRg
import Derived.Test.YtealggjnnihejaaT2
import Derived.Test.YtealggjnnihejaaT4
namespace Go.Proofs.Ytealggjnnihejaa.PBase
open Go.RowKit Go.Shelf Go.Proofs.YtealggjnnihejaaW.PrintWords Go.Proofs.YtealggjnnihejaaW.PrintLast Go.Proofs.YtealggjnnihejaaW.PrintMore
set_option linter.unusedVariables false
set_option linter.unusedSimpArgs false
attribute [local go_sem] Oper.semAt_some

/-- What the iterator gives: the waits in order, till one is as the one ahead of it. -/
def Ok (p : Rt.Pol) (pre : List Int) (x : Int) : Prop := pre = Rt.upto p pre.length ∧ x = Rt.it p pre.length
def Fin (p : Rt.Pol) (xs : List Int) : Prop := ∃ n, xs = Rt.upto p (n + 1) ∧ Rt.it p (n + 1) = Rt.it p n

theorem grown_of {a0_0 a0_1 a0_2 a0_3 a0_4 a0_5 nf : Int} {p : Rt.Pol} (hp : Rt.okP p) (he : p = ⟨a0_0, a0_1, a0_2, a0_3, a0_4, a0_5, nf⟩) (x : Int) (hx : p.first ≤ x ∧ x ≤ p.cap) (v6 : Value) (w : World) :
    Calls Try.prog 31 #[.agg #[.int .i64 a0_0, .int .i64 a0_1, .int .i64 a0_2, .int .i64 a0_3, .int .i64 a0_4, .int .i64 a0_5, v6], .int .i64 x] w (NextPost p x w) := by
  subst he
  obtain ⟨h1, h2, h3, h4, h5, _, _, _, _, _, h6⟩ := hp
  dsimp only at *
  unfold Rt.gr at h6
  exact grown_calls _ _ _ _ _ _ _ _ _ _ (by omega) (by omega) (by omega) (by omega) (by omega) (by omega)
set_option maxHeartbeats 2000000 in
set_option maxRecDepth 100000 in
theorem waits_gives (a0_0 : Int) (a0_1 : Int) (a0_2 : Int) (a0_3 : Int) (a0_4 : Int) (a0_5 : Int) (nf : Int) (v6 : Value) (n : Nat) (hn : 1 ≤ n) (hp : Rt.okP ⟨a0_0, a0_1, a0_2, a0_3, a0_4, a0_5, nf⟩) :
    Rg.Gives n Try.prog 23 #[.agg #[.int .i64 a0_0, .int .i64 a0_1, .int .i64 a0_2, .int .i64 a0_3, .int .i64 a0_4, .int .i64 a0_5, v6]] (Ok ⟨a0_0, a0_1, a0_2, a0_3, a0_4, a0_5, nf⟩) (Fin ⟨a0_0, a0_1, a0_2, a0_3, a0_4, a0_5, nf⟩) := by
  intro l J Jx W hJ hJx hY h0
  have hu24 := Try.underlying24
  have hu53 := Try.underlying53
  refine callsIn_of_wp Try.func23 rfl trivial ?_ rfl
  simp only [Try.ntmps23, List.size_toArray, List.length_cons, List.length_nil, Nat.reduceAdd, Nat.reduceSub, Array.replicate_succ, Array.replicate_zero, List.push_toArray, List.append_toArray, List.nil_append, List.cons_append]
  obtain ⟨p, hpe⟩ : ∃ p : Rt.Pol, p = ⟨a0_0, a0_1, a0_2, a0_3, a0_4, a0_5, nf⟩ := ⟨_, rfl⟩
  rw [← hpe] at hp hY ⊢
  have HE := Aside0.mk hpe
  have HP := Aside0.mk hp
  have HY := Aside0.mk hY
  have HJ := Aside0.mk hJ
  have HJX := Aside0.mk hJx
  have HO := Aside0.mk h0
  clear hpe hp hY hJ hJx h0
  gi_wp2
  gi_loopw [4] (fun v wr => ∃ k : Nat, v = .int .i64 (Rt.it p k) ∧ Aside0 (J (Rt.upto p k) wr) ∧ Aside0 (a0_0 + (k : Int) ≤ Rt.it p k) ∧ Aside0 (W.heap.size < wr.heap.size) ∧ Aside0 (wr.heap[W.heap.size]? = some (.cells #[.int .i64 a0_0, .int .i64 a0_1, .int .i64 a0_2, .int .i64 a0_3, .int .i64 a0_4, .int .i64 a0_5, v6] 53 (0, 0))))
    (fun v _ => (a0_1 - intOf v).toNat)
  case atStart =>
    exact ⟨0, by rw [HE.out]; rfl, ⟨HJ.out _ _ _ HO.out ((Below.refl _ _).alloc (Nat.le_refl _) _)⟩, ⟨by rw [HE.out]; show a0_0 + 0 ≤ a0_0; omega⟩, ⟨by simp⟩, ⟨World.alloc_heap_new _ _⟩⟩
  case round =>
    obtain ⟨k, rfl, hJ1, hk, hz, hb⟩ := hrel
    obtain ⟨fn, tmps, assign, body, hy, hR⟩ := HY.out (Rt.upto p k) (Rt.it p k) wr hJ1.out ⟨by rw [Rt.upto_length], by rw [Rt.upto_length]⟩
    have HB := Aside0.mk (Rt.it_bd HP.out k)
    have HS := Aside0.mk (Rt.it_mono1 HP.out k)
    have HX := Aside0.mk (show Rt.it p (k + 1) = Rt.nx p (Rt.it p k) from rfl)
    have HU := Aside0.mk (Rt.upto_succ p k)
    have HG := Aside0.mk (grown_of HP.out HE.out (Rt.it p k) (HB.out))
    have HF := Aside0.mk (show Rt.nx p (Rt.it p k) = Rt.it p k → Fin p (Rt.upto p (k + 1)) from fun h => ⟨k, rfl, h⟩)
    generalize Rt.it p k = x at *
    gi_wp2
    refine hR.mono ?_
    rintro e W3 (⟨rfl, hJ3, hk3⟩ | ⟨rfl, hJx3⟩)
    · have hz3 := hk3.size
      have hb3 := Aside0.mk ((hk3.block _ (Nat.le_refl _) hz.out).trans hb.out)
      have HJ3 := Aside0.mk hJ3
      obtain ⟨hc0, hc1, hc2, hc3, hc4, hc5, hc6, _, _, _, _, _, _, _⟩ := seven hb3.out
      have HZ3 := Aside0.mk (Nat.lt_of_lt_of_le hz.out hz3)
      clear hJ3 hk3 hb hz3 hz hJ1
      have HN := Aside0.mk (show ∃ y, Rt.nx p x = y from ⟨_, rfl⟩)
      by_cases hq : Rt.nx p x = x
      · have HQ := Aside0.mk hq
        clear hq
        gi_wp2_with (refine ⟨trivial, ?_⟩; gi_at_call 31; refine (callsIn_wide.2 (HG.out _ _)).mono ?_; rintro e w' ⟨rfl, hbel⟩; rw [HQ.out])
        exact bodyPost_ret (results_none rfl _ _ _) rfl ⟨⟨_, rfl⟩, .inl ⟨_, HF.out HQ.out, HJ.out _ _ _ (by rw [HU.out]; exact HJ3.out) hbel⟩⟩
      · have hlt : x < Rt.nx p x := by have := HS.out; rw [HX.out] at this; omega
        have hcap := (Rt.it_bd HP.out (k + 1)).2
        obtain ⟨y, hy2⟩ : ∃ y, Rt.nx p x = y := ⟨_, rfl⟩
        rw [HX.out] at hcap
        rw [hy2] at hlt hq hcap
        have hne : (y == x) = false := beq_eq_false_iff_ne.mpr hq
        have HL := Aside0.mk hlt
        have HCap := Aside0.mk hcap
        have HY2 := Aside0.mk hy2
        clear hq hlt hcap hy2
        gi_wp2_with (refine ⟨trivial, ?_⟩; gi_at_call 31; refine (callsIn_wide.2 (HG.out _ _)).mono ?_; rintro e w' ⟨rfl, hbel⟩; rw [HY2.out])
        have hz4 := hbel.size
        have hb4 := (hbel.block W.heap.size HZ3.out).trans hb3.out
        have hy3 : Rt.it p (k + 1) = y := HX.out.trans HY2.out
        go_roundw
        case rel => exact ⟨k + 1, by rw [hy3], ⟨HJ.out _ _ _ (by rw [HU.out]; exact HJ3.out) hbel⟩, ⟨by rw [hy3]; have := hk.out; have := HL.out; omega⟩, ⟨Nat.lt_of_lt_of_le HZ3.out hz4⟩, ⟨hb4⟩⟩
        case measure => have := HL.out; have := HCap.out; rw [HE.out] at this; dsimp only at this; simp [intOf]; omega
    · gi_wp2
      go_end0
      exact ⟨⟨_, rfl⟩, .inr ⟨_, hJx3⟩⟩
end Go.Proofs.Ytealggjnnihejaa.PBase
