/- RetryKnown, walked. -/
import Derived.Test.YtealggjnnihejaaTk
namespace Go.Proofs.Ytealggjnnihejaa.Kn
open Go.RowKit Go.Shelf Go.Proofs.YtealggjnnihejaaW.PrintWords Go.Proofs.YtealggjnnihejaaW.PrintLast Go.Proofs.YtealggjnnihejaaW.PrintMore
set_option linter.unusedVariables false
set_option linter.unusedSimpArgs false

theorem KI.start {w w1 : World} {A : Option Addr} {co : Nat} (hb : Below w.heap.size w w1) (hr : Kd.C (Kd.int .i64) w1 A 1 [7]) (hc : 1 ≤ co) :
    KI w ((w1.alloc (.cells #[.int .i64 100, .int .i64 1000, .int .i64 2, .int .i64 1, .int .i64 5, .int .i64 0, .slice A 1 co] 24)).alloc (.cells #[.int .i64 100, .int .i64 1000, .int .i64 2, .int .i64 1, .int .i64 5, .int .i64 50, .slice A 1 co] 24)) w1.heap.size (w1.heap.size + 1) A co := by
  have h1 := below_alloc (Below.refl w1.heap.size w1) (.cells #[.int .i64 100, .int .i64 1000, .int .i64 2, .int .i64 1, .int .i64 5, .int .i64 0, .slice A 1 co] 24)
  have h2 := below_alloc h1 (.cells #[.int .i64 100, .int .i64 1000, .int .i64 2, .int .i64 1, .int .i64 5, .int .i64 50, .slice A 1 co] 24)
  refine ⟨?_, ?_, Kd.C_below hr h2, hc, hb.trans (h2.mono hb.size)⟩
  · exact blk_alloc (blk_new w1 _) _
  · have := blk_new (w1.alloc (.cells #[.int .i64 100, .int .i64 1000, .int .i64 2, .int .i64 1, .int .i64 5, .int .i64 0, .slice A 1 co] 24)) (.cells #[.int .i64 100, .int .i64 1000, .int .i64 2, .int .i64 1, .int .i64 5, .int .i64 50, .slice A 1 co] 24)
    rw [World.size_alloc] at this
    exact this

theorem check7 {w : World} {A : Option Addr} {co base : Nat} {ok : Nat → Prop} (h : Kd.R (Kd.int .i64) 2 w base ok (.slice A 101 co) (List.replicate 101 0)) :
    Calls Try.prog 15 #[.agg #[.int .i64 100, .int .i64 1000, .int .i64 2, .int .i64 1, .int .i64 5, .int .i64 0, .slice A 101 co]] w (Ret (.int .i64 1) w) := by
  obtain ⟨h1, h2, h3⟩ := Kd.R_reads' h
  have := check_k (w := w) (A := A) (co := co) (l := List.replicate 101 0) (a := 100) (b := 1000) (c := 2) (d := 1) (m := 5) (s := 0) h3 (by rw [List.length_replicate]; exact h2) (by decide) (by rw [List.length_replicate]; decide)
  rwa [List.length_replicate] at this

set_option maxHeartbeats 4000000 in
set_option maxRecDepth 100000 in
theorem known (w : World) : Calls Try.prog 7 #[] w (Ret (.bool true) w) := by
  have hu24 := Try.underlying24
  have T0 := Aside0.mk trivial
  have T1 := Aside0.mk trivial
  have T2 := Aside0.mk trivial
  have T3 := Aside0.mk trivial
  have T4 := Aside0.mk trivial
  have T5 := Aside0.mk trivial
  have T6 := Aside0.mk trivial
  have T7 := Aside0.mk trivial
  go_enter Try.func7, Try.ntmps7
  go_wp2_with (go_at_call 21; refine (dbl_k _).mono ?_; rintro e w1 ⟨A, co, rfl, hco, hrow, hb⟩; have KX := Aside0.mk (KI.start hb hrow hco); clear hb hrow hco)
  go_wp2_with (clear T0; go_at_call 10; refine (wait_k KX.out.row KX.out.co).mono ?_; rintro e w2 ⟨rfl, hb⟩; have KN := Aside0.mk (KX.out.step hb); clear hb KX; have KX := KN; clear KN; obtain ⟨hp0, hp1, hp2, hp3, hp4, hp5, hp6, hq0, hq1, hq2, hq3, hq4, hq5, hq6⟩ := PBase.seven KX.out.p; obtain ⟨hs0, hs1, hs2, hs3, hs4, hs5, hs6, ht0, ht1, ht2, ht3, ht4, ht5, ht6⟩ := PBase.seven KX.out.s)
  go_wp2_with (clear T1; go_at_call 10; refine (wait0_k KX.out.row KX.out.co).mono ?_; rintro e w2 ⟨rfl, hb⟩; have KN := Aside0.mk (KX.out.step hb); clear hb KX; have KX := KN; clear KN; obtain ⟨hp0, hp1, hp2, hp3, hp4, hp5, hp6, hq0, hq1, hq2, hq3, hq4, hq5, hq6⟩ := PBase.seven KX.out.p; obtain ⟨hs0, hs1, hs2, hs3, hs4, hs5, hs6, ht0, ht1, ht2, ht3, ht4, ht5, ht6⟩ := PBase.seven KX.out.s)
  go_wp2_with (clear T2; go_at_call 12; refine (total_k KX.out.row KX.out.co).mono ?_; rintro e w2 ⟨rfl, hb⟩; have KN := Aside0.mk (KX.out.step hb); clear hb KX; have KX := KN; clear KN; obtain ⟨hp0, hp1, hp2, hp3, hp4, hp5, hp6, hq0, hq1, hq2, hq3, hq4, hq5, hq6⟩ := PBase.seven KX.out.p; obtain ⟨hs0, hs1, hs2, hs3, hs4, hs5, hs6, ht0, ht1, ht2, ht3, ht4, ht5, ht6⟩ := PBase.seven KX.out.s)
  go_wp2_with (clear T3; go_at_call 17; refine (drawn_k KX.out.row KX.out.co).mono ?_; rintro e w2 ⟨rfl, hb⟩; have KN := Aside0.mk (KX.out.step hb); clear hb KX; have KX := KN; clear KN; obtain ⟨hp0, hp1, hp2, hp3, hp4, hp5, hp6, hq0, hq1, hq2, hq3, hq4, hq5, hq6⟩ := PBase.seven KX.out.p; obtain ⟨hs0, hs1, hs2, hs3, hs4, hs5, hs6, ht0, ht1, ht2, ht3, ht4, ht5, ht6⟩ := PBase.seven KX.out.s)
  go_wp2_with (clear T4; go_at_call 17; refine (drawnm_k KX.out.row KX.out.co).mono ?_; rintro e w2 ⟨rfl, hb⟩; have KN := Aside0.mk (KX.out.step hb); clear hb KX; have KX := KN; clear KN; obtain ⟨hp0, hp1, hp2, hp3, hp4, hp5, hp6, hq0, hq1, hq2, hq3, hq4, hq5, hq6⟩ := PBase.seven KX.out.p; obtain ⟨hs0, hs1, hs2, hs3, hs4, hs5, hs6, ht0, ht1, ht2, ht3, ht4, ht5, ht6⟩ := PBase.seven KX.out.s)
  go_wp2_with (clear T5; go_at_call 10; refine (wait3_k _).mono ?_; rintro e w2 ⟨rfl, hb⟩; have KN := Aside0.mk (KX.out.step hb); clear hb KX; have KX := KN; clear KN; obtain ⟨hp0, hp1, hp2, hp3, hp4, hp5, hp6, hq0, hq1, hq2, hq3, hq4, hq5, hq6⟩ := PBase.seven KX.out.p; obtain ⟨hs0, hs1, hs2, hs3, hs4, hs5, hs6, ht0, ht1, ht2, ht3, ht4, ht5, ht6⟩ := PBase.seven KX.out.s)
  go_wp2_with (clear T6; go_at_call 10; refine (waitm_k _).mono ?_; rintro e w2 ⟨rfl, hb⟩; have KN := Aside0.mk (KX.out.step hb); clear hb KX; have KX := KN; clear KN; obtain ⟨hp0, hp1, hp2, hp3, hp4, hp5, hp6, hq0, hq1, hq2, hq3, hq4, hq5, hq6⟩ := PBase.seven KX.out.p; obtain ⟨hs0, hs1, hs2, hs3, hs4, hs5, hs6, ht0, ht1, ht2, ht3, ht4, ht5, ht6⟩ := PBase.seven KX.out.s)
  go_wp2_with (clear T7; go_at_call 19; refine (next_k KX.out.row KX.out.co).mono ?_; rintro e w2 ⟨rfl, hb⟩; have KN := Aside0.mk (KX.out.step hb); clear hb KX; have KX := KN; clear KN; obtain ⟨hp0, hp1, hp2, hp3, hp4, hp5, hp6, hq0, hq1, hq2, hq3, hq4, hq5, hq6⟩ := PBase.seven KX.out.p; obtain ⟨hs0, hs1, hs2, hs3, hs4, hs5, hs6, ht0, ht1, ht2, ht3, ht4, ht5, ht6⟩ := PBase.seven KX.out.s)
  go_loopg [20] 9 (fun kq v20 w' => ∃ i : Nat, v20 = .int .i64 (i : Int) ∧ Aside0 (i + kq = 9 ∧ i ≤ 8) ∧ Aside0 (KI w w' w1.heap.size (w1.heap.size + 1) A co))
  case atStart => exact ⟨0, rfl, ⟨⟨rfl, by omega⟩⟩, KX⟩
  case round =>
    clear KX hp0 hp1 hp2 hp3 hp4 hp5 hp6 hq0 hq1 hq2 hq3 hq4 hq5 hq6 hs0 hs1 hs2 hs3 hs4 hs5 hs6 ht0 ht1 ht2 ht3 ht4 ht5 ht6
    obtain ⟨i, rfl, HI, KX⟩ := hrel
    have hgk := HI.out.1
    obtain rfl | rfl | rfl | rfl | rfl | rfl | rfl | rfl | rfl : i = 0 ∨ i = 1 ∨ i = 2 ∨ i = 3 ∨ i = 4 ∨ i = 5 ∨ i = 6 ∨ i = 7 ∨ i = 8 := by have := HI.out.2; omega
    · clear HI
      go_wp2_with (first
        | (go_at_call 21; refine (dbl_k _).mono ?_; rintro e w3 ⟨B, cb, rfl, hco, hrow, hb⟩; have KN := Aside0.mk (KX.out.step hb); have HR := Aside0.mk hrow; have HC := Aside0.mk hco; clear hb KX hrow hco; have KX := KN; clear KN)
        | (go_at_call 15; refine (check_k (l := [7]) (Kd.C_alloc HR.out _) HC.out (by decide) (by decide)).mono ?_; rintro e w4 ⟨rfl, hb⟩; have KN := Aside0.mk ((KX.out.step (below_alloc (Below.refl _ _) _)).step hb); clear hb KX; have KX := KN; clear KN))
      go_roundg (8 - 0)
      case measure => omega
      case rel => exact ⟨0 + 1, by first | rfl | simp, ⟨⟨by omega, by omega⟩⟩, KX⟩
    · clear HI
      go_wp2_with (first
        | (go_at_call 21; refine (dbl_k _).mono ?_; rintro e w3 ⟨B, cb, rfl, hco, hrow, hb⟩; have KN := Aside0.mk (KX.out.step hb); have HR := Aside0.mk hrow; have HC := Aside0.mk hco; clear hb KX hrow hco; have KX := KN; clear KN)
        | (go_at_call 15; refine (check_k (l := [7]) (Kd.C_alloc HR.out _) HC.out (by decide) (by decide)).mono ?_; rintro e w4 ⟨rfl, hb⟩; have KN := Aside0.mk ((KX.out.step (below_alloc (Below.refl _ _) _)).step hb); clear hb KX; have KX := KN; clear KN))
      go_roundg (8 - 1)
      case measure => omega
      case rel => exact ⟨1 + 1, by first | rfl | simp, ⟨⟨by omega, by omega⟩⟩, KX⟩
    · clear HI
      go_wp2_with (first
        | (go_at_call 21; refine (dbl_k _).mono ?_; rintro e w3 ⟨B, cb, rfl, hco, hrow, hb⟩; have KN := Aside0.mk (KX.out.step hb); have HR := Aside0.mk hrow; have HC := Aside0.mk hco; clear hb KX hrow hco; have KX := KN; clear KN)
        | (go_at_call 15; refine (check_k (l := [7]) (Kd.C_alloc HR.out _) HC.out (by decide) (by decide)).mono ?_; rintro e w4 ⟨rfl, hb⟩; have KN := Aside0.mk ((KX.out.step (below_alloc (Below.refl _ _) _)).step hb); clear hb KX; have KX := KN; clear KN))
      go_roundg (8 - 2)
      case measure => omega
      case rel => exact ⟨2 + 1, by first | rfl | simp, ⟨⟨by omega, by omega⟩⟩, KX⟩
    · clear HI
      go_wp2_with (first
        | (go_at_call 21; refine (dbl_k _).mono ?_; rintro e w3 ⟨B, cb, rfl, hco, hrow, hb⟩; have KN := Aside0.mk (KX.out.step hb); have HR := Aside0.mk hrow; have HC := Aside0.mk hco; clear hb KX hrow hco; have KX := KN; clear KN)
        | (go_at_call 15; refine (check_k (l := [7]) (Kd.C_alloc HR.out _) HC.out (by decide) (by decide)).mono ?_; rintro e w4 ⟨rfl, hb⟩; have KN := Aside0.mk ((KX.out.step (below_alloc (Below.refl _ _) _)).step hb); clear hb KX; have KX := KN; clear KN))
      go_roundg (8 - 3)
      case measure => omega
      case rel => exact ⟨3 + 1, by first | rfl | simp, ⟨⟨by omega, by omega⟩⟩, KX⟩
    · clear HI
      go_wp2_with (first
        | (go_at_call 21; refine (dbl_k _).mono ?_; rintro e w3 ⟨B, cb, rfl, hco, hrow, hb⟩; have KN := Aside0.mk (KX.out.step hb); have HR := Aside0.mk hrow; have HC := Aside0.mk hco; clear hb KX hrow hco; have KX := KN; clear KN)
        | (go_at_call 15; refine (check_k (l := [7]) (Kd.C_alloc HR.out _) HC.out (by decide) (by decide)).mono ?_; rintro e w4 ⟨rfl, hb⟩; have KN := Aside0.mk ((KX.out.step (below_alloc (Below.refl _ _) _)).step hb); clear hb KX; have KX := KN; clear KN))
      go_roundg (8 - 4)
      case measure => omega
      case rel => exact ⟨4 + 1, by first | rfl | simp, ⟨⟨by omega, by omega⟩⟩, KX⟩
    · clear HI
      go_wp2_with (first
        | (go_at_call 21; refine (dbl_k _).mono ?_; rintro e w3 ⟨B, cb, rfl, hco, hrow, hb⟩; have KN := Aside0.mk (KX.out.step hb); have HR := Aside0.mk hrow; have HC := Aside0.mk hco; clear hb KX hrow hco; have KX := KN; clear KN)
        | (go_at_call 15; refine (check_k (l := [7]) (Kd.C_alloc HR.out _) HC.out (by decide) (by decide)).mono ?_; rintro e w4 ⟨rfl, hb⟩; have KN := Aside0.mk ((KX.out.step (below_alloc (Below.refl _ _) _)).step hb); clear hb KX; have KX := KN; clear KN))
      go_roundg (8 - 5)
      case measure => omega
      case rel => exact ⟨5 + 1, by first | rfl | simp, ⟨⟨by omega, by omega⟩⟩, KX⟩
    · clear HI
      go_wp2_with (first
        | (go_at_call 21; refine (dbl_k _).mono ?_; rintro e w3 ⟨B, cb, rfl, hco, hrow, hb⟩; have KN := Aside0.mk (KX.out.step hb); have HR := Aside0.mk hrow; have HC := Aside0.mk hco; clear hb KX hrow hco; have KX := KN; clear KN)
        | (go_at_call 15; refine (check_k (l := [7]) (Kd.C_alloc HR.out _) HC.out (by decide) (by decide)).mono ?_; rintro e w4 ⟨rfl, hb⟩; have KN := Aside0.mk ((KX.out.step (below_alloc (Below.refl _ _) _)).step hb); clear hb KX; have KX := KN; clear KN))
      go_roundg (8 - 6)
      case measure => omega
      case rel => exact ⟨6 + 1, by first | rfl | simp, ⟨⟨by omega, by omega⟩⟩, KX⟩
    · clear HI
      go_wp2_with (first
        | (go_at_call 21; refine (dbl_k _).mono ?_; rintro e w3 ⟨B, cb, rfl, hco, hrow, hb⟩; have KN := Aside0.mk (KX.out.step hb); have HR := Aside0.mk hrow; have HC := Aside0.mk hco; clear hb KX hrow hco; have KX := KN; clear KN)
        | (at_make; (refine Kd.R_make (Kd.int .i64) (w0 := w3) w3.heap.size 2 rfl rfl 22 _ _ rfl 101 rfl rfl Try.underlying22 (.int .i64 0) 8 PELaw.info2 rfl (by decide) (by decide) 0 (ok := fun _ => True) (okp := fun _ => True) ?mz (fun _ _ => trivial) trivial (by decide) (by decide) (below_alloc (Below.refl _ _) _) (by simp) ?_); (case mz => rfl); intro v1 w4 hr hb hg hv; obtain ⟨Av, cv, ev⟩ := Kd.R_slice hr; rw [List.length_replicate, show (101 : Int).toNat = 101 from rfl] at ev; subst ev; have HM := Aside0.mk (show PBase.Mine w3 w4 w3.heap.size #[.int .i64 100, .int .i64 1000, .int .i64 2, .int .i64 1, .int .i64 5, .int .i64 0, .slice B 1 cb] (.slice Av 101 cv) (List.replicate 101 0) from ⟨(hg.block w3.heap.size (by simp) (by simp)).trans (blk_new w3 _), hr, hb⟩); clear hr hb hg hv; obtain ⟨hp0, hp1, hp2, hp3, hp4, hp5, hp6, hq0, hq1, hq2, hq3, hq4, hq5, hq6⟩ := PBase.seven HM.out.blk)
        | (go_at_call 15; have HM2 := HM.out.set (Nat.le_refl _) 6 (.slice Av 101 cv) #[.int .i64 100, .int .i64 1000, .int .i64 2, .int .i64 1, .int .i64 5, .int .i64 0, .slice Av 101 cv] rfl; refine (check7 HM2.row).mono ?_; rintro e w5 ⟨rfl, hb⟩; have KN := Aside0.mk ((KX.out.step HM2.bel).step hb); clear hb KX; have KX := KN; clear KN))
      go_roundg (8 - 7)
      case measure => omega
      case rel => exact ⟨7 + 1, by first | rfl | simp, ⟨⟨by omega, by omega⟩⟩, KX⟩
    · clear HI
      go_wp2_with (go_at_call 14; refine (awake_k _).mono ?_; rintro e w3 ⟨rfl, hb⟩; have KN := Aside0.mk (KX.out.step hb); clear hb KX; have KX := KN; clear KN)
      go_ret
      exact ⟨by first | rfl | simp, KX.out.bel⟩
end Go.Proofs.Ytealggjnnihejaa.Kn
