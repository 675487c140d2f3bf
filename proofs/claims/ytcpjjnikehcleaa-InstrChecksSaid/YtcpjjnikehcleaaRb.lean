/- The document's Fits, in plain: its steps. -/
import Derived.Test.YtcpjjnikehcleaaRa
import Derived.Test.YtcpjjnikehcleaaPChkx10
namespace Go.Proofs.Ytcpjjnikehcleaa.Rt
open Go.RowKit PChk Hq Lk Gw Go.Proofs.YtcpjjnikehcleaaW.PrintWords Go.Proofs.YtcpjjnikehcleaaW.PrintLast Go.Proofs.YtcpjjnikehcleaaW.PrintMore
set_option linter.unusedVariables false
set_option linter.unusedSimpArgs false

/-! ### Fits -/
theorem dp_meet_ne {d : List Int} {t j : Nat} {x : Int} (h : t ≠ j) : dp (meetL d t x) j = dp d j := by
  unfold meetL
  split
  · by_cases ht : t < d.length
    · rw [dp_set ht, if_neg h]
    · rw [List.set_eq_of_length_le (by omega)]
  · rfl
theorem dp_meet_met {d : List Int} {t j : Nat} {x : Int} (h : 0 ≤ dp d t) : dp (meetL d t x) j = dp d j := by
  unfold meetL
  rw [if_neg (by omega)]
theorem l1_skip {xs : List S36} {d : List Int} {g : List Bool} {i : Nat} (hd : d.length = xs.length) (hg : g.length = xs.length) (hn : xs.length ≤ 8192) (hi : i < xs.length) (hw : wait d g i = false) (k : Nat) :
    prompterref14_Fits.l1 (k + 2) xs d g (i : Int) = prompterref14_Fits.l1 k xs d g ((i + 1 : Nat) : Int) := by
  have q1 : (i : Int) < (xs.length : Int) := by omega
  have q2 : (0 : Int) ≤ (i : Int) := by omega
  have q3 : (i : Int) < (d.length : Int) := by omega
  have q4 : (i : Int) < (g.length : Int) := by omega
  simp only [prompterref14_Fits.l1]
  rw [if_pos q1, if_pos q2, if_pos q3, rd_dp (by omega)]
  have fin : prompterref14_Fits.j2 (k + 1) xs d g (i : Int) true = prompterref14_Fits.l1 k xs d g ((i + 1 : Nat) : Int) := by
    simp only [prompterref14_Fits.j2]
    rw [if_pos trivial, w64 i (by omega)]
  by_cases h : dp d i < 0
  · rw [if_pos h, fin]
  · rw [if_neg h, if_pos q4, rdOf_gn]
    have : gn g i = true := by
      unfold wait at hw
      simp only [Bool.and_eq_false_iff, decide_eq_false_iff_not, Bool.not_eq_false'] at hw
      rcases hw with h1 | h1
      · omega
      · exact h1
    rw [this, fin]
/-- What a visit comes to. -/
def Visit (xs : List S36) (d : List Int) (g : List Bool) (i : Nat) (r : Option (List Int)) : Prop :=
  match r with
  | none => ∃ y, prompterref14_Fits.l1 20 xs d g (i : Int) = some y ∧ y.2 = (i : Int)
  | some d' => ∃ j : Nat, j ≤ i ∧ (∀ q, q < j → wait d' (g.set i true) q = false) ∧ ∀ k y, prompterref14_Fits.l1 k xs d' (g.set i true) (j : Int) = some y → prompterref14_Fits.l1 (k + 20) xs d g (i : Int) = some y
theorem l1_up {xs : List S36} {d : List Int} {g : List Bool} {i : Int} {k m : Nat} {y : List Int × Int} (h : prompterref14_Fits.l1 k xs d g i = some y) (hk : k ≤ m) : prompterref14_Fits.l1 m xs d g i = some y :=
  up (f := fun k => prompterref14_Fits.l1 k xs d g i) (fun k => (prompterref14_Fits.mono_l k).2.1 _ _ _ _) hk h
theorem wait_same {d d' : List Int} {g : List Bool} {i q : Nat} (hi : i < g.length) (hq : q ≠ i) (hd : dp d' q = dp d q) (h : wait d g q = false) : wait d' (g.set i true) q = false := by
  unfold wait at *
  rw [gn_set hi, if_neg (fun e => hq e.symm), hd]; exact h
theorem l1_visit {xs : List S36} {d : List Int} {g : List Bool} {i : Nat} (hd : d.length = xs.length) (hg : g.length = xs.length) (hn : xs.length ≤ 8192) (hi : i < xs.length) (hw : wait d g i = true) (hF : Fit xs.length (rd_T36 xs i)) (hdep : dp d i ≤ 100000)
    (hbe : ∀ q, q < i → wait d g q = false) : Visit xs d g i (gotoL (nodN xs i) xs.length i d) := by
  have q1 : (i : Int) < (xs.length : Int) := by omega
  have q2 : (0 : Int) ≤ (i : Int) := by omega
  have q3 : (i : Int) < (d.length : Int) := by omega
  have q4 : (i : Int) < (g.length : Int) := by omega
  have hpos : 0 ≤ dp d i := by unfold wait at hw; simp at hw; exact hw.1
  have hgi : gn g i = false := by unfold wait at hw; simp at hw; exact hw.2
  have hx : nodN xs i = nod (rd_T36 xs i) := rfl
  have eE := ends_is hF.op0 hF.op1
  have eT := fun k hk => takes_is hF.op0 hF.op1 (k := k) hk
  have eB := fun k hk => behind_is hF (k := k) hk hpos hdep
  have eO := (tab hF.op0 hF.op1).some
  have eG := tgt_is hF.op0 hF.op1
  have ha0 := hF.a0
  rw [hx]
  -- the walk up to where it forks
  have up1 : ∀ k, 15 ≤ k → prompterref14_Fits.l1 (k + 2) xs d g (i : Int) =
      (if (nod (rd_T36 xs i)).ends = true then (if dp d i = (nod (rd_T36 xs i)).takes then prompterref14_Fits.l1 k xs d (g.set i true) (i : Int) else some (d, (i : Int)))
       else if dp d i < (nod (rd_T36 xs i)).takes then some (d, (i : Int))
       else if (ow (rd_T36 xs i).f0).2.1 = 1 then
         (if 0 ≤ (rd_T36 xs i).f1 then (if (rd_T36 xs i).f1 < (d.length : Int) then
           (if rd d (rd_T36 xs i).f1 < 0 then
             (if rd (d.set (rd_T36 xs i).f1.toNat (thr (nod (rd_T36 xs i)).mode (dp d i) (dp d i - (nod (rd_T36 xs i)).takes + (nod (rd_T36 xs i)).leave))) (rd_T36 xs i).f1 = thr (nod (rd_T36 xs i)).mode (dp d i) (dp d i - (nod (rd_T36 xs i)).takes + (nod (rd_T36 xs i)).leave)
              then prompterref14_Fits.j3 k xs (d.set (rd_T36 xs i).f1.toNat (thr (nod (rd_T36 xs i)).mode (dp d i) (dp d i - (nod (rd_T36 xs i)).takes + (nod (rd_T36 xs i)).leave))) (g.set i true) (mn (i : Int) (rd_T36 xs i).f1) (dp d i - (nod (rd_T36 xs i)).takes + (nod (rd_T36 xs i)).leave) (i : Int) (rd_T36 xs i).f0 (rd_T36 xs i).f1 (rd_T36 xs i).f2 (rd_T36 xs i).f3
              else some (d.set (rd_T36 xs i).f1.toNat (thr (nod (rd_T36 xs i)).mode (dp d i) (dp d i - (nod (rd_T36 xs i)).takes + (nod (rd_T36 xs i)).leave)), (i : Int)))
            else if rd d (rd_T36 xs i).f1 = thr (nod (rd_T36 xs i)).mode (dp d i) (dp d i - (nod (rd_T36 xs i)).takes + (nod (rd_T36 xs i)).leave)
              then prompterref14_Fits.j3 k xs d (g.set i true) (i : Int) (dp d i - (nod (rd_T36 xs i)).takes + (nod (rd_T36 xs i)).leave) (i : Int) (rd_T36 xs i).f0 (rd_T36 xs i).f1 (rd_T36 xs i).f2 (rd_T36 xs i).f3
              else some (d, (i : Int))) else none) else none)
       else prompterref14_Fits.j3 k xs d (g.set i true) (i : Int) (dp d i - (nod (rd_T36 xs i)).takes + (nod (rd_T36 xs i)).leave) (i : Int) (rd_T36 xs i).f0 (rd_T36 xs i).f1 (rd_T36 xs i).f2 (rd_T36 xs i).f3) := fun k hk => by
    simp only [prompterref14_Fits.l1]
    rw [if_pos q1, if_pos q2, if_pos q3, rd_dp (by omega), if_neg (by omega), if_pos q4, rdOf_gn, hgi]
    simp only [prompterref14_Fits.j2]
    rw [if_neg (by decide), if_pos q2, if_pos q4, Option.bind_some, if_pos q1, eE, Option.bind_some, if_pos q3, if_pos q3, eT k (by omega), Option.bind_some, Option.bind_some, rd_dp (by omega), eB k (by omega), Option.bind_some, eO k (by omega), Option.bind_some, Int.toNat_natCast]
    simp only [Option.bind_some]
  -- behind a place
  have fall : ∀ (d1 : List Int) (j : Int) (nx : Int) (k : Nat), d1.length = xs.length → prompterref14_Fits.j3 (k + 1) xs d1 (g.set i true) j nx (i : Int) (rd_T36 xs i).f0 (rd_T36 xs i).f1 (rd_T36 xs i).f2 (rd_T36 xs i).f3 =
      match fallL (nod (rd_T36 xs i)) xs.length i nx d1 with
      | some d2 => prompterref14_Fits.l1 k xs d2 (g.set i true) j
      | none => if i + 1 = xs.length then some (d1, (i : Int)) else some (meetL d1 (i + 1) nx, (i : Int)) := fun d1 j nx k hl => by
    simp only [prompterref14_Fits.j3]
    unfold fallL
    rw [w64 i (by omega)]
    by_cases e1 : (rd_T36 xs i).f0 = 1
    · rw [if_pos e1, if_pos (show (nod (rd_T36 xs i)).jump = true from beq_iff_eq.mpr e1)]
    · rw [if_neg e1, if_neg (show ¬ (nod (rd_T36 xs i)).jump = true from fun h => e1 (beq_iff_eq.mp h))]
      by_cases e2 : i + 1 = xs.length
      · rw [if_pos (by omega), if_pos e2]
        simp only
        rw [if_pos e2]
      · rw [if_neg (by omega), if_neg e2, if_pos (by omega), if_pos (by omega), rd_dp (by omega), Int.toNat_natCast]
        unfold okL meetL
        by_cases e3 : dp d1 (i + 1) < 0
        · rw [if_pos e3, Option.bind_some, if_pos e3, rd_dp (by rw [List.length_set]; omega), dp_set (by omega), if_pos rfl, if_pos rfl, if_pos (by simp)]
        · rw [if_neg e3, if_neg e3]
          by_cases e4 : dp d1 (i + 1) = nx
          · rw [if_pos e4, if_pos (by simp [e4])]
          · rw [if_neg e4, if_neg (by simp [e4])]
            simp only
            rw [if_neg e2]
  have fdp : ∀ (d1 d2 : List Int) (nx : Int), fallL (nod (rd_T36 xs i)) xs.length i nx d1 = some d2 → ∀ q, q < i → dp d2 q = dp d1 q := fun d1 d2 nx h q hq => by
    unfold fallL at h
    split at h
    · cases h; rfl
    · split at h
      · cases h
      · split at h
        · cases h; exact dp_meet_ne (by omega)
        · cases h
  have fin : ∀ (d1 : List Int) (j : Nat) (nx : Int), d1.length = xs.length → j ≤ i → (∀ q, q < j → dp d1 q = dp d q) →
      (∀ k, prompterref14_Fits.l1 (k + 18) xs d g (i : Int) = prompterref14_Fits.j3 (k + 16) xs d1 (g.set i true) (j : Int) nx (i : Int) (rd_T36 xs i).f0 (rd_T36 xs i).f1 (rd_T36 xs i).f2 (rd_T36 xs i).f3) → Visit xs d g i (fallL (nod (rd_T36 xs i)) xs.length i nx d1) := fun d1 j nx hl hj hq hk => by
    cases hf : fallL (nod (rd_T36 xs i)) xs.length i nx d1 with
    | none =>
      have := hk 2
      rw [fall d1 _ nx 17 hl, hf] at this
      simp only at this
      refine ⟨if i + 1 = xs.length then (d1, (i : Int)) else (meetL d1 (i + 1) nx, (i : Int)), this.trans ?_, ?_⟩
      · split <;> rfl
      · split <;> rfl
    | some d2 =>
      refine ⟨j, hj, fun q hqj => wait_same (by omega) (by omega) ((fdp _ _ _ hf q (by omega)).trans (hq q hqj)) (hbe q (by omega)), fun k y hy => ?_⟩
      have := hk (k + 2)
      rw [fall d1 _ nx (k + 17) hl, hf] at this
      simp only at this
      rw [show k + 20 = k + 2 + 18 from by omega, this]
      exact l1_up hy (by omega)
  unfold gotoL
  by_cases he : (nod (rd_T36 xs i)).ends = true
  · rw [if_pos he]
    by_cases h1 : dp d i = (nod (rd_T36 xs i)).takes
    · rw [if_pos h1]
      refine ⟨i, Nat.le_refl _, fun q hq => wait_same (by omega) (by omega) rfl (hbe q hq), fun k y hy => ?_⟩
      rw [up1 (k + 18) (by omega), if_pos he, if_pos h1]
      exact l1_up hy (by omega)
    · rw [if_neg h1]
      exact ⟨_, by rw [up1 18 (by omega), if_pos he, if_neg h1], rfl⟩
  · rw [if_neg he]
    by_cases h1 : dp d i < (nod (rd_T36 xs i)).takes
    · rw [if_pos h1]
      exact ⟨_, by rw [up1 18 (by omega), if_neg he, if_pos h1], rfl⟩
    · rw [if_neg h1, eG]
      by_cases h2 : (ow (rd_T36 xs i).f0).2.1 = 1
      · rw [if_pos h2]
        have h3 : (rd_T36 xs i).f1 < xs.length := hF.tgt (by
          have T := tab hF.op0 hF.op1
          have := T.a
          rw [h2] at this
          rcases T.aa with e | e | e | e <;> rw [e] at this <;> first | exact e | (exfalso; revert this; decide))
        obtain ⟨t, ht⟩ : ∃ t : Nat, (rd_T36 xs i).f1 = (t : Int) := ⟨(rd_T36 xs i).f1.toNat, by omega⟩
        have up2 := fun k hk => (up1 k hk).trans ((if_neg he).trans ((if_neg h1).trans (if_pos h2)))
        simp only [ht, Int.toNat_natCast] at up2 h3 ⊢
        generalize hth : thr (nod (rd_T36 xs i)).mode (dp d i) (dp d i - (nod (rd_T36 xs i)).takes + (nod (rd_T36 xs i)).leave) = th at *
        generalize hnx : dp d i - (nod (rd_T36 xs i)).takes + (nod (rd_T36 xs i)).leave = nx at *
        have up3 := fun k hk => (up2 k hk).trans ((if_pos (by omega)).trans (if_pos (by omega)))
        rw [rd_dp (by omega)] at up3
        by_cases h4 : dp d t < 0
        · have hm : meetL d t th = d.set t th := by unfold meetL; rw [if_pos h4]
          have ho : okL d t th = true := by rw [okL_iff, hm, dp_set (by omega), if_pos rfl]
          rw [if_pos ho, hm]
          have up4 := fun k hk => (up3 k hk).trans (if_pos h4)
          rw [rd_dp (by rw [List.length_set]; omega), dp_set (by omega), if_pos rfl] at up4
          have hmn : mn (i : Int) (t : Int) = ((min i t : Nat) : Int) := by unfold mn; split <;> omega
          refine fin _ (min i t) nx (by rw [List.length_set]; exact hd) (by omega) (fun q hq => by rw [dp_set (by omega), if_neg (by omega)]) (fun k => ?_)
          rw [up4 (k + 16) (by omega), if_pos rfl, hmn, ht]
        · have hm : meetL d t th = d := by unfold meetL; rw [if_neg h4]
          have up4 := fun k hk => (up3 k hk).trans (if_neg h4)
          by_cases h5 : dp d t = th
          · have ho : okL d t th = true := by rw [okL_iff, hm]; exact h5
            rw [if_pos ho, hm]
            refine fin _ i nx hd (Nat.le_refl _) (fun q hq => rfl) (fun k => ?_)
            rw [up4 (k + 16) (by omega), if_pos h5, ht]
          · have ho : ¬ okL d t th = true := by rw [okL_iff, hm]; exact h5
            rw [if_neg ho]
            exact ⟨_, by rw [up4 18 (by omega), if_neg h5], rfl⟩
      · rw [if_neg h2]
        simp only
        refine fin d i _ hd (Nat.le_refl _) (fun q hq => rfl) (fun k => ?_)
        rw [up1 (k + 16) (by omega), if_neg he, if_neg h1, if_neg h2]
end Go.Proofs.Ytcpjjnikehcleaa.Rt
