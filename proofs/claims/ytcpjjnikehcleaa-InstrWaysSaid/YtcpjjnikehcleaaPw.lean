/- What InstrWays comes to, in plain. -/
import Derived.Test.YtcpjjnikehcleaaPa
import Derived.Test.YtcpjjnikehcleaaPLwx4
namespace Go.Proofs.Ytcpjjnikehcleaa.Rt
open Go.RowKit PChk Hq Lk Gw Go.Proofs.YtcpjjnikehcleaaW.PrintWords Go.Proofs.YtcpjjnikehcleaaW.PrintLast Go.Proofs.YtcpjjnikehcleaaW.PrintMore
set_option linter.unusedVariables false
set_option linter.unusedSimpArgs false

/-! ### InstrWays -/
theorem runL_le {xs : List S36} (hF : ∀ i : Nat, i < xs.length → Fit xs.length (rd_T36 xs i)) (k : Nat) : ∀ d g r, d.length = xs.length → g.length = xs.length → (∀ q, dp d q ≤ (g.count true : Nat)) → runL (nodN xs) xs.length k d g = some (.inl r) → ∀ q, dp r q ≤ (xs.length : Nat) := by
  induction k with
  | zero => intro d g r _ _ _ h; simp [runL] at h
  | succ k ih =>
    intro d g r hd hg hB h
    unfold runL at h
    split at h
    · cases h
      intro q
      have h1 := hB q
      have h2 : g.count true ≤ g.length := List.count_le_length
      omega
    · next i hn =>
      split at h
      · cases h
      · next d' hgo =>
        obtain ⟨h1, h2, h3⟩ := nxt_some.1 hn
        have hpos : 0 ≤ dp d i := by unfold wait at h2; simp at h2; exact h2.1
        have hgi : gn g i = false := by unfold wait at h2; simp at h2; exact h2.2
        have hc := gone_count (g := g) (i := i) (by omega) hgi
        have hct : ((g.set i true).count true : Nat) = g.count true + 1 := by
          have h7 := count_tf g
          have h8 := count_tf (g.set i true)
          rw [List.length_set] at h8
          omega
        have hle := gotoL_le (m := (g.count true : Nat)) (nod_le (hF i h1)).1 (nod_le (hF i h1)).2 hpos hB hgo
        exact ih d' (g.set i true) r ((gotoL_length hgo).trans hd) (by simpa using hg) (fun q => by have := hle q; rw [hct]; omega) h
theorem all_le {xs : List S36} (hG : Good xs) {d : List Int} (h : allR xs = some (.inl d)) : ∀ q, dp d q ≤ (xs.length : Nat) :=
  runL_le hG.fit (xs.length + 1) (Lk.start xs.length) (noneGone xs.length) d (by simp [Lk.start]) (by simp [noneGone]) (fun q => by rw [start_dp hG.pos]; split <;> omega) h
/-- More hops are made of fewer. -/
theorem hops_pre (fr : Nat → Option Nat) : ∀ (m k i j : Nat), hops fr k i = some j → m ≤ k → (hops fr m i).isSome = true := by
  intro m
  induction m with
  | zero => intro k i j _ _; rfl
  | succ m ih =>
    intro k i j h hk
    obtain ⟨k, rfl⟩ : ∃ q, k = q + 1 := ⟨k - 1, by omega⟩
    simp only [hops] at h ⊢
    cases hf : fr i with
    | none => rw [hf] at h; simp at h
    | some t => rw [hf] at h; exact ih k t j h (by omega)
/-- Where one is on the way. -/
structure Way (xs : List S36) (d : List Int) (a : Nat) (deep : Int) (fork free : Nat) : Prop where
  at_ : a < xs.length
  deep_ : dp d a = deep
  pos : 0 ≤ deep
  fork_ : dp d fork = 0
  free_ : ∃ s, 0 ≤ dp d s ∧ hops (frN xs) free s = some a
theorem ways_head {xs : List S36} {ts : List Bool} {d : List Int} {a i free : Nat} {deep fork : Int} (hl : d.length = xs.length) (h4 : xs.length ≤ 400) (ha : a < xs.length) (hi : i < ts.length) (hd : dp d a = deep) (hf : free ≤ 400) (k : Nat) :
    prompterlaw14_InstrWays.l0 (k + 1 + 1 + 1 + 1) xs ts d (a : Int) deep fork (free : Int) (i : Int) =
      prompterlaw14_InstrWays.j4 (k + 1) xs ts d (a : Int) deep fork (((if (rd_T36 xs a).f0 = 1 ∨ (rd_T36 xs a).f0 = 5 then free + 1 else 0) : Nat) : Int) (i : Int) (rd_T36 xs a).f0 (rd_T36 xs a).f1 (rd_T36 xs a).f2 (rd_T36 xs a).f3 := by
  have q1 : (i : Int) < (ts.length : Int) := by omega
  have q2 : ¬ (a : Int) < 0 := by omega
  have q3 : ¬ (a : Int) ≥ (xs.length : Int) := by omega
  have q4 : (0 : Int) ≤ (a : Int) := by omega
  have q5 : (a : Int) < (d.length : Int) := by omega
  have q6 : (a : Int) < (xs.length : Int) := by omega
  have q7 : a < d.length := by omega
  have wf := w64 free (by omega)
  rw [prompterlaw14_InstrWays.l0, if_pos q1, if_neg q2, if_neg q3, if_pos q4, if_pos q5, rd_dp q7, hd, bne_self_eq_false]
  rw [prompterlaw14_InstrWays.j2, if_neg (by decide), if_pos q4, if_pos q6, wf]
  by_cases h1 : (rd_T36 xs a).f0 = 1
  · rw [if_pos h1, if_pos (Or.inl h1), prompterlaw14_InstrWays.j3, if_neg (by decide)]
  · rw [if_neg h1]
    by_cases h5 : (rd_T36 xs a).f0 = 5
    · rw [if_pos (Or.inr h5), prompterlaw14_InstrWays.j3, if_neg (by rw [h5]; decide)]
    · rw [if_neg (fun h => h.elim h1 h5), prompterlaw14_InstrWays.j3, if_pos (bne_iff_ne.mpr h5)]; rfl
theorem ways_end {xs : List S36} {ts : List Bool} {d : List Int} {a i free : Nat} {deep fork : Int} {op f1 f2 : Int} {f3 : ByteArray} {t : Int} (h4 : xs.length ≤ 400) (hf : free ≤ xs.length) (hi : i < ts.length) (h3 : ts.length ≤ 300)
    {k : Nat} (eT : prompterref14_Takes.f k op f1 f2 f3 = some t) (eE : prompterref14_Ends.f op = some true) (ht : deep = t) :
    prompterlaw14_InstrWays.j4 (k + 1) xs ts d (a : Int) deep fork (free : Int) (i : Int) op f1 f2 f3 =
      if rdOf false ts (i : Int) = true then prompterlaw14_InstrWays.l0 k xs ts d fork 0 fork (free : Int) ((i + 1 : Nat) : Int) else prompterlaw14_InstrWays.l0 k xs ts d 0 0 fork (free : Int) ((i + 1 : Nat) : Int) := by
  have q1 : ¬ (free : Int) > (xs.length : Int) := by omega
  have q2 : ¬ deep < t := by omega
  have q3 : (0 : Int) ≤ (i : Int) := by omega
  have q4 : (i : Int) < (ts.length : Int) := by omega
  have wi := w64 i (by omega)
  rw [prompterlaw14_InstrWays.j4, if_neg q1, eT, Option.bind_some, if_neg q2, eE, Option.bind_some, if_pos rfl, if_pos ht, if_pos q3, if_pos q4, wi]
theorem ways_next {xs : List S36} {ts : List Bool} {d : List Int} {a i free : Nat} {deep fork : Int} {op f1 f2 : Int} {f3 : ByteArray} {t th nx : Int} {w : ByteArray × Int × Bool × Bool × Bool × Int × Int} (h4 : xs.length ≤ 400) (ha : a < xs.length) (hf : free ≤ xs.length) (hi : i < ts.length) (h3 : ts.length ≤ 300)
    {k : Nat} (eT : prompterref14_Takes.f k op f1 f2 f3 = some t) (eE : prompterref14_Ends.f op = some false) (ht : t ≤ deep) (eB : prompterref14_Behind.f k op f1 f2 f3 deep = some (th, nx)) (eO : prompterref14_Of.f k op = some w) :
    prompterlaw14_InstrWays.j4 (k + 1) xs ts d (a : Int) deep fork (free : Int) (i : Int) op f1 f2 f3 =
      if op = 53 then prompterlaw14_InstrWays.l0 k xs ts d ((a + 1 : Nat) : Int) nx f1 (free : Int) ((i + 1 : Nat) : Int)
      else if op = 1 ∨ (rdOf false ts (i : Int) = true ∧ w.2.1 = 1) then prompterlaw14_InstrWays.l0 k xs ts d f1 th fork (free : Int) ((i + 1 : Nat) : Int)
      else prompterlaw14_InstrWays.l0 k xs ts d ((a + 1 : Nat) : Int) nx fork (free : Int) ((i + 1 : Nat) : Int) := by
  have q1 : ¬ (free : Int) > (xs.length : Int) := by omega
  have q2 : ¬ deep < t := by omega
  have q3 : (0 : Int) ≤ (i : Int) := by omega
  have q4 : (i : Int) < (ts.length : Int) := by omega
  have wi := w64 i (by omega)
  have wa := w64 a (by omega)
  rw [prompterlaw14_InstrWays.j4, if_neg q1, eT, Option.bind_some, if_neg q2, eE, Option.bind_some, if_neg (by decide), eB, Option.bind_some, wi, wa]
  by_cases h53 : op = 53
  · have h1 : ¬ op = 1 := by omega
    rw [if_pos h53, if_neg h1, if_pos q3, if_pos q4, if_pos h53]
    split <;> rfl
  · rw [if_neg h53, if_neg h53]
    by_cases h1 : op = 1
    · rw [if_pos h1, if_pos (Or.inl h1)]
    · rw [if_neg h1, if_pos q3, if_pos q4, eO, Option.bind_some]
      by_cases hr : rdOf false ts (i : Int) = true
      · rw [if_pos hr]
        by_cases hk : w.2.1 = 1
        · rw [if_pos hk, if_pos (Or.inr ⟨hr, hk⟩)]
        · rw [if_neg hk, if_neg (fun h => h.elim h1 (fun h => hk h.2))]
      · rw [if_neg hr, if_neg (fun h => h.elim h1 (fun h => hr h.1))]
theorem ends_op {op : Int} (h0 : 0 ≤ op) (h1 : op < 256) (h : (kd op).2.2.2.2.2.2.2 = true) : op = 8 ∨ op = 9 ∨ op = 28 := by
  rw [(tab h0 h1).ends] at h
  exact of_decide_eq_true h
theorem ow5 : (ow 5).2.1 = 0 := by kernel_rfl
theorem ow1 : (ow 1).2.1 = 1 := by kernel_rfl
theorem ow53 : (ow 53).2.1 = 1 := by kernel_rfl
/-- A plain step of the way: where it leads. -/
structure Leads (xs : List S36) (d : List Int) (a : Nat) (deep th nx : Int) : Prop where
  next : (rd_T36 xs a).f0 ≠ 1 → dp d (a + 1) = nx
  tgt : (ow (rd_T36 xs a).f0).2.1 = 1 → dp d (rd_T36 xs a).f1.toNat = th
  nx0 : 0 ≤ nx
  th0 : 0 ≤ th
  fork : (rd_T36 xs a).f0 = 53 → th = 0
theorem leads {xs : List S36} {d : List Int} {a : Nat} (hG : Good xs) (ha : a < xs.length) (hDn : Done (nodN xs) xs.length d a) (he : (nod (rd_T36 xs a)).ends = false) :
    (nod (rd_T36 xs a)).takes ≤ dp d a ∧ Leads xs d a (dp d a) (thr (nod (rd_T36 xs a)).mode (dp d a) (dp d a - (nod (rd_T36 xs a)).takes + (nod (rd_T36 xs a)).leave)) (dp d a - (nod (rd_T36 xs a)).takes + (nod (rd_T36 xs a)).leave) := by
  have hF := hG.fit a ha
  have eG := tgt_is hF.op0 hF.op1
  have hnode : nodN xs a = nod (rd_T36 xs a) := rfl
  have hdeep := hDn.deep he
  have htgt := hDn.tgt he
  have hnext := hDn.next he
  rw [hnode] at hdeep htgt hnext
  have hlv : 0 ≤ (nod (rd_T36 xs a)).leave := (kd_le hF.op0 hF.op1).2.2.1
  have hm : (rd_T36 xs a).f0 = 53 → (nod (rd_T36 xs a)).mode = 1 := fun h53 => if_pos h53
  have hj : (rd_T36 xs a).f0 ≠ 1 → (nod (rd_T36 xs a)).jump = false := fun h1 => beq_eq_false_iff_ne.mpr h1
  have hpos := hDn.pos
  generalize (nod (rd_T36 xs a)).takes = tk at *
  generalize (nod (rd_T36 xs a)).leave = lv at *
  have hnx : 0 ≤ dp d a - tk + lv := by clear htgt hnext; omega
  refine ⟨hdeep, fun h1 => (hnext (hj h1)).2, fun hk => htgt _ (by rw [eG, if_pos hk]), hnx, thr_nn hpos hnx, fun h53 => by rw [hm h53]; rfl⟩
theorem ways_l0 {xs : List S36} {ts : List Bool} (hG : Good xs) (h4 : xs.length ≤ 400) (h3 : ts.length ≤ 300) {d : List Int} (hl : d.length = xs.length) (hD : ∀ i, 0 ≤ dp d i → Done (nodN xs) xs.length d i) (hle : ∀ q, dp d q ≤ (xs.length : Nat)) (h0 : dp d 0 = 0)
    (hc : circL (frN xs) xs.length d = none) (m : Nat) : ∀ (i a fork free : Nat) (deep : Int), i + m = ts.length → Way xs d a deep fork free →
    prompterlaw14_InstrWays.l0 (4 * m + 20) xs ts d (a : Int) deep (fork : Int) (free : Int) (i : Int) = some true := by
  induction m with
  | zero =>
    intro i a fork free deep hi hW
    rw [show 4 * 0 + 20 = 19 + 1 from rfl, prompterlaw14_InstrWays.l0, if_neg (by omega)]
  | succ m ih =>
    intro i a fork free deep hi hW
    have ha := hW.at_
    have hF := hG.fit a ha
    have hDn := hD a (by rw [hW.deep_]; exact hW.pos)
    have hdl : deep ≤ 100000 := by have := hle a; rw [hW.deep_] at this; omega
    have ef : dp d fork = 0 := hW.fork_
    obtain ⟨s, hs0, hs⟩ := hW.free_
    have hlt : ∀ {q}, 0 ≤ dp d q → q < xs.length := fun h => by have := dp_lt h; omega
    have hsl : s < xs.length := hlt hs0
    -- there is no circle
    have hno : ∀ k j, hops (frN xs) k s = some j → k ≤ xs.length := fun k j hk => by
      apply Decidable.byContradiction
      intro hgt
      have h1 := hops_pre (frN xs) (xs.length + 1) k s j hk (by omega)
      rw [← hop_hops, circL_none.1 hc s hsl hs0] at h1
      cases h1
    have hfree := hno free a hs
    have fr1 : (rd_T36 xs a).f0 = 1 → frN xs a = some (rd_T36 xs a).f1.toNat := fun e => by unfold frN; rw [if_pos e]
    have fr5 : (rd_T36 xs a).f0 = 5 → frN xs a = some (a + 1) := fun e => by unfold frN; rw [if_neg (by rw [e]; decide), if_pos e]
    have step : ∀ t, frN xs a = some t → hops (frN xs) (free + 1) s = some t := fun t ht => by rw [hops_next, hs]; exact ht
    have hi' : i < ts.length := by omega
    have hi2 : i + 1 + m = ts.length := by omega
    have hf400 : free ≤ 400 := by omega
    rw [show 4 * (m + 1) + 20 = (4 * m + 20) + 1 + 1 + 1 + 1 from by omega, ways_head hl h4 ha hi' hW.deep_ hf400]
    obtain ⟨F, hFr⟩ : ∃ F, F = if (rd_T36 xs a).f0 = 1 ∨ (rd_T36 xs a).f0 = 5 then free + 1 else 0 := ⟨_, rfl⟩
    rw [← hFr]
    have hF1 : (rd_T36 xs a).f0 = 1 ∨ (rd_T36 xs a).f0 = 5 → F = free + 1 := fun h => by rw [hFr, if_pos h]
    have hF0 : ¬ ((rd_T36 xs a).f0 = 1 ∨ (rd_T36 xs a).f0 = 5) → F = 0 := fun h => by rw [hFr, if_neg h]
    have hFle : F ≤ xs.length := by
      by_cases h1 : (rd_T36 xs a).f0 = 1
      · rw [hF1 (Or.inl h1)]; exact hno _ _ (step _ (fr1 h1))
      · by_cases h5 : (rd_T36 xs a).f0 = 5
        · rw [hF1 (Or.inr h5)]; exact hno _ _ (step _ (fr5 h5))
        · rw [hF0 (fun h => h.elim h1 h5)]; exact Nat.zero_le _
    clear hFr
    have go : ∀ (a2 fork2 : Nat) (deep2 : Int), dp d a2 = deep2 → 0 ≤ deep2 → dp d fork2 = 0 → (F = 0 ∨ hops (frN xs) F s = some a2) → prompterlaw14_InstrWays.l0 (4 * m + 20) xs ts d (a2 : Int) deep2 (fork2 : Int) (F : Int) ((i + 1 : Nat) : Int) = some true := fun a2 fork2 deep2 e1 e2 e3 e4 => by
      refine ih (i + 1) a2 fork2 F deep2 hi2 ⟨hlt (by rw [e1]; exact e2), e1, e2, e3, ?_⟩
      rcases e4 with e4 | e4
      · exact ⟨a2, by rw [e1]; exact e2, by rw [e4]; rfl⟩
      · exact ⟨s, hs0, e4⟩
    have eT := takes_is hF.op0 hF.op1 (k := 4 * m + 20) (by omega)
    have eE := ends_is hF.op0 hF.op1
    cases he : (nod (rd_T36 xs a)).ends with
    | true =>
      have hfin : deep = (nod (rd_T36 xs a)).takes := hW.deep_.symm.trans (hDn.fin he)
      rw [he] at eE
      have hz : F = 0 := hF0 (fun h => by
        have hop := ends_op hF.op0 hF.op1 he
        rcases h with h | h <;> rw [h] at hop <;> revert hop <;> decide)
      rw [ways_end h4 hFle hi' h3 eT eE hfin]
      split
      · exact go fork fork 0 ef (Int.le_refl _) ef (Or.inl hz)
      · exact go 0 fork 0 h0 (Int.le_refl _) ef (Or.inl hz)
    | false =>
      rw [he] at eE
      obtain ⟨hdeep, hL⟩ := leads hG ha hDn he
      have eB := behind_is hF (k := 4 * m + 20) (by omega) hW.pos hdl
      have eO := (tab hF.op0 hF.op1).some (4 * m + 20) (by omega)
      rw [hW.deep_] at hdeep hL
      rw [ways_next h4 ha hFle hi' h3 eT eE hdeep eB eO]
      generalize thr (nod (rd_T36 xs a)).mode deep (deep - (nod (rd_T36 xs a)).takes + (nod (rd_T36 xs a)).leave) = th at *
      generalize deep - (nod (rd_T36 xs a)).takes + (nod (rd_T36 xs a)).leave = nx at *
      have hft : (((rd_T36 xs a).f1.toNat : Nat) : Int) = (rd_T36 xs a).f1 := Int.toNat_of_nonneg hF.a0
      have goN : ∀ fork2 : Nat, dp d fork2 = 0 → (rd_T36 xs a).f0 ≠ 1 → prompterlaw14_InstrWays.l0 (4 * m + 20) xs ts d ((a + 1 : Nat) : Int) nx (fork2 : Int) (F : Int) ((i + 1 : Nat) : Int) = some true := fun fork2 hf h1 => by
        refine go (a + 1) fork2 _ (hL.next h1) hL.nx0 hf ?_
        by_cases h5 : (rd_T36 xs a).f0 = 5
        · exact Or.inr (by rw [hF1 (Or.inr h5)]; exact step _ (fr5 h5))
        · exact Or.inl (hF0 (fun h => h.elim h1 h5))
      have goT : (ow (rd_T36 xs a).f0).2.1 = 1 → prompterlaw14_InstrWays.l0 (4 * m + 20) xs ts d (rd_T36 xs a).f1 th (fork : Int) (F : Int) ((i + 1 : Nat) : Int) = some true := fun h1 => by
        have h5 : (rd_T36 xs a).f0 ≠ 5 := fun h5 => by rw [h5, ow5] at h1; revert h1; decide
        have hc2 := go (rd_T36 xs a).f1.toNat fork _ (hL.tgt h1) hL.th0 ef (by
          by_cases h6 : (rd_T36 xs a).f0 = 1
          · exact Or.inr (by rw [hF1 (Or.inl h6)]; exact step _ (fr1 h6))
          · exact Or.inl (hF0 (fun h => h.elim h6 h5)))
        rw [hft] at hc2
        exact hc2
      by_cases h53 : (rd_T36 xs a).f0 = 53
      · rw [if_pos h53]
        have hk : (ow (rd_T36 xs a).f0).2.1 = 1 := by rw [h53]; exact ow53
        have := goN (rd_T36 xs a).f1.toNat (by rw [hL.tgt hk]; exact hL.fork h53) (by rw [h53]; decide)
        rw [hft] at this
        exact this
      · rw [if_neg h53]
        by_cases h1 : (rd_T36 xs a).f0 = 1
        · rw [if_pos (Or.inl h1)]
          exact goT (by rw [h1]; exact ow1)
        · split
          · next h => exact goT (h.elim (fun h => absurd h h1) (fun h => h.2))
          · exact goN fork ef h1
theorem ways_true {xs : List S36} (hb : bytesB xs = true) (p : Int) (ts : List Bool) : ∃ k, prompterlaw14_InstrWays.f k xs p ts = some true := by
  have hU := bytes_of hb
  have hd : instr_Depths.f xs p = some (depthsP xs p) := if_pos hb
  refine ⟨4 * ts.length + 20 + 1, ?_⟩
  unfold prompterlaw14_InstrWays.f
  rw [awake_is, Option.bind_some, if_pos rfl]
  by_cases h4 : (xs.length : Int) > 400
  · rw [if_pos h4, prompterlaw14_InstrWays.j0, if_pos rfl]
  · rw [if_neg h4]
    by_cases h3 : (ts.length : Int) > 300
    · rw [decide_eq_true h3, prompterlaw14_InstrWays.j0, if_pos rfl]
    · rw [decide_eq_false h3, prompterlaw14_InstrWays.j0, if_neg (by decide), hd, Option.bind_some]
      cases h : lookP xs p with
      | inr q =>
        obtain ⟨i, e⟩ := q
        have he := lookP_err h
        have e1 : depthsP xs p = ([], e) := by unfold depthsP; rw [h]
        rw [e1, if_neg (by simp only; omega)]
        rfl
      | inl d =>
        have e1 : depthsP xs p = (d, 0) := by unfold depthsP; rw [h]
        obtain ⟨hG, hr, hc, -⟩ := lookP_fits hU h
        obtain ⟨hl, h0, hD⟩ := all_done hG hr
        rw [e1, if_pos rfl, if_pos (by simp only; omega)]
        exact ways_l0 hG (by omega) (by omega) hl hD (all_le hG hr) h0 hc ts.length 0 0 0 0 0 (by omega) ⟨hG.pos, h0, Int.le_refl _, h0, 0, by omega, rfl⟩
end Go.Proofs.Ytcpjjnikehcleaa.Rt
