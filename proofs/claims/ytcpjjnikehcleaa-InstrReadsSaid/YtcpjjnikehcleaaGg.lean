/- A walk through code, in memory: circle. -/
import Derived.Test.YtcpjjnikehcleaaGf
/- A walk through code, in memory: circle. -/
namespace Go.Proofs.Ytcpjjnikehcleaa.Gw
open Go.RowKit PChk Hq Lk Go.Proofs.YtcpjjnikehcleaaW.PrintWords Go.Proofs.YtcpjjnikehcleaaW.PrintLast Go.Proofs.YtcpjjnikehcleaaW.PrintMore
open Go.Maps (Keyed)
set_option linter.unusedVariables false
set_option linter.unusedSimpArgs false

/-- Where an instruction that is no step leads. -/
def frN (xs : List S36) (i : Nat) : Option Nat := if (rd_T36 xs i).f0 = 1 then some (rd_T36 xs i).f1.toNat else if (rd_T36 xs i).f0 = 5 then some (i + 1) else none
def circV : Option Nat → Int
  | some i => i
  | none => -1
theorem WAt.code_at {w0 W : World} {y : WL} {xs : List S36} {d : List Int} {s : HS} (h : WAt w0 W y xs d s) {i : Nat} (hi : i < xs.length) :
    ∃ ad, y.A = some ad ∧ W.cell? (ad.add (i * 4)) = some (.int .u8 (rd_T36 xs i).f0) ∧ W.cell? ⟨(ad.add (i * 4)).block, (ad.add (i * 4)).off + 1, none⟩ = some (.int .i64 (rd_T36 xs i).f1) ∧
      W.cell? ⟨(ad.add (i * 4)).block, (ad.add (i * 4)).off + 2, none⟩ = some (.int .i64 (rd_T36 xs i).f2) ∧ W.cell? ⟨(ad.add (i * 4)).block, (ad.add (i * 4)).off + 3, none⟩ = some (.string (rd_T36 xs i).f3) := by
  obtain ⟨ad, hA, a0, a1, a2, a3⟩ := at_T36 h.code (i : Int) (by omega) (by omega)
  rw [Int.toNat_natCast] at a0 a1 a2 a3
  exact ⟨ad, hA, (h.below.cell (World.block_lt_of_cell? w0 _ a0)).trans a0, (h.below.cell (World.block_lt_of_cell? w0 _ a1)).trans a1, (h.below.cell (World.block_lt_of_cell? w0 _ a2)).trans a2, (h.below.cell (World.block_lt_of_cell? w0 _ a3)).trans a3⟩
theorem kd1 : (kd 1).2.1 = 116 ∧ (kd 1).2.2.2.2.2.2.2 = false ∧ (kd 1).2.2.2.2.1 = 0 ∧ (kd 1).2.2.2.2.2.1 = 0 ∧ (kd 1).2.2.2.2.2.2.1 = false := ⟨by kernel_rfl, by kernel_rfl, by kernel_rfl, by kernel_rfl, by kernel_rfl⟩
theorem kd5 : (kd 5).2.2.2.2.2.2.2 = false ∧ (kd 5).2.2.2.2.1 = 1 ∧ (kd 5).2.2.2.2.2.1 = 1 ∧ (kd 5).2.2.2.2.2.2.1 = false := ⟨by kernel_rfl, by kernel_rfl, by kernel_rfl, by kernel_rfl⟩
theorem fr_met {xs : List S36} {n i j : Nat} {d : List Int} (hD : Done (nodN xs) n d i) (hF : Fit n (rd_T36 xs i)) (h : frN xs i = some j) : j < n ∧ 0 ≤ dp d j := by
  have hpos := hD.pos
  unfold frN at h
  split at h
  · next h1 =>
    cases h
    have hk := kd1
    rw [← h1] at hk
    have he : (nodN xs i).ends = false := hk.2.1
    have htk : (nodN xs i).takes = 0 := by show (kd _).2.2.2.2.1 + _ = 0; rw [hk.2.2.1, hk.2.2.2.2]; rfl
    have hlv : (nodN xs i).leave = 0 := hk.2.2.2.1
    have ht : (nodN xs i).tgt = some (rd_T36 xs i).f1.toNat := by show (if (kd _).2.1 = 116 then _ else _) = _; rw [if_pos hk.1]
    have := hD.tgt he _ ht
    have h2 := hF.tgt hk.1
    have h3 := hF.a0
    refine ⟨by omega, ?_⟩
    rw [this, htk, hlv]
    exact thr_nn hpos (by omega)
  · split at h
    · next h0 h1 =>
      cases h
      have hk := kd5
      rw [← h1] at hk
      have he : (nodN xs i).ends = false := hk.1
      have htk : (nodN xs i).takes = 1 := by show (kd _).2.2.2.2.1 + _ = 1; rw [hk.2.1, hk.2.2.2]; rfl
      have hlv : (nodN xs i).leave = 1 := hk.2.2.1
      have hj : (nodN xs i).jump = false := by show ((rd_T36 xs i).f0 == 1) = false; rw [h1]; rfl
      have := hD.next he hj
      exact ⟨this.1, by rw [this.2]; omega⟩
    · cases h
end Go.Proofs.Ytcpjjnikehcleaa.Gw
/- A walk through code, in memory: circle, walked. -/
namespace Go.Proofs.Ytcpjjnikehcleaa.Gw
open Go.RowKit PChk Hq Lk Go.Proofs.YtcpjjnikehcleaaW.PrintWords Go.Proofs.YtcpjjnikehcleaaW.PrintLast Go.Proofs.YtcpjjnikehcleaaW.PrintMore
open Go.Maps (Keyed)
set_option linter.unusedVariables false
set_option linter.unusedSimpArgs false

/-- Before each round of circle. -/
structure CInv (xs : List S36) (d : List Int) (k : Nat) : Prop where
  no : ∀ j, j < k → ¬ (0 ≤ dp d j ∧ hop (frN xs) (xs.length + 1) j = true)
set_option maxHeartbeats 4000000 in
set_option maxRecDepth 100000 in
theorem circle_calls (w0 w : World) (y : WL) (xs : List S36) (d : List Int) (s : HS) (h : WAt w0 w y xs d s) (hn : xs.length ≤ 8192) (hF : ∀ i : Nat, i < xs.length → Fit xs.length (rd_T36 xs i)) (hD : ∀ i, 0 ≤ dp d i → Done (nodN xs) xs.length d i) :
    Calls Try.prog 33 #[.pointer (some ⟨y.g, 0, none⟩)] w fun e w' => e = .returned (.int .i64 (circV (circL (frN xs) xs.length d))) ∧ w' = w := by
  have hu59 := Try.underlying59
  have hu22 := Try.underlying22
  have hu36 := Try.underlying36
  have hu28 := Try.underlying28
  have g0 := (blk_cell h.blk 0).trans rfl
  have g1 := (blk_cell h.blk 1).trans rfl
  have H := Aside0.mk h
  have HF := Aside0.mk hF
  have HD := Aside0.mk hD
  clear h hF hD
  obtain ⟨n, hN⟩ : ∃ n, xs.length = n := ⟨_, rfl⟩
  rw [hN] at g0 g1 hn ⊢
  have HN := Aside0.mk hN
  clear hN
  go_enter Try.func33, Try.ntmps33
  go_wp2
  go_loopg [12] n (fun kq v12 w' => ∃ k : Nat, v12 = .int .i64 (k : Int) ∧ Aside0 (k + kq = n) ∧ Aside0 (CInv xs d k) ∧ w' = w)
  case atStart => exact ⟨0, rfl, ⟨by omega⟩, ⟨⟨fun j hj => by omega⟩⟩, rfl⟩
  case round =>
    obtain ⟨k, rfl, hk, hC, rfl⟩ := hrel
    by_cases hkn : k < n
    · have d1 : decide ((k : Int) < (n : Int)) = true := decide_eq_true (by omega)
      have d2 : decide (k < n) = true := decide_eq_true hkn
      have q1 : (0 ≤ (k : Int)) = True := eq_true (by omega)
      have q2 : ((k : Int) < (n : Int)) = True := eq_true (by omega)
      have c1 := H.out.depth (i := k) (by have := HN.out; omega)
      go_wp2
      obtain ⟨m, rfl⟩ : ∃ m, gk = m + 1 := ⟨gk - 1, by have := hk.out; omega⟩
      have wk : IntKind.i64.wrap ((k : Int) + 1) = ((k + 1 : Nat) : Int) := by rw [IntKind.wrap_i64]; omega
      by_cases hpos : 0 ≤ dp d k
      · have e1 : decide (dp d k ≥ 0) = true := decide_eq_true hpos
        have e1' : decide (0 ≤ dp d k) = true := decide_eq_true hpos
        go_loopg [5, 6] (n + 1) (fun kq v5 v6 w' => ∃ b q : Nat, v5 = .int .i64 (b : Int) ∧ v6 = .int .i64 (q : Int) ∧ Aside0 (q + kq = n + 1 ∧ b < n ∧ 0 ≤ dp d b ∧ hop (frN xs) kq b = hop (frN xs) (n + 1) k) ∧ w' = wr)
        case atStart => exact ⟨k, 0, rfl, rfl, ⟨by omega, hkn, hpos, rfl⟩, rfl⟩
        case round =>
          obtain ⟨b, q, rfl, rfl, hb, rfl⟩ := hrel
          obtain ⟨h1, h2, h3, h4⟩ := hb.out
          by_cases hg : gk = 0
          · have f1 : decide ((q : Int) ≤ (n : Int)) = false := decide_eq_false (by omega)
            have f2 : decide (q ≤ n) = false := decide_eq_false (by omega)
            have f3 : decide ((q : Int) > (n : Int)) = true := decide_eq_true (by omega)
            have f4 : decide (n < q) = true := decide_eq_true (by omega)
            have e : circL (frN xs) n d = some k := by
              rw [circL_some]
              refine ⟨hkn, hpos, by rw [← h4, hg]; rfl, fun j hj => ?_⟩
              have := hC.out.no j hj
              rw [HN.out] at this; exact this
            go_wp2
            go_ret
            rw [e]
            exact ⟨rfl, rfl⟩
          · obtain ⟨p, rfl⟩ : ∃ p, gk = p + 1 := ⟨gk - 1, by omega⟩
            have f1 : decide ((q : Int) ≤ (n : Int)) = true := decide_eq_true (by omega)
            have f2 : decide (q ≤ n) = true := decide_eq_true (by omega)
            have f3 : decide ((q : Int) > (n : Int)) = false := decide_eq_false (by omega)
            have f4 : decide (n < q) = false := decide_eq_false (by omega)
            have p1 : (0 ≤ (b : Int)) = True := eq_true (by omega)
            have p2 : ((b : Int) < (n : Int)) = True := eq_true (by omega)
            obtain ⟨ad, hA, a0, a1, a2, a3⟩ := H.out.code_at (i := b) (by have := HN.out; omega)
            have g0' := g0
            rw [hA] at g0'
            have hDb := HD.out b h3
            have hFb := HF.out b (by have := HN.out; omega)
            have hfm := fun j hj => fr_met (j := j) (by rw [HN.out] at hDb; exact hDb) (by rw [HN.out] at hFb; exact hFb) hj
            have wq : IntKind.i64.wrap ((q : Int) + 1) = ((q + 1 : Nat) : Int) := by rw [IntKind.wrap_i64]; omega
            have wb : IntKind.i64.wrap ((b : Int) + 1) = ((b + 1 : Nat) : Int) := by rw [IntKind.wrap_i64]; omega
            by_cases o1 : (rd_T36 xs b).f0 = 1
            · have b1 : ((rd_T36 xs b).f0 == 1) = true := beq_iff_eq.mpr o1
              have hfr : frN xs b = some (rd_T36 xs b).f1.toNat := by unfold frN; rw [if_pos o1]
              obtain ⟨j1, j2⟩ := hfm _ hfr
              have hf0 := hFb.a0
              obtain ⟨t, ht⟩ : ∃ t : Nat, (rd_T36 xs b).f1 = (t : Int) := ⟨(rd_T36 xs b).f1.toNat, by omega⟩
              rw [ht, Int.toNat_natCast] at hfr j1 j2
              go_wp2
              go_roundg p
              case measure => omega
              case rel => exact ⟨t, q + 1, rfl, rfl, ⟨by omega, j1, j2, by rw [← h4]; simp only [hop, hfr]⟩, rfl⟩
            · have b1 : ((rd_T36 xs b).f0 == 1) = false := beq_eq_false_iff_ne.mpr o1
              by_cases o5 : (rd_T36 xs b).f0 = 5
              · have b5 : ((rd_T36 xs b).f0 == 5) = true := beq_iff_eq.mpr o5
                have hfr : frN xs b = some (b + 1) := by unfold frN; rw [if_neg o1, if_pos o5]
                obtain ⟨j1, j2⟩ := hfm _ hfr
                go_wp2
                go_roundg p
                case measure => omega
                case rel => exact ⟨b + 1, q + 1, rfl, rfl, ⟨by omega, j1, j2, by rw [← h4]; simp only [hop, hfr]⟩, rfl⟩
              · have b5 : ((rd_T36 xs b).f0 == 5) = false := beq_eq_false_iff_ne.mpr o5
                have hfr : frN xs b = none := by unfold frN; rw [if_neg o1, if_neg o5]
                have hno : hop (frN xs) (n + 1) k = false := by rw [← h4]; simp only [hop, hfr]
                go_wp2
                go_roundg m
                case measure => omega
                case rel => exact ⟨k + 1, rfl, ⟨by have := hk.out; omega⟩, ⟨⟨fun j hj hh => by
                  by_cases e : j = k
                  · subst e; rw [HN.out, hno] at hh; exact absurd hh.2 (by decide)
                  · exact hC.out.no j (by omega) hh⟩⟩, rfl⟩
      · have e1 : decide (dp d k ≥ 0) = false := decide_eq_false (by omega)
        have e1' : decide (0 ≤ dp d k) = false := decide_eq_false hpos
        go_loopg [5, 6] 0 (fun kq v5 v6 w' => v6 = .int .i64 0 ∧ w' = wr)
        case atStart => exact ⟨rfl, rfl⟩
        case round =>
          obtain ⟨rfl, rfl⟩ := hrel
          go_wp2
          go_roundg m
          case measure => omega
          case rel => exact ⟨k + 1, rfl, ⟨by have := hk.out; omega⟩, ⟨⟨fun j hj hh => by
            by_cases e : j = k
            · subst e; have := hh.1; omega
            · exact hC.out.no j (by omega) hh⟩⟩, rfl⟩
    · have d1 : decide ((k : Int) < (n : Int)) = false := decide_eq_false (by omega)
      have d2 : decide (k < n) = false := decide_eq_false hkn
      have e : circL (frN xs) n d = none := by
        rw [circL_none]
        intro j hj h0
        have := hC.out.no j (by omega)
        rw [HN.out] at this
        cases hh : hop (frN xs) (n + 1) j with
        | false => rfl
        | true => exact absurd ⟨h0, hh⟩ this
      go_wp2
      go_ret
      rw [e]
      exact ⟨rfl, rfl⟩
end Go.Proofs.Ytcpjjnikehcleaa.Gw
