/- The document's cache in memory: Put, Shrink. -/
import Derived.Test.YtcfdldgekfacfaaR2
namespace Go.Proofs.Ytcfdldgekfacfaa.Rf
open Go.RowKit Sk PRef Go.Proofs.YtcfdldgekfacfaaW.PrintWords Go.Proofs.YtcfdldgekfacfaaW.PrintLast Go.Proofs.YtcfdldgekfacfaaW.PrintMore
set_option linter.unusedVariables false
set_option linter.unusedSimpArgs false

theorem RAt.trunc {N : Nat} {W : World} {g n cap : Nat} {A : Option Addr} {c : Cs} (h : RAt N W g (.slice A n cap) c) {m : Nat} (hm : m ≤ c.l.length) :
    RAt N (W.setCell ⟨g, 1, none⟩ (.slice A m cap)) g (.slice A m cap) { c with l := c.l.take m } ∧ Ch (fun k => k = g) W (W.setCell ⟨g, 1, none⟩ (.slice A m cap)) := by
  have hs : Ch (fun k => k = g) W (W.setCell ⟨g, 1, none⟩ (.slice A m cap)) := (Ch.refl (fun k => k = g) W).set (.inl rfl) _
  refine ⟨⟨by simpa using blk_set h.blk 1 (.slice A m cap), ?_, h.ge⟩, hs⟩
  have hr := Kd.R_take h.row (m := m) (by rw [sT_length]; exact hm)
  rw [sT_take] at hr
  exact R_ch hr hs (fun k hk => h.ne k (by rw [← hk]; cases A <;> rfl))
set_option maxHeartbeats 2000000 in
set_option maxRecDepth 100000 in
theorem put_calls (N : Nat) (w : World) (g : Nat) (u0 : Value) (c : Cs) (nm : ByteArray) (v : Int) (h : RAt N w g u0 c) (hN : N ≤ w.heap.size) (hl : c.l.length < 1000000) (hd : Nd c.l) (hroom : 1 ≤ c.room) :
    Calls Try.prog 16 #[.pointer (some ⟨g, 0, none⟩), .string nm, .int .i64 v] w (RPost N g (c.put nm v) (.tuple #[.string (putT c.room c.l nm).1, .bool (putT c.room c.l nm).2]) w) := by
  have hu45 := Try.underlying45
  have hu43 := Try.underlying43
  have hu72 := Try.underlying72
  have HN := Aside0.mk hN
  have HL := Aside0.mk hl
  clear hN hl
  rcases fnd_cases c.l nm with ⟨hf, hn⟩ | ⟨i, hi, hf, he⟩
  · obtain ⟨A, cap, rfl, hcap, hr⟩ := h.reads
    by_cases hfull : (c.l.length : Int) = c.room
    · obtain ⟨m, hm⟩ : ∃ m, c.l.length = m + 1 := ⟨c.l.length - 1, by omega⟩
      have hml : m < c.l.length := by omega
      have hdl : c.l.dropLast = c.l.take m := by rw [List.dropLast_eq_take, hm]; rfl
      have hp : c.put nm v = { c with l := (nm, v) :: c.l.take m } := by unfold Cs.put; rw [put_full' hn hfull, hdl]
      have hlast : (c.l.getLastD (⟨#[]⟩, 0)).1 = (c.l[m]).1 := by
        rw [List.getLastD_eq_getLast?, List.getLast?_eq_getElem?, hm]
        simp [hml]
      have ht : putT c.room c.l nm = ((c.l[m]).1, true) := by unfold putT; rw [if_neg hn, if_pos hfull, hlast]
      rw [hp, ht]
      have e1 : ((c.l.length : Int) == c.room) = true := beq_iff_eq.mpr hfull
      have H := Aside0.mk h
      have HF := Aside0.mk hf
      have HM := Aside0.mk hml
      have HLT := Aside0.mk (show (c.l.take m).length < 1000000 by have := HL.out; simp; omega)
      obtain ⟨ad, rfl, s0, s1⟩ := RAt.at_ hr hml
      have q1 : wrap64 ((c.l.length : Int) - 1) = (m : Int) := by have := HL.out; unfold wrap64; omega
      have q2 : (0 ≤ (m : Int)) = True := eq_true (by omega)
      have q3 : ((m : Int) < (c.l.length : Int)) = True := eq_true (by omega)
      have q4 : ((m : Int) ≤ (cap : Int)) = True := eq_true (by omega)
      clear h hf hn hfull hp ht hr hd hcap hlast hdl s1
      generalize (c.l[m]).1 = z at *
      clear hm hml
      go_enter Try.func16, Try.ntmps16
      go_wp2_with (go_at_call 42; go_loud (refine (find_calls N w g _ c nm H.out HL.out).mono ?_); rintro e w1 ⟨rfl, hc⟩; rw [HF.out]; have C1 := Aside0.mk hc; have H1 := Aside0.mk (H.out.same hc); have g1 := (blk_cell H1.out.blk 1).trans rfl; have g0 := (blk_cell H1.out.blk 0).trans rfl; have f1 := blk_frozen H1.out.blk 1; have s0' := pw_cell_below (hc.below (Nat.le_refl _) (fun _ hk => hk.elim)) s0; clear hc)
      go_region
      go_wp2
      go_region
      go_wp2
      go_region
      have D1 := Aside0.mk (H1.out.same (((Ch.refl _ w1).drew).drew).drew)
      have T1 := Aside0.mk (D1.out.trunc (m := m) (Nat.le_of_lt HM.out))
      go_wp2_with (go_at_call 43; go_loud (refine (ahead_row _ nm v (some ad) m cap _ _ T1.out.1.row HLT.out).mono ?_); rintro e w4 ⟨A4, n4, c4, rfl, hn4, hr, hc⟩; have RR := Aside0.mk (T1.out.1.rowed (Nat.le_trans HN.out (Nat.le_trans C1.out.size T1.out.2.size)) hc hr); obtain ⟨u5, k5⟩ := RR.out.1; have f5 := RR.out.2.1; clear hn4 hr hc)
      go_ret2
      exact ⟨rfl, ⟨_, RR.out.2.2.1⟩, (((Ch.toG C1.out.drew.drew.drew).trans T1.out.2 (fun _ _ hk => hk))).trans RR.out.2.2.2 (fun _ _ hk => hk)⟩
    · have hp : c.put nm v = { c with l := (nm, v) :: c.l } := by unfold Cs.put; rw [put_room hn hfull]
      have ht : putT c.room c.l nm = (⟨#[]⟩, false) := by unfold putT; rw [if_neg hn, if_neg hfull]
      rw [hp, ht]
      have e1 : ((c.l.length : Int) == c.room) = false := beq_eq_false_iff_ne.mpr hfull
      have H := Aside0.mk h
      have HF := Aside0.mk hf
      clear h hf hn hfull hp ht hr hd hcap
      go_enter Try.func16, Try.ntmps16
      go_wp2_with (go_at_call 42; go_loud (refine (find_calls N w g _ c nm H.out HL.out).mono ?_); rintro e w1 ⟨rfl, hc⟩; rw [HF.out]; have C1 := Aside0.mk hc; have H1 := Aside0.mk (H.out.same hc); have g1 := (blk_cell H1.out.blk 1).trans rfl; have g0 := (blk_cell H1.out.blk 0).trans rfl; clear hc)
      go_region
      have D1 := Aside0.mk (H1.out.same (Ch.refl _ w1).drew)
      go_wp2_with (go_at_call 43; go_loud (refine (ahead_row w1.drew nm v A _ cap _ _ D1.out.row HL.out).mono ?_); rintro e w4 ⟨A4, n4, c4, rfl, hn4, hr, hc⟩; have RR := Aside0.mk (D1.out.rowed (Nat.le_trans HN.out C1.out.size) hc hr); obtain ⟨u5, k5⟩ := RR.out.1; have f5 := RR.out.2.1; clear hn4 hr hc)
      go_ret2
      exact ⟨rfl, ⟨_, RR.out.2.2.1⟩, (Ch.toG C1.out.drew).trans RR.out.2.2.2 (fun _ _ hk => hk)⟩
  · obtain ⟨hw, hv, hin⟩ := at_wo hd hi he
    have hp : c.put nm v = { c with l := (nm, v) :: (c.l.take i ++ c.l.drop (i + 1)) } := by unfold Cs.put; rw [put_in hin, hw]
    have ht : putT c.room c.l nm = (⟨#[]⟩, false) := by unfold putT; rw [if_pos hin]
    rw [hp, ht]
    have H := Aside0.mk h
    have HF := Aside0.mk hf
    have HI := Aside0.mk hi
    have HLW := Aside0.mk (show (c.l.take i ++ c.l.drop (i + 1)).length < 1000000 by have := HL.out; simp; omega)
    have p3 : decide ((i : Int) ≥ 0) = true := decide_eq_true (by omega)
    clear h hf hw hv hin he hi hp ht hd
    go_enter Try.func16, Try.ntmps16
    go_wp2_with (first
      | (go_at_call 42; go_loud (refine (find_calls N w g _ c nm H.out HL.out).mono ?_); rintro e w1 ⟨rfl, hc⟩; rw [HF.out]; have C1 := Aside0.mk hc; have H1 := Aside0.mk (H.out.same hc); clear hc)
      | (go_at_call 44; go_loud (refine (without_calls N _ g _ c i H1.out HI.out HL.out).mono ?_); rintro e w2 ⟨A2, n2, c2, rfl, hn2, hr, hc⟩; have C2 := Aside0.mk (C1.out.trans hc (fun _ _ hk => hk)); have R2 := Aside0.mk hr; have H2 := Aside0.mk (H1.out.same hc); clear hn2 hr hc)
      | (go_at_call 43; go_loud (refine (ahead_row _ nm v A2 n2 c2 _ _ R2.out HLW.out).mono ?_); rintro e w4 ⟨A4, n4, c4, rfl, hn4, hr, hc⟩; have RR := Aside0.mk (H2.out.rowed (Nat.le_trans HN.out C2.out.size) hc hr); obtain ⟨u5, k5⟩ := RR.out.1; have f5 := RR.out.2.1; clear hn4 hr hc))
    go_ret2
    exact ⟨rfl, ⟨_, RR.out.2.2.1⟩, (Ch.toG C2.out).trans RR.out.2.2.2 (fun _ _ hk => hk)⟩
end Go.Proofs.Ytcfdldgekfacfaa.Rf
