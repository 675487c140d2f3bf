/- A walk through code, in memory: all. -/
import Derived.Test.YtcpjjnikehcleaaG4
namespace Go.Proofs.Ytcpjjnikehcleaa.Gw
open Go.RowKit PChk Hq Lk Go.Proofs.YtcpjjnikehcleaaW.PrintWords Go.Proofs.YtcpjjnikehcleaaW.PrintLast Go.Proofs.YtcpjjnikehcleaaW.PrintMore
open Go.Maps (Keyed)
set_option linter.unusedVariables false
set_option linter.unusedSimpArgs false

/-- Where all ends. -/
def allR (xs : List S36) : Option (Sum (List Int) Nat) := runL (nodN xs) xs.length (xs.length + 1) (Lk.start xs.length) (noneGone xs.length)
def allV : Option (Sum (List Int) Nat) → Int
  | some (.inr i) => i
  | _ => -1
/-- Behind all. -/
def AllPost (w0 : World) (y : WL) (xs : List S36) (w : World) (e : Ending) (w' : World) : Prop :=
  ∃ h d s, e = .returned (.int .i64 (allV (allR xs))) ∧ (∀ d1, allR xs = some (.inl d1) → d = d1) ∧ WAt w0 w' { y with h := h } xs d s ∧ Ch (Touch y) w w' ∧ (∀ k, h.own k → y.h.own k ∨ w.heap.size ≤ k)
/-- Before each round of all. -/
structure AInv (w0 w : World) (y : WL) (xs : List S36) (kq : Nat) (w' : World) (h : Lay) (d : List Int) (g : List Bool) (s : HS) : Prop where
  at_ : WAt w0 w' { y with h := h } xs d s
  rel : Rel xs.length d g s
  run : runL (nodN xs) xs.length (kq + 1) d g = allR xs
  cnt : g.count false = kq
  dep : ∀ j, dp d j ≤ (g.count true : Nat)
  ch : Ch (Touch y) w w'
  own : ∀ k, h.own k → y.h.own k ∨ w.heap.size ≤ k
set_option maxHeartbeats 4000000 in
set_option maxRecDepth 100000 in
theorem all_calls (w0 w : World) (y : WL) (xs : List S36) (h : WAt w0 w y xs (negs xs.length) newS) (hn : xs.length ≤ 8192) (hn0 : 0 < xs.length) (hF : ∀ i : Nat, i < xs.length → Fit xs.length (rd_T36 xs i)) :
    Calls Try.prog 32 #[.pointer (some ⟨y.g, 0, none⟩)] w (AllPost w0 y xs w) := by
  have hu59 := Try.underlying59
  have hm0 : meetL (negs xs.length) 0 0 = Lk.start xs.length := by unfold meetL; rw [negs_dp]; rfl
  have MC := meet_calls w0 w y xs (negs xs.length) (noneGone xs.length) newS 0 0 h (Rel.born _) hn (by omega) (by omega)
  rw [if_neg (by omega), hm0] at MC
  have MC := Aside0.mk MC
  go_enter Try.func32, Try.ntmps32
  go_wp2_with (go_at_call 46; go_loud (refine MC.out.mono ?_; rintro e w1 ⟨h1, s1, rfl, hW, hRr, hC, hO⟩; have W1 := Aside0.mk hW; have R1 := Aside0.mk hRr; have C1 := Aside0.mk hC; have O1 := Aside0.mk hO; clear hW hRr hC hO))
  go_loopg [] xs.length (fun kq w' => ∃ h d g s, Aside0 (AInv w0 w y xs kq w' h d g s))
  case atStart =>
    refine ⟨h1, _, _, s1, ⟨⟨W1.out, R1.out, rfl, by simp [noneGone, List.count_replicate], fun j => ?_, C1.out, O1.out⟩⟩⟩
    rw [start_dp hn0]
    split <;> omega
  case round =>
    obtain ⟨h, d, g, s, HV⟩ := hrel
    have g2 := (blk_cell HV.out.at_.blk 2).trans rfl
    have hsm := HV.out.rel.small
    cases hl : s.l with
    | nil =>
      have hnx := HV.out.rel.empty hl
      have hr := HV.out.run
      unfold runL at hr
      rw [hnx] at hr
      have HRr := Aside0.mk hr
      have PC := Aside0.mk (pop_none _ wr h s HV.out.at_.heap hl)
      clear hr hnx hsm hl
      go_wp2_with (go_at_call 47; go_loud (refine PC.out.mono ?_; rintro e w2 ⟨rfl, y2, h2, hg2, ho2, hc2⟩; have W2 := Aside0.mk (HV.out.at_.heaped hc2 h2 hg2); have O2 := Aside0.mk ho2; have C2 := Aside0.mk (hc2.mono (T := Touch { y with h := h }) (fun k _ hk => .inr hk)); clear h2 hg2 ho2 hc2))
      go_ret
      rw [show AllPost w0 y xs w = AllPost w0 y xs w from rfl]
      refine ⟨y2, d, s, by rw [← HRr.out]; rfl, fun d1 hd1 => ?_, W2.out, HV.out.ch.trans C2.out (fun k hk ho => ?_), fun k hk => ?_⟩
      · rw [← HRr.out] at hd1; cases hd1; rfl
      · rcases ho with ho | ho
        · exact .inl ho
        · exact (HV.out.own k ho).elim .inr (fun h => by omega)
      · exact (O2.out k hk).elim (HV.out.own k) (fun h => .inr (Nat.le_trans HV.out.ch.size h))
    | cons x l =>
      obtain ⟨i, hnx, hi, hk, hv, hpos, hR2⟩ := HV.out.rel.first hl
      have hr := HV.out.run
      have hgi : gn g i = false := by
        have := (nxt_some.1 hnx).2.1
        unfold wait at this
        simp at this
        exact this.2
      have hcnt := gone_count (g := g) (i := i) (by rw [HV.out.rel.glen]; exact hi) hgi
      rw [HV.out.cnt] at hcnt
      obtain ⟨m, rfl⟩ : ∃ m, gk = m + 1 := ⟨gk - 1, by omega⟩
      have hcm : (g.set i true).count false = m := by omega
      have hct : ((g.set i true).count true : Nat) = g.count true + 1 := by
        have h6 : ∀ l : List Bool, l.count true + l.count false = l.length := fun l => by
          induction l with
          | nil => rfl
          | cons b l ih => cases b <;> simp [List.count_cons] <;> omega
        have h7 := h6 g
        have h8 := h6 (g.set i true)
        rw [List.length_set] at h8
        have := HV.out.cnt
        omega
      have hle : g.count true ≤ xs.length := by rw [← HV.out.rel.glen]; exact List.count_le_length
      have hdi := HV.out.dep i
      unfold runL at hr
      rw [hnx] at hr
      simp only at hr
      have PC := Aside0.mk (pop_some _ wr h s x l HV.out.at_.heap HV.out.rel.inv hl (by omega) (by omega))
      have TC := Aside0.mk (fun (w2 : World) (h2 : Lay) (hW : WAt w0 w2 { y with h := h2 } xs d (popS s)) => thru_calls w0 w2 { y with h := h2 } xs d (g.set i true) (popS s) i (dp d i) hW hR2 hn hi rfl hpos (by omega) (hF i hi))
      have HRr := Aside0.mk hr
      have HCM := Aside0.mk hcm
      have HCT := Aside0.mk hct
      have HFi := Aside0.mk (hF i hi)
      have HPos := Aside0.mk hpos
      clear hr hnx hsm hl hgi hcnt hcm hct hle hdi hpos hR2
      cases hg : gotoL (nodN xs i) xs.length i d with
      | none =>
        rw [hg] at HRr
        go_wp2_with (first
          | (go_at_call 47; go_loud (refine PC.out.mono ?_; rintro e w2 ⟨rfl, y2, h2, hg2, ho2, hc2⟩; have hW2 := HV.out.at_.heaped hc2 h2 hg2; have W2 := Aside0.mk hW2; have O2 := Aside0.mk ho2; have C2 := Aside0.mk (hc2.mono (T := Touch { y with h := h }) (fun k _ hk => .inr hk)); have T2 := TC.out w2 y2 hW2; rw [show gotoL (nod (rd_T36 xs i)) xs.length i d = none from hg] at T2; have T2 := Aside0.mk T2; clear h2 hg2 ho2 hc2 hW2))
          | (go_at_call 48; go_loud (refine T2.out.mono ?_; rintro e w3 ⟨h3, d3, s3, rfl, hd3, hW, hRr, hC, hO⟩; have D3 := Aside0.mk hd3; have W3 := Aside0.mk hW; have R3 := Aside0.mk hRr; have C3 := Aside0.mk hC; have O3 := Aside0.mk hO; clear hd3 hW hRr hC hO)))
        have OO := Aside0.mk (show ∀ k, h3.own k → y.h.own k ∨ w.heap.size ≤ k from fun k hk => (O3.out k hk).elim (fun h => (O2.out k h).elim (HV.out.own k) (fun h => .inr (Nat.le_trans HV.out.ch.size h))) (fun h => .inr (Nat.le_trans (Nat.le_trans HV.out.ch.size C2.out.size) h)))
        have CC := Aside0.mk (show Ch (Touch y) w w3 from (HV.out.ch.trans C2.out (fun k hk ho => by
            rcases ho with ho | ho
            · exact .inl ho
            · exact (HV.out.own k ho).elim .inr (fun h => by omega))).trans C3.out (fun k hk ho => by
            rcases ho with ho | ho
            · exact .inl ho
            · exact (O2.out k ho).elim (fun h => (HV.out.own k h).elim .inr (fun h => by omega)) (fun h => by have := HV.out.ch.size; omega)))
        go_ret
        refine ⟨h3, d3, s3, by rw [← HRr.out]; rfl, fun d1 hd1 => ?_, W3.out, CC.out, OO.out⟩
        rw [← HRr.out] at hd1; cases hd1
      | some d' =>
        rw [hg] at HRr
        go_wp2_with (first
          | (go_at_call 47; go_loud (refine PC.out.mono ?_; rintro e w2 ⟨rfl, y2, h2, hg2, ho2, hc2⟩; have hW2 := HV.out.at_.heaped hc2 h2 hg2; have W2 := Aside0.mk hW2; have O2 := Aside0.mk ho2; have C2 := Aside0.mk (hc2.mono (T := Touch { y with h := h }) (fun k _ hk => .inr hk)); have T2 := TC.out w2 y2 hW2; rw [show gotoL (nod (rd_T36 xs i)) xs.length i d = some d' from hg] at T2; have T2 := Aside0.mk T2; clear h2 hg2 ho2 hc2 hW2))
          | (go_at_call 48; go_loud (refine T2.out.mono ?_; rintro e w3 ⟨h3, d3, s3, rfl, hd3, hW, hRr, hC, hO⟩; have D3 := Aside0.mk hd3; have W3 := Aside0.mk hW; have R3 := Aside0.mk hRr; have C3 := Aside0.mk hC; have O3 := Aside0.mk hO; clear hd3 hW hRr hC hO)))
        have OO := Aside0.mk (show ∀ k, h3.own k → y.h.own k ∨ w.heap.size ≤ k from fun k hk => (O3.out k hk).elim (fun h => (O2.out k h).elim (HV.out.own k) (fun h => .inr (Nat.le_trans HV.out.ch.size h))) (fun h => .inr (Nat.le_trans (Nat.le_trans HV.out.ch.size C2.out.size) h)))
        have CC := Aside0.mk (show Ch (Touch y) w w3 from (HV.out.ch.trans C2.out (fun k hk ho => by
            rcases ho with ho | ho
            · exact .inl ho
            · exact (HV.out.own k ho).elim .inr (fun h => by omega))).trans C3.out (fun k hk ho => by
            rcases ho with ho | ho
            · exact .inl ho
            · exact (O2.out k ho).elim (fun h => (HV.out.own k h).elim .inr (fun h => by omega)) (fun h => by have := HV.out.ch.size; omega)))
        go_roundg m
        case measure => omega
        case rel =>
          have e3 : d3 = d' := D3.out d' rfl
          subst e3
          refine ⟨h3, d3, _, s3, ⟨⟨W3.out, R3.out, HRr.out, HCM.out, fun j => ?_, CC.out, OO.out⟩⟩⟩
          have hkl := kd_le HFi.out.op0 HFi.out.op1
          have := gotoL_le (m := (g.count true : Nat)) (by exact hkl.2.2.2) (by have := HFi.out.a0; show 0 ≤ (kd _).2.2.2.2.1 + _; split <;> omega) HPos.out HV.out.dep hg j
          rw [HCT.out]
          omega
end Go.Proofs.Ytcpjjnikehcleaa.Gw
