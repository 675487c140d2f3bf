/- The heap's steps, walked: Pop. -/
import Derived.Test.YtcpjjnikehcleaaH6
namespace Go.Proofs.Ytcpjjnikehcleaa.Hq
open Go.RowKit PChk Go.Proofs.YtcpjjnikehcleaaW.PrintWords Go.Proofs.YtcpjjnikehcleaaW.PrintLast Go.Proofs.YtcpjjnikehcleaaW.PrintMore
open Go.Maps (Keyed)
set_option linter.unusedVariables false
set_option linter.unusedSimpArgs false

theorem pop_none (B : Nat) (w : World) (y : Lay) (s : HS) (h : HAt B w y s) (hl : s.l = []) :
    Calls Try.prog 47 #[.pointer (some ⟨y.g, 0, none⟩)] w (Next B y s (.tuple #[.int .i64 0, .int .i64 0, .int .i64 0, .bool false]) w) := by
  have PC := peek_calls B w y s h
  rw [hl] at PC
  have PC := Aside0.mk PC
  have H := Aside0.mk h
  clear h
  go_enter Try.func47, Try.ntmps47
  go_wp2_with (go_at_call 58; go_loud (refine PC.out.mono ?_; rintro e w1 ⟨rfl, hc⟩; simp only [peekV]; have C1 := Aside0.mk hc; clear hc))
  (refine bodyPost_ret (results_tmp4 rfl _ _ _) rfl ?_; try simp only [List.getD_eq_getElem?_getD, Array.getD_eq_getD_getElem?, List.getElem?_toArray, List.getElem?_cons_succ, List.getElem?_cons_zero, Option.getD_some])
  exact ⟨rfl, y, H.out.same C1.out, rfl, fun _ hk => .inl hk, C1.out.mono (fun _ _ hk => hk.elim)⟩
theorem pop_some (B : Nat) (w : World) (y : Lay) (s : HS) (x : Th) (l : List Th) (h : HAt B w y s) (hI : HInv s) (hl : s.l = x :: l) (hlen : s.l.length < 200000) (hx : s.next < 1000000) :
    Calls Try.prog 47 #[.pointer (some ⟨y.g, 0, none⟩)] w (Next B y (popS s) (.tuple #[.int .i64 x.key, .int .i64 x.v, .int .i64 x.num, .bool true]) w) := by
  have PC := peek_calls B w y s h
  rw [hl] at PC
  have PC := Aside0.mk PC
  have DC := Aside0.mk (fun w1 (h1 : HAt B w1 y s) => drop_calls B w1 y s l.length h1 hI (by rw [hl]; rfl) hlen hx)
  have H := Aside0.mk h
  clear h
  go_enter Try.func47, Try.ntmps47
  go_wp2_with (first
    | (go_at_call 58; go_loud (refine PC.out.mono ?_; rintro e w1 ⟨rfl, hc⟩; simp only [peekV]; have C1 := Aside0.mk hc; clear hc))
    | (go_at_call 59; go_loud (refine (DC.out _ (H.out.same C1.out)).mono ?_; rintro e w2 ⟨rfl, y2, h2, hg, ho, hc⟩; have H2 := Aside0.mk h2; have G2 := Aside0.mk hg; have O2 := Aside0.mk ho; have C2 := Aside0.mk hc; clear h2 hg ho hc)))
  (refine bodyPost_ret (results_tmp4 rfl _ _ _) rfl ?_; try simp only [List.getD_eq_getElem?_getD, Array.getD_eq_getD_getElem?, List.getElem?_toArray, List.getElem?_cons_succ, List.getElem?_cons_zero, Option.getD_some])
  exact ⟨rfl, y2, H2.out, G2.out, fun k hk => (O2.out k hk).imp id (fun h => Nat.le_trans C1.out.size h), (C1.out.mono (fun _ _ hk => hk.elim)).trans C2.out (fun _ _ hk => hk)⟩
end Go.Proofs.Ytcpjjnikehcleaa.Hq
