/- RetryKnown's calls, each told what it answers. -/
import Derived.Test.YtealggjnnihejaaPELawx
namespace Go.Proofs.Ytealggjnnihejaa.Kn
open Go.RowKit Go.Shelf Go.Proofs.YtealggjnnihejaaW.PrintWords Go.Proofs.YtealggjnnihejaaW.PrintLast Go.Proofs.YtealggjnnihejaaW.PrintMore
set_option linter.unusedVariables false
set_option linter.unusedSimpArgs false

/-- The doubling policy as a value, its codes at A. -/
abbrev dv (sp : Int) (A : Option Addr) (co : Nat) : Value := .agg #[.int .i64 100, .int .i64 1000, .int .i64 2, .int .i64 1, .int .i64 5, .int .i64 sp, .slice A 1 co]
def DblPost (w : World) (e : Ending) (w' : World) : Prop := ∃ A co, e = .returned (dv 0 A co) ∧ 1 ≤ co ∧ Kd.C (Kd.int .i64) w' A 1 [7] ∧ Below w.heap.size w w'
theorem dbl_k (w : World) : Calls Try.prog 21 #[] w (DblPost w) := by
  refine (PELaw.prompterlaw20_doubling.calls 100 1000 2 1 5 0 [7] w rfl).mono fun e w' h => ?_
  obtain ⟨v, rfl, hr, hb⟩ := h
  obtain ⟨A, c, rfl⟩ := Kd.R_slice hr
  have h2 := Kd.R_reads' hr
  exact ⟨A, c, rfl, h2.2.1, h2.2.2, hb⟩
def Ret (v : Value) (w : World) (e : Ending) (w' : World) : Prop := e = .returned v ∧ Below w.heap.size w w'
theorem ok5 (sp : Int) (h0 : 0 ≤ sp) (h1 : sp ≤ 100) : Rt.okP ⟨100, 1000, 2, 1, 5, sp, 1⟩ := by unfold Rt.okP Rt.gr; dsimp only; omega
theorem it5 : Rt.it ⟨100, 1000, 2, 1, 5, 0, 1⟩ 4 = 1000 := rfl
theorem it5' : Rt.it ⟨100, 1000, 2, 1, 5, 0, 1⟩ 5 = 1000 := rfl
theorem it5s (k : Nat) : Rt.it ⟨100, 1000, 2, 1, 5, 0, 1⟩ (4 + k) = 1000 := by
  rw [Rt.it_stays (n := 4) (it5'.trans it5.symm) k]; exact it5
theorem wait_k {w : World} {A : Option Addr} {co : Nat} (h : Kd.C (Kd.int .i64) w A 1 [7]) (hc : 1 ≤ co) : Calls Try.prog 10 #[dv 0 A co, .int .i64 1000000] w (Ret (.tuple #[.int .i64 1000, .int .i64 0]) w) := by
  refine (PBase.wait_calls 100 1000 2 1 5 0 A co [7] 1000000 w h hc (by decide) (by decide)).mono fun e w' ⟨he, hb⟩ => ⟨?_, hb⟩
  have hx : Rt.okP ⟨100, 1000, 2, 1, 5, 0, (([7] : List Int).length : Int)⟩ ∧ (1 : Int) ≤ 1000000 := ⟨ok5 0 (by omega) (by omega), by omega⟩
  rw [he, if_pos hx, if_pos hx, show ((1000000 : Int) - 1).toNat = 4 + 999995 from rfl]
  generalize 999995 = k
  exact congrArg (fun x : Int => Ending.returned (Value.tuple #[.int .i64 x, .int .i64 0])) (it5s k)
theorem wait0_k {w : World} {A : Option Addr} {co : Nat} (h : Kd.C (Kd.int .i64) w A 1 [7]) (hc : 1 ≤ co) : Calls Try.prog 10 #[dv 0 A co, .int .i64 0] w (Ret (.tuple #[.int .i64 0, .int .i64 1]) w) := by
  refine (PBase.wait_calls 100 1000 2 1 5 0 A co [7] 0 w h hc (by decide) (by decide)).mono fun e w' ⟨he, hb⟩ => ⟨?_, hb⟩
  rw [he, if_neg (by omega), if_neg (by omega)]
theorem total_k {w : World} {A : Option Addr} {co : Nat} (h : Kd.C (Kd.int .i64) w A 1 [7]) (hc : 1 ≤ co) : Calls Try.prog 12 #[dv 0 A co] w (Ret (.tuple #[.int .i64 1500, .int .i64 0]) w) := by
  refine (PBase.total_calls 100 1000 2 1 5 0 A co [7] w h hc (by decide)).mono fun e w' ⟨he, hb⟩ => ⟨?_, hb⟩
  have hx : Rt.okP ⟨100, 1000, 2, 1, 5, 0, (([7] : List Int).length : Int)⟩ := ok5 0 (by omega) (by omega)
  rw [he, if_pos hx, if_pos hx]
  rfl
theorem drawn_k {w : World} {A : Option Addr} {co : Nat} (h : Kd.C (Kd.int .i64) w A 1 [7]) (hc : 1 ≤ co) : Calls Try.prog 17 #[dv 50 A co, .int .i64 101, .int .u32 2147483648] w (Ret (.tuple #[.int .i64 76, .int .i64 0]) w) := by
  refine (PBase.drawn_calls 100 1000 2 1 5 50 A co [7] 101 2147483648 w h hc (by decide) (by decide) (by decide) (by decide)).mono fun e w' ⟨he, hb⟩ => ⟨?_, hb⟩
  have hx : Rt.okP ⟨100, 1000, 2, 1, 5, 50, (([7] : List Int).length : Int)⟩ ∧ (0 : Int) ≤ 101 := ⟨ok5 50 (by omega) (by omega), by omega⟩
  rw [he, if_pos hx, if_pos hx]
  rfl
theorem drawnm_k {w : World} {A : Option Addr} {co : Nat} (h : Kd.C (Kd.int .i64) w A 1 [7]) (hc : 1 ≤ co) : Calls Try.prog 17 #[dv 50 A co, .int .i64 (-1), .int .u32 0] w (Ret (.tuple #[.int .i64 0, .int .i64 1]) w) := by
  refine (PBase.drawn_calls 100 1000 2 1 5 50 A co [7] (-1) 0 w h hc (by decide) (by decide) (by decide) (by decide)).mono fun e w' ⟨he, hb⟩ => ⟨?_, hb⟩
  rw [he, if_neg (by omega), if_neg (by omega)]
abbrev lv (a b c d m : Int) : Value := .agg #[.int .i64 a, .int .i64 b, .int .i64 c, .int .i64 d, .int .i64 m, .int .i64 0, .slice none 0 0]
theorem wait3_k (w : World) : Calls Try.prog 10 #[lv 1 9 3 2 1, .int .i64 3] w (Ret (.tuple #[.int .i64 1, .int .i64 0]) w) := by
  refine (PBase.wait_calls 1 9 3 2 1 0 none 0 [] 3 w (Kd.C_nil _ _) (by decide) (by decide) (by decide)).mono fun e w' ⟨he, hb⟩ => ⟨?_, hb⟩
  have hx : Rt.okP ⟨1, 9, 3, 2, 1, 0, (([] : List Int).length : Int)⟩ ∧ (1 : Int) ≤ 3 := ⟨by decide, by omega⟩
  rw [he, if_pos hx, if_pos hx]
  rfl
theorem waitm_k (w : World) : Calls Try.prog 10 #[lv 4611686018427387904 9223372036854775807 3 2 1, .int .i64 2] w (Ret (.tuple #[.int .i64 9223372036854775807, .int .i64 0]) w) := by
  refine (PBase.wait_calls 4611686018427387904 9223372036854775807 3 2 1 0 none 0 [] 2 w (Kd.C_nil _ _) (by decide) (by decide) (by decide)).mono fun e w' ⟨he, hb⟩ => ⟨?_, hb⟩
  have hx : Rt.okP ⟨4611686018427387904, 9223372036854775807, 3, 2, 1, 0, (([] : List Int).length : Int)⟩ ∧ (1 : Int) ≤ 2 := ⟨by decide, by omega⟩
  rw [he, if_pos hx, if_pos hx]
  rfl
theorem next_k {w : World} {A : Option Addr} {co : Nat} (h : Kd.C (Kd.int .i64) w A 1 [7]) (hc : 1 ≤ co) : Calls Try.prog 19 #[dv 0 A co, .int .i64 1, .int .i64 7, .int .u32 0] w (Ret (.tuple #[.int .i64 0, .bool false, .int .i64 0]) w) := by
  refine (PBase.next19_calls 100 1000 2 1 5 0 A co [7] 1 7 0 w h hc (by decide) (by decide) (by decide) (by decide)).mono fun e w' ⟨he, hb⟩ => ⟨?_, hb⟩
  have hx : Rt.okP ⟨100, 1000, 2, 1, 5, 0, (([7] : List Int).length : Int)⟩ ∧ (1 : Int) ≤ 1 := ⟨ok5 0 (by omega) (by omega), by omega⟩
  rw [he, if_pos hx, if_pos (Or.inr (by simp))]
theorem awake_k (w : World) : Calls Try.prog 14 #[] w (Ret (.bool true) w) := by
  refine PELaw.prompterlaw20_awake.calls true w ?_
  have h : Rt.waitOf ⟨100, 1000, 2, 1, 5, 0, (([7] : List Int).length : Int)⟩ 4 = some (800, 0) := by
    unfold Rt.waitOf
    rw [if_pos (by decide), if_pos (by decide)]
    rfl
  unfold PELaw.prompterlaw20_awake.f PELaw.prompterlaw20_doubling.f PELaw.retry_Wait.f
  simp only [Option.bind_some]
  rw [h]
  rfl
/-- A policy that may not be. -/
theorem check_k {w : World} {A : Option Addr} {co : Nat} {l : List Int} {a b c d m s : Int} (h : Kd.C (Kd.int .i64) w A l.length l) (hc : l.length ≤ co) (hb : b ≤ Rt.gr) (hno : ¬ Rt.okP ⟨a, b, c, d, m, s, (l.length : Int)⟩) :
    Calls Try.prog 15 #[.agg #[.int .i64 a, .int .i64 b, .int .i64 c, .int .i64 d, .int .i64 m, .int .i64 s, .slice A l.length co]] w (Ret (.int .i64 1) w) := by
  refine (PBase.check_calls a b c d m s A co l w h hc hb).mono fun e w' ⟨he, hb⟩ => ⟨?_, hb⟩
  rw [he]; unfold PBase.chk; rw [if_neg hno]

/-- What the law holds at a place. -/
structure KI (w W : World) (g1 g2 : Nat) (A : Option Addr) (co : Nat) : Prop where
  p : W.heap[g1]? = some (.cells #[.int .i64 100, .int .i64 1000, .int .i64 2, .int .i64 1, .int .i64 5, .int .i64 0, .slice A 1 co] 24 (0, 0))
  s : W.heap[g2]? = some (.cells #[.int .i64 100, .int .i64 1000, .int .i64 2, .int .i64 1, .int .i64 5, .int .i64 50, .slice A 1 co] 24 (0, 0))
  row : Kd.C (Kd.int .i64) W A 1 [7]
  co : 1 ≤ co
  bel : Below w.heap.size w W
theorem KI.step {w W V : World} {g1 g2 : Nat} {A : Option Addr} {co : Nat} (h : KI w W g1 g2 A co) (hb : Below W.heap.size W V) : KI w V g1 g2 A co :=
  ⟨blk_below h.p hb, blk_below h.s hb, Kd.C_below h.row hb, h.co, h.bel.trans (hb.mono h.bel.size)⟩
end Go.Proofs.Ytealggjnnihejaa.Kn
