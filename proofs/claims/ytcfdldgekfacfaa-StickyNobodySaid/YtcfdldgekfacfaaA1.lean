/- A cache that a law has made for itself; awake. -/
import Derived.Test.YtcfdldgekfacfaaP6
namespace Go.Proofs.Ytcfdldgekfacfaa.Sk
open Go.RowKit Go.Proofs.YtcfdldgekfacfaaW.PrintWords Go.Proofs.YtcfdldgekfacfaaW.PrintLast Go.Proofs.YtcfdldgekfacfaaW.PrintMore
set_option linter.unusedVariables false
set_option linter.unusedSimpArgs false

/-- Since w nothing that was has changed, and at g a cache lies that came since N. -/
def Cw (N : Nat) (W : World) (g : Nat) (room hits misses : Int) (l : Things) : Prop := ∃ y, y.g = g ∧ N ≤ W.heap.size ∧ Holds N W y room hits misses l
/-- .. behind a call, which changes only what came since N. -/
def CwPost (N : Nat) (g : Nat) (room hits misses : Int) (l : Things) (v : Value) (w : World) (e : Ending) (w' : World) : Prop :=
  e = .returned v ∧ Cw N w' g room hits misses l ∧ Below N w w'
theorem chg_cw {N : Nat} {y : Lay} {g : Nat} {room hits misses r2 h2 m2 : Int} {l l2 : Things} {v : Value} {w : World} {e : Ending} {w' : World} (hg : y.g = g) (hN : N ≤ w.heap.size) (hh : Holds N w y r2 h2 m2 l2) (h : Chg N y room hits misses l v w e w') : CwPost N g room hits misses l v w e w' := by
  obtain ⟨he, y', ha, hg', ho, hc⟩ := h
  have hb := hc.below hN (fun k hk => (hh.ge hk).1)
  exact ⟨he, ⟨y', hg'.trans hg, Nat.le_trans hN hb.size, ha⟩, hb⟩
theorem Cw.below {N : Nat} {W V : World} {g : Nat} {room hits misses : Int} {l : Things} (h : Cw N W g room hits misses l) (hb : Below W.heap.size W V) : Cw N V g room hits misses l := by
  obtain ⟨y, hg, hN, ha⟩ := h
  have hc : Ch (fun _ => False) W V := Ch.of_below hb (fun k hk hle => by omega)
  exact ⟨y, hg, Nat.le_trans hN hb.size, ha.ch hc (fun _ _ hk => hk)⟩
theorem Cw.drew {N : Nat} {W : World} {g : Nat} {room hits misses : Int} {l : Things} (h : Cw N W g room hits misses l) : Cw N W.drew g room hits misses l := h.below (below_drew1 (Below.refl _ _))
theorem put_cw {N : Nat} {w : World} {g : Nat} {room hits misses : Int} {l : Things} (h : Cw N w g room hits misses l) (nm : ByteArray) (v : Int) (hn : nm.size ≤ maxLen) :
    Calls Try.prog 9 #[.pointer (some ⟨g, 0, none⟩), .string nm, .int .i64 v] w (CwPost N g room hits misses (putL room l nm v) (.tuple #[.string (putT room l nm).1, .bool (putT room l nm).2]) w) := by
  obtain ⟨y, rfl, hN, ha⟩ := h
  exact (put_calls N w y room hits misses l nm v ha hN hn).mono fun e w' hc => chg_cw rfl hN ha hc
theorem get_cw {N : Nat} {w : World} {g : Nat} {room hits misses : Int} {l : Things} (h : Cw N w g room hits misses l) (nm : ByteArray) (hn : nm.size ≤ maxLen) :
    Calls Try.prog 10 #[.pointer (some ⟨g, 0, none⟩), .string nm] w (CwPost N g room (if inB l nm then wrap64 (hits + 1) else hits) (if inB l nm then misses else wrap64 (misses + 1)) (getL l nm) (.tuple #[.int .i64 (val l nm), .bool (inB l nm)]) w) := by
  obtain ⟨y, rfl, hN, ha⟩ := h
  exact (get_calls N w y room hits misses l nm ha hn).mono fun e w' hc => chg_cw rfl hN ha hc
theorem peek_cw {N : Nat} {w : World} {g : Nat} {room hits misses : Int} {l : Things} (h : Cw N w g room hits misses l) (nm : ByteArray) (hn : nm.size ≤ maxLen) :
    Calls Try.prog 18 #[.pointer (some ⟨g, 0, none⟩), .string nm] w (CwPost N g room hits misses l (.tuple #[.int .i64 (val l nm), .bool (inB l nm)]) w) := by
  obtain ⟨y, rfl, hN, ha⟩ := h
  exact (peek_calls N w y room hits misses l nm ha hn).mono fun e w' hc => chg_cw rfl hN ha hc
theorem drop_cw {N : Nat} {w : World} {g : Nat} {room hits misses : Int} {l : Things} (h : Cw N w g room hits misses l) (nm : ByteArray) (hn : nm.size ≤ maxLen) :
    Calls Try.prog 20 #[.pointer (some ⟨g, 0, none⟩), .string nm] w (CwPost N g room hits misses (wo l nm) (.bool (inB l nm)) w) := by
  obtain ⟨y, rfl, hN, ha⟩ := h
  exact (drop_calls N w y room hits misses l nm ha hN hn).mono fun e w' hc => chg_cw rfl hN ha hc
theorem new_cw (w : World) (room : Int) (h : 1 ≤ room ∧ room ≤ 4096) :
    Calls Try.prog 8 #[.int .i64 room] w fun e w' => ∃ g, e = .returned (.tuple #[.pointer (some ⟨g, 0, none⟩), .int .i64 0]) ∧ Cw w.heap.size w' g room 0 0 [] ∧ Below w.heap.size w w' := by
  refine (newL_calls w room h).mono fun e w' ⟨hc, y, he, ha⟩ => ⟨y.g, he, ⟨y, rfl, hc.size, ha⟩, hc.below (Nat.le_refl _) (fun _ hk => hk.elim)⟩
theorem put_first (room : Int) (nm : ByteArray) (v : Int) (h : 1 ≤ room) : putL room [] nm v = [(nm, v)] := by
  unfold putL
  rw [if_neg (by simp [isIn]), if_neg (by simp; omega)]
theorem put_second (a b : ByteArray) (x v : Int) (h : a ≠ b) : putL 1 [(a, x)] b v = [(b, v)] ∧ putT 1 [(a, x)] b = (a, true) := by
  have hn : ¬ isIn [(a, x)] b := by rintro ⟨u, hu⟩; simp at hu; exact h hu.1.symm
  unfold putL putT
  rw [if_neg hn, if_neg hn, if_pos (by simp), if_pos (by simp)]
  exact ⟨rfl, rfl⟩
theorem one_in (b : ByteArray) (v : Int) : inB [(b, v)] b = true ∧ val [(b, v)] b = v := by
  refine ⟨?_, by simp [val]⟩
  classical
  unfold inB
  exact decide_eq_true (show isIn [(b, v)] b from ⟨v, by simp⟩)

set_option maxHeartbeats 1000000 in
set_option maxRecDepth 100000 in
theorem awake_calls (w : World) : Calls Try.prog 7 #[] w fun e w' => e = .returned (.bool true) ∧ Below w.heap.size w w' := by
  have hab : (⟨#[97]⟩ : ByteArray) ≠ ⟨#[98]⟩ := by decide
  have hp := put_second ⟨#[97]⟩ ⟨#[98]⟩ 1 2 hab
  have ho := one_in ⟨#[98]⟩ 2
  have HP := Aside0.mk hp
  have HO := Aside0.mk ho
  clear hab hp ho
  go_enter Try.func7, Try.ntmps7
  go_wp2_with (first
    | (go_at_call 8; go_loud (refine (new_cw _ 1 (by decide)).mono ?_); rintro e w1 ⟨g, rfl, hc, hb⟩; have C1 := Aside0.mk hc; have B1 := Aside0.mk hb; clear hc hb)
    | (have C := C1; clear C1; go_at_call 9; go_loud (refine (put_cw C.out _ 1 (by decide)).mono ?_); rintro e w2 ⟨rfl, hc, hb⟩; rw [put_first 1 _ 1 (by decide)] at hc; have C2 := Aside0.mk hc; have B2 := Aside0.mk (B1.out.trans hb); clear hc hb)
    | (have C := C2; clear C2; go_at_call 9; go_loud (refine (put_cw C.out _ 2 (by decide)).mono ?_); rintro e w3 ⟨rfl, hc, hb⟩; rw [HP.out.1] at hc; rw [HP.out.2]; have C3 := Aside0.mk hc; have B3 := Aside0.mk (B2.out.trans hb); clear hc hb)
    | (go_at_call 10; go_loud (refine (get_cw C3.out _ (by decide)).mono ?_); rintro e w4 ⟨rfl, hc, hb⟩; rw [HO.out.1, HO.out.2]; have B4 := Aside0.mk (B3.out.trans hb); clear hc hb))
  go_ret
  exact ⟨rfl, B4.out⟩
end Go.Proofs.Ytcfdldgekfacfaa.Sk
