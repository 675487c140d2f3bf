/- A script of steps that comes in. -/
import Derived.Test.YtcfdldgekfacfaaQ3
import Derived.Deep.Slices
import Derived.Deep.Strs
import Derived.WalkKit
import Derived.ProofKit
import Derived.OpenShut
import Derived.ShutString
import Derived.ChangeOld
import Derived.Below
import Derived.SizedLaws
namespace Go.Proofs.Ytcfdldgekfacfaa.Sk
open Go.ChangeShapes Go.WideShapes Go.RowKit Go.Deep Go.Proofs.YtcfdldgekfacfaaW.PrintWords Go.Proofs.YtcfdldgekfacfaaW.PrintLast Go.Proofs.YtcfdldgekfacfaaW.PrintMore
set_option linter.unusedVariables false
set_option linter.unusedSimpArgs false
variable {H : Type} {enc : TypeId × Value → H}

theorem one_step {W : World} {base : Nat} {spare : Nat → Bool} {held : Bool} {n : Nat} {cs : List Value} {x : DataW H × List MemPlace} {a : Addr} {i : Nat}
    (hc : W.cells? base (a.add (i * 3)) 3 = some cs) (h : DataW.trod enc Try.prog W base spare held n 29 cs = some x) :
    ∃ s : Stp, W.cell? (a.add (i * 3)) = some (.int .u8 s.what) ∧ W.cell? ⟨(a.add (i * 3)).block, (a.add (i * 3)).off + 1, none⟩ = some (.string s.nm) ∧
      W.cell? ⟨(a.add (i * 3)).block, (a.add (i * 3)).off + 2, none⟩ = some (.int .i64 s.v) ∧ s.nm.size ≤ maxLen := by
  obtain ⟨y0, y1, y2, n', hx, hl, h0, h1, h2⟩ := trod_struct3 Try.underlying29 h
  obtain ⟨_, hcl, hat⟩ := World.cells?_some hc
  match cs, hcl with
  | [c0, c1, c2], _ =>
    have k5 : Try.prog.cellsOf 5 = 1 := by kernel_rfl
    have k9 : Try.prog.cellsOf 9 = 1 := by kernel_rfl
    have k3 : Try.prog.cellsOf 3 = 1 := by kernel_rfl
    simp [k5, k9, k3] at h0 h1 h2
    obtain ⟨a0, e0, _, w0⟩ := DataW.trod_int Try.underlying5 h0
    obtain ⟨a1, e1, _, w1⟩ := DataW.trod_string Try.underlying9 h1
    obtain ⟨a2, e2, _, w2⟩ := DataW.trod_int Try.underlying3 h2
    simp at e0 e1 e2
    subst e0 e1 e2
    have g0 := hat 0 (by omega)
    have g1 := hat 1 (by omega)
    have g2 := hat 2 (by omega)
    simp at g0 g1 g2
    exact ⟨⟨a0, a1, a2⟩, g0, g1, g2, w1⟩
/-- A slice of steps that reads. -/
theorem open_steps {W : World} {base : Nat} {spare : Nat → Bool} {held : Bool} {n : Nat} {v : Value} {x : DataW H × List MemPlace}
    (h : DataW.trod enc Try.prog W base spare held n 22 [v] = some x) :
    ∃ (A : Option Addr) (c : Nat) (l : List Stp), v = .slice A l.length c ∧ l.length ≤ c ∧ Steps W A l := by
  rcases open_slice Try.underlying22 h with ⟨hcs, _⟩ | ⟨a, len, cap, m, n', D, Pl, hcs, _, hl, hm, hmm, hx, hi⟩
  · simp at hcs
    subst hcs
    exact ⟨none, 0, [], rfl, Nat.le_refl _, fun h => by simp at h⟩
  · simp at hcs
    subst hcs
    have k29 : Try.prog.cellsOf 29 = 3 := by kernel_rfl
    have hlm : len ≤ m := by rw [hmm]; split <;> omega
    have key : ∀ i, i < len → ∃ s : Stp, W.cell? (a.add (i * 3)) = some (.int .u8 s.what) ∧ W.cell? ⟨(a.add (i * 3)).block, (a.add (i * 3)).off + 1, none⟩ = some (.string s.nm) ∧
      W.cell? ⟨(a.add (i * 3)).block, (a.add (i * 3)).off + 2, none⟩ = some (.int .i64 s.v) ∧ s.nm.size ≤ maxLen := fun i hil => by
      obtain ⟨cs', hc, ht⟩ := hi i (by omega)
      rw [k29] at hc
      exact one_step hc ht
    haveI : Inhabited Stp := ⟨zs⟩
    obtain ⟨f, hf⟩ := choose_lt key
    refine ⟨some a, cap, (List.range len).map f, by simp, by simpa using hl, fun hp => ⟨a, rfl, ?_, fun i hi' => ?_⟩⟩
    · obtain ⟨h1, _⟩ := hf 0 (by simpa using hp)
      have := World.block_lt_of_cell? W _ h1
      rwa [show (a.add (0 * 3)).block = a.block from by unfold Addr.add; split <;> rfl] at this
    · have hi2 : i < len := by simpa using hi'
      have : stp ((List.range len).map f) i = f i := by simp [stp, hi2]
      rw [this]
      exact hf i hi2

set_option maxHeartbeats 1000000 in
set_option maxRecDepth 100000 in
/-- Nothing is asked of a long script, or of less room. -/
theorem wider_long (w : World) (room more : Int) (A : Option Addr) (cp n : Nat) (h : 100 < n ∨ (n ≤ 100 ∧ more < room)) :
    Calls Try.prog 3 #[.int .i64 room, .int .i64 more, .slice A n cp] w (Yes w) := by
  rcases h with h | ⟨h, h'⟩
  · have d1 : decide ((n : Int) > 100) = true := decide_eq_true (by omega)
    clear h
    go_enter Try.func3, Try.ntmps3
    go_wp2_with (go_at_call 7; go_loud (refine (awake_calls _).mono ?_); rintro e w1 ⟨rfl, hb⟩; have B1 := Aside0.mk hb; clear hb)
    go_ret
    exact ⟨rfl, B1.out⟩
  · have d1 : decide ((n : Int) > 100) = false := decide_eq_false (by omega)
    have d2 : decide (more < room) = true := decide_eq_true h'
    clear h h'
    go_enter Try.func3, Try.ntmps3
    go_wp2_with (go_at_call 7; go_loud (refine (awake_calls _).mono ?_); rintro e w1 ⟨rfl, hb⟩; have B1 := Aside0.mk hb; clear hb)
    go_ret
    exact ⟨rfl, B1.out⟩
def Mk (room : Int) (w : World) (e : Ending) (w' : World) : Prop := Below w.heap.size w w' ∧ ∃ p, e = .returned (.tuple #[.pointer p, .int .i64 (cond (decide (1 ≤ room ∧ room ≤ 4096)) 0 1)])
theorem mk_calls (w : World) (room : Int) : Calls Try.prog 8 #[.int .i64 room] w (Mk room w) := by
  refine (new_calls w room).mono fun e w' ⟨hc, hh⟩ => ⟨hc.below (Nat.le_refl _) (fun _ hk => hk.elim), ?_⟩
  by_cases h : 1 ≤ room ∧ room ≤ 4096
  · rw [if_pos h] at hh
    obtain ⟨y, he, _⟩ := hh
    exact ⟨_, by rw [decide_eq_true h]; exact he⟩
  · rw [if_neg h] at hh
    exact ⟨_, by rw [decide_eq_false h]; exact hh⟩
set_option maxHeartbeats 1000000 in
set_option maxRecDepth 100000 in
/-- There may not be so much room. -/
theorem wider_no (w : World) (room more : Int) (A : Option Addr) (cp n : Nat) (hn : n ≤ 100) (hr : room ≤ more) (h : ¬ (1 ≤ room ∧ more ≤ 4096)) :
    Calls Try.prog 3 #[.int .i64 room, .int .i64 more, .slice A n cp] w (Yes w) := by
  have d1 : decide ((n : Int) > 100) = false := decide_eq_false (by omega)
  have d2 : decide (more < room) = false := decide_eq_false (by omega)
  have e1 : decide (1 ≤ room ∧ room ≤ 4096) = false ∨ (decide (1 ≤ room ∧ room ≤ 4096) = true ∧ decide (1 ≤ more ∧ more ≤ 4096) = false) := by
    by_cases h1 : 1 ≤ room ∧ room ≤ 4096
    · exact .inr ⟨decide_eq_true h1, decide_eq_false (by omega)⟩
    · exact .inl (decide_eq_false h1)
  have e2 : decide (room < 1) = true ∨ (decide (room < 1) = false ∧ decide (more > 4096) = true) := by
    by_cases h1 : room < 1
    · exact .inl (decide_eq_true h1)
    · exact .inr ⟨decide_eq_false h1, decide_eq_true (by omega)⟩
  clear h hn hr
  rcases e1 with e1 | ⟨e1, e1'⟩ <;> rcases e2 with e2 | ⟨e2, e2'⟩
  all_goals
    go_enter Try.func3, Try.ntmps3
    go_wp2_with (first
      | (go_at_call 7; go_loud (refine (awake_calls _).mono ?_); rintro e w1 ⟨rfl, hb⟩; have B1 := Aside0.mk hb; clear hb; have T1 := trivial)
      | (clear T1; go_at_call 8; go_loud (refine (mk_calls _ room).mono ?_); rintro e w2 ⟨hb, p2, rfl⟩; simp only [e1, cond_true, cond_false]; have B2 := Aside0.mk (B1.out.trans (hb.mono B1.out.size)); clear hb)
      | (go_at_call 8; go_loud (refine (mk_calls _ more).mono ?_); rintro e w3 ⟨hb, p3, rfl⟩; (first | simp only [e1', cond_false] | (generalize (cond (decide (1 ≤ more ∧ more ≤ 4096)) 0 1 : Int) = n3)); have B3 := Aside0.mk (B2.out.trans (hb.mono B2.out.size)); clear hb))
    go_ret
    exact ⟨by simp [*], B3.out⟩
theorem wider_calls (w : World) (room more : Int) (A : Option Addr) (cp : Nat) (l : List Stp) (hs : Steps w A l) :
    Calls Try.prog 3 #[.int .i64 room, .int .i64 more, .slice A l.length cp] w (Yes w) := by
  by_cases h1 : l.length ≤ 100
  · by_cases h2 : room ≤ more
    · by_cases h3 : 1 ≤ room ∧ more ≤ 4096
      · exact wider_in w room more A cp l h1 h3.1 h2 h3.2 hs
      · exact wider_no w room more A cp _ h1 h2 h3
    · exact wider_long w room more A cp _ (.inr ⟨h1, by omega⟩)
  · exact wider_long w room more A cp _ (.inl (by omega))
theorem open_steps' {W : World} {base : Nat} {spare : Nat → Bool} {held : Bool} {a : Option Addr} {n c : Nat} {d : DataW H} {p : List MemPlace} (h : DataW.Trod enc Try.prog W base spare held 22 (.slice a n c) d p) :
    ∃ (A : Option Addr) (c' : Nat) (l : List Stp), Value.slice a n c = .slice A l.length c' ∧ l.length ≤ c' ∧ Steps W A l := by
  obtain ⟨fuel, hf⟩ := h
  exact open_steps (v := .slice a n c) (x := (d, p)) (by simpa [Value.cells] using hf)
end Go.Proofs.Ytcfdldgekfacfaa.Sk
