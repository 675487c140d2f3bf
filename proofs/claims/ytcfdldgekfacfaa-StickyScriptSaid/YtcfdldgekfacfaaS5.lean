/- New. -/
import Derived.Test.YtcfdldgekfacfaaS4
namespace Go.Proofs.Ytcfdldgekfacfaa.Sk
open Go.RowKit Go.Proofs.YtcfdldgekfacfaaW.PrintWords Go.Proofs.YtcfdldgekfacfaaW.PrintLast Go.Proofs.YtcfdldgekfacfaaW.PrintMore
open Go.Maps (Keyed)
set_option linter.unusedVariables false
set_option linter.unusedSimpArgs false

set_option maxHeartbeats 1000000 in
set_option maxRecDepth 100000 in
theorem may_calls (w : World) (room : Int) : Calls Try.prog 35 #[.int .i64 room] w (Same (.bool (decide (1 ≤ room ∧ room ≤ 4096))) w) := by
  by_cases h1 : 1 ≤ room
  · have d1 : decide (room ≥ 1) = true := decide_eq_true h1
    by_cases h2 : room ≤ 4096
    · have d2 : decide (room ≤ 4096) = true := decide_eq_true h2
      rw [decide_eq_true (show 1 ≤ room ∧ room ≤ 4096 from ⟨h1, h2⟩)]
      go_enter Try.func35, Try.ntmps35
      go_wp2
      go_ret
      exact ⟨by simp [d2], Ch.refl _ _⟩
    · have d2 : decide (room ≤ 4096) = false := decide_eq_false h2
      rw [decide_eq_false (show ¬ (1 ≤ room ∧ room ≤ 4096) from fun h => h2 h.2)]
      go_enter Try.func35, Try.ntmps35
      go_wp2
      go_ret
      exact ⟨by simp [d2], Ch.refl _ _⟩
  · have d1 : decide (room ≥ 1) = false := decide_eq_false h1
    rw [decide_eq_false (show ¬ (1 ≤ room ∧ room ≤ 4096) from fun h => h1 h.1)]
    go_enter Try.func35, Try.ntmps35
    go_wp2
    go_ret
    exact ⟨by simp, Ch.refl _ _⟩

theorem make_map (W : World) : (Instr.makeMap 51 none).run Try.prog W = .ok (.map (some W.heap.size)) (W.alloc (.map #[] 0)) := by kernel_rfl
theorem make_cells (W : World) : (Instr.makeSlice 62 (.int .i64 1) (.int .i64 1)).run Try.prog W = .ok (.slice (some ⟨W.heap.size, 0, none⟩) 1 1) (W.alloc (.cells #[.string ⟨#[]⟩, .int .i64 0, .int .i64 0, .int .i64 0] 66)) := by kernel_rfl
def newS (room : Int) : St := ⟨room, 0, 0, .map [], [zc], []⟩
def New (room : Int) (w : World) (e : Ending) (w' : World) : Prop := Ch (fun _ => False) w w' ∧
  if 1 ≤ room ∧ room ≤ 4096 then ∃ y, e = .returned (.tuple #[.pointer (some ⟨y.g, 0, none⟩), .int .i64 0]) ∧ CAt w.heap.size w' y (newS room) else e = .returned (.tuple #[.pointer none, .int .i64 1])

theorem born (w : World) (room : Int) (B : Nat) (hB : B ≤ w.heap.size) :
    CAt B (((w.alloc (.map #[] 0)).alloc (.cells #[.string ⟨#[]⟩, .int .i64 0, .int .i64 0, .int .i64 0] 66)).alloc (.cells #[.int .i64 room, .map (some w.heap.size), .slice (some ⟨w.heap.size + 1, 0, none⟩) 1 1, .slice none 0 0, .int .i64 0, .int .i64 0] 64))
      ⟨w.heap.size + 1 + 1, w.heap.size, w.heap.size + 1, 1, [], .slice none 0 0⟩ (newS room) := by
  have hm : (w.alloc (.map #[] 0)).ownsMap Try.prog 9 (plainElem (H := Nat) Try.prog 3) w.heap.size 0 (.map []) := World.ownsMap_made w Try.prog 9 _
  have hr : Ring ((w.alloc (.map #[] 0)).alloc (.cells #[.string ⟨#[]⟩, .int .i64 0, .int .i64 0, .int .i64 0] 66)) (w.heap.size + 1) 1 [zc] [] := by
    have := blk_new (w.alloc (.map #[] 0)) (.cells #[.string ⟨#[]⟩, .int .i64 0, .int .i64 0, .int .i64 0] 66)
    rw [World.size_alloc] at this
    exact ⟨this, rfl, by unfold maxLen; omega⟩
  refine ⟨?_, (hm.alloc _).alloc _, hr.alloc _, World.ownsRow_nil _ _ _ _, by simp; omega, by simpa using hB, by simp; omega⟩
  have := blk_new ((w.alloc (.map #[] 0)).alloc (.cells #[.string ⟨#[]⟩, .int .i64 0, .int .i64 0, .int .i64 0] 66)) (.cells #[.int .i64 room, .map (some w.heap.size), .slice (some ⟨w.heap.size + 1, 0, none⟩) 1 1, .slice none 0 0, .int .i64 0, .int .i64 0] 64)
  rw [World.size_alloc, World.size_alloc] at this
  exact this
set_option maxHeartbeats 1000000 in
set_option maxRecDepth 100000 in
theorem new_no (w : World) (room : Int) (h : ¬ (1 ≤ room ∧ room ≤ 4096)) : Calls Try.prog 8 #[.int .i64 room] w (New room w) := by
  have HH := Aside0.mk h
  have hd : decide (1 ≤ room ∧ room ≤ 4096) = false := decide_eq_false h
  clear h
  go_enter Try.func8, Try.ntmps8
  go_wp2_with (go_at_call 35; refine (may_calls _ room).mono ?_; rintro e w1 ⟨rfl, hc⟩; rw [hd]; have HC := Aside0.mk hc; clear hc)
  go_ret2
  exact ⟨HC.out, by rw [if_neg HH.out]; rfl⟩
set_option maxHeartbeats 1000000 in
set_option maxRecDepth 100000 in
theorem new_yes (w : World) (room : Int) (h : 1 ≤ room ∧ room ≤ 4096) : Calls Try.prog 8 #[.int .i64 room] w (New room w) := by
  have HH := Aside0.mk h
  have hd : decide (1 ≤ room ∧ room ≤ 4096) = true := decide_eq_true h
  have hu51 := Try.underlying51
  have hu62 := Try.underlying62
  have hu64 := Try.underlying64
  have hmm := make_map
  have hms := make_cells
  clear h
  go_enter Try.func8, Try.ntmps8
  go_wp2_with (go_at_call 35; refine (may_calls _ room).mono ?_; rintro e w1 ⟨rfl, hc⟩; rw [hd]; have HC := Aside0.mk hc; clear hc)
  go_ret2
  exact ⟨((HC.out.alloc _).alloc _).alloc _, by rw [if_pos HH.out]; exact ⟨_, rfl, born w1 room _ HC.out.size⟩⟩
theorem new_calls (w : World) (room : Int) : Calls Try.prog 8 #[.int .i64 room] w (New room w) := by
  by_cases h : 1 ≤ room ∧ room ≤ 4096
  · exact new_yes w room h
  · exact new_no w room h
end Go.Proofs.Ytcfdldgekfacfaa.Sk
