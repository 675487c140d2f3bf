/- A cache that nobody made. -/
import Derived.Test.YtcfdldgekfacfaaQ4
import Derived.MapKept
namespace Go.Proofs.Ytcfdldgekfacfaa.Nb
open Go.RowKit Sk Go.Proofs.YtcfdldgekfacfaaW.PrintWords Go.Proofs.YtcfdldgekfacfaaW.PrintLast Go.Proofs.YtcfdldgekfacfaaW.PrintMore
set_option linter.unusedVariables false
set_option linter.unusedSimpArgs false

/-- Nil, or a pointer to an empty one. -/
def Zp (W : World) (p : Option Addr) : Prop := p = none ∨ ∃ g, p = some ⟨g, 0, none⟩ ∧ W.heap[g]? = some (.cells #[.int .i64 0, .map none, .slice none 0 0, .slice none 0 0, .int .i64 0, .int .i64 0] 55 (0, 0))
theorem Zp.drewN {W : World} {p : Option Addr} (h : Zp W p) (m : Nat) : Zp (W.drewN m) p := h
/-- It only reads. -/
def Q (v : Value) (w : World) (e : Ending) (w' : World) : Prop := e = .returned v ∧ ∃ m, w' = w.drewN m
theorem lookup_nil (w : World) (s : ByteArray) : (Instr.lookup 51 (.map none) (.string s) true).run Try.prog w = .ok (.tuple #[.int .i64 0, .bool false]) w := by
  have hkey : MapKept.IsKey .string (.string s) := trivial
  simp [Instr.lookup, run_underlying Try.underlying51, MapKept.run_checkKey Try.underlying9 hkey, Result.andThen, MapKept.run_findKey (l := []) Try.underlying9 (k := .string s) (a := none) rfl]
set_option maxHeartbeats 1000000 in
set_option maxRecDepth 100000 in
theorem room_z (w : World) (p : Option Addr) (h : Zp w p) : Calls Try.prog 33 #[.pointer p] w (Q (.int .i64 0) w) := by
  have hu := Try.underlying55
  rcases h with rfl | ⟨g, rfl, hb⟩
  · go_enter Try.func33, Try.ntmps33
    go_wp2
    go_ret
    exact ⟨rfl, 0, rfl⟩
  · have c0 := (blk_cell hb 0).trans rfl
    go_enter Try.func33, Try.ntmps33
    go_wp2
    go_ret
    exact ⟨rfl, 0, rfl⟩
set_option maxHeartbeats 1000000 in
set_option maxRecDepth 100000 in
theorem put_z (w : World) (p : Option Addr) (h : Zp w p) (nm x : ByteArray) : Calls Try.prog 26 #[.pointer p, .string nm, .string x] w (Q (.tuple #[.string ⟨#[]⟩, .bool false]) w) := by
  have H := Aside0.mk h
  clear h
  go_enter Try.func26, Try.ntmps26
  go_wp2_with (go_at_call 33; go_loud (refine (room_z _ p H.out).mono ?_); rintro e w1 ⟨rfl, m, rfl⟩)
  go_ret2
  exact ⟨rfl, m, rfl⟩
set_option maxHeartbeats 1000000 in
set_option maxRecDepth 100000 in
theorem get_z (w : World) (p : Option Addr) (h : Zp w p) (nm : ByteArray) : Calls Try.prog 27 #[.pointer p, .string nm] w (Q (.tuple #[.string ⟨#[]⟩, .bool false]) w) := by
  have H := Aside0.mk h
  clear h
  go_enter Try.func27, Try.ntmps27
  go_wp2_with (go_at_call 33; go_loud (refine (room_z _ p H.out).mono ?_); rintro e w1 ⟨rfl, m, rfl⟩)
  go_ret2
  exact ⟨rfl, m, rfl⟩
set_option maxHeartbeats 1000000 in
set_option maxRecDepth 100000 in
theorem names_z (w : World) (p : Option Addr) (h : Zp w p) : Calls Try.prog 31 #[.pointer p] w (Q (.slice none 0 0) w) := by
  have H := Aside0.mk h
  clear h
  go_enter Try.func31, Try.ntmps31
  go_wp2_with (go_at_call 33; go_loud (refine (room_z _ p H.out).mono ?_); rintro e w1 ⟨rfl, m, rfl⟩)
  go_ret
  exact ⟨rfl, m, rfl⟩
set_option maxHeartbeats 1000000 in
set_option maxRecDepth 100000 in
theorem shrink_z (w : World) (p : Option Addr) (h : Zp w p) (r : Int) : Calls Try.prog 34 #[.pointer p, .int .i64 r] w (Q (.slice none 0 0) w) := by
  have H := Aside0.mk h
  clear h
  go_enter Try.func34, Try.ntmps34
  go_wp2_with (go_at_call 33; go_loud (refine (room_z _ p H.out).mono ?_); rintro e w1 ⟨rfl, m, rfl⟩)
  go_ret
  exact ⟨rfl, m, rfl⟩
set_option maxHeartbeats 1000000 in
set_option maxRecDepth 100000 in
theorem len_z (w : World) (p : Option Addr) (h : Zp w p) : Calls Try.prog 32 #[.pointer p] w (Q (.int .i64 0) w) := by
  have hu := Try.underlying55
  have hm := Try.underlying51
  rcases h with rfl | ⟨g, rfl, hb⟩
  · go_enter Try.func32, Try.ntmps32
    go_wp2
    go_ret
    exact ⟨rfl, 0, rfl⟩
  · have c1 := (blk_cell hb 1).trans rfl
    go_enter Try.func32, Try.ntmps32
    go_wp2
    go_ret
    exact ⟨rfl, 0, rfl⟩
set_option maxHeartbeats 1000000 in
set_option maxRecDepth 100000 in
theorem counts_z (w : World) (p : Option Addr) (h : Zp w p) : Calls Try.prog 29 #[.pointer p] w (Q (.tuple #[.int .i64 0, .int .i64 0]) w) := by
  have hu := Try.underlying55
  rcases h with rfl | ⟨g, rfl, hb⟩
  · go_enter Try.func29, Try.ntmps29
    go_wp2
    go_ret2
    exact ⟨rfl, 0, rfl⟩
  · have c1 := (blk_cell hb 4).trans rfl
    have c2 := (blk_cell hb 5).trans rfl
    go_enter Try.func29, Try.ntmps29
    go_wp2
    go_quiet (fail)
    go_wp2
    go_ret2
    exact ⟨rfl, _, rfl⟩
set_option maxHeartbeats 1000000 in
set_option maxRecDepth 100000 in
theorem find_z (w : World) (p : Option Addr) (h : Zp w p) (nm : ByteArray) : Calls Try.prog 51 #[.pointer p, .string nm] w (Q (.tuple #[.int .i64 0, .bool false]) w) := by
  have hu := Try.underlying55
  have hm := Try.underlying51
  have hl := lookup_nil
  rcases h with rfl | ⟨g, rfl, hb⟩
  · go_enter Try.func51, Try.ntmps51
    go_wp2
    go_ret2
    exact ⟨rfl, 0, rfl⟩
  · have c1 := (blk_cell hb 1).trans rfl
    go_enter Try.func51, Try.ntmps51
    go_wp2
    go_ret2
    exact ⟨rfl, 0, rfl⟩
set_option maxHeartbeats 1000000 in
set_option maxRecDepth 100000 in
theorem peek_z (w : World) (p : Option Addr) (h : Zp w p) (nm : ByteArray) : Calls Try.prog 28 #[.pointer p, .string nm] w (Q (.tuple #[.string ⟨#[]⟩, .bool false]) w) := by
  have H := Aside0.mk h
  clear h
  go_enter Try.func28, Try.ntmps28
  go_wp2_with (go_at_call 51; go_loud (refine (find_z _ p H.out nm).mono ?_); rintro e w1 ⟨rfl, m, rfl⟩)
  go_ret2
  exact ⟨rfl, m, rfl⟩
set_option maxHeartbeats 1000000 in
set_option maxRecDepth 100000 in
theorem drop_z (w : World) (p : Option Addr) (h : Zp w p) (nm : ByteArray) : Calls Try.prog 30 #[.pointer p, .string nm] w (Q (.bool false) w) := by
  have H := Aside0.mk h
  clear h
  go_enter Try.func30, Try.ntmps30
  go_wp2_with (go_at_call 51; go_loud (refine (find_z _ p H.out nm).mono ?_); rintro e w1 ⟨rfl, m, rfl⟩)
  go_ret
  exact ⟨rfl, m, rfl⟩
theorem zd {W : World} {p : Option Addr} (h : Zp W p) {V : World} (e : V.heap = W.heap := by rfl) : Zp V p := by
  unfold Zp; rw [e]; exact h
set_option maxHeartbeats 4000000 in
set_option maxRecDepth 100000 in
theorem nobody_calls (w : World) (nm : ByteArray) (room : Int) : Calls Try.prog 6 #[.string nm, .int .i64 room] w (Yes w) := by
  have hu55 := Try.underlying55
  have hu56 := Try.underlying56
  go_enter Try.func6, Try.ntmps6
  go_wp2
  have hZ : ∀ i, i < 2 → ∃ p, ((w.alloc (.cells #[.int .i64 0, .map none, .slice none 0 0, .slice none 0 0, .int .i64 0, .int .i64 0] 55)).alloc (.cells #[.pointer none, .pointer (some ⟨w.heap.size, 0, none⟩)] 56)).cell? ⟨w.heap.size + 1, i, none⟩ = some (.pointer p) ∧ Zp ((w.alloc (.cells #[.int .i64 0, .map none, .slice none 0 0, .slice none 0 0, .int .i64 0, .int .i64 0] 55)).alloc (.cells #[.pointer none, .pointer (some ⟨w.heap.size, 0, none⟩)] 56)) p := by
    intro i hi
    have hb := blk_new (w.alloc (.cells #[.int .i64 0, .map none, .slice none 0 0, .slice none 0 0, .int .i64 0, .int .i64 0] 55)) (.cells #[.pointer none, .pointer (some ⟨w.heap.size, 0, none⟩)] 56)
    rw [World.size_alloc] at hb
    have hz := blk_alloc (blk_new w (.cells #[.int .i64 0, .map none, .slice none 0 0, .slice none 0 0, .int .i64 0, .int .i64 0] 55)) (.cells #[.pointer none, .pointer (some ⟨w.heap.size, 0, none⟩)] 56)
    match i, hi with
    | 0, _ => exact ⟨_, (blk_cell hb 0).trans rfl, .inl rfl⟩
    | 1, _ => exact ⟨_, (blk_cell hb 1).trans rfl, .inr ⟨_, rfl, hz⟩⟩
  have hb2 : Below w.heap.size w ((w.alloc (.cells #[.int .i64 0, .map none, .slice none 0 0, .slice none 0 0, .int .i64 0, .int .i64 0] 55)).alloc (.cells #[.pointer none, .pointer (some ⟨w.heap.size, 0, none⟩)] 56)) := below_alloc (below_alloc (Below.refl _ _) _) _
  have HZ2 := Aside0.mk hZ
  have HB2 := Aside0.mk hb2
  clear hZ hb2
  generalize ((w.alloc (.cells #[.int .i64 0, .map none, .slice none 0 0, .slice none 0 0, .int .i64 0, .int .i64 0] 55)).alloc (.cells #[.pointer none, .pointer (some ⟨w.heap.size, 0, none⟩)] 56)) = W2 at *
  go_loopg [8] 2 (fun kq v8 w' => ∃ (i : Nat), v8 = .int .i64 (i : Int) ∧ Aside0 (i + kq = 2) ∧ Drawn0 W2 w')
  case atStart => exact ⟨0, rfl, ⟨by omega⟩, Drawn0.refl _⟩
  case round =>
    obtain ⟨i, rfl, HI, ⟨m0, rfl⟩⟩ := hrel
    by_cases hi : i < 2
    · have p0 : decide ((i : Int) < 2) = true := decide_eq_true (by omega)
      have p1 : (0 ≤ (i : Int)) = True := eq_true (by omega)
      have p2 : ((i : Int) < 2) = True := eq_true (by omega)
      obtain ⟨p, hc, hz⟩ := HZ2.out i hi
      have HZ := Aside0.mk hz
      have HI2 := Aside0.mk hi
      clear hz hi
      go_wp2_with (first
        | (go_at_call 26; go_loud (refine (put_z _ p (zd HZ.out) _ _).mono ?_); rintro e w1 ⟨rfl, m, rfl⟩)
        | (go_at_call 27; go_loud (refine (get_z _ p (zd HZ.out) _).mono ?_); rintro e w1 ⟨rfl, m, rfl⟩)
        | (go_at_call 28; go_loud (refine (peek_z _ p (zd HZ.out) _).mono ?_); rintro e w1 ⟨rfl, m, rfl⟩)
        | (go_at_call 29; go_loud (refine (counts_z _ p (zd HZ.out)).mono ?_); rintro e w1 ⟨rfl, m, rfl⟩)
        | (go_at_call 30; go_loud (refine (drop_z _ p (zd HZ.out) _).mono ?_); rintro e w1 ⟨rfl, m, rfl⟩)
        | (go_at_call 31; go_loud (refine (names_z _ p (zd HZ.out)).mono ?_); rintro e w1 ⟨rfl, m, rfl⟩)
        | (go_at_call 32; go_loud (refine (len_z _ p (zd HZ.out)).mono ?_); rintro e w1 ⟨rfl, m, rfl⟩)
        | (go_at_call 33; go_loud (refine (room_z _ p (zd HZ.out)).mono ?_); rintro e w1 ⟨rfl, m, rfl⟩)
        | (go_at_call 34; go_loud (refine (shrink_z _ p (zd HZ.out) _).mono ?_); rintro e w1 ⟨rfl, m, rfl⟩))
      go_roundg (gk - 1)
      case measure => have := HI.out; have := HI2.out; omega
      case rel => exact ⟨i + 1, by have := HI2.out; unfold wrap64; simp; omega, ⟨by have := HI.out; have := HI2.out; omega⟩, by repeat (first | exact Drawn0.refl _ | apply Drawn0.step)⟩
    · have p0 : decide ((i : Int) < 2) = false := decide_eq_false (by omega)
      go_wp2_with (go_at_call 7; go_loud (refine (awake_calls _).mono ?_); rintro e w1 ⟨rfl, hb⟩; have B1 := Aside0.mk (HB2.out.trans ((pw_below_drewN (Below.refl _ _) m0).mono HB2.out.size |>.trans (hb.mono HB2.out.size))); clear hb)
      go_ret
      exact ⟨rfl, B1.out⟩
end Go.Proofs.Ytcfdldgekfacfaa.Nb
