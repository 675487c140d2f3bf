/- Names. -/
import Derived.Test.YtcfdldgekfacfaaS7
namespace Go.Proofs.Ytcfdldgekfacfaa.Sk
open Go.RowKit Go.Proofs.YtcfdldgekfacfaaW.PrintWords Go.Proofs.YtcfdldgekfacfaaW.PrintLast Go.Proofs.YtcfdldgekfacfaaW.PrintMore
open Go.Maps (Keyed)
set_option linter.unusedVariables false
set_option linter.unusedSimpArgs false

theorem info9 : (Try.prog.info? 9).map (fun i => (i.zero, i.size, i.bytes)) = some (some (.string ⟨#[]⟩), 1, 16) := by kernel_rfl
/-- The places from i on, till nobody's. -/
def Path (cs : List Cel) : Nat → List Nat → Prop
  | i, [] => i = 0
  | i, j :: L => i = j ∧ j ≠ 0 ∧ j < cs.length ∧ Path cs (ce cs j).nx L
def strs (l : List ByteArray) : List Value := l.map Value.string
/-- A row of names that is the call's own. -/
def Row (B : Nat) (W : World) (v : Value) (l : List ByteArray) : Prop := W.ownsRow B 9 1 v l.length (strs l)
theorem Row.ch {B : Nat} {W V : World} {v : Value} {l : List ByteArray} (h : Row B W v l) {S : Nat → Prop} (hc : Ch S W V) (hn : ∀ k, B ≤ k → ¬ S k) : Row B V v l :=
  ownsRow_ch h hc (fun k hk => hn k (h.lt k hk).1)
theorem Row.nil (B : Nat) (W : World) : Row B W (.slice none 0 0) [] := World.ownsRow_nil _ _ _ _
theorem Row.slice {B : Nat} {W : World} {v : Value} {l : List ByteArray} (h : Row B W v l) : ∃ A c, v = .slice A l.length c ∧ l.length ≤ c ∧ Kd.C Kd.string W A l.length l := by
  have h0 := h
  obtain ⟨hl, h⟩ := h
  rcases h with ⟨e1, e2⟩ | ⟨g, cap, cur, e1, h1, h2, h3, h4, h5, h6⟩
  · have : l = [] := List.length_eq_zero_iff.1 e2
    subst this
    exact ⟨none, 0, e1, Nat.le_refl _, Kd.C_nil _ _⟩
  · refine ⟨_, cap, e1, h3, Kd.C_of_reads (d := ByteArray.empty) (h1 := fun _ => rfl) ⟨rfl, by unfold maxLen at h4; omega, fun h0' => ⟨_, rfl, fun j hj => ?_⟩⟩⟩
    have h0'' : W.ownsRow B 9 1 (.slice (some ⟨g, 0, none⟩) l.length cap) l.length (strs l) := e1 ▸ h0
    rw [add_plain, h0''.cellAt j (by omega)]
    simp [strs, hj]

/-- Behind a call a new row of names is there; nothing that was has changed. -/
def Told (l : List ByteArray) (w : World) (e : Ending) (w' : World) : Prop := ∃ v, e = .returned v ∧ Row w.heap.size w' v l ∧ Ch (fun _ => False) w w'

set_option maxHeartbeats 2000000 in
set_option maxRecDepth 100000 in
theorem names_calls (B : Nat) (w : World) (y : Lay) (s : St) (L : List Nat) (h : CAt B w y s) (hroom : s.room ≠ 0) (h0 : 0 < s.cs.length) (hp : Path s.cs (ce s.cs 0).nx L) (hL : L.length < 1000000) :
    Calls Try.prog 12 #[.pointer (some ⟨y.g, 0, none⟩)] w (Told (L.map fun i => (ce s.cs i).nm) w) := by
  have hu64 := Try.underlying64
  have hu66 := Try.underlying66
  have hu62 := Try.underlying62
  have hu35 := Try.underlying35
  obtain ⟨ti, ht0, ht1, ht2, ht3⟩ := info_parts info9
  have hr0 : (s.room == 0) = false := beq_eq_false_iff_ne.mpr hroom
  have H := Aside0.mk h
  have HP := Aside0.mk hp
  have HL := Aside0.mk hL
  clear h hp hroom hL
  go_enter Try.func12, Try.ntmps12
  go_wp2_with (go_at_call 36; go_loud (refine (room_calls B w y s H.out).mono ?_); rintro e w1 ⟨rfl, hc⟩; have H1 := Aside0.mk (H.out.ch hc (fun _ _ hk => hk)); have C1 := Aside0.mk hc; clear hc; have g2 := H1.out.head.cell; obtain ⟨-, -, -, b3⟩ := H1.out.ring.cell h0; rw [Nat.zero_mul, Nat.zero_add] at b3)
  go_loopg [3, 4] L.length (fun kq v3 v4 w' => ∃ (done rest : List Nat) (i : Nat), v4 = .int .i64 (i : Int) ∧ Aside0 (L = done ++ rest ∧ rest.length = kq ∧ Path s.cs i rest) ∧ Aside0 (Row w.heap.size w' v3 (done.map fun i => (ce s.cs i).nm)) ∧ Aside0 (Ch (fun _ => False) w w'))
  case atStart => exact ⟨[], L, _, rfl, ⟨rfl, rfl, HP.out⟩, ⟨Row.nil _ _⟩, C1⟩
  case round =>
    obtain ⟨done, rest, i, rfl, HR, HW, HC⟩ := hrel
    clear g2 b3
    have H2 := Aside0.mk (H.out.ch HC.out (fun _ _ hk => hk))
    have g2 := H2.out.head.cell
    obtain ⟨hr1, hr2, hr3⟩ := HR.out
    match rest, hr1, hr2, hr3 with
    | [], hr1, hr2, hr3 =>
      have hz : i = 0 := hr3
      subst hz
      go_wp2
      go_ret
      refine ⟨_, rfl, ?_, HC.out⟩
      rw [hr1, List.append_nil]
      exact HW.out
    | j :: rest, hr1, hr2, hr3 =>
      obtain ⟨rfl, hj0, hj, hrest⟩ := hr3
      obtain ⟨b0, -, -, b3⟩ := H2.out.ring.cell hj
      have q0 : ((i : Int) == 0) = false := beq_eq_false_iff_ne.mpr (by omega)
      have p1 : (0 ≤ (i : Int)) = True := eq_true (by omega)
      have p2 : ((i : Int) < (s.cs.length : Int)) = True := eq_true (by omega)
      have hlen : done.length < 999999 := by have h1 := HL.out; rw [hr1] at h1; simp at h1; simp at hr2; omega
      have hk : rest.length < gk := by simp at hr2; omega
      have HLen := Aside0.mk hlen
      have HK := Aside0.mk hk
      have HE := Aside0.mk hr1
      have HPr := Aside0.mk hrest
      clear HR hr1 hr2 hrest hlen hk
      go_wp2_with (at_builtin; go_loud (refine wpList_append_own_at _ rfl _ _ 35 rfl w.heap.size 9 ti (.string ⟨#[]⟩) 1 16 Try.underlying35 ht0 ht1 ht2 ht3 rfl (by decide) _ _ _ rfl (HW.out.alloc _) ⟨_, 0, none⟩ 1 1 [.string (ce s.cs i).nm] rfl rfl (cell_one_at (by simp)) (by simp [Value.oneCell']) (by have := HLen.out; rw [List.length_map]; unfold maxLen; omega) (by have := HLen.out; rw [List.length_map]; omega) (by have := HC.out.size; simp; omega) ?_); intro v' w5 hown' hgrow hnil hloc; obtain ⟨gn, cn, rfl⟩ := own_shape hown' (Nat.succ_pos _); have C5 := Aside0.mk ((HC.out.alloc (.cells #[.string (ce s.cs i).nm] 9)).grown hgrow (fun k hk => .inr (HW.out.lt k hk).1)); have W5 := Aside0.mk (show Row w.heap.size w5 (.slice (some ⟨gn, 0, none⟩) _ cn) ((done ++ [i]).map fun i => (ce s.cs i).nm) from by simpa [Row, strs] using hown'); clear hown' hgrow hnil hloc; have H5 := Aside0.mk (H.out.ch C5.out (fun _ _ hk => hk)); have g5 := H5.out.head.cell; obtain ⟨-, -, -, b5⟩ := H5.out.ring.cell hj)
      go_roundg rest.length
      case measure => exact HK.out
      case rel => exact ⟨done ++ [i], rest, _, rfl, ⟨by rw [HE.out]; simp, rfl, HPr.out⟩, W5, C5⟩
end Go.Proofs.Ytcfdldgekfacfaa.Sk
