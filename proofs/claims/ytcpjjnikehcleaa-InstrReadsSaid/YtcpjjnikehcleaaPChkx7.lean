-- Written by a program of this session, out of the translation, with what this session proved by hand taken in.
import Derived.Test.YtcpjjnikehcleaaPChkx0
import Derived.Test.YtcpjjnikehcleaaTb
import Derived.Test.YtcpjjnikehcleaaPChkx6
namespace Go.Proofs.Ytcpjjnikehcleaa.PChk
open Go.RowKit Go.Proofs.YtcpjjnikehcleaaW.PrintWords Go.Proofs.YtcpjjnikehcleaaW.PrintLast Go.Proofs.YtcpjjnikehcleaaW.PrintMore
attribute [local go_sem] max2_int min2_int max_two min_two max_three min_three max_four min_four   -- for this text's walks alone
set_option linter.unusedVariables false
set_option linter.unusedSimpArgs false

/-! ### prompterref14_Right: function 21 -/
mutual
def prompterref14_Right.j0 : Nat → Int → Bool → Int → Int → Int → ByteArray → ByteArray → Int → Bool → Bool → Bool → Int → Int → Option (Bool)
  | 0, _, _, _, _, _, _, _, _, _, _, _, _, _ => none
  | k + 1, x1, x26, x133000, x133001, x133002, x133003, x141000, x141001, x141002, x141003, x141004, x141005, x141006 => if x26 = true then (some false) else (if x141001 = 0 then (if x133001 = 0 then (if x141001 = 1 then (if x133001 ≥ x1 then (prompterref14_Right.j1 k true x133000 x133001 x133002 x133003 x141000 x141001 x141002 x141003 x141004 x141005 x141006) else (if x141001 = 2 then (if x133001 ≥ 100 then (prompterref14_Right.j1 k true x133000 x133001 x133002 x133003 x141000 x141001 x141002 x141003 x141004 x141005 x141006) else (if x141001 = 3 then (prompterref14_Right.j1 k (decide (x133001 > 2048)) x133000 x133001 x133002 x133003 x141000 x141001 x141002 x141003 x141004 x141005 x141006) else (prompterref14_Right.j1 k false x133000 x133001 x133002 x133003 x141000 x141001 x141002 x141003 x141004 x141005 x141006))) else (if x141001 = 3 then (prompterref14_Right.j1 k (decide (x133001 > 2048)) x133000 x133001 x133002 x133003 x141000 x141001 x141002 x141003 x141004 x141005 x141006) else (prompterref14_Right.j1 k false x133000 x133001 x133002 x133003 x141000 x141001 x141002 x141003 x141004 x141005 x141006)))) else (if x141001 = 2 then (if x133001 ≥ 100 then (prompterref14_Right.j1 k true x133000 x133001 x133002 x133003 x141000 x141001 x141002 x141003 x141004 x141005 x141006) else (if x141001 = 3 then (prompterref14_Right.j1 k (decide (x133001 > 2048)) x133000 x133001 x133002 x133003 x141000 x141001 x141002 x141003 x141004 x141005 x141006) else (prompterref14_Right.j1 k false x133000 x133001 x133002 x133003 x141000 x141001 x141002 x141003 x141004 x141005 x141006))) else (if x141001 = 3 then (prompterref14_Right.j1 k (decide (x133001 > 2048)) x133000 x133001 x133002 x133003 x141000 x141001 x141002 x141003 x141004 x141005 x141006) else (prompterref14_Right.j1 k false x133000 x133001 x133002 x133003 x141000 x141001 x141002 x141003 x141004 x141005 x141006)))) else (prompterref14_Right.j1 k true x133000 x133001 x133002 x133003 x141000 x141001 x141002 x141003 x141004 x141005 x141006)) else (if x141001 = 1 then (if x133001 ≥ x1 then (prompterref14_Right.j1 k true x133000 x133001 x133002 x133003 x141000 x141001 x141002 x141003 x141004 x141005 x141006) else (if x141001 = 2 then (if x133001 ≥ 100 then (prompterref14_Right.j1 k true x133000 x133001 x133002 x133003 x141000 x141001 x141002 x141003 x141004 x141005 x141006) else (if x141001 = 3 then (prompterref14_Right.j1 k (decide (x133001 > 2048)) x133000 x133001 x133002 x133003 x141000 x141001 x141002 x141003 x141004 x141005 x141006) else (prompterref14_Right.j1 k false x133000 x133001 x133002 x133003 x141000 x141001 x141002 x141003 x141004 x141005 x141006))) else (if x141001 = 3 then (prompterref14_Right.j1 k (decide (x133001 > 2048)) x133000 x133001 x133002 x133003 x141000 x141001 x141002 x141003 x141004 x141005 x141006) else (prompterref14_Right.j1 k false x133000 x133001 x133002 x133003 x141000 x141001 x141002 x141003 x141004 x141005 x141006)))) else (if x141001 = 2 then (if x133001 ≥ 100 then (prompterref14_Right.j1 k true x133000 x133001 x133002 x133003 x141000 x141001 x141002 x141003 x141004 x141005 x141006) else (if x141001 = 3 then (prompterref14_Right.j1 k (decide (x133001 > 2048)) x133000 x133001 x133002 x133003 x141000 x141001 x141002 x141003 x141004 x141005 x141006) else (prompterref14_Right.j1 k false x133000 x133001 x133002 x133003 x141000 x141001 x141002 x141003 x141004 x141005 x141006))) else (if x141001 = 3 then (prompterref14_Right.j1 k (decide (x133001 > 2048)) x133000 x133001 x133002 x133003 x141000 x141001 x141002 x141003 x141004 x141005 x141006) else (prompterref14_Right.j1 k false x133000 x133001 x133002 x133003 x141000 x141001 x141002 x141003 x141004 x141005 x141006)))))
def prompterref14_Right.j1 : Nat → Bool → Int → Int → Int → ByteArray → ByteArray → Int → Bool → Bool → Bool → Int → Int → Option (Bool)
  | 0, _, _, _, _, _, _, _, _, _, _, _, _ => none
  | k + 1, x65, x133000, x133001, x133002, x133003, x141000, x141001, x141002, x141003, x141004, x141005, x141006 => if x65 = true then (some false) else (if x141003 = true then (some (decide ((x133003.size : Int) ≤ 4095))) else (if x141004 = true then ((prompterref04_Name.f k x133003).bind fun t141 => (some t141)) else (some (x133003.toList == ([] : List UInt8)))))
end
def prompterref14_Right.f (k : Nat) (a0_0 : Int) (a0_1 : Int) (a0_2 : Int) (a0_3 : ByteArray) (a1 : Int) : Option (Bool) := (prompterref14_Of.f k a0_0).bind fun bt133 => (if bt133.1.toList = ([] : List UInt8) then (prompterref14_Right.j0 k a1 true a0_0 a0_1 a0_2 a0_3 bt133.1 bt133.2.1 bt133.2.2.1 bt133.2.2.2.1 bt133.2.2.2.2.1 bt133.2.2.2.2.2.1 bt133.2.2.2.2.2.2) else (if bt133.2.2.1 = true then (prompterref14_Right.j0 k a1 (decide (a0_1 < 0)) a0_0 a0_1 a0_2 a0_3 bt133.1 bt133.2.1 bt133.2.2.1 bt133.2.2.2.1 bt133.2.2.2.2.1 bt133.2.2.2.2.2.1 bt133.2.2.2.2.2.2) else (if a0_2 = 0 then (prompterref14_Right.j0 k a1 (decide (a0_1 < 0)) a0_0 a0_1 a0_2 a0_3 bt133.1 bt133.2.1 bt133.2.2.1 bt133.2.2.2.1 bt133.2.2.2.2.1 bt133.2.2.2.2.2.1 bt133.2.2.2.2.2.2) else (prompterref14_Right.j0 k a1 true a0_0 a0_1 a0_2 a0_3 bt133.1 bt133.2.1 bt133.2.2.1 bt133.2.2.2.1 bt133.2.2.2.2.1 bt133.2.2.2.2.2.1 bt133.2.2.2.2.2.2))))
theorem prompterref14_Right.mono_l : ∀ k, (∀ y0 y1 y2 y3 y4 y5 y6 y7 y8 y9 y10 y11 y12, LeO (prompterref14_Right.j0 k y0 y1 y2 y3 y4 y5 y6 y7 y8 y9 y10 y11 y12) (prompterref14_Right.j0 (k + 1) y0 y1 y2 y3 y4 y5 y6 y7 y8 y9 y10 y11 y12)) ∧ (∀ y0 y1 y2 y3 y4 y5 y6 y7 y8 y9 y10 y11, LeO (prompterref14_Right.j1 k y0 y1 y2 y3 y4 y5 y6 y7 y8 y9 y10 y11) (prompterref14_Right.j1 (k + 1) y0 y1 y2 y3 y4 y5 y6 y7 y8 y9 y10 y11))
  | 0 => ⟨fun _ _ _ _ _ _ _ _ _ _ _ _ _ r h => by simp [prompterref14_Right.j0] at h, fun _ _ _ _ _ _ _ _ _ _ _ _ r h => by simp [prompterref14_Right.j1] at h⟩
  | k + 1 => by
    obtain ⟨ih0, ih1⟩ := prompterref14_Right.mono_l k
    refine ⟨?_, ?_⟩
    · intro y0 y1 y2 y3 y4 y5 y6 y7 y8 y9 y10 y11 y12
      unfold prompterref14_Right.j0
      repeat' first
      | (with_reducible exact ih0 _ _ _ _ _ _ _ _ _ _ _ _ _)
      | (with_reducible exact ih1 _ _ _ _ _ _ _ _ _ _ _ _)
      | (with_reducible exact prompterref04_Name.mono _ _)
      | (with_reducible exact prompterref14_Of.mono _ _)
      | (with_reducible exact LeO.refl _)
      | (with_reducible exact LeO.none _)
      | (with_reducible refine LeO.ite ?_ ?_)
      | (with_reducible refine LeO.bind ?_ (fun _ => ?_))
      | exact ih0 _ _ _ _ _ _ _ _ _ _ _ _ _
      | exact ih1 _ _ _ _ _ _ _ _ _ _ _ _
      | exact prompterref04_Name.mono _ _
      | exact prompterref14_Of.mono _ _
      | exact LeO.none _
      | refine LeO.ite ?_ ?_
      | refine LeO.bind ?_ (fun _ => ?_)
    · intro y0 y1 y2 y3 y4 y5 y6 y7 y8 y9 y10 y11
      unfold prompterref14_Right.j1
      repeat' first
      | (with_reducible exact ih0 _ _ _ _ _ _ _ _ _ _ _ _ _)
      | (with_reducible exact ih1 _ _ _ _ _ _ _ _ _ _ _ _)
      | (with_reducible exact prompterref04_Name.mono _ _)
      | (with_reducible exact prompterref14_Of.mono _ _)
      | (with_reducible exact LeO.refl _)
      | (with_reducible exact LeO.none _)
      | (with_reducible refine LeO.ite ?_ ?_)
      | (with_reducible refine LeO.bind ?_ (fun _ => ?_))
      | exact ih0 _ _ _ _ _ _ _ _ _ _ _ _ _
      | exact ih1 _ _ _ _ _ _ _ _ _ _ _ _
      | exact prompterref04_Name.mono _ _
      | exact prompterref14_Of.mono _ _
      | exact LeO.none _
      | refine LeO.ite ?_ ?_
      | refine LeO.bind ?_ (fun _ => ?_)
theorem prompterref14_Right.mono : ∀ a0 a1 a2 a3 a4 k, LeO (prompterref14_Right.f k a0 a1 a2 a3 a4) (prompterref14_Right.f (k + 1) a0 a1 a2 a3 a4) := by
  intro a0 a1 a2 a3 a4 k
  obtain ⟨ih0, ih1⟩ := prompterref14_Right.mono_l k
  unfold prompterref14_Right.f
  repeat' first
      | (with_reducible exact ih0 _ _ _ _ _ _ _ _ _ _ _ _ _)
      | (with_reducible exact ih1 _ _ _ _ _ _ _ _ _ _ _ _)
      | (with_reducible exact prompterref04_Name.mono _ _)
      | (with_reducible exact prompterref14_Of.mono _ _)
      | (with_reducible exact LeO.refl _)
      | (with_reducible exact LeO.none _)
      | (with_reducible refine LeO.ite ?_ ?_)
      | (with_reducible refine LeO.bind ?_ (fun _ => ?_))
      | exact ih0 _ _ _ _ _ _ _ _ _ _ _ _ _
      | exact ih1 _ _ _ _ _ _ _ _ _ _ _ _
      | exact prompterref04_Name.mono _ _
      | exact prompterref14_Of.mono _ _
      | exact LeO.none _
      | refine LeO.ite ?_ ?_
      | refine LeO.bind ?_ (fun _ => ?_)
set_option maxHeartbeats 8000000 in
set_option maxRecDepth 100000 in
theorem prompterref14_Right.calls (k : Nat) (a0_0 : Int) (a0_1 : Int) (a0_2 : Int) (a0_3 : ByteArray) (a1 : Int) (r : Bool) (w : World) (h : prompterref14_Right.f k a0_0 a0_1 a0_2 a0_3 a1 = some r) :
    Calls Try.prog 21 #[.agg #[.int .u8 a0_0, .int .i64 a0_1, .int .i64 a0_2, .string a0_3], .int .i64 a1] w fun e w' => e = .returned (.bool r) ∧ Below w.heap.size w w' := by
  have hu36 := Try.underlying36
  have hu42 := Try.underlying42
  have HB := Aside0.mk (Below.refl w.heap.size w)
  have H : ((prompterref14_Of.f k a0_0).bind fun bt133 => (if bt133.1.toList = ([] : List UInt8) then (prompterref14_Right.j0 k a1 true a0_0 a0_1 a0_2 a0_3 bt133.1 bt133.2.1 bt133.2.2.1 bt133.2.2.2.1 bt133.2.2.2.2.1 bt133.2.2.2.2.2.1 bt133.2.2.2.2.2.2) else (if bt133.2.2.1 = true then (prompterref14_Right.j0 k a1 (decide (a0_1 < 0)) a0_0 a0_1 a0_2 a0_3 bt133.1 bt133.2.1 bt133.2.2.1 bt133.2.2.2.1 bt133.2.2.2.2.1 bt133.2.2.2.2.2.1 bt133.2.2.2.2.2.2) else (if a0_2 = 0 then (prompterref14_Right.j0 k a1 (decide (a0_1 < 0)) a0_0 a0_1 a0_2 a0_3 bt133.1 bt133.2.1 bt133.2.2.1 bt133.2.2.2.1 bt133.2.2.2.2.1 bt133.2.2.2.2.2.1 bt133.2.2.2.2.2.2) else (prompterref14_Right.j0 k a1 true a0_0 a0_1 a0_2 a0_3 bt133.1 bt133.2.1 bt133.2.2.1 bt133.2.2.2.1 bt133.2.2.2.2.1 bt133.2.2.2.2.2.1 bt133.2.2.2.2.2.2))))) = some r := h
  clear h
  replace H := Option.bind_eq_some_iff.mp H
  obtain ⟨⟨t133, t134, t135, t136, t137, t138, t139⟩, A30, H⟩ := H
  replace H : (if t133.toList = ([] : List UInt8) then (prompterref14_Right.j0 k a1 true a0_0 a0_1 a0_2 a0_3 t133 t134 t135 t136 t137 t138 t139) else (if t135 = true then (prompterref14_Right.j0 k a1 (decide (a0_1 < 0)) a0_0 a0_1 a0_2 a0_3 t133 t134 t135 t136 t137 t138 t139) else (if a0_2 = 0 then (prompterref14_Right.j0 k a1 (decide (a0_1 < 0)) a0_0 a0_1 a0_2 a0_3 t133 t134 t135 t136 t137 t138 t139) else (prompterref14_Right.j0 k a1 true a0_0 a0_1 a0_2 a0_3 t133 t134 t135 t136 t137 t138 t139)))) = some r := H
  have A3 := Aside0.mk A30
  clear A30
  have HC4 := Aside0.mk H
  clear H
  go_enter Try.func21, Try.ntmps21
  go_upto_region 2 with (first | ((with_reducible refine gate_dst (N := 2) rfl ?_); refine box_event ?hg (N := 2) ?hd (cs := #[.int .u8 a0_0, .int .i64 a0_1, .int .i64 a0_2, .string a0_3]) (t := 36) ?hr ?_; (case hd => rfl); (case hg => rfl); (case hr => first | (go_simp; done) | (go_simp; rfl)); intro gb132 hg w5 hbox hb; have n0_ := Aside0.mk (below_step (by repeat (first | (with_reducible first | exact HB.out | apply below_alloc | apply pw_below_drewN | apply below_drew1) | exact HB.out)) hb); have n1_ := Aside0.mk (hbox); have n2_ := Aside0.mk ((by rw [hg]; exact (below_size (by repeat (first | (with_reducible first | exact HB.out | apply below_alloc | apply pw_below_drewN | apply below_drew1) | exact HB.out))) : w.heap.size ≤ gb132)); have n3_ := Aside0.mk ((by rw [hg]; exact (below_size (by repeat (first | (with_reducible first | exact HB.out | apply below_alloc | apply pw_below_drewN | apply below_drew1) | exact HB.out))) : w.heap.size ≤ gb132)); clear HB; have HB := n0_; have BK132 := n1_; have GW132 := n2_; have GE132 := n3_; clear n0_ n1_ n2_ n3_; clear hb hbox hg; have hcz6_0 : w5.cell? ⟨gb132, 0, none⟩ = some (.int .u8 a0_0) := (blk_cell BK132.out 0).trans rfl; have hcz6_1 : w5.cell? ⟨gb132, 1, none⟩ = some (.int .i64 a0_1) := (blk_cell BK132.out 1).trans rfl; have hcz6_2 : w5.cell? ⟨gb132, 2, none⟩ = some (.int .i64 a0_2) := (blk_cell BK132.out 2).trans rfl; have hcz6_3 : w5.cell? ⟨gb132, 3, none⟩ = some (.string a0_3) := (blk_cell BK132.out 3).trans rfl; have hfz6_0 := blk_frozen BK132.out 0; have hfz6_1 := blk_frozen BK132.out 1; have hfz6_2 := blk_frozen BK132.out 2; have hfz6_3 := blk_frozen BK132.out 3) | ((with_reducible refine gate_callee (f := 14) rfl ?_); refine goesL_ (some 8) rfl rfl Try.func14 (by kernel_rfl) rfl #[.int .u8 a0_0] rfl (by (try simp only [List.map_toArray, List.map_cons, List.map_nil]); first | done | rfl | (simp only [List.length_drop, List.length_take]; rfl)) ?_; (with_reducible refine (prompterref14_Of.calls k a0_0 t133 t134 t135 t136 t137 t138 t139 _ A3.out).mono ?_); rintro e w7 ⟨rfl, hb⟩; refine ⟨_, rfl, ?_⟩; have n0_ := Aside0.mk (blk_below (g := gb132) (o := .cells #[.int .u8 a0_0, .int .i64 a0_1, .int .i64 a0_2, .string a0_3] 36 (0, 0)) (by (with_reducible repeat (first | refine blk_drewN ?_ _ | refine blk_drew ?_ | refine blk_alloc ?_ _)); exact BK132.out) hb); have n1_ := Aside0.mk (below_step (by repeat (first | (with_reducible first | exact HB.out | apply below_alloc | apply pw_below_drewN | apply below_drew1 | refine below_set ?_ GE132.out) | exact HB.out)) hb); clear BK132; clear HB; have BK132 := n0_; have HB := n1_; clear n0_ n1_; (try clear hb); (try clear hb2); (try clear hk); (try clear hi)) | ((with_reducible refine gate_dst (N := 5) rfl ?_); refine box_event ?hg (N := 5) ?hd (cs := #[.string (⟨#[]⟩ : ByteArray), .int .i64 0, .bool false, .bool false, .bool false, .int .i64 0, .int .i64 0]) (t := 42) ?hr ?_; (case hd => rfl); (case hg => rfl); (case hr => first | (go_simp; done) | (go_simp; rfl)); intro gb140 hg w8 hbox hb; have n0_ := Aside0.mk (blk_below (g := gb132) (o := .cells #[.int .u8 a0_0, .int .i64 a0_1, .int .i64 a0_2, .string a0_3] 36 (0, 0)) (by (with_reducible repeat (first | refine blk_drewN ?_ _ | refine blk_drew ?_ | refine blk_alloc ?_ _)); exact BK132.out) hb); have n1_ := Aside0.mk (below_step (by repeat (first | (with_reducible first | exact HB.out | apply below_alloc | apply pw_below_drewN | apply below_drew1 | refine below_set ?_ GE132.out) | exact HB.out)) hb); have n2_ := Aside0.mk (hbox); have n3_ := Aside0.mk ((by rw [hg]; exact (below_size (by repeat (first | (with_reducible first | exact HB.out | apply below_alloc | apply pw_below_drewN | apply below_drew1 | refine below_set ?_ GE132.out) | exact HB.out))) : w.heap.size ≤ gb140)); have n4_ := Aside0.mk ((by rw [hg]; exact (below_size (by repeat (first | (with_reducible first | exact HB.out | apply below_alloc | apply pw_below_drewN | apply below_drew1 | refine below_set ?_ GE132.out) | exact HB.out))) : w.heap.size ≤ gb140)); have n5_ := Aside0.mk ((by rw [hg]; exact Nat.ne_of_lt (blk_lt (g := gb132) (o := .cells #[.int .u8 a0_0, .int .i64 a0_1, .int .i64 a0_2, .string a0_3] 36 (0, 0)) (by (with_reducible repeat (first | refine blk_drewN ?_ _ | refine blk_drew ?_ | refine blk_alloc ?_ _)); exact BK132.out)) : gb132 ≠ gb140)); have n6_ := Aside0.mk ((by rw [hg]; exact Nat.ne_of_gt (blk_lt (g := gb132) (o := .cells #[.int .u8 a0_0, .int .i64 a0_1, .int .i64 a0_2, .string a0_3] 36 (0, 0)) (by (with_reducible repeat (first | refine blk_drewN ?_ _ | refine blk_drew ?_ | refine blk_alloc ?_ _)); exact BK132.out)) : gb140 ≠ gb132)); clear BK132; clear HB; have BK132 := n0_; have HB := n1_; have BK140 := n2_; have GW140 := n3_; have GE140 := n4_; have NB132_140 := n5_; have NB140_132 := n6_; clear n0_ n1_ n2_ n3_ n4_ n5_ n6_; clear hb hbox hg; have hnb9 := NB140_132.out; have hnc9 := NB132_140.out; have hcz10_0 : w8.cell? ⟨gb140, 0, none⟩ = some (.string (⟨#[]⟩ : ByteArray)) := (blk_cell BK140.out 0).trans rfl; have hcz10_1 : w8.cell? ⟨gb140, 1, none⟩ = some (.int .i64 0) := (blk_cell BK140.out 1).trans rfl; have hcz10_2 : w8.cell? ⟨gb140, 2, none⟩ = some (.bool false) := (blk_cell BK140.out 2).trans rfl; have hcz10_3 : w8.cell? ⟨gb140, 3, none⟩ = some (.bool false) := (blk_cell BK140.out 3).trans rfl; have hcz10_4 : w8.cell? ⟨gb140, 4, none⟩ = some (.bool false) := (blk_cell BK140.out 4).trans rfl; have hcz10_5 : w8.cell? ⟨gb140, 5, none⟩ = some (.int .i64 0) := (blk_cell BK140.out 5).trans rfl; have hcz10_6 : w8.cell? ⟨gb140, 6, none⟩ = some (.int .i64 0) := (blk_cell BK140.out 6).trans rfl; have hfz10_0 := blk_frozen BK140.out 0; have hfz10_1 := blk_frozen BK140.out 1; have hfz10_2 := blk_frozen BK140.out 2; have hfz10_3 := blk_frozen BK140.out 3; have hfz10_4 := blk_frozen BK140.out 4; have hfz10_5 := blk_frozen BK140.out 5; have hfz10_6 := blk_frozen BK140.out 6))
  (try simp only [Act.put, List.setIfInBounds_toArray, List.set_cons_zero, List.set_cons_succ])
  go_cut [26] (fun v26 wc => ∃ (kq : Nat) (x26_3 : Bool), v26 = .bool x26_3 ∧ Aside0 (prompterref14_Right.j0 kq a1 x26_3 a0_0 a0_1 a0_2 a0_3 t133 t134 t135 t136 t137 t138 t139 = some r) ∧ Aside0 (kq ≤ k) ∧ Aside0 (wc.heap[gb132]? = some (.cells #[.int .u8 a0_0, .int .i64 a0_1, .int .i64 a0_2, .string a0_3] 36 (0, 0))) ∧ Aside0 (wc.heap[gb140]? = some (.cells #[.string t133, .int .i64 t134, .bool t135, .bool t136, .bool t137, .int .i64 t138, .int .i64 t139] 42 (0, 0))) ∧ Aside0 (Below w.heap.size w wc))
  case first =>
    have H := HC4.out
    clear HC4
    by_cases c11 : t133.toList = ([] : List UInt8)
    · rw [if_pos c11] at H
      have c11b0 : (t133.toList == ([] : List UInt8)) = true := beq_iff_eq.mpr c11
      have c11b1 : (t133.toList != ([] : List UInt8)) = false := bne_eq_false_iff_eq.mpr c11
      clear c11
      (first | rw [c11b0] | (simp only [i64_w, i32_w]; rw [c11b0]) | skip)
      have H' := Aside0.mk H
      clear H
      have hnb12 := NB140_132.out
      have hnc12 := NB132_140.out
      have hcz13_0 : w8.cell? ⟨gb140, 0, none⟩ = some (.string (⟨#[]⟩ : ByteArray)) := (blk_cell BK140.out 0).trans rfl
      have hcz13_1 : w8.cell? ⟨gb140, 1, none⟩ = some (.int .i64 0) := (blk_cell BK140.out 1).trans rfl
      have hcz13_2 : w8.cell? ⟨gb140, 2, none⟩ = some (.bool false) := (blk_cell BK140.out 2).trans rfl
      have hcz13_3 : w8.cell? ⟨gb140, 3, none⟩ = some (.bool false) := (blk_cell BK140.out 3).trans rfl
      have hcz13_4 : w8.cell? ⟨gb140, 4, none⟩ = some (.bool false) := (blk_cell BK140.out 4).trans rfl
      have hcz13_5 : w8.cell? ⟨gb140, 5, none⟩ = some (.int .i64 0) := (blk_cell BK140.out 5).trans rfl
      have hcz13_6 : w8.cell? ⟨gb140, 6, none⟩ = some (.int .i64 0) := (blk_cell BK140.out 6).trans rfl
      have hfz13_0 := blk_frozen BK140.out 0
      have hfz13_1 := blk_frozen BK140.out 1
      have hfz13_2 := blk_frozen BK140.out 2
      have hfz13_3 := blk_frozen BK140.out 3
      have hfz13_4 := blk_frozen BK140.out 4
      have hfz13_5 := blk_frozen BK140.out 5
      have hfz13_6 := blk_frozen BK140.out 6
      go_wp2
      go_meet
      case rel => exact ⟨_, (true), (by first | rfl | (simp; done) | (simp [*]; done)), H', ⟨by first | omega | exact Nat.le_refl _⟩, ⟨by (with_reducible repeat (first | refine blk_drewN ?_ _ | refine blk_drew ?_ | refine blk_alloc ?_ _)); refine blk_far ?_ NB132_140.out _; (with_reducible repeat (first | refine blk_drewN ?_ _ | refine blk_drew ?_ | refine blk_alloc ?_ _)); refine blk_far ?_ NB132_140.out _; (with_reducible repeat (first | refine blk_drewN ?_ _ | refine blk_drew ?_ | refine blk_alloc ?_ _)); refine blk_far ?_ NB132_140.out _; (with_reducible repeat (first | refine blk_drewN ?_ _ | refine blk_drew ?_ | refine blk_alloc ?_ _)); refine blk_far ?_ NB132_140.out _; (with_reducible repeat (first | refine blk_drewN ?_ _ | refine blk_drew ?_ | refine blk_alloc ?_ _)); refine blk_far ?_ NB132_140.out _; (with_reducible repeat (first | refine blk_drewN ?_ _ | refine blk_drew ?_ | refine blk_alloc ?_ _)); refine blk_far ?_ NB132_140.out _; (with_reducible repeat (first | refine blk_drewN ?_ _ | refine blk_drew ?_ | refine blk_alloc ?_ _)); refine blk_far ?_ NB132_140.out _; (with_reducible repeat (first | refine blk_drewN ?_ _ | refine blk_drew ?_ | refine blk_alloc ?_ _)); exact BK132.out⟩, ⟨by (with_reducible repeat (first | refine blk_drewN ?_ _ | refine blk_drew ?_ | refine blk_alloc ?_ _)); refine blk_put (cs := #[.string t133, .int .i64 t134, .bool t135, .bool t136, .bool t137, .int .i64 t138, .int .i64 0]) ?_ 6 _ rfl; (with_reducible repeat (first | refine blk_drewN ?_ _ | refine blk_drew ?_ | refine blk_alloc ?_ _)); refine blk_put (cs := #[.string t133, .int .i64 t134, .bool t135, .bool t136, .bool t137, .int .i64 0, .int .i64 0]) ?_ 5 _ rfl; (with_reducible repeat (first | refine blk_drewN ?_ _ | refine blk_drew ?_ | refine blk_alloc ?_ _)); refine blk_put (cs := #[.string t133, .int .i64 t134, .bool t135, .bool t136, .bool false, .int .i64 0, .int .i64 0]) ?_ 4 _ rfl; (with_reducible repeat (first | refine blk_drewN ?_ _ | refine blk_drew ?_ | refine blk_alloc ?_ _)); refine blk_put (cs := #[.string t133, .int .i64 t134, .bool t135, .bool false, .bool false, .int .i64 0, .int .i64 0]) ?_ 3 _ rfl; (with_reducible repeat (first | refine blk_drewN ?_ _ | refine blk_drew ?_ | refine blk_alloc ?_ _)); refine blk_put (cs := #[.string t133, .int .i64 t134, .bool false, .bool false, .bool false, .int .i64 0, .int .i64 0]) ?_ 2 _ rfl; (with_reducible repeat (first | refine blk_drewN ?_ _ | refine blk_drew ?_ | refine blk_alloc ?_ _)); refine blk_put (cs := #[.string t133, .int .i64 0, .bool false, .bool false, .bool false, .int .i64 0, .int .i64 0]) ?_ 1 _ rfl; (with_reducible repeat (first | refine blk_drewN ?_ _ | refine blk_drew ?_ | refine blk_alloc ?_ _)); refine blk_put (cs := #[.string (⟨#[]⟩ : ByteArray), .int .i64 0, .bool false, .bool false, .bool false, .int .i64 0, .int .i64 0]) ?_ 0 _ rfl; (with_reducible repeat (first | refine blk_drewN ?_ _ | refine blk_drew ?_ | refine blk_alloc ?_ _)); exact BK140.out⟩, ⟨by repeat (first | (with_reducible first | exact HB.out | apply below_alloc | apply pw_below_drewN | apply below_drew1 | refine below_set ?_ GE132.out | refine below_set ?_ GE140.out) | exact HB.out)⟩⟩
    · rw [if_neg c11] at H
      have c11b0 : (t133.toList == ([] : List UInt8)) = false := beq_eq_false_iff_ne.mpr c11
      have c11b1 : (t133.toList != ([] : List UInt8)) = true := bne_iff_ne.mpr c11
      (first | rw [c11b0] | (simp only [i64_w, i32_w]; rw [c11b0]) | skip)
      by_cases c14 : t135 = true
      · subst c14
        have H1 : (prompterref14_Right.j0 k a1 (decide (a0_1 < 0)) a0_0 a0_1 a0_2 a0_3 t133 t134 true t136 t137 t138 t139) = some r := by rw [if_pos rfl] at H; exact H
        clear H
        have H := H1
        clear H1
        have H' := Aside0.mk H
        clear H
        have hnb15 := NB140_132.out
        have hnc15 := NB132_140.out
        have hcz16_0 : w8.cell? ⟨gb140, 0, none⟩ = some (.string (⟨#[]⟩ : ByteArray)) := (blk_cell BK140.out 0).trans rfl
        have hcz16_1 : w8.cell? ⟨gb140, 1, none⟩ = some (.int .i64 0) := (blk_cell BK140.out 1).trans rfl
        have hcz16_2 : w8.cell? ⟨gb140, 2, none⟩ = some (.bool false) := (blk_cell BK140.out 2).trans rfl
        have hcz16_3 : w8.cell? ⟨gb140, 3, none⟩ = some (.bool false) := (blk_cell BK140.out 3).trans rfl
        have hcz16_4 : w8.cell? ⟨gb140, 4, none⟩ = some (.bool false) := (blk_cell BK140.out 4).trans rfl
        have hcz16_5 : w8.cell? ⟨gb140, 5, none⟩ = some (.int .i64 0) := (blk_cell BK140.out 5).trans rfl
        have hcz16_6 : w8.cell? ⟨gb140, 6, none⟩ = some (.int .i64 0) := (blk_cell BK140.out 6).trans rfl
        have hfz16_0 := blk_frozen BK140.out 0
        have hfz16_1 := blk_frozen BK140.out 1
        have hfz16_2 := blk_frozen BK140.out 2
        have hfz16_3 := blk_frozen BK140.out 3
        have hfz16_4 := blk_frozen BK140.out 4
        have hfz16_5 := blk_frozen BK140.out 5
        have hfz16_6 := blk_frozen BK140.out 6
        have hcz17_0 : w8.cell? ⟨gb132, 0, none⟩ = some (.int .u8 a0_0) := (blk_cell BK132.out 0).trans rfl
        have hcz17_1 : w8.cell? ⟨gb132, 1, none⟩ = some (.int .i64 a0_1) := (blk_cell BK132.out 1).trans rfl
        have hcz17_2 : w8.cell? ⟨gb132, 2, none⟩ = some (.int .i64 a0_2) := (blk_cell BK132.out 2).trans rfl
        have hcz17_3 : w8.cell? ⟨gb132, 3, none⟩ = some (.string a0_3) := (blk_cell BK132.out 3).trans rfl
        have hfz17_0 := blk_frozen BK132.out 0
        have hfz17_1 := blk_frozen BK132.out 1
        have hfz17_2 := blk_frozen BK132.out 2
        have hfz17_3 := blk_frozen BK132.out 3
        go_wp2
        go_meet
        case rel => exact ⟨_, (decide (a0_1 < 0)), (by first | rfl | (simp; done) | (simp [*]; done)), H', ⟨by first | omega | exact Nat.le_refl _⟩, ⟨by (with_reducible repeat (first | refine blk_drewN ?_ _ | refine blk_drew ?_ | refine blk_alloc ?_ _)); refine blk_far ?_ NB132_140.out _; (with_reducible repeat (first | refine blk_drewN ?_ _ | refine blk_drew ?_ | refine blk_alloc ?_ _)); refine blk_far ?_ NB132_140.out _; (with_reducible repeat (first | refine blk_drewN ?_ _ | refine blk_drew ?_ | refine blk_alloc ?_ _)); refine blk_far ?_ NB132_140.out _; (with_reducible repeat (first | refine blk_drewN ?_ _ | refine blk_drew ?_ | refine blk_alloc ?_ _)); refine blk_far ?_ NB132_140.out _; (with_reducible repeat (first | refine blk_drewN ?_ _ | refine blk_drew ?_ | refine blk_alloc ?_ _)); refine blk_far ?_ NB132_140.out _; (with_reducible repeat (first | refine blk_drewN ?_ _ | refine blk_drew ?_ | refine blk_alloc ?_ _)); refine blk_far ?_ NB132_140.out _; (with_reducible repeat (first | refine blk_drewN ?_ _ | refine blk_drew ?_ | refine blk_alloc ?_ _)); refine blk_far ?_ NB132_140.out _; (with_reducible repeat (first | refine blk_drewN ?_ _ | refine blk_drew ?_ | refine blk_alloc ?_ _)); exact BK132.out⟩, ⟨by (with_reducible repeat (first | refine blk_drewN ?_ _ | refine blk_drew ?_ | refine blk_alloc ?_ _)); refine blk_put (cs := #[.string t133, .int .i64 t134, .bool true, .bool t136, .bool t137, .int .i64 t138, .int .i64 0]) ?_ 6 _ rfl; (with_reducible repeat (first | refine blk_drewN ?_ _ | refine blk_drew ?_ | refine blk_alloc ?_ _)); refine blk_put (cs := #[.string t133, .int .i64 t134, .bool true, .bool t136, .bool t137, .int .i64 0, .int .i64 0]) ?_ 5 _ rfl; (with_reducible repeat (first | refine blk_drewN ?_ _ | refine blk_drew ?_ | refine blk_alloc ?_ _)); refine blk_put (cs := #[.string t133, .int .i64 t134, .bool true, .bool t136, .bool false, .int .i64 0, .int .i64 0]) ?_ 4 _ rfl; (with_reducible repeat (first | refine blk_drewN ?_ _ | refine blk_drew ?_ | refine blk_alloc ?_ _)); refine blk_put (cs := #[.string t133, .int .i64 t134, .bool true, .bool false, .bool false, .int .i64 0, .int .i64 0]) ?_ 3 _ rfl; (with_reducible repeat (first | refine blk_drewN ?_ _ | refine blk_drew ?_ | refine blk_alloc ?_ _)); refine blk_put (cs := #[.string t133, .int .i64 t134, .bool false, .bool false, .bool false, .int .i64 0, .int .i64 0]) ?_ 2 _ rfl; (with_reducible repeat (first | refine blk_drewN ?_ _ | refine blk_drew ?_ | refine blk_alloc ?_ _)); refine blk_put (cs := #[.string t133, .int .i64 0, .bool false, .bool false, .bool false, .int .i64 0, .int .i64 0]) ?_ 1 _ rfl; (with_reducible repeat (first | refine blk_drewN ?_ _ | refine blk_drew ?_ | refine blk_alloc ?_ _)); refine blk_put (cs := #[.string (⟨#[]⟩ : ByteArray), .int .i64 0, .bool false, .bool false, .bool false, .int .i64 0, .int .i64 0]) ?_ 0 _ rfl; (with_reducible repeat (first | refine blk_drewN ?_ _ | refine blk_drew ?_ | refine blk_alloc ?_ _)); exact BK140.out⟩, ⟨by repeat (first | (with_reducible first | exact HB.out | apply below_alloc | apply pw_below_drewN | apply below_drew1 | refine below_set ?_ GE132.out | refine below_set ?_ GE140.out) | exact HB.out)⟩⟩
      · replace c14 := Bool.eq_false_iff.mpr c14
        subst c14
        have H1 : (if a0_2 = 0 then (prompterref14_Right.j0 k a1 (decide (a0_1 < 0)) a0_0 a0_1 a0_2 a0_3 t133 t134 false t136 t137 t138 t139) else (prompterref14_Right.j0 k a1 true a0_0 a0_1 a0_2 a0_3 t133 t134 false t136 t137 t138 t139)) = some r := by rw [if_neg (show ¬ (false = true) by decide)] at H; exact H
        clear H
        have H := H1
        clear H1
        by_cases c18 : a0_2 = 0
        · rw [if_pos c18] at H
          have c18b0 : (a0_2 == 0) = true := beq_iff_eq.mpr c18
          have c18b1 : (a0_2 != 0) = false := bne_eq_false_iff_eq.mpr c18
          clear c18
          have H' := Aside0.mk H
          clear H
          have hnb19 := NB140_132.out
          have hnc19 := NB132_140.out
          have hcz20_0 : w8.cell? ⟨gb140, 0, none⟩ = some (.string (⟨#[]⟩ : ByteArray)) := (blk_cell BK140.out 0).trans rfl
          have hcz20_1 : w8.cell? ⟨gb140, 1, none⟩ = some (.int .i64 0) := (blk_cell BK140.out 1).trans rfl
          have hcz20_2 : w8.cell? ⟨gb140, 2, none⟩ = some (.bool false) := (blk_cell BK140.out 2).trans rfl
          have hcz20_3 : w8.cell? ⟨gb140, 3, none⟩ = some (.bool false) := (blk_cell BK140.out 3).trans rfl
          have hcz20_4 : w8.cell? ⟨gb140, 4, none⟩ = some (.bool false) := (blk_cell BK140.out 4).trans rfl
          have hcz20_5 : w8.cell? ⟨gb140, 5, none⟩ = some (.int .i64 0) := (blk_cell BK140.out 5).trans rfl
          have hcz20_6 : w8.cell? ⟨gb140, 6, none⟩ = some (.int .i64 0) := (blk_cell BK140.out 6).trans rfl
          have hfz20_0 := blk_frozen BK140.out 0
          have hfz20_1 := blk_frozen BK140.out 1
          have hfz20_2 := blk_frozen BK140.out 2
          have hfz20_3 := blk_frozen BK140.out 3
          have hfz20_4 := blk_frozen BK140.out 4
          have hfz20_5 := blk_frozen BK140.out 5
          have hfz20_6 := blk_frozen BK140.out 6
          have hcz21_0 : w8.cell? ⟨gb132, 0, none⟩ = some (.int .u8 a0_0) := (blk_cell BK132.out 0).trans rfl
          have hcz21_1 : w8.cell? ⟨gb132, 1, none⟩ = some (.int .i64 a0_1) := (blk_cell BK132.out 1).trans rfl
          have hcz21_2 : w8.cell? ⟨gb132, 2, none⟩ = some (.int .i64 a0_2) := (blk_cell BK132.out 2).trans rfl
          have hcz21_3 : w8.cell? ⟨gb132, 3, none⟩ = some (.string a0_3) := (blk_cell BK132.out 3).trans rfl
          have hfz21_0 := blk_frozen BK132.out 0
          have hfz21_1 := blk_frozen BK132.out 1
          have hfz21_2 := blk_frozen BK132.out 2
          have hfz21_3 := blk_frozen BK132.out 3
          go_wp2
          go_meet
          case rel => exact ⟨_, (decide (a0_1 < 0)), (by first | rfl | (simp; done) | (simp [*]; done)), H', ⟨by first | omega | exact Nat.le_refl _⟩, ⟨by (with_reducible repeat (first | refine blk_drewN ?_ _ | refine blk_drew ?_ | refine blk_alloc ?_ _)); refine blk_far ?_ NB132_140.out _; (with_reducible repeat (first | refine blk_drewN ?_ _ | refine blk_drew ?_ | refine blk_alloc ?_ _)); refine blk_far ?_ NB132_140.out _; (with_reducible repeat (first | refine blk_drewN ?_ _ | refine blk_drew ?_ | refine blk_alloc ?_ _)); refine blk_far ?_ NB132_140.out _; (with_reducible repeat (first | refine blk_drewN ?_ _ | refine blk_drew ?_ | refine blk_alloc ?_ _)); refine blk_far ?_ NB132_140.out _; (with_reducible repeat (first | refine blk_drewN ?_ _ | refine blk_drew ?_ | refine blk_alloc ?_ _)); refine blk_far ?_ NB132_140.out _; (with_reducible repeat (first | refine blk_drewN ?_ _ | refine blk_drew ?_ | refine blk_alloc ?_ _)); refine blk_far ?_ NB132_140.out _; (with_reducible repeat (first | refine blk_drewN ?_ _ | refine blk_drew ?_ | refine blk_alloc ?_ _)); refine blk_far ?_ NB132_140.out _; (with_reducible repeat (first | refine blk_drewN ?_ _ | refine blk_drew ?_ | refine blk_alloc ?_ _)); exact BK132.out⟩, ⟨by (with_reducible repeat (first | refine blk_drewN ?_ _ | refine blk_drew ?_ | refine blk_alloc ?_ _)); refine blk_put (cs := #[.string t133, .int .i64 t134, .bool false, .bool t136, .bool t137, .int .i64 t138, .int .i64 0]) ?_ 6 _ rfl; (with_reducible repeat (first | refine blk_drewN ?_ _ | refine blk_drew ?_ | refine blk_alloc ?_ _)); refine blk_put (cs := #[.string t133, .int .i64 t134, .bool false, .bool t136, .bool t137, .int .i64 0, .int .i64 0]) ?_ 5 _ rfl; (with_reducible repeat (first | refine blk_drewN ?_ _ | refine blk_drew ?_ | refine blk_alloc ?_ _)); refine blk_put (cs := #[.string t133, .int .i64 t134, .bool false, .bool t136, .bool false, .int .i64 0, .int .i64 0]) ?_ 4 _ rfl; (with_reducible repeat (first | refine blk_drewN ?_ _ | refine blk_drew ?_ | refine blk_alloc ?_ _)); refine blk_put (cs := #[.string t133, .int .i64 t134, .bool false, .bool false, .bool false, .int .i64 0, .int .i64 0]) ?_ 3 _ rfl; (with_reducible repeat (first | refine blk_drewN ?_ _ | refine blk_drew ?_ | refine blk_alloc ?_ _)); refine blk_put (cs := #[.string t133, .int .i64 t134, .bool false, .bool false, .bool false, .int .i64 0, .int .i64 0]) ?_ 2 _ rfl; (with_reducible repeat (first | refine blk_drewN ?_ _ | refine blk_drew ?_ | refine blk_alloc ?_ _)); refine blk_put (cs := #[.string t133, .int .i64 0, .bool false, .bool false, .bool false, .int .i64 0, .int .i64 0]) ?_ 1 _ rfl; (with_reducible repeat (first | refine blk_drewN ?_ _ | refine blk_drew ?_ | refine blk_alloc ?_ _)); refine blk_put (cs := #[.string (⟨#[]⟩ : ByteArray), .int .i64 0, .bool false, .bool false, .bool false, .int .i64 0, .int .i64 0]) ?_ 0 _ rfl; (with_reducible repeat (first | refine blk_drewN ?_ _ | refine blk_drew ?_ | refine blk_alloc ?_ _)); exact BK140.out⟩, ⟨by repeat (first | (with_reducible first | exact HB.out | apply below_alloc | apply pw_below_drewN | apply below_drew1 | refine below_set ?_ GE132.out | refine below_set ?_ GE140.out) | exact HB.out)⟩⟩
        · rw [if_neg c18] at H
          have c18b0 : (a0_2 == 0) = false := beq_eq_false_iff_ne.mpr c18
          have c18b1 : (a0_2 != 0) = true := bne_iff_ne.mpr c18
          have H' := Aside0.mk H
          clear H
          have hnb22 := NB140_132.out
          have hnc22 := NB132_140.out
          have hcz23_0 : w8.cell? ⟨gb140, 0, none⟩ = some (.string (⟨#[]⟩ : ByteArray)) := (blk_cell BK140.out 0).trans rfl
          have hcz23_1 : w8.cell? ⟨gb140, 1, none⟩ = some (.int .i64 0) := (blk_cell BK140.out 1).trans rfl
          have hcz23_2 : w8.cell? ⟨gb140, 2, none⟩ = some (.bool false) := (blk_cell BK140.out 2).trans rfl
          have hcz23_3 : w8.cell? ⟨gb140, 3, none⟩ = some (.bool false) := (blk_cell BK140.out 3).trans rfl
          have hcz23_4 : w8.cell? ⟨gb140, 4, none⟩ = some (.bool false) := (blk_cell BK140.out 4).trans rfl
          have hcz23_5 : w8.cell? ⟨gb140, 5, none⟩ = some (.int .i64 0) := (blk_cell BK140.out 5).trans rfl
          have hcz23_6 : w8.cell? ⟨gb140, 6, none⟩ = some (.int .i64 0) := (blk_cell BK140.out 6).trans rfl
          have hfz23_0 := blk_frozen BK140.out 0
          have hfz23_1 := blk_frozen BK140.out 1
          have hfz23_2 := blk_frozen BK140.out 2
          have hfz23_3 := blk_frozen BK140.out 3
          have hfz23_4 := blk_frozen BK140.out 4
          have hfz23_5 := blk_frozen BK140.out 5
          have hfz23_6 := blk_frozen BK140.out 6
          have hcz24_0 : w8.cell? ⟨gb132, 0, none⟩ = some (.int .u8 a0_0) := (blk_cell BK132.out 0).trans rfl
          have hcz24_1 : w8.cell? ⟨gb132, 1, none⟩ = some (.int .i64 a0_1) := (blk_cell BK132.out 1).trans rfl
          have hcz24_2 : w8.cell? ⟨gb132, 2, none⟩ = some (.int .i64 a0_2) := (blk_cell BK132.out 2).trans rfl
          have hcz24_3 : w8.cell? ⟨gb132, 3, none⟩ = some (.string a0_3) := (blk_cell BK132.out 3).trans rfl
          have hfz24_0 := blk_frozen BK132.out 0
          have hfz24_1 := blk_frozen BK132.out 1
          have hfz24_2 := blk_frozen BK132.out 2
          have hfz24_3 := blk_frozen BK132.out 3
          go_wp2
          go_meet
          case rel => exact ⟨_, (true), (by first | rfl | (simp; done) | (simp [*]; done)), H', ⟨by first | omega | exact Nat.le_refl _⟩, ⟨by (with_reducible repeat (first | refine blk_drewN ?_ _ | refine blk_drew ?_ | refine blk_alloc ?_ _)); refine blk_far ?_ NB132_140.out _; (with_reducible repeat (first | refine blk_drewN ?_ _ | refine blk_drew ?_ | refine blk_alloc ?_ _)); refine blk_far ?_ NB132_140.out _; (with_reducible repeat (first | refine blk_drewN ?_ _ | refine blk_drew ?_ | refine blk_alloc ?_ _)); refine blk_far ?_ NB132_140.out _; (with_reducible repeat (first | refine blk_drewN ?_ _ | refine blk_drew ?_ | refine blk_alloc ?_ _)); refine blk_far ?_ NB132_140.out _; (with_reducible repeat (first | refine blk_drewN ?_ _ | refine blk_drew ?_ | refine blk_alloc ?_ _)); refine blk_far ?_ NB132_140.out _; (with_reducible repeat (first | refine blk_drewN ?_ _ | refine blk_drew ?_ | refine blk_alloc ?_ _)); refine blk_far ?_ NB132_140.out _; (with_reducible repeat (first | refine blk_drewN ?_ _ | refine blk_drew ?_ | refine blk_alloc ?_ _)); refine blk_far ?_ NB132_140.out _; (with_reducible repeat (first | refine blk_drewN ?_ _ | refine blk_drew ?_ | refine blk_alloc ?_ _)); exact BK132.out⟩, ⟨by (with_reducible repeat (first | refine blk_drewN ?_ _ | refine blk_drew ?_ | refine blk_alloc ?_ _)); refine blk_put (cs := #[.string t133, .int .i64 t134, .bool false, .bool t136, .bool t137, .int .i64 t138, .int .i64 0]) ?_ 6 _ rfl; (with_reducible repeat (first | refine blk_drewN ?_ _ | refine blk_drew ?_ | refine blk_alloc ?_ _)); refine blk_put (cs := #[.string t133, .int .i64 t134, .bool false, .bool t136, .bool t137, .int .i64 0, .int .i64 0]) ?_ 5 _ rfl; (with_reducible repeat (first | refine blk_drewN ?_ _ | refine blk_drew ?_ | refine blk_alloc ?_ _)); refine blk_put (cs := #[.string t133, .int .i64 t134, .bool false, .bool t136, .bool false, .int .i64 0, .int .i64 0]) ?_ 4 _ rfl; (with_reducible repeat (first | refine blk_drewN ?_ _ | refine blk_drew ?_ | refine blk_alloc ?_ _)); refine blk_put (cs := #[.string t133, .int .i64 t134, .bool false, .bool false, .bool false, .int .i64 0, .int .i64 0]) ?_ 3 _ rfl; (with_reducible repeat (first | refine blk_drewN ?_ _ | refine blk_drew ?_ | refine blk_alloc ?_ _)); refine blk_put (cs := #[.string t133, .int .i64 t134, .bool false, .bool false, .bool false, .int .i64 0, .int .i64 0]) ?_ 2 _ rfl; (with_reducible repeat (first | refine blk_drewN ?_ _ | refine blk_drew ?_ | refine blk_alloc ?_ _)); refine blk_put (cs := #[.string t133, .int .i64 0, .bool false, .bool false, .bool false, .int .i64 0, .int .i64 0]) ?_ 1 _ rfl; (with_reducible repeat (first | refine blk_drewN ?_ _ | refine blk_drew ?_ | refine blk_alloc ?_ _)); refine blk_put (cs := #[.string (⟨#[]⟩ : ByteArray), .int .i64 0, .bool false, .bool false, .bool false, .int .i64 0, .int .i64 0]) ?_ 0 _ rfl; (with_reducible repeat (first | refine blk_drewN ?_ _ | refine blk_drew ?_ | refine blk_alloc ?_ _)); exact BK140.out⟩, ⟨by repeat (first | (with_reducible first | exact HB.out | apply below_alloc | apply pw_below_drewN | apply below_drew1 | refine below_set ?_ GE132.out | refine below_set ?_ GE140.out) | exact HB.out)⟩⟩
  case rest =>
    clear HC4
    try clear c1
    try clear c2
    try clear p2
    try clear c9
    try clear c11
    try clear c11b0
    try clear c11b1
    try clear c12
    try clear c14
    try clear c15
    try clear c18
    try clear c18b0
    try clear c18b1
    try clear c19
    try clear c21
    try clear c22
    try clear hcz10_0
    try clear hcz10_1
    try clear hcz10_2
    try clear hcz10_3
    try clear hcz10_4
    try clear hcz10_5
    try clear hcz10_6
    try clear hcz13_0
    try clear hcz13_1
    try clear hcz13_2
    try clear hcz13_3
    try clear hcz13_4
    try clear hcz13_5
    try clear hcz13_6
    try clear hcz16_0
    try clear hcz16_1
    try clear hcz16_2
    try clear hcz16_3
    try clear hcz16_4
    try clear hcz16_5
    try clear hcz16_6
    try clear hcz17_0
    try clear hcz17_1
    try clear hcz17_2
    try clear hcz17_3
    try clear hcz20_0
    try clear hcz20_1
    try clear hcz20_2
    try clear hcz20_3
    try clear hcz20_4
    try clear hcz20_5
    try clear hcz20_6
    try clear hcz21_0
    try clear hcz21_1
    try clear hcz21_2
    try clear hcz21_3
    try clear hcz23_0
    try clear hcz23_1
    try clear hcz23_2
    try clear hcz23_3
    try clear hcz23_4
    try clear hcz23_5
    try clear hcz23_6
    try clear hcz24_0
    try clear hcz24_1
    try clear hcz24_2
    try clear hcz24_3
    try clear hcz6_0
    try clear hcz6_1
    try clear hcz6_2
    try clear hcz6_3
    try clear hfz10_0
    try clear hfz10_1
    try clear hfz10_2
    try clear hfz10_3
    try clear hfz10_4
    try clear hfz10_5
    try clear hfz10_6
    try clear hfz13_0
    try clear hfz13_1
    try clear hfz13_2
    try clear hfz13_3
    try clear hfz13_4
    try clear hfz13_5
    try clear hfz13_6
    try clear hfz16_0
    try clear hfz16_1
    try clear hfz16_2
    try clear hfz16_3
    try clear hfz16_4
    try clear hfz16_5
    try clear hfz16_6
    try clear hfz17_0
    try clear hfz17_1
    try clear hfz17_2
    try clear hfz17_3
    try clear hfz20_0
    try clear hfz20_1
    try clear hfz20_2
    try clear hfz20_3
    try clear hfz20_4
    try clear hfz20_5
    try clear hfz20_6
    try clear hfz21_0
    try clear hfz21_1
    try clear hfz21_2
    try clear hfz21_3
    try clear hfz23_0
    try clear hfz23_1
    try clear hfz23_2
    try clear hfz23_3
    try clear hfz23_4
    try clear hfz23_5
    try clear hfz23_6
    try clear hfz24_0
    try clear hfz24_1
    try clear hfz24_2
    try clear hfz24_3
    try clear hfz6_0
    try clear hfz6_1
    try clear hfz6_2
    try clear hfz6_3
    obtain ⟨kq, x26_3, rfl, HA, HJ3, BK132, BK140, HB⟩ := hcut
    cases kq with
    | zero => exact absurd HA.out (by simp [prompterref14_Right.j0])
    | succ kj3 =>
      have H := HA.out
      clear HA
      simp only [prompterref14_Right.j0] at H
      by_cases c25 : x26_3 = true
      · subst c25
        have H1 : (some false) = some r := by rw [if_pos rfl] at H; exact H
        clear H
        have H := H1
        clear H1
        obtain rfl := Option.some.inj H
        go_wp2
        go_ret
        exact ⟨by first | rfl | (simp [errW_none, errW_some] <;> rfl) | (simp [*, errW_none, errW_some] <;> rfl), by repeat (first | (with_reducible first | exact HB.out | apply below_alloc | apply pw_below_drewN | apply below_drew1 | refine below_set ?_ GE132.out | refine below_set ?_ GE140.out) | exact HB.out)⟩
      · replace c25 := Bool.eq_false_iff.mpr c25
        subst c25
        have H1 : (if t134 = 0 then (if a0_1 = 0 then (if t134 = 1 then (if a0_1 ≥ a1 then (prompterref14_Right.j1 kj3 true a0_0 a0_1 a0_2 a0_3 t133 t134 t135 t136 t137 t138 t139) else (if t134 = 2 then (if a0_1 ≥ 100 then (prompterref14_Right.j1 kj3 true a0_0 a0_1 a0_2 a0_3 t133 t134 t135 t136 t137 t138 t139) else (if t134 = 3 then (prompterref14_Right.j1 kj3 (decide (a0_1 > 2048)) a0_0 a0_1 a0_2 a0_3 t133 t134 t135 t136 t137 t138 t139) else (prompterref14_Right.j1 kj3 false a0_0 a0_1 a0_2 a0_3 t133 t134 t135 t136 t137 t138 t139))) else (if t134 = 3 then (prompterref14_Right.j1 kj3 (decide (a0_1 > 2048)) a0_0 a0_1 a0_2 a0_3 t133 t134 t135 t136 t137 t138 t139) else (prompterref14_Right.j1 kj3 false a0_0 a0_1 a0_2 a0_3 t133 t134 t135 t136 t137 t138 t139)))) else (if t134 = 2 then (if a0_1 ≥ 100 then (prompterref14_Right.j1 kj3 true a0_0 a0_1 a0_2 a0_3 t133 t134 t135 t136 t137 t138 t139) else (if t134 = 3 then (prompterref14_Right.j1 kj3 (decide (a0_1 > 2048)) a0_0 a0_1 a0_2 a0_3 t133 t134 t135 t136 t137 t138 t139) else (prompterref14_Right.j1 kj3 false a0_0 a0_1 a0_2 a0_3 t133 t134 t135 t136 t137 t138 t139))) else (if t134 = 3 then (prompterref14_Right.j1 kj3 (decide (a0_1 > 2048)) a0_0 a0_1 a0_2 a0_3 t133 t134 t135 t136 t137 t138 t139) else (prompterref14_Right.j1 kj3 false a0_0 a0_1 a0_2 a0_3 t133 t134 t135 t136 t137 t138 t139)))) else (prompterref14_Right.j1 kj3 true a0_0 a0_1 a0_2 a0_3 t133 t134 t135 t136 t137 t138 t139)) else (if t134 = 1 then (if a0_1 ≥ a1 then (prompterref14_Right.j1 kj3 true a0_0 a0_1 a0_2 a0_3 t133 t134 t135 t136 t137 t138 t139) else (if t134 = 2 then (if a0_1 ≥ 100 then (prompterref14_Right.j1 kj3 true a0_0 a0_1 a0_2 a0_3 t133 t134 t135 t136 t137 t138 t139) else (if t134 = 3 then (prompterref14_Right.j1 kj3 (decide (a0_1 > 2048)) a0_0 a0_1 a0_2 a0_3 t133 t134 t135 t136 t137 t138 t139) else (prompterref14_Right.j1 kj3 false a0_0 a0_1 a0_2 a0_3 t133 t134 t135 t136 t137 t138 t139))) else (if t134 = 3 then (prompterref14_Right.j1 kj3 (decide (a0_1 > 2048)) a0_0 a0_1 a0_2 a0_3 t133 t134 t135 t136 t137 t138 t139) else (prompterref14_Right.j1 kj3 false a0_0 a0_1 a0_2 a0_3 t133 t134 t135 t136 t137 t138 t139)))) else (if t134 = 2 then (if a0_1 ≥ 100 then (prompterref14_Right.j1 kj3 true a0_0 a0_1 a0_2 a0_3 t133 t134 t135 t136 t137 t138 t139) else (if t134 = 3 then (prompterref14_Right.j1 kj3 (decide (a0_1 > 2048)) a0_0 a0_1 a0_2 a0_3 t133 t134 t135 t136 t137 t138 t139) else (prompterref14_Right.j1 kj3 false a0_0 a0_1 a0_2 a0_3 t133 t134 t135 t136 t137 t138 t139))) else (if t134 = 3 then (prompterref14_Right.j1 kj3 (decide (a0_1 > 2048)) a0_0 a0_1 a0_2 a0_3 t133 t134 t135 t136 t137 t138 t139) else (prompterref14_Right.j1 kj3 false a0_0 a0_1 a0_2 a0_3 t133 t134 t135 t136 t137 t138 t139))))) = some r := by rw [if_neg (show ¬ (false = true) by decide)] at H; exact H
        clear H
        have H := H1
        clear H1
        have HC26 := Aside0.mk H
        clear H
        go_upto_region 4 with (fail)
        go_cut [65] (fun v65 wc => ∃ (kq : Nat) (x65_25 : Bool), v65 = .bool x65_25 ∧ Aside0 (prompterref14_Right.j1 kq x65_25 a0_0 a0_1 a0_2 a0_3 t133 t134 t135 t136 t137 t138 t139 = some r) ∧ Aside0 (kq ≤ kj3) ∧ Aside0 (wc.heap[gb132]? = some (.cells #[.int .u8 a0_0, .int .i64 a0_1, .int .i64 a0_2, .string a0_3] 36 (0, 0))) ∧ Aside0 (wc.heap[gb140]? = some (.cells #[.string t133, .int .i64 t134, .bool t135, .bool t136, .bool t137, .int .i64 t138, .int .i64 t139] 42 (0, 0))) ∧ Aside0 (Below w.heap.size w wc))
        case first =>
          have H := HC26.out
          clear HC26
          by_cases c27 : t134 = 0
          · rw [if_pos c27] at H
            have c27b0 : (t134 == 0) = true := beq_iff_eq.mpr c27
            have c27b1 : (t134 != 0) = false := bne_eq_false_iff_eq.mpr c27
            clear c27
            (first | rw [c27b0] | (simp only [i64_w, i32_w]; rw [c27b0]) | skip)
            by_cases c28 : a0_1 = 0
            · rw [if_pos c28] at H
              have c28b0 : (a0_1 == 0) = true := beq_iff_eq.mpr c28
              have c28b1 : (a0_1 != 0) = false := bne_eq_false_iff_eq.mpr c28
              clear c28
              by_cases c29 : t134 = 1
              · rw [if_pos c29] at H
                have c29b0 : (t134 == 1) = true := beq_iff_eq.mpr c29
                have c29b1 : (t134 != 1) = false := bne_eq_false_iff_eq.mpr c29
                clear c29
                by_cases c30 : a0_1 ≥ a1
                · rw [if_pos c30] at H
                  have c30b0 : decide (a1 ≤ a0_1) = true := decide_eq_true c30
                  clear c30
                  have H' := Aside0.mk H
                  clear H
                  have hnb31 := NB140_132.out
                  have hnc31 := NB132_140.out
                  have hcz32_0 : wc.cell? ⟨gb140, 0, none⟩ = some (.string t133) := (blk_cell BK140.out 0).trans rfl
                  have hcz32_1 : wc.cell? ⟨gb140, 1, none⟩ = some (.int .i64 t134) := (blk_cell BK140.out 1).trans rfl
                  have hcz32_2 : wc.cell? ⟨gb140, 2, none⟩ = some (.bool t135) := (blk_cell BK140.out 2).trans rfl
                  have hcz32_3 : wc.cell? ⟨gb140, 3, none⟩ = some (.bool t136) := (blk_cell BK140.out 3).trans rfl
                  have hcz32_4 : wc.cell? ⟨gb140, 4, none⟩ = some (.bool t137) := (blk_cell BK140.out 4).trans rfl
                  have hcz32_5 : wc.cell? ⟨gb140, 5, none⟩ = some (.int .i64 t138) := (blk_cell BK140.out 5).trans rfl
                  have hcz32_6 : wc.cell? ⟨gb140, 6, none⟩ = some (.int .i64 t139) := (blk_cell BK140.out 6).trans rfl
                  have hfz32_0 := blk_frozen BK140.out 0
                  have hfz32_1 := blk_frozen BK140.out 1
                  have hfz32_2 := blk_frozen BK140.out 2
                  have hfz32_3 := blk_frozen BK140.out 3
                  have hfz32_4 := blk_frozen BK140.out 4
                  have hfz32_5 := blk_frozen BK140.out 5
                  have hfz32_6 := blk_frozen BK140.out 6
                  have hcz33_0 : wc.cell? ⟨gb132, 0, none⟩ = some (.int .u8 a0_0) := (blk_cell BK132.out 0).trans rfl
                  have hcz33_1 : wc.cell? ⟨gb132, 1, none⟩ = some (.int .i64 a0_1) := (blk_cell BK132.out 1).trans rfl
                  have hcz33_2 : wc.cell? ⟨gb132, 2, none⟩ = some (.int .i64 a0_2) := (blk_cell BK132.out 2).trans rfl
                  have hcz33_3 : wc.cell? ⟨gb132, 3, none⟩ = some (.string a0_3) := (blk_cell BK132.out 3).trans rfl
                  have hfz33_0 := blk_frozen BK132.out 0
                  have hfz33_1 := blk_frozen BK132.out 1
                  have hfz33_2 := blk_frozen BK132.out 2
                  have hfz33_3 := blk_frozen BK132.out 3
                  go_wp2
                  go_meet
                  case rel => exact ⟨_, (true), (by first | rfl | (simp; done) | (simp [*]; done)), H', ⟨by have := HJ3.out; first | omega | exact Nat.le_refl _⟩, ⟨by (with_reducible repeat (first | refine blk_drewN ?_ _ | refine blk_drew ?_ | refine blk_alloc ?_ _)); exact BK132.out⟩, ⟨by (with_reducible repeat (first | refine blk_drewN ?_ _ | refine blk_drew ?_ | refine blk_alloc ?_ _)); exact BK140.out⟩, ⟨by repeat (first | (with_reducible first | exact HB.out | apply below_alloc | apply pw_below_drewN | apply below_drew1 | refine below_set ?_ GE132.out | refine below_set ?_ GE140.out) | exact HB.out)⟩⟩
                · rw [if_neg c30] at H
                  have c30b0 : decide (a1 ≤ a0_1) = false := decide_eq_false c30
                  clear c30
                  by_cases c34 : t134 = 2
                  · rw [if_pos c34] at H
                    have c34b0 : (t134 == 2) = true := beq_iff_eq.mpr c34
                    have c34b1 : (t134 != 2) = false := bne_eq_false_iff_eq.mpr c34
                    clear c34
                    by_cases c35 : a0_1 ≥ 100
                    · rw [if_pos c35] at H
                      have c35b0 : decide (100 ≤ a0_1) = true := decide_eq_true c35
                      clear c35
                      have H' := Aside0.mk H
                      clear H
                      have hnb36 := NB140_132.out
                      have hnc36 := NB132_140.out
                      have hcz37_0 : wc.cell? ⟨gb140, 0, none⟩ = some (.string t133) := (blk_cell BK140.out 0).trans rfl
                      have hcz37_1 : wc.cell? ⟨gb140, 1, none⟩ = some (.int .i64 t134) := (blk_cell BK140.out 1).trans rfl
                      have hcz37_2 : wc.cell? ⟨gb140, 2, none⟩ = some (.bool t135) := (blk_cell BK140.out 2).trans rfl
                      have hcz37_3 : wc.cell? ⟨gb140, 3, none⟩ = some (.bool t136) := (blk_cell BK140.out 3).trans rfl
                      have hcz37_4 : wc.cell? ⟨gb140, 4, none⟩ = some (.bool t137) := (blk_cell BK140.out 4).trans rfl
                      have hcz37_5 : wc.cell? ⟨gb140, 5, none⟩ = some (.int .i64 t138) := (blk_cell BK140.out 5).trans rfl
                      have hcz37_6 : wc.cell? ⟨gb140, 6, none⟩ = some (.int .i64 t139) := (blk_cell BK140.out 6).trans rfl
                      have hfz37_0 := blk_frozen BK140.out 0
                      have hfz37_1 := blk_frozen BK140.out 1
                      have hfz37_2 := blk_frozen BK140.out 2
                      have hfz37_3 := blk_frozen BK140.out 3
                      have hfz37_4 := blk_frozen BK140.out 4
                      have hfz37_5 := blk_frozen BK140.out 5
                      have hfz37_6 := blk_frozen BK140.out 6
                      have hcz38_0 : wc.cell? ⟨gb132, 0, none⟩ = some (.int .u8 a0_0) := (blk_cell BK132.out 0).trans rfl
                      have hcz38_1 : wc.cell? ⟨gb132, 1, none⟩ = some (.int .i64 a0_1) := (blk_cell BK132.out 1).trans rfl
                      have hcz38_2 : wc.cell? ⟨gb132, 2, none⟩ = some (.int .i64 a0_2) := (blk_cell BK132.out 2).trans rfl
                      have hcz38_3 : wc.cell? ⟨gb132, 3, none⟩ = some (.string a0_3) := (blk_cell BK132.out 3).trans rfl
                      have hfz38_0 := blk_frozen BK132.out 0
                      have hfz38_1 := blk_frozen BK132.out 1
                      have hfz38_2 := blk_frozen BK132.out 2
                      have hfz38_3 := blk_frozen BK132.out 3
                      go_wp2
                      go_meet
                      case rel => exact ⟨_, (true), (by first | rfl | (simp; done) | (simp [*]; done)), H', ⟨by have := HJ3.out; first | omega | exact Nat.le_refl _⟩, ⟨by (with_reducible repeat (first | refine blk_drewN ?_ _ | refine blk_drew ?_ | refine blk_alloc ?_ _)); exact BK132.out⟩, ⟨by (with_reducible repeat (first | refine blk_drewN ?_ _ | refine blk_drew ?_ | refine blk_alloc ?_ _)); exact BK140.out⟩, ⟨by repeat (first | (with_reducible first | exact HB.out | apply below_alloc | apply pw_below_drewN | apply below_drew1 | refine below_set ?_ GE132.out | refine below_set ?_ GE140.out) | exact HB.out)⟩⟩
                    · rw [if_neg c35] at H
                      have c35b0 : decide (100 ≤ a0_1) = false := decide_eq_false c35
                      clear c35
                      by_cases c39 : t134 = 3
                      · rw [if_pos c39] at H
                        have c39b0 : (t134 == 3) = true := beq_iff_eq.mpr c39
                        have c39b1 : (t134 != 3) = false := bne_eq_false_iff_eq.mpr c39
                        clear c39
                        have H' := Aside0.mk H
                        clear H
                        have hnb40 := NB140_132.out
                        have hnc40 := NB132_140.out
                        have hcz41_0 : wc.cell? ⟨gb140, 0, none⟩ = some (.string t133) := (blk_cell BK140.out 0).trans rfl
                        have hcz41_1 : wc.cell? ⟨gb140, 1, none⟩ = some (.int .i64 t134) := (blk_cell BK140.out 1).trans rfl
                        have hcz41_2 : wc.cell? ⟨gb140, 2, none⟩ = some (.bool t135) := (blk_cell BK140.out 2).trans rfl
                        have hcz41_3 : wc.cell? ⟨gb140, 3, none⟩ = some (.bool t136) := (blk_cell BK140.out 3).trans rfl
                        have hcz41_4 : wc.cell? ⟨gb140, 4, none⟩ = some (.bool t137) := (blk_cell BK140.out 4).trans rfl
                        have hcz41_5 : wc.cell? ⟨gb140, 5, none⟩ = some (.int .i64 t138) := (blk_cell BK140.out 5).trans rfl
                        have hcz41_6 : wc.cell? ⟨gb140, 6, none⟩ = some (.int .i64 t139) := (blk_cell BK140.out 6).trans rfl
                        have hfz41_0 := blk_frozen BK140.out 0
                        have hfz41_1 := blk_frozen BK140.out 1
                        have hfz41_2 := blk_frozen BK140.out 2
                        have hfz41_3 := blk_frozen BK140.out 3
                        have hfz41_4 := blk_frozen BK140.out 4
                        have hfz41_5 := blk_frozen BK140.out 5
                        have hfz41_6 := blk_frozen BK140.out 6
                        have hcz42_0 : wc.cell? ⟨gb132, 0, none⟩ = some (.int .u8 a0_0) := (blk_cell BK132.out 0).trans rfl
                        have hcz42_1 : wc.cell? ⟨gb132, 1, none⟩ = some (.int .i64 a0_1) := (blk_cell BK132.out 1).trans rfl
                        have hcz42_2 : wc.cell? ⟨gb132, 2, none⟩ = some (.int .i64 a0_2) := (blk_cell BK132.out 2).trans rfl
                        have hcz42_3 : wc.cell? ⟨gb132, 3, none⟩ = some (.string a0_3) := (blk_cell BK132.out 3).trans rfl
                        have hfz42_0 := blk_frozen BK132.out 0
                        have hfz42_1 := blk_frozen BK132.out 1
                        have hfz42_2 := blk_frozen BK132.out 2
                        have hfz42_3 := blk_frozen BK132.out 3
                        go_wp2
                        go_meet
                        case rel => exact ⟨_, (decide (a0_1 > 2048)), (by first | rfl | (simp; done) | (simp [*]; done)), H', ⟨by have := HJ3.out; first | omega | exact Nat.le_refl _⟩, ⟨by (with_reducible repeat (first | refine blk_drewN ?_ _ | refine blk_drew ?_ | refine blk_alloc ?_ _)); exact BK132.out⟩, ⟨by (with_reducible repeat (first | refine blk_drewN ?_ _ | refine blk_drew ?_ | refine blk_alloc ?_ _)); exact BK140.out⟩, ⟨by repeat (first | (with_reducible first | exact HB.out | apply below_alloc | apply pw_below_drewN | apply below_drew1 | refine below_set ?_ GE132.out | refine below_set ?_ GE140.out) | exact HB.out)⟩⟩
                      · rw [if_neg c39] at H
                        have c39b0 : (t134 == 3) = false := beq_eq_false_iff_ne.mpr c39
                        have c39b1 : (t134 != 3) = true := bne_iff_ne.mpr c39
                        have H' := Aside0.mk H
                        clear H
                        have hnb43 := NB140_132.out
                        have hnc43 := NB132_140.out
                        have hcz44_0 : wc.cell? ⟨gb140, 0, none⟩ = some (.string t133) := (blk_cell BK140.out 0).trans rfl
                        have hcz44_1 : wc.cell? ⟨gb140, 1, none⟩ = some (.int .i64 t134) := (blk_cell BK140.out 1).trans rfl
                        have hcz44_2 : wc.cell? ⟨gb140, 2, none⟩ = some (.bool t135) := (blk_cell BK140.out 2).trans rfl
                        have hcz44_3 : wc.cell? ⟨gb140, 3, none⟩ = some (.bool t136) := (blk_cell BK140.out 3).trans rfl
                        have hcz44_4 : wc.cell? ⟨gb140, 4, none⟩ = some (.bool t137) := (blk_cell BK140.out 4).trans rfl
                        have hcz44_5 : wc.cell? ⟨gb140, 5, none⟩ = some (.int .i64 t138) := (blk_cell BK140.out 5).trans rfl
                        have hcz44_6 : wc.cell? ⟨gb140, 6, none⟩ = some (.int .i64 t139) := (blk_cell BK140.out 6).trans rfl
                        have hfz44_0 := blk_frozen BK140.out 0
                        have hfz44_1 := blk_frozen BK140.out 1
                        have hfz44_2 := blk_frozen BK140.out 2
                        have hfz44_3 := blk_frozen BK140.out 3
                        have hfz44_4 := blk_frozen BK140.out 4
                        have hfz44_5 := blk_frozen BK140.out 5
                        have hfz44_6 := blk_frozen BK140.out 6
                        have hcz45_0 : wc.cell? ⟨gb132, 0, none⟩ = some (.int .u8 a0_0) := (blk_cell BK132.out 0).trans rfl
                        have hcz45_1 : wc.cell? ⟨gb132, 1, none⟩ = some (.int .i64 a0_1) := (blk_cell BK132.out 1).trans rfl
                        have hcz45_2 : wc.cell? ⟨gb132, 2, none⟩ = some (.int .i64 a0_2) := (blk_cell BK132.out 2).trans rfl
                        have hcz45_3 : wc.cell? ⟨gb132, 3, none⟩ = some (.string a0_3) := (blk_cell BK132.out 3).trans rfl
                        have hfz45_0 := blk_frozen BK132.out 0
                        have hfz45_1 := blk_frozen BK132.out 1
                        have hfz45_2 := blk_frozen BK132.out 2
                        have hfz45_3 := blk_frozen BK132.out 3
                        go_wp2
                        go_meet
                        case rel => exact ⟨_, (false), (by first | rfl | (simp; done) | (simp [*]; done)), H', ⟨by have := HJ3.out; first | omega | exact Nat.le_refl _⟩, ⟨by (with_reducible repeat (first | refine blk_drewN ?_ _ | refine blk_drew ?_ | refine blk_alloc ?_ _)); exact BK132.out⟩, ⟨by (with_reducible repeat (first | refine blk_drewN ?_ _ | refine blk_drew ?_ | refine blk_alloc ?_ _)); exact BK140.out⟩, ⟨by repeat (first | (with_reducible first | exact HB.out | apply below_alloc | apply pw_below_drewN | apply below_drew1 | refine below_set ?_ GE132.out | refine below_set ?_ GE140.out) | exact HB.out)⟩⟩
                  · rw [if_neg c34] at H
                    have c34b0 : (t134 == 2) = false := beq_eq_false_iff_ne.mpr c34
                    have c34b1 : (t134 != 2) = true := bne_iff_ne.mpr c34
                    by_cases c46 : t134 = 3
                    · rw [if_pos c46] at H
                      have c46b0 : (t134 == 3) = true := beq_iff_eq.mpr c46
                      have c46b1 : (t134 != 3) = false := bne_eq_false_iff_eq.mpr c46
                      clear c46
                      have H' := Aside0.mk H
                      clear H
                      have hnb47 := NB140_132.out
                      have hnc47 := NB132_140.out
                      have hcz48_0 : wc.cell? ⟨gb140, 0, none⟩ = some (.string t133) := (blk_cell BK140.out 0).trans rfl
                      have hcz48_1 : wc.cell? ⟨gb140, 1, none⟩ = some (.int .i64 t134) := (blk_cell BK140.out 1).trans rfl
                      have hcz48_2 : wc.cell? ⟨gb140, 2, none⟩ = some (.bool t135) := (blk_cell BK140.out 2).trans rfl
                      have hcz48_3 : wc.cell? ⟨gb140, 3, none⟩ = some (.bool t136) := (blk_cell BK140.out 3).trans rfl
                      have hcz48_4 : wc.cell? ⟨gb140, 4, none⟩ = some (.bool t137) := (blk_cell BK140.out 4).trans rfl
                      have hcz48_5 : wc.cell? ⟨gb140, 5, none⟩ = some (.int .i64 t138) := (blk_cell BK140.out 5).trans rfl
                      have hcz48_6 : wc.cell? ⟨gb140, 6, none⟩ = some (.int .i64 t139) := (blk_cell BK140.out 6).trans rfl
                      have hfz48_0 := blk_frozen BK140.out 0
                      have hfz48_1 := blk_frozen BK140.out 1
                      have hfz48_2 := blk_frozen BK140.out 2
                      have hfz48_3 := blk_frozen BK140.out 3
                      have hfz48_4 := blk_frozen BK140.out 4
                      have hfz48_5 := blk_frozen BK140.out 5
                      have hfz48_6 := blk_frozen BK140.out 6
                      have hcz49_0 : wc.cell? ⟨gb132, 0, none⟩ = some (.int .u8 a0_0) := (blk_cell BK132.out 0).trans rfl
                      have hcz49_1 : wc.cell? ⟨gb132, 1, none⟩ = some (.int .i64 a0_1) := (blk_cell BK132.out 1).trans rfl
                      have hcz49_2 : wc.cell? ⟨gb132, 2, none⟩ = some (.int .i64 a0_2) := (blk_cell BK132.out 2).trans rfl
                      have hcz49_3 : wc.cell? ⟨gb132, 3, none⟩ = some (.string a0_3) := (blk_cell BK132.out 3).trans rfl
                      have hfz49_0 := blk_frozen BK132.out 0
                      have hfz49_1 := blk_frozen BK132.out 1
                      have hfz49_2 := blk_frozen BK132.out 2
                      have hfz49_3 := blk_frozen BK132.out 3
                      go_wp2
                      go_meet
                      case rel => exact ⟨_, (decide (a0_1 > 2048)), (by first | rfl | (simp; done) | (simp [*]; done)), H', ⟨by have := HJ3.out; first | omega | exact Nat.le_refl _⟩, ⟨by (with_reducible repeat (first | refine blk_drewN ?_ _ | refine blk_drew ?_ | refine blk_alloc ?_ _)); exact BK132.out⟩, ⟨by (with_reducible repeat (first | refine blk_drewN ?_ _ | refine blk_drew ?_ | refine blk_alloc ?_ _)); exact BK140.out⟩, ⟨by repeat (first | (with_reducible first | exact HB.out | apply below_alloc | apply pw_below_drewN | apply below_drew1 | refine below_set ?_ GE132.out | refine below_set ?_ GE140.out) | exact HB.out)⟩⟩
                    · rw [if_neg c46] at H
                      have c46b0 : (t134 == 3) = false := beq_eq_false_iff_ne.mpr c46
                      have c46b1 : (t134 != 3) = true := bne_iff_ne.mpr c46
                      have H' := Aside0.mk H
                      clear H
                      have hnb50 := NB140_132.out
                      have hnc50 := NB132_140.out
                      have hcz51_0 : wc.cell? ⟨gb140, 0, none⟩ = some (.string t133) := (blk_cell BK140.out 0).trans rfl
                      have hcz51_1 : wc.cell? ⟨gb140, 1, none⟩ = some (.int .i64 t134) := (blk_cell BK140.out 1).trans rfl
                      have hcz51_2 : wc.cell? ⟨gb140, 2, none⟩ = some (.bool t135) := (blk_cell BK140.out 2).trans rfl
                      have hcz51_3 : wc.cell? ⟨gb140, 3, none⟩ = some (.bool t136) := (blk_cell BK140.out 3).trans rfl
                      have hcz51_4 : wc.cell? ⟨gb140, 4, none⟩ = some (.bool t137) := (blk_cell BK140.out 4).trans rfl
                      have hcz51_5 : wc.cell? ⟨gb140, 5, none⟩ = some (.int .i64 t138) := (blk_cell BK140.out 5).trans rfl
                      have hcz51_6 : wc.cell? ⟨gb140, 6, none⟩ = some (.int .i64 t139) := (blk_cell BK140.out 6).trans rfl
                      have hfz51_0 := blk_frozen BK140.out 0
                      have hfz51_1 := blk_frozen BK140.out 1
                      have hfz51_2 := blk_frozen BK140.out 2
                      have hfz51_3 := blk_frozen BK140.out 3
                      have hfz51_4 := blk_frozen BK140.out 4
                      have hfz51_5 := blk_frozen BK140.out 5
                      have hfz51_6 := blk_frozen BK140.out 6
                      have hcz52_0 : wc.cell? ⟨gb132, 0, none⟩ = some (.int .u8 a0_0) := (blk_cell BK132.out 0).trans rfl
                      have hcz52_1 : wc.cell? ⟨gb132, 1, none⟩ = some (.int .i64 a0_1) := (blk_cell BK132.out 1).trans rfl
                      have hcz52_2 : wc.cell? ⟨gb132, 2, none⟩ = some (.int .i64 a0_2) := (blk_cell BK132.out 2).trans rfl
                      have hcz52_3 : wc.cell? ⟨gb132, 3, none⟩ = some (.string a0_3) := (blk_cell BK132.out 3).trans rfl
                      have hfz52_0 := blk_frozen BK132.out 0
                      have hfz52_1 := blk_frozen BK132.out 1
                      have hfz52_2 := blk_frozen BK132.out 2
                      have hfz52_3 := blk_frozen BK132.out 3
                      go_wp2
                      go_meet
                      case rel => exact ⟨_, (false), (by first | rfl | (simp; done) | (simp [*]; done)), H', ⟨by have := HJ3.out; first | omega | exact Nat.le_refl _⟩, ⟨by (with_reducible repeat (first | refine blk_drewN ?_ _ | refine blk_drew ?_ | refine blk_alloc ?_ _)); exact BK132.out⟩, ⟨by (with_reducible repeat (first | refine blk_drewN ?_ _ | refine blk_drew ?_ | refine blk_alloc ?_ _)); exact BK140.out⟩, ⟨by repeat (first | (with_reducible first | exact HB.out | apply below_alloc | apply pw_below_drewN | apply below_drew1 | refine below_set ?_ GE132.out | refine below_set ?_ GE140.out) | exact HB.out)⟩⟩
              · rw [if_neg c29] at H
                have c29b0 : (t134 == 1) = false := beq_eq_false_iff_ne.mpr c29
                have c29b1 : (t134 != 1) = true := bne_iff_ne.mpr c29
                by_cases c53 : t134 = 2
                · rw [if_pos c53] at H
                  have c53b0 : (t134 == 2) = true := beq_iff_eq.mpr c53
                  have c53b1 : (t134 != 2) = false := bne_eq_false_iff_eq.mpr c53
                  clear c53
                  by_cases c54 : a0_1 ≥ 100
                  · rw [if_pos c54] at H
                    have c54b0 : decide (100 ≤ a0_1) = true := decide_eq_true c54
                    clear c54
                    have H' := Aside0.mk H
                    clear H
                    have hnb55 := NB140_132.out
                    have hnc55 := NB132_140.out
                    have hcz56_0 : wc.cell? ⟨gb140, 0, none⟩ = some (.string t133) := (blk_cell BK140.out 0).trans rfl
                    have hcz56_1 : wc.cell? ⟨gb140, 1, none⟩ = some (.int .i64 t134) := (blk_cell BK140.out 1).trans rfl
                    have hcz56_2 : wc.cell? ⟨gb140, 2, none⟩ = some (.bool t135) := (blk_cell BK140.out 2).trans rfl
                    have hcz56_3 : wc.cell? ⟨gb140, 3, none⟩ = some (.bool t136) := (blk_cell BK140.out 3).trans rfl
                    have hcz56_4 : wc.cell? ⟨gb140, 4, none⟩ = some (.bool t137) := (blk_cell BK140.out 4).trans rfl
                    have hcz56_5 : wc.cell? ⟨gb140, 5, none⟩ = some (.int .i64 t138) := (blk_cell BK140.out 5).trans rfl
                    have hcz56_6 : wc.cell? ⟨gb140, 6, none⟩ = some (.int .i64 t139) := (blk_cell BK140.out 6).trans rfl
                    have hfz56_0 := blk_frozen BK140.out 0
                    have hfz56_1 := blk_frozen BK140.out 1
                    have hfz56_2 := blk_frozen BK140.out 2
                    have hfz56_3 := blk_frozen BK140.out 3
                    have hfz56_4 := blk_frozen BK140.out 4
                    have hfz56_5 := blk_frozen BK140.out 5
                    have hfz56_6 := blk_frozen BK140.out 6
                    have hcz57_0 : wc.cell? ⟨gb132, 0, none⟩ = some (.int .u8 a0_0) := (blk_cell BK132.out 0).trans rfl
                    have hcz57_1 : wc.cell? ⟨gb132, 1, none⟩ = some (.int .i64 a0_1) := (blk_cell BK132.out 1).trans rfl
                    have hcz57_2 : wc.cell? ⟨gb132, 2, none⟩ = some (.int .i64 a0_2) := (blk_cell BK132.out 2).trans rfl
                    have hcz57_3 : wc.cell? ⟨gb132, 3, none⟩ = some (.string a0_3) := (blk_cell BK132.out 3).trans rfl
                    have hfz57_0 := blk_frozen BK132.out 0
                    have hfz57_1 := blk_frozen BK132.out 1
                    have hfz57_2 := blk_frozen BK132.out 2
                    have hfz57_3 := blk_frozen BK132.out 3
                    go_wp2
                    go_meet
                    case rel => exact ⟨_, (true), (by first | rfl | (simp; done) | (simp [*]; done)), H', ⟨by have := HJ3.out; first | omega | exact Nat.le_refl _⟩, ⟨by (with_reducible repeat (first | refine blk_drewN ?_ _ | refine blk_drew ?_ | refine blk_alloc ?_ _)); exact BK132.out⟩, ⟨by (with_reducible repeat (first | refine blk_drewN ?_ _ | refine blk_drew ?_ | refine blk_alloc ?_ _)); exact BK140.out⟩, ⟨by repeat (first | (with_reducible first | exact HB.out | apply below_alloc | apply pw_below_drewN | apply below_drew1 | refine below_set ?_ GE132.out | refine below_set ?_ GE140.out) | exact HB.out)⟩⟩
                  · rw [if_neg c54] at H
                    have c54b0 : decide (100 ≤ a0_1) = false := decide_eq_false c54
                    clear c54
                    by_cases c58 : t134 = 3
                    · rw [if_pos c58] at H
                      have c58b0 : (t134 == 3) = true := beq_iff_eq.mpr c58
                      have c58b1 : (t134 != 3) = false := bne_eq_false_iff_eq.mpr c58
                      clear c58
                      have H' := Aside0.mk H
                      clear H
                      have hnb59 := NB140_132.out
                      have hnc59 := NB132_140.out
                      have hcz60_0 : wc.cell? ⟨gb140, 0, none⟩ = some (.string t133) := (blk_cell BK140.out 0).trans rfl
                      have hcz60_1 : wc.cell? ⟨gb140, 1, none⟩ = some (.int .i64 t134) := (blk_cell BK140.out 1).trans rfl
                      have hcz60_2 : wc.cell? ⟨gb140, 2, none⟩ = some (.bool t135) := (blk_cell BK140.out 2).trans rfl
                      have hcz60_3 : wc.cell? ⟨gb140, 3, none⟩ = some (.bool t136) := (blk_cell BK140.out 3).trans rfl
                      have hcz60_4 : wc.cell? ⟨gb140, 4, none⟩ = some (.bool t137) := (blk_cell BK140.out 4).trans rfl
                      have hcz60_5 : wc.cell? ⟨gb140, 5, none⟩ = some (.int .i64 t138) := (blk_cell BK140.out 5).trans rfl
                      have hcz60_6 : wc.cell? ⟨gb140, 6, none⟩ = some (.int .i64 t139) := (blk_cell BK140.out 6).trans rfl
                      have hfz60_0 := blk_frozen BK140.out 0
                      have hfz60_1 := blk_frozen BK140.out 1
                      have hfz60_2 := blk_frozen BK140.out 2
                      have hfz60_3 := blk_frozen BK140.out 3
                      have hfz60_4 := blk_frozen BK140.out 4
                      have hfz60_5 := blk_frozen BK140.out 5
                      have hfz60_6 := blk_frozen BK140.out 6
                      have hcz61_0 : wc.cell? ⟨gb132, 0, none⟩ = some (.int .u8 a0_0) := (blk_cell BK132.out 0).trans rfl
                      have hcz61_1 : wc.cell? ⟨gb132, 1, none⟩ = some (.int .i64 a0_1) := (blk_cell BK132.out 1).trans rfl
                      have hcz61_2 : wc.cell? ⟨gb132, 2, none⟩ = some (.int .i64 a0_2) := (blk_cell BK132.out 2).trans rfl
                      have hcz61_3 : wc.cell? ⟨gb132, 3, none⟩ = some (.string a0_3) := (blk_cell BK132.out 3).trans rfl
                      have hfz61_0 := blk_frozen BK132.out 0
                      have hfz61_1 := blk_frozen BK132.out 1
                      have hfz61_2 := blk_frozen BK132.out 2
                      have hfz61_3 := blk_frozen BK132.out 3
                      go_wp2
                      go_meet
                      case rel => exact ⟨_, (decide (a0_1 > 2048)), (by first | rfl | (simp; done) | (simp [*]; done)), H', ⟨by have := HJ3.out; first | omega | exact Nat.le_refl _⟩, ⟨by (with_reducible repeat (first | refine blk_drewN ?_ _ | refine blk_drew ?_ | refine blk_alloc ?_ _)); exact BK132.out⟩, ⟨by (with_reducible repeat (first | refine blk_drewN ?_ _ | refine blk_drew ?_ | refine blk_alloc ?_ _)); exact BK140.out⟩, ⟨by repeat (first | (with_reducible first | exact HB.out | apply below_alloc | apply pw_below_drewN | apply below_drew1 | refine below_set ?_ GE132.out | refine below_set ?_ GE140.out) | exact HB.out)⟩⟩
                    · rw [if_neg c58] at H
                      have c58b0 : (t134 == 3) = false := beq_eq_false_iff_ne.mpr c58
                      have c58b1 : (t134 != 3) = true := bne_iff_ne.mpr c58
                      have H' := Aside0.mk H
                      clear H
                      have hnb62 := NB140_132.out
                      have hnc62 := NB132_140.out
                      have hcz63_0 : wc.cell? ⟨gb140, 0, none⟩ = some (.string t133) := (blk_cell BK140.out 0).trans rfl
                      have hcz63_1 : wc.cell? ⟨gb140, 1, none⟩ = some (.int .i64 t134) := (blk_cell BK140.out 1).trans rfl
                      have hcz63_2 : wc.cell? ⟨gb140, 2, none⟩ = some (.bool t135) := (blk_cell BK140.out 2).trans rfl
                      have hcz63_3 : wc.cell? ⟨gb140, 3, none⟩ = some (.bool t136) := (blk_cell BK140.out 3).trans rfl
                      have hcz63_4 : wc.cell? ⟨gb140, 4, none⟩ = some (.bool t137) := (blk_cell BK140.out 4).trans rfl
                      have hcz63_5 : wc.cell? ⟨gb140, 5, none⟩ = some (.int .i64 t138) := (blk_cell BK140.out 5).trans rfl
                      have hcz63_6 : wc.cell? ⟨gb140, 6, none⟩ = some (.int .i64 t139) := (blk_cell BK140.out 6).trans rfl
                      have hfz63_0 := blk_frozen BK140.out 0
                      have hfz63_1 := blk_frozen BK140.out 1
                      have hfz63_2 := blk_frozen BK140.out 2
                      have hfz63_3 := blk_frozen BK140.out 3
                      have hfz63_4 := blk_frozen BK140.out 4
                      have hfz63_5 := blk_frozen BK140.out 5
                      have hfz63_6 := blk_frozen BK140.out 6
                      have hcz64_0 : wc.cell? ⟨gb132, 0, none⟩ = some (.int .u8 a0_0) := (blk_cell BK132.out 0).trans rfl
                      have hcz64_1 : wc.cell? ⟨gb132, 1, none⟩ = some (.int .i64 a0_1) := (blk_cell BK132.out 1).trans rfl
                      have hcz64_2 : wc.cell? ⟨gb132, 2, none⟩ = some (.int .i64 a0_2) := (blk_cell BK132.out 2).trans rfl
                      have hcz64_3 : wc.cell? ⟨gb132, 3, none⟩ = some (.string a0_3) := (blk_cell BK132.out 3).trans rfl
                      have hfz64_0 := blk_frozen BK132.out 0
                      have hfz64_1 := blk_frozen BK132.out 1
                      have hfz64_2 := blk_frozen BK132.out 2
                      have hfz64_3 := blk_frozen BK132.out 3
                      go_wp2
                      go_meet
                      case rel => exact ⟨_, (false), (by first | rfl | (simp; done) | (simp [*]; done)), H', ⟨by have := HJ3.out; first | omega | exact Nat.le_refl _⟩, ⟨by (with_reducible repeat (first | refine blk_drewN ?_ _ | refine blk_drew ?_ | refine blk_alloc ?_ _)); exact BK132.out⟩, ⟨by (with_reducible repeat (first | refine blk_drewN ?_ _ | refine blk_drew ?_ | refine blk_alloc ?_ _)); exact BK140.out⟩, ⟨by repeat (first | (with_reducible first | exact HB.out | apply below_alloc | apply pw_below_drewN | apply below_drew1 | refine below_set ?_ GE132.out | refine below_set ?_ GE140.out) | exact HB.out)⟩⟩
                · rw [if_neg c53] at H
                  have c53b0 : (t134 == 2) = false := beq_eq_false_iff_ne.mpr c53
                  have c53b1 : (t134 != 2) = true := bne_iff_ne.mpr c53
                  by_cases c65 : t134 = 3
                  · rw [if_pos c65] at H
                    have c65b0 : (t134 == 3) = true := beq_iff_eq.mpr c65
                    have c65b1 : (t134 != 3) = false := bne_eq_false_iff_eq.mpr c65
                    clear c65
                    have H' := Aside0.mk H
                    clear H
                    have hnb66 := NB140_132.out
                    have hnc66 := NB132_140.out
                    have hcz67_0 : wc.cell? ⟨gb140, 0, none⟩ = some (.string t133) := (blk_cell BK140.out 0).trans rfl
                    have hcz67_1 : wc.cell? ⟨gb140, 1, none⟩ = some (.int .i64 t134) := (blk_cell BK140.out 1).trans rfl
                    have hcz67_2 : wc.cell? ⟨gb140, 2, none⟩ = some (.bool t135) := (blk_cell BK140.out 2).trans rfl
                    have hcz67_3 : wc.cell? ⟨gb140, 3, none⟩ = some (.bool t136) := (blk_cell BK140.out 3).trans rfl
                    have hcz67_4 : wc.cell? ⟨gb140, 4, none⟩ = some (.bool t137) := (blk_cell BK140.out 4).trans rfl
                    have hcz67_5 : wc.cell? ⟨gb140, 5, none⟩ = some (.int .i64 t138) := (blk_cell BK140.out 5).trans rfl
                    have hcz67_6 : wc.cell? ⟨gb140, 6, none⟩ = some (.int .i64 t139) := (blk_cell BK140.out 6).trans rfl
                    have hfz67_0 := blk_frozen BK140.out 0
                    have hfz67_1 := blk_frozen BK140.out 1
                    have hfz67_2 := blk_frozen BK140.out 2
                    have hfz67_3 := blk_frozen BK140.out 3
                    have hfz67_4 := blk_frozen BK140.out 4
                    have hfz67_5 := blk_frozen BK140.out 5
                    have hfz67_6 := blk_frozen BK140.out 6
                    have hcz68_0 : wc.cell? ⟨gb132, 0, none⟩ = some (.int .u8 a0_0) := (blk_cell BK132.out 0).trans rfl
                    have hcz68_1 : wc.cell? ⟨gb132, 1, none⟩ = some (.int .i64 a0_1) := (blk_cell BK132.out 1).trans rfl
                    have hcz68_2 : wc.cell? ⟨gb132, 2, none⟩ = some (.int .i64 a0_2) := (blk_cell BK132.out 2).trans rfl
                    have hcz68_3 : wc.cell? ⟨gb132, 3, none⟩ = some (.string a0_3) := (blk_cell BK132.out 3).trans rfl
                    have hfz68_0 := blk_frozen BK132.out 0
                    have hfz68_1 := blk_frozen BK132.out 1
                    have hfz68_2 := blk_frozen BK132.out 2
                    have hfz68_3 := blk_frozen BK132.out 3
                    go_wp2
                    go_meet
                    case rel => exact ⟨_, (decide (a0_1 > 2048)), (by first | rfl | (simp; done) | (simp [*]; done)), H', ⟨by have := HJ3.out; first | omega | exact Nat.le_refl _⟩, ⟨by (with_reducible repeat (first | refine blk_drewN ?_ _ | refine blk_drew ?_ | refine blk_alloc ?_ _)); exact BK132.out⟩, ⟨by (with_reducible repeat (first | refine blk_drewN ?_ _ | refine blk_drew ?_ | refine blk_alloc ?_ _)); exact BK140.out⟩, ⟨by repeat (first | (with_reducible first | exact HB.out | apply below_alloc | apply pw_below_drewN | apply below_drew1 | refine below_set ?_ GE132.out | refine below_set ?_ GE140.out) | exact HB.out)⟩⟩
                  · rw [if_neg c65] at H
                    have c65b0 : (t134 == 3) = false := beq_eq_false_iff_ne.mpr c65
                    have c65b1 : (t134 != 3) = true := bne_iff_ne.mpr c65
                    have H' := Aside0.mk H
                    clear H
                    have hnb69 := NB140_132.out
                    have hnc69 := NB132_140.out
                    have hcz70_0 : wc.cell? ⟨gb140, 0, none⟩ = some (.string t133) := (blk_cell BK140.out 0).trans rfl
                    have hcz70_1 : wc.cell? ⟨gb140, 1, none⟩ = some (.int .i64 t134) := (blk_cell BK140.out 1).trans rfl
                    have hcz70_2 : wc.cell? ⟨gb140, 2, none⟩ = some (.bool t135) := (blk_cell BK140.out 2).trans rfl
                    have hcz70_3 : wc.cell? ⟨gb140, 3, none⟩ = some (.bool t136) := (blk_cell BK140.out 3).trans rfl
                    have hcz70_4 : wc.cell? ⟨gb140, 4, none⟩ = some (.bool t137) := (blk_cell BK140.out 4).trans rfl
                    have hcz70_5 : wc.cell? ⟨gb140, 5, none⟩ = some (.int .i64 t138) := (blk_cell BK140.out 5).trans rfl
                    have hcz70_6 : wc.cell? ⟨gb140, 6, none⟩ = some (.int .i64 t139) := (blk_cell BK140.out 6).trans rfl
                    have hfz70_0 := blk_frozen BK140.out 0
                    have hfz70_1 := blk_frozen BK140.out 1
                    have hfz70_2 := blk_frozen BK140.out 2
                    have hfz70_3 := blk_frozen BK140.out 3
                    have hfz70_4 := blk_frozen BK140.out 4
                    have hfz70_5 := blk_frozen BK140.out 5
                    have hfz70_6 := blk_frozen BK140.out 6
                    have hcz71_0 : wc.cell? ⟨gb132, 0, none⟩ = some (.int .u8 a0_0) := (blk_cell BK132.out 0).trans rfl
                    have hcz71_1 : wc.cell? ⟨gb132, 1, none⟩ = some (.int .i64 a0_1) := (blk_cell BK132.out 1).trans rfl
                    have hcz71_2 : wc.cell? ⟨gb132, 2, none⟩ = some (.int .i64 a0_2) := (blk_cell BK132.out 2).trans rfl
                    have hcz71_3 : wc.cell? ⟨gb132, 3, none⟩ = some (.string a0_3) := (blk_cell BK132.out 3).trans rfl
                    have hfz71_0 := blk_frozen BK132.out 0
                    have hfz71_1 := blk_frozen BK132.out 1
                    have hfz71_2 := blk_frozen BK132.out 2
                    have hfz71_3 := blk_frozen BK132.out 3
                    go_wp2
                    go_meet
                    case rel => exact ⟨_, (false), (by first | rfl | (simp; done) | (simp [*]; done)), H', ⟨by have := HJ3.out; first | omega | exact Nat.le_refl _⟩, ⟨by (with_reducible repeat (first | refine blk_drewN ?_ _ | refine blk_drew ?_ | refine blk_alloc ?_ _)); exact BK132.out⟩, ⟨by (with_reducible repeat (first | refine blk_drewN ?_ _ | refine blk_drew ?_ | refine blk_alloc ?_ _)); exact BK140.out⟩, ⟨by repeat (first | (with_reducible first | exact HB.out | apply below_alloc | apply pw_below_drewN | apply below_drew1 | refine below_set ?_ GE132.out | refine below_set ?_ GE140.out) | exact HB.out)⟩⟩
            · rw [if_neg c28] at H
              have c28b0 : (a0_1 == 0) = false := beq_eq_false_iff_ne.mpr c28
              have c28b1 : (a0_1 != 0) = true := bne_iff_ne.mpr c28
              have H' := Aside0.mk H
              clear H
              have hnb72 := NB140_132.out
              have hnc72 := NB132_140.out
              have hcz73_0 : wc.cell? ⟨gb140, 0, none⟩ = some (.string t133) := (blk_cell BK140.out 0).trans rfl
              have hcz73_1 : wc.cell? ⟨gb140, 1, none⟩ = some (.int .i64 t134) := (blk_cell BK140.out 1).trans rfl
              have hcz73_2 : wc.cell? ⟨gb140, 2, none⟩ = some (.bool t135) := (blk_cell BK140.out 2).trans rfl
              have hcz73_3 : wc.cell? ⟨gb140, 3, none⟩ = some (.bool t136) := (blk_cell BK140.out 3).trans rfl
              have hcz73_4 : wc.cell? ⟨gb140, 4, none⟩ = some (.bool t137) := (blk_cell BK140.out 4).trans rfl
              have hcz73_5 : wc.cell? ⟨gb140, 5, none⟩ = some (.int .i64 t138) := (blk_cell BK140.out 5).trans rfl
              have hcz73_6 : wc.cell? ⟨gb140, 6, none⟩ = some (.int .i64 t139) := (blk_cell BK140.out 6).trans rfl
              have hfz73_0 := blk_frozen BK140.out 0
              have hfz73_1 := blk_frozen BK140.out 1
              have hfz73_2 := blk_frozen BK140.out 2
              have hfz73_3 := blk_frozen BK140.out 3
              have hfz73_4 := blk_frozen BK140.out 4
              have hfz73_5 := blk_frozen BK140.out 5
              have hfz73_6 := blk_frozen BK140.out 6
              have hcz74_0 : wc.cell? ⟨gb132, 0, none⟩ = some (.int .u8 a0_0) := (blk_cell BK132.out 0).trans rfl
              have hcz74_1 : wc.cell? ⟨gb132, 1, none⟩ = some (.int .i64 a0_1) := (blk_cell BK132.out 1).trans rfl
              have hcz74_2 : wc.cell? ⟨gb132, 2, none⟩ = some (.int .i64 a0_2) := (blk_cell BK132.out 2).trans rfl
              have hcz74_3 : wc.cell? ⟨gb132, 3, none⟩ = some (.string a0_3) := (blk_cell BK132.out 3).trans rfl
              have hfz74_0 := blk_frozen BK132.out 0
              have hfz74_1 := blk_frozen BK132.out 1
              have hfz74_2 := blk_frozen BK132.out 2
              have hfz74_3 := blk_frozen BK132.out 3
              go_wp2
              go_meet
              case rel => exact ⟨_, (true), (by first | rfl | (simp; done) | (simp [*]; done)), H', ⟨by have := HJ3.out; first | omega | exact Nat.le_refl _⟩, ⟨by (with_reducible repeat (first | refine blk_drewN ?_ _ | refine blk_drew ?_ | refine blk_alloc ?_ _)); exact BK132.out⟩, ⟨by (with_reducible repeat (first | refine blk_drewN ?_ _ | refine blk_drew ?_ | refine blk_alloc ?_ _)); exact BK140.out⟩, ⟨by repeat (first | (with_reducible first | exact HB.out | apply below_alloc | apply pw_below_drewN | apply below_drew1 | refine below_set ?_ GE132.out | refine below_set ?_ GE140.out) | exact HB.out)⟩⟩
          · rw [if_neg c27] at H
            have c27b0 : (t134 == 0) = false := beq_eq_false_iff_ne.mpr c27
            have c27b1 : (t134 != 0) = true := bne_iff_ne.mpr c27
            (first | rw [c27b0] | (simp only [i64_w, i32_w]; rw [c27b0]) | skip)
            by_cases c75 : t134 = 1
            · rw [if_pos c75] at H
              have c75b0 : (t134 == 1) = true := beq_iff_eq.mpr c75
              have c75b1 : (t134 != 1) = false := bne_eq_false_iff_eq.mpr c75
              clear c75
              by_cases c76 : a0_1 ≥ a1
              · rw [if_pos c76] at H
                have c76b0 : decide (a1 ≤ a0_1) = true := decide_eq_true c76
                clear c76
                have H' := Aside0.mk H
                clear H
                have hnb77 := NB140_132.out
                have hnc77 := NB132_140.out
                have hcz78_0 : wc.cell? ⟨gb140, 0, none⟩ = some (.string t133) := (blk_cell BK140.out 0).trans rfl
                have hcz78_1 : wc.cell? ⟨gb140, 1, none⟩ = some (.int .i64 t134) := (blk_cell BK140.out 1).trans rfl
                have hcz78_2 : wc.cell? ⟨gb140, 2, none⟩ = some (.bool t135) := (blk_cell BK140.out 2).trans rfl
                have hcz78_3 : wc.cell? ⟨gb140, 3, none⟩ = some (.bool t136) := (blk_cell BK140.out 3).trans rfl
                have hcz78_4 : wc.cell? ⟨gb140, 4, none⟩ = some (.bool t137) := (blk_cell BK140.out 4).trans rfl
                have hcz78_5 : wc.cell? ⟨gb140, 5, none⟩ = some (.int .i64 t138) := (blk_cell BK140.out 5).trans rfl
                have hcz78_6 : wc.cell? ⟨gb140, 6, none⟩ = some (.int .i64 t139) := (blk_cell BK140.out 6).trans rfl
                have hfz78_0 := blk_frozen BK140.out 0
                have hfz78_1 := blk_frozen BK140.out 1
                have hfz78_2 := blk_frozen BK140.out 2
                have hfz78_3 := blk_frozen BK140.out 3
                have hfz78_4 := blk_frozen BK140.out 4
                have hfz78_5 := blk_frozen BK140.out 5
                have hfz78_6 := blk_frozen BK140.out 6
                have hcz79_0 : wc.cell? ⟨gb132, 0, none⟩ = some (.int .u8 a0_0) := (blk_cell BK132.out 0).trans rfl
                have hcz79_1 : wc.cell? ⟨gb132, 1, none⟩ = some (.int .i64 a0_1) := (blk_cell BK132.out 1).trans rfl
                have hcz79_2 : wc.cell? ⟨gb132, 2, none⟩ = some (.int .i64 a0_2) := (blk_cell BK132.out 2).trans rfl
                have hcz79_3 : wc.cell? ⟨gb132, 3, none⟩ = some (.string a0_3) := (blk_cell BK132.out 3).trans rfl
                have hfz79_0 := blk_frozen BK132.out 0
                have hfz79_1 := blk_frozen BK132.out 1
                have hfz79_2 := blk_frozen BK132.out 2
                have hfz79_3 := blk_frozen BK132.out 3
                go_wp2
                go_meet
                case rel => exact ⟨_, (true), (by first | rfl | (simp; done) | (simp [*]; done)), H', ⟨by have := HJ3.out; first | omega | exact Nat.le_refl _⟩, ⟨by (with_reducible repeat (first | refine blk_drewN ?_ _ | refine blk_drew ?_ | refine blk_alloc ?_ _)); exact BK132.out⟩, ⟨by (with_reducible repeat (first | refine blk_drewN ?_ _ | refine blk_drew ?_ | refine blk_alloc ?_ _)); exact BK140.out⟩, ⟨by repeat (first | (with_reducible first | exact HB.out | apply below_alloc | apply pw_below_drewN | apply below_drew1 | refine below_set ?_ GE132.out | refine below_set ?_ GE140.out) | exact HB.out)⟩⟩
              · rw [if_neg c76] at H
                have c76b0 : decide (a1 ≤ a0_1) = false := decide_eq_false c76
                clear c76
                by_cases c80 : t134 = 2
                · rw [if_pos c80] at H
                  have c80b0 : (t134 == 2) = true := beq_iff_eq.mpr c80
                  have c80b1 : (t134 != 2) = false := bne_eq_false_iff_eq.mpr c80
                  clear c80
                  by_cases c81 : a0_1 ≥ 100
                  · rw [if_pos c81] at H
                    have c81b0 : decide (100 ≤ a0_1) = true := decide_eq_true c81
                    clear c81
                    have H' := Aside0.mk H
                    clear H
                    have hnb82 := NB140_132.out
                    have hnc82 := NB132_140.out
                    have hcz83_0 : wc.cell? ⟨gb140, 0, none⟩ = some (.string t133) := (blk_cell BK140.out 0).trans rfl
                    have hcz83_1 : wc.cell? ⟨gb140, 1, none⟩ = some (.int .i64 t134) := (blk_cell BK140.out 1).trans rfl
                    have hcz83_2 : wc.cell? ⟨gb140, 2, none⟩ = some (.bool t135) := (blk_cell BK140.out 2).trans rfl
                    have hcz83_3 : wc.cell? ⟨gb140, 3, none⟩ = some (.bool t136) := (blk_cell BK140.out 3).trans rfl
                    have hcz83_4 : wc.cell? ⟨gb140, 4, none⟩ = some (.bool t137) := (blk_cell BK140.out 4).trans rfl
                    have hcz83_5 : wc.cell? ⟨gb140, 5, none⟩ = some (.int .i64 t138) := (blk_cell BK140.out 5).trans rfl
                    have hcz83_6 : wc.cell? ⟨gb140, 6, none⟩ = some (.int .i64 t139) := (blk_cell BK140.out 6).trans rfl
                    have hfz83_0 := blk_frozen BK140.out 0
                    have hfz83_1 := blk_frozen BK140.out 1
                    have hfz83_2 := blk_frozen BK140.out 2
                    have hfz83_3 := blk_frozen BK140.out 3
                    have hfz83_4 := blk_frozen BK140.out 4
                    have hfz83_5 := blk_frozen BK140.out 5
                    have hfz83_6 := blk_frozen BK140.out 6
                    have hcz84_0 : wc.cell? ⟨gb132, 0, none⟩ = some (.int .u8 a0_0) := (blk_cell BK132.out 0).trans rfl
                    have hcz84_1 : wc.cell? ⟨gb132, 1, none⟩ = some (.int .i64 a0_1) := (blk_cell BK132.out 1).trans rfl
                    have hcz84_2 : wc.cell? ⟨gb132, 2, none⟩ = some (.int .i64 a0_2) := (blk_cell BK132.out 2).trans rfl
                    have hcz84_3 : wc.cell? ⟨gb132, 3, none⟩ = some (.string a0_3) := (blk_cell BK132.out 3).trans rfl
                    have hfz84_0 := blk_frozen BK132.out 0
                    have hfz84_1 := blk_frozen BK132.out 1
                    have hfz84_2 := blk_frozen BK132.out 2
                    have hfz84_3 := blk_frozen BK132.out 3
                    go_wp2
                    go_meet
                    case rel => exact ⟨_, (true), (by first | rfl | (simp; done) | (simp [*]; done)), H', ⟨by have := HJ3.out; first | omega | exact Nat.le_refl _⟩, ⟨by (with_reducible repeat (first | refine blk_drewN ?_ _ | refine blk_drew ?_ | refine blk_alloc ?_ _)); exact BK132.out⟩, ⟨by (with_reducible repeat (first | refine blk_drewN ?_ _ | refine blk_drew ?_ | refine blk_alloc ?_ _)); exact BK140.out⟩, ⟨by repeat (first | (with_reducible first | exact HB.out | apply below_alloc | apply pw_below_drewN | apply below_drew1 | refine below_set ?_ GE132.out | refine below_set ?_ GE140.out) | exact HB.out)⟩⟩
                  · rw [if_neg c81] at H
                    have c81b0 : decide (100 ≤ a0_1) = false := decide_eq_false c81
                    clear c81
                    by_cases c85 : t134 = 3
                    · rw [if_pos c85] at H
                      have c85b0 : (t134 == 3) = true := beq_iff_eq.mpr c85
                      have c85b1 : (t134 != 3) = false := bne_eq_false_iff_eq.mpr c85
                      clear c85
                      have H' := Aside0.mk H
                      clear H
                      have hnb86 := NB140_132.out
                      have hnc86 := NB132_140.out
                      have hcz87_0 : wc.cell? ⟨gb140, 0, none⟩ = some (.string t133) := (blk_cell BK140.out 0).trans rfl
                      have hcz87_1 : wc.cell? ⟨gb140, 1, none⟩ = some (.int .i64 t134) := (blk_cell BK140.out 1).trans rfl
                      have hcz87_2 : wc.cell? ⟨gb140, 2, none⟩ = some (.bool t135) := (blk_cell BK140.out 2).trans rfl
                      have hcz87_3 : wc.cell? ⟨gb140, 3, none⟩ = some (.bool t136) := (blk_cell BK140.out 3).trans rfl
                      have hcz87_4 : wc.cell? ⟨gb140, 4, none⟩ = some (.bool t137) := (blk_cell BK140.out 4).trans rfl
                      have hcz87_5 : wc.cell? ⟨gb140, 5, none⟩ = some (.int .i64 t138) := (blk_cell BK140.out 5).trans rfl
                      have hcz87_6 : wc.cell? ⟨gb140, 6, none⟩ = some (.int .i64 t139) := (blk_cell BK140.out 6).trans rfl
                      have hfz87_0 := blk_frozen BK140.out 0
                      have hfz87_1 := blk_frozen BK140.out 1
                      have hfz87_2 := blk_frozen BK140.out 2
                      have hfz87_3 := blk_frozen BK140.out 3
                      have hfz87_4 := blk_frozen BK140.out 4
                      have hfz87_5 := blk_frozen BK140.out 5
                      have hfz87_6 := blk_frozen BK140.out 6
                      have hcz88_0 : wc.cell? ⟨gb132, 0, none⟩ = some (.int .u8 a0_0) := (blk_cell BK132.out 0).trans rfl
                      have hcz88_1 : wc.cell? ⟨gb132, 1, none⟩ = some (.int .i64 a0_1) := (blk_cell BK132.out 1).trans rfl
                      have hcz88_2 : wc.cell? ⟨gb132, 2, none⟩ = some (.int .i64 a0_2) := (blk_cell BK132.out 2).trans rfl
                      have hcz88_3 : wc.cell? ⟨gb132, 3, none⟩ = some (.string a0_3) := (blk_cell BK132.out 3).trans rfl
                      have hfz88_0 := blk_frozen BK132.out 0
                      have hfz88_1 := blk_frozen BK132.out 1
                      have hfz88_2 := blk_frozen BK132.out 2
                      have hfz88_3 := blk_frozen BK132.out 3
                      go_wp2
                      go_meet
                      case rel => exact ⟨_, (decide (a0_1 > 2048)), (by first | rfl | (simp; done) | (simp [*]; done)), H', ⟨by have := HJ3.out; first | omega | exact Nat.le_refl _⟩, ⟨by (with_reducible repeat (first | refine blk_drewN ?_ _ | refine blk_drew ?_ | refine blk_alloc ?_ _)); exact BK132.out⟩, ⟨by (with_reducible repeat (first | refine blk_drewN ?_ _ | refine blk_drew ?_ | refine blk_alloc ?_ _)); exact BK140.out⟩, ⟨by repeat (first | (with_reducible first | exact HB.out | apply below_alloc | apply pw_below_drewN | apply below_drew1 | refine below_set ?_ GE132.out | refine below_set ?_ GE140.out) | exact HB.out)⟩⟩
                    · rw [if_neg c85] at H
                      have c85b0 : (t134 == 3) = false := beq_eq_false_iff_ne.mpr c85
                      have c85b1 : (t134 != 3) = true := bne_iff_ne.mpr c85
                      have H' := Aside0.mk H
                      clear H
                      have hnb89 := NB140_132.out
                      have hnc89 := NB132_140.out
                      have hcz90_0 : wc.cell? ⟨gb140, 0, none⟩ = some (.string t133) := (blk_cell BK140.out 0).trans rfl
                      have hcz90_1 : wc.cell? ⟨gb140, 1, none⟩ = some (.int .i64 t134) := (blk_cell BK140.out 1).trans rfl
                      have hcz90_2 : wc.cell? ⟨gb140, 2, none⟩ = some (.bool t135) := (blk_cell BK140.out 2).trans rfl
                      have hcz90_3 : wc.cell? ⟨gb140, 3, none⟩ = some (.bool t136) := (blk_cell BK140.out 3).trans rfl
                      have hcz90_4 : wc.cell? ⟨gb140, 4, none⟩ = some (.bool t137) := (blk_cell BK140.out 4).trans rfl
                      have hcz90_5 : wc.cell? ⟨gb140, 5, none⟩ = some (.int .i64 t138) := (blk_cell BK140.out 5).trans rfl
                      have hcz90_6 : wc.cell? ⟨gb140, 6, none⟩ = some (.int .i64 t139) := (blk_cell BK140.out 6).trans rfl
                      have hfz90_0 := blk_frozen BK140.out 0
                      have hfz90_1 := blk_frozen BK140.out 1
                      have hfz90_2 := blk_frozen BK140.out 2
                      have hfz90_3 := blk_frozen BK140.out 3
                      have hfz90_4 := blk_frozen BK140.out 4
                      have hfz90_5 := blk_frozen BK140.out 5
                      have hfz90_6 := blk_frozen BK140.out 6
                      have hcz91_0 : wc.cell? ⟨gb132, 0, none⟩ = some (.int .u8 a0_0) := (blk_cell BK132.out 0).trans rfl
                      have hcz91_1 : wc.cell? ⟨gb132, 1, none⟩ = some (.int .i64 a0_1) := (blk_cell BK132.out 1).trans rfl
                      have hcz91_2 : wc.cell? ⟨gb132, 2, none⟩ = some (.int .i64 a0_2) := (blk_cell BK132.out 2).trans rfl
                      have hcz91_3 : wc.cell? ⟨gb132, 3, none⟩ = some (.string a0_3) := (blk_cell BK132.out 3).trans rfl
                      have hfz91_0 := blk_frozen BK132.out 0
                      have hfz91_1 := blk_frozen BK132.out 1
                      have hfz91_2 := blk_frozen BK132.out 2
                      have hfz91_3 := blk_frozen BK132.out 3
                      go_wp2
                      go_meet
                      case rel => exact ⟨_, (false), (by first | rfl | (simp; done) | (simp [*]; done)), H', ⟨by have := HJ3.out; first | omega | exact Nat.le_refl _⟩, ⟨by (with_reducible repeat (first | refine blk_drewN ?_ _ | refine blk_drew ?_ | refine blk_alloc ?_ _)); exact BK132.out⟩, ⟨by (with_reducible repeat (first | refine blk_drewN ?_ _ | refine blk_drew ?_ | refine blk_alloc ?_ _)); exact BK140.out⟩, ⟨by repeat (first | (with_reducible first | exact HB.out | apply below_alloc | apply pw_below_drewN | apply below_drew1 | refine below_set ?_ GE132.out | refine below_set ?_ GE140.out) | exact HB.out)⟩⟩
                · rw [if_neg c80] at H
                  have c80b0 : (t134 == 2) = false := beq_eq_false_iff_ne.mpr c80
                  have c80b1 : (t134 != 2) = true := bne_iff_ne.mpr c80
                  by_cases c92 : t134 = 3
                  · rw [if_pos c92] at H
                    have c92b0 : (t134 == 3) = true := beq_iff_eq.mpr c92
                    have c92b1 : (t134 != 3) = false := bne_eq_false_iff_eq.mpr c92
                    clear c92
                    have H' := Aside0.mk H
                    clear H
                    have hnb93 := NB140_132.out
                    have hnc93 := NB132_140.out
                    have hcz94_0 : wc.cell? ⟨gb140, 0, none⟩ = some (.string t133) := (blk_cell BK140.out 0).trans rfl
                    have hcz94_1 : wc.cell? ⟨gb140, 1, none⟩ = some (.int .i64 t134) := (blk_cell BK140.out 1).trans rfl
                    have hcz94_2 : wc.cell? ⟨gb140, 2, none⟩ = some (.bool t135) := (blk_cell BK140.out 2).trans rfl
                    have hcz94_3 : wc.cell? ⟨gb140, 3, none⟩ = some (.bool t136) := (blk_cell BK140.out 3).trans rfl
                    have hcz94_4 : wc.cell? ⟨gb140, 4, none⟩ = some (.bool t137) := (blk_cell BK140.out 4).trans rfl
                    have hcz94_5 : wc.cell? ⟨gb140, 5, none⟩ = some (.int .i64 t138) := (blk_cell BK140.out 5).trans rfl
                    have hcz94_6 : wc.cell? ⟨gb140, 6, none⟩ = some (.int .i64 t139) := (blk_cell BK140.out 6).trans rfl
                    have hfz94_0 := blk_frozen BK140.out 0
                    have hfz94_1 := blk_frozen BK140.out 1
                    have hfz94_2 := blk_frozen BK140.out 2
                    have hfz94_3 := blk_frozen BK140.out 3
                    have hfz94_4 := blk_frozen BK140.out 4
                    have hfz94_5 := blk_frozen BK140.out 5
                    have hfz94_6 := blk_frozen BK140.out 6
                    have hcz95_0 : wc.cell? ⟨gb132, 0, none⟩ = some (.int .u8 a0_0) := (blk_cell BK132.out 0).trans rfl
                    have hcz95_1 : wc.cell? ⟨gb132, 1, none⟩ = some (.int .i64 a0_1) := (blk_cell BK132.out 1).trans rfl
                    have hcz95_2 : wc.cell? ⟨gb132, 2, none⟩ = some (.int .i64 a0_2) := (blk_cell BK132.out 2).trans rfl
                    have hcz95_3 : wc.cell? ⟨gb132, 3, none⟩ = some (.string a0_3) := (blk_cell BK132.out 3).trans rfl
                    have hfz95_0 := blk_frozen BK132.out 0
                    have hfz95_1 := blk_frozen BK132.out 1
                    have hfz95_2 := blk_frozen BK132.out 2
                    have hfz95_3 := blk_frozen BK132.out 3
                    go_wp2
                    go_meet
                    case rel => exact ⟨_, (decide (a0_1 > 2048)), (by first | rfl | (simp; done) | (simp [*]; done)), H', ⟨by have := HJ3.out; first | omega | exact Nat.le_refl _⟩, ⟨by (with_reducible repeat (first | refine blk_drewN ?_ _ | refine blk_drew ?_ | refine blk_alloc ?_ _)); exact BK132.out⟩, ⟨by (with_reducible repeat (first | refine blk_drewN ?_ _ | refine blk_drew ?_ | refine blk_alloc ?_ _)); exact BK140.out⟩, ⟨by repeat (first | (with_reducible first | exact HB.out | apply below_alloc | apply pw_below_drewN | apply below_drew1 | refine below_set ?_ GE132.out | refine below_set ?_ GE140.out) | exact HB.out)⟩⟩
                  · rw [if_neg c92] at H
                    have c92b0 : (t134 == 3) = false := beq_eq_false_iff_ne.mpr c92
                    have c92b1 : (t134 != 3) = true := bne_iff_ne.mpr c92
                    have H' := Aside0.mk H
                    clear H
                    have hnb96 := NB140_132.out
                    have hnc96 := NB132_140.out
                    have hcz97_0 : wc.cell? ⟨gb140, 0, none⟩ = some (.string t133) := (blk_cell BK140.out 0).trans rfl
                    have hcz97_1 : wc.cell? ⟨gb140, 1, none⟩ = some (.int .i64 t134) := (blk_cell BK140.out 1).trans rfl
                    have hcz97_2 : wc.cell? ⟨gb140, 2, none⟩ = some (.bool t135) := (blk_cell BK140.out 2).trans rfl
                    have hcz97_3 : wc.cell? ⟨gb140, 3, none⟩ = some (.bool t136) := (blk_cell BK140.out 3).trans rfl
                    have hcz97_4 : wc.cell? ⟨gb140, 4, none⟩ = some (.bool t137) := (blk_cell BK140.out 4).trans rfl
                    have hcz97_5 : wc.cell? ⟨gb140, 5, none⟩ = some (.int .i64 t138) := (blk_cell BK140.out 5).trans rfl
                    have hcz97_6 : wc.cell? ⟨gb140, 6, none⟩ = some (.int .i64 t139) := (blk_cell BK140.out 6).trans rfl
                    have hfz97_0 := blk_frozen BK140.out 0
                    have hfz97_1 := blk_frozen BK140.out 1
                    have hfz97_2 := blk_frozen BK140.out 2
                    have hfz97_3 := blk_frozen BK140.out 3
                    have hfz97_4 := blk_frozen BK140.out 4
                    have hfz97_5 := blk_frozen BK140.out 5
                    have hfz97_6 := blk_frozen BK140.out 6
                    have hcz98_0 : wc.cell? ⟨gb132, 0, none⟩ = some (.int .u8 a0_0) := (blk_cell BK132.out 0).trans rfl
                    have hcz98_1 : wc.cell? ⟨gb132, 1, none⟩ = some (.int .i64 a0_1) := (blk_cell BK132.out 1).trans rfl
                    have hcz98_2 : wc.cell? ⟨gb132, 2, none⟩ = some (.int .i64 a0_2) := (blk_cell BK132.out 2).trans rfl
                    have hcz98_3 : wc.cell? ⟨gb132, 3, none⟩ = some (.string a0_3) := (blk_cell BK132.out 3).trans rfl
                    have hfz98_0 := blk_frozen BK132.out 0
                    have hfz98_1 := blk_frozen BK132.out 1
                    have hfz98_2 := blk_frozen BK132.out 2
                    have hfz98_3 := blk_frozen BK132.out 3
                    go_wp2
                    go_meet
                    case rel => exact ⟨_, (false), (by first | rfl | (simp; done) | (simp [*]; done)), H', ⟨by have := HJ3.out; first | omega | exact Nat.le_refl _⟩, ⟨by (with_reducible repeat (first | refine blk_drewN ?_ _ | refine blk_drew ?_ | refine blk_alloc ?_ _)); exact BK132.out⟩, ⟨by (with_reducible repeat (first | refine blk_drewN ?_ _ | refine blk_drew ?_ | refine blk_alloc ?_ _)); exact BK140.out⟩, ⟨by repeat (first | (with_reducible first | exact HB.out | apply below_alloc | apply pw_below_drewN | apply below_drew1 | refine below_set ?_ GE132.out | refine below_set ?_ GE140.out) | exact HB.out)⟩⟩
            · rw [if_neg c75] at H
              have c75b0 : (t134 == 1) = false := beq_eq_false_iff_ne.mpr c75
              have c75b1 : (t134 != 1) = true := bne_iff_ne.mpr c75
              by_cases c99 : t134 = 2
              · rw [if_pos c99] at H
                have c99b0 : (t134 == 2) = true := beq_iff_eq.mpr c99
                have c99b1 : (t134 != 2) = false := bne_eq_false_iff_eq.mpr c99
                clear c99
                by_cases c100 : a0_1 ≥ 100
                · rw [if_pos c100] at H
                  have c100b0 : decide (100 ≤ a0_1) = true := decide_eq_true c100
                  clear c100
                  have H' := Aside0.mk H
                  clear H
                  have hnb101 := NB140_132.out
                  have hnc101 := NB132_140.out
                  have hcz102_0 : wc.cell? ⟨gb140, 0, none⟩ = some (.string t133) := (blk_cell BK140.out 0).trans rfl
                  have hcz102_1 : wc.cell? ⟨gb140, 1, none⟩ = some (.int .i64 t134) := (blk_cell BK140.out 1).trans rfl
                  have hcz102_2 : wc.cell? ⟨gb140, 2, none⟩ = some (.bool t135) := (blk_cell BK140.out 2).trans rfl
                  have hcz102_3 : wc.cell? ⟨gb140, 3, none⟩ = some (.bool t136) := (blk_cell BK140.out 3).trans rfl
                  have hcz102_4 : wc.cell? ⟨gb140, 4, none⟩ = some (.bool t137) := (blk_cell BK140.out 4).trans rfl
                  have hcz102_5 : wc.cell? ⟨gb140, 5, none⟩ = some (.int .i64 t138) := (blk_cell BK140.out 5).trans rfl
                  have hcz102_6 : wc.cell? ⟨gb140, 6, none⟩ = some (.int .i64 t139) := (blk_cell BK140.out 6).trans rfl
                  have hfz102_0 := blk_frozen BK140.out 0
                  have hfz102_1 := blk_frozen BK140.out 1
                  have hfz102_2 := blk_frozen BK140.out 2
                  have hfz102_3 := blk_frozen BK140.out 3
                  have hfz102_4 := blk_frozen BK140.out 4
                  have hfz102_5 := blk_frozen BK140.out 5
                  have hfz102_6 := blk_frozen BK140.out 6
                  have hcz103_0 : wc.cell? ⟨gb132, 0, none⟩ = some (.int .u8 a0_0) := (blk_cell BK132.out 0).trans rfl
                  have hcz103_1 : wc.cell? ⟨gb132, 1, none⟩ = some (.int .i64 a0_1) := (blk_cell BK132.out 1).trans rfl
                  have hcz103_2 : wc.cell? ⟨gb132, 2, none⟩ = some (.int .i64 a0_2) := (blk_cell BK132.out 2).trans rfl
                  have hcz103_3 : wc.cell? ⟨gb132, 3, none⟩ = some (.string a0_3) := (blk_cell BK132.out 3).trans rfl
                  have hfz103_0 := blk_frozen BK132.out 0
                  have hfz103_1 := blk_frozen BK132.out 1
                  have hfz103_2 := blk_frozen BK132.out 2
                  have hfz103_3 := blk_frozen BK132.out 3
                  go_wp2
                  go_meet
                  case rel => exact ⟨_, (true), (by first | rfl | (simp; done) | (simp [*]; done)), H', ⟨by have := HJ3.out; first | omega | exact Nat.le_refl _⟩, ⟨by (with_reducible repeat (first | refine blk_drewN ?_ _ | refine blk_drew ?_ | refine blk_alloc ?_ _)); exact BK132.out⟩, ⟨by (with_reducible repeat (first | refine blk_drewN ?_ _ | refine blk_drew ?_ | refine blk_alloc ?_ _)); exact BK140.out⟩, ⟨by repeat (first | (with_reducible first | exact HB.out | apply below_alloc | apply pw_below_drewN | apply below_drew1 | refine below_set ?_ GE132.out | refine below_set ?_ GE140.out) | exact HB.out)⟩⟩
                · rw [if_neg c100] at H
                  have c100b0 : decide (100 ≤ a0_1) = false := decide_eq_false c100
                  clear c100
                  by_cases c104 : t134 = 3
                  · rw [if_pos c104] at H
                    have c104b0 : (t134 == 3) = true := beq_iff_eq.mpr c104
                    have c104b1 : (t134 != 3) = false := bne_eq_false_iff_eq.mpr c104
                    clear c104
                    have H' := Aside0.mk H
                    clear H
                    have hnb105 := NB140_132.out
                    have hnc105 := NB132_140.out
                    have hcz106_0 : wc.cell? ⟨gb140, 0, none⟩ = some (.string t133) := (blk_cell BK140.out 0).trans rfl
                    have hcz106_1 : wc.cell? ⟨gb140, 1, none⟩ = some (.int .i64 t134) := (blk_cell BK140.out 1).trans rfl
                    have hcz106_2 : wc.cell? ⟨gb140, 2, none⟩ = some (.bool t135) := (blk_cell BK140.out 2).trans rfl
                    have hcz106_3 : wc.cell? ⟨gb140, 3, none⟩ = some (.bool t136) := (blk_cell BK140.out 3).trans rfl
                    have hcz106_4 : wc.cell? ⟨gb140, 4, none⟩ = some (.bool t137) := (blk_cell BK140.out 4).trans rfl
                    have hcz106_5 : wc.cell? ⟨gb140, 5, none⟩ = some (.int .i64 t138) := (blk_cell BK140.out 5).trans rfl
                    have hcz106_6 : wc.cell? ⟨gb140, 6, none⟩ = some (.int .i64 t139) := (blk_cell BK140.out 6).trans rfl
                    have hfz106_0 := blk_frozen BK140.out 0
                    have hfz106_1 := blk_frozen BK140.out 1
                    have hfz106_2 := blk_frozen BK140.out 2
                    have hfz106_3 := blk_frozen BK140.out 3
                    have hfz106_4 := blk_frozen BK140.out 4
                    have hfz106_5 := blk_frozen BK140.out 5
                    have hfz106_6 := blk_frozen BK140.out 6
                    have hcz107_0 : wc.cell? ⟨gb132, 0, none⟩ = some (.int .u8 a0_0) := (blk_cell BK132.out 0).trans rfl
                    have hcz107_1 : wc.cell? ⟨gb132, 1, none⟩ = some (.int .i64 a0_1) := (blk_cell BK132.out 1).trans rfl
                    have hcz107_2 : wc.cell? ⟨gb132, 2, none⟩ = some (.int .i64 a0_2) := (blk_cell BK132.out 2).trans rfl
                    have hcz107_3 : wc.cell? ⟨gb132, 3, none⟩ = some (.string a0_3) := (blk_cell BK132.out 3).trans rfl
                    have hfz107_0 := blk_frozen BK132.out 0
                    have hfz107_1 := blk_frozen BK132.out 1
                    have hfz107_2 := blk_frozen BK132.out 2
                    have hfz107_3 := blk_frozen BK132.out 3
                    go_wp2
                    go_meet
                    case rel => exact ⟨_, (decide (a0_1 > 2048)), (by first | rfl | (simp; done) | (simp [*]; done)), H', ⟨by have := HJ3.out; first | omega | exact Nat.le_refl _⟩, ⟨by (with_reducible repeat (first | refine blk_drewN ?_ _ | refine blk_drew ?_ | refine blk_alloc ?_ _)); exact BK132.out⟩, ⟨by (with_reducible repeat (first | refine blk_drewN ?_ _ | refine blk_drew ?_ | refine blk_alloc ?_ _)); exact BK140.out⟩, ⟨by repeat (first | (with_reducible first | exact HB.out | apply below_alloc | apply pw_below_drewN | apply below_drew1 | refine below_set ?_ GE132.out | refine below_set ?_ GE140.out) | exact HB.out)⟩⟩
                  · rw [if_neg c104] at H
                    have c104b0 : (t134 == 3) = false := beq_eq_false_iff_ne.mpr c104
                    have c104b1 : (t134 != 3) = true := bne_iff_ne.mpr c104
                    have H' := Aside0.mk H
                    clear H
                    have hnb108 := NB140_132.out
                    have hnc108 := NB132_140.out
                    have hcz109_0 : wc.cell? ⟨gb140, 0, none⟩ = some (.string t133) := (blk_cell BK140.out 0).trans rfl
                    have hcz109_1 : wc.cell? ⟨gb140, 1, none⟩ = some (.int .i64 t134) := (blk_cell BK140.out 1).trans rfl
                    have hcz109_2 : wc.cell? ⟨gb140, 2, none⟩ = some (.bool t135) := (blk_cell BK140.out 2).trans rfl
                    have hcz109_3 : wc.cell? ⟨gb140, 3, none⟩ = some (.bool t136) := (blk_cell BK140.out 3).trans rfl
                    have hcz109_4 : wc.cell? ⟨gb140, 4, none⟩ = some (.bool t137) := (blk_cell BK140.out 4).trans rfl
                    have hcz109_5 : wc.cell? ⟨gb140, 5, none⟩ = some (.int .i64 t138) := (blk_cell BK140.out 5).trans rfl
                    have hcz109_6 : wc.cell? ⟨gb140, 6, none⟩ = some (.int .i64 t139) := (blk_cell BK140.out 6).trans rfl
                    have hfz109_0 := blk_frozen BK140.out 0
                    have hfz109_1 := blk_frozen BK140.out 1
                    have hfz109_2 := blk_frozen BK140.out 2
                    have hfz109_3 := blk_frozen BK140.out 3
                    have hfz109_4 := blk_frozen BK140.out 4
                    have hfz109_5 := blk_frozen BK140.out 5
                    have hfz109_6 := blk_frozen BK140.out 6
                    have hcz110_0 : wc.cell? ⟨gb132, 0, none⟩ = some (.int .u8 a0_0) := (blk_cell BK132.out 0).trans rfl
                    have hcz110_1 : wc.cell? ⟨gb132, 1, none⟩ = some (.int .i64 a0_1) := (blk_cell BK132.out 1).trans rfl
                    have hcz110_2 : wc.cell? ⟨gb132, 2, none⟩ = some (.int .i64 a0_2) := (blk_cell BK132.out 2).trans rfl
                    have hcz110_3 : wc.cell? ⟨gb132, 3, none⟩ = some (.string a0_3) := (blk_cell BK132.out 3).trans rfl
                    have hfz110_0 := blk_frozen BK132.out 0
                    have hfz110_1 := blk_frozen BK132.out 1
                    have hfz110_2 := blk_frozen BK132.out 2
                    have hfz110_3 := blk_frozen BK132.out 3
                    go_wp2
                    go_meet
                    case rel => exact ⟨_, (false), (by first | rfl | (simp; done) | (simp [*]; done)), H', ⟨by have := HJ3.out; first | omega | exact Nat.le_refl _⟩, ⟨by (with_reducible repeat (first | refine blk_drewN ?_ _ | refine blk_drew ?_ | refine blk_alloc ?_ _)); exact BK132.out⟩, ⟨by (with_reducible repeat (first | refine blk_drewN ?_ _ | refine blk_drew ?_ | refine blk_alloc ?_ _)); exact BK140.out⟩, ⟨by repeat (first | (with_reducible first | exact HB.out | apply below_alloc | apply pw_below_drewN | apply below_drew1 | refine below_set ?_ GE132.out | refine below_set ?_ GE140.out) | exact HB.out)⟩⟩
              · rw [if_neg c99] at H
                have c99b0 : (t134 == 2) = false := beq_eq_false_iff_ne.mpr c99
                have c99b1 : (t134 != 2) = true := bne_iff_ne.mpr c99
                by_cases c111 : t134 = 3
                · rw [if_pos c111] at H
                  have c111b0 : (t134 == 3) = true := beq_iff_eq.mpr c111
                  have c111b1 : (t134 != 3) = false := bne_eq_false_iff_eq.mpr c111
                  clear c111
                  have H' := Aside0.mk H
                  clear H
                  have hnb112 := NB140_132.out
                  have hnc112 := NB132_140.out
                  have hcz113_0 : wc.cell? ⟨gb140, 0, none⟩ = some (.string t133) := (blk_cell BK140.out 0).trans rfl
                  have hcz113_1 : wc.cell? ⟨gb140, 1, none⟩ = some (.int .i64 t134) := (blk_cell BK140.out 1).trans rfl
                  have hcz113_2 : wc.cell? ⟨gb140, 2, none⟩ = some (.bool t135) := (blk_cell BK140.out 2).trans rfl
                  have hcz113_3 : wc.cell? ⟨gb140, 3, none⟩ = some (.bool t136) := (blk_cell BK140.out 3).trans rfl
                  have hcz113_4 : wc.cell? ⟨gb140, 4, none⟩ = some (.bool t137) := (blk_cell BK140.out 4).trans rfl
                  have hcz113_5 : wc.cell? ⟨gb140, 5, none⟩ = some (.int .i64 t138) := (blk_cell BK140.out 5).trans rfl
                  have hcz113_6 : wc.cell? ⟨gb140, 6, none⟩ = some (.int .i64 t139) := (blk_cell BK140.out 6).trans rfl
                  have hfz113_0 := blk_frozen BK140.out 0
                  have hfz113_1 := blk_frozen BK140.out 1
                  have hfz113_2 := blk_frozen BK140.out 2
                  have hfz113_3 := blk_frozen BK140.out 3
                  have hfz113_4 := blk_frozen BK140.out 4
                  have hfz113_5 := blk_frozen BK140.out 5
                  have hfz113_6 := blk_frozen BK140.out 6
                  have hcz114_0 : wc.cell? ⟨gb132, 0, none⟩ = some (.int .u8 a0_0) := (blk_cell BK132.out 0).trans rfl
                  have hcz114_1 : wc.cell? ⟨gb132, 1, none⟩ = some (.int .i64 a0_1) := (blk_cell BK132.out 1).trans rfl
                  have hcz114_2 : wc.cell? ⟨gb132, 2, none⟩ = some (.int .i64 a0_2) := (blk_cell BK132.out 2).trans rfl
                  have hcz114_3 : wc.cell? ⟨gb132, 3, none⟩ = some (.string a0_3) := (blk_cell BK132.out 3).trans rfl
                  have hfz114_0 := blk_frozen BK132.out 0
                  have hfz114_1 := blk_frozen BK132.out 1
                  have hfz114_2 := blk_frozen BK132.out 2
                  have hfz114_3 := blk_frozen BK132.out 3
                  go_wp2
                  go_meet
                  case rel => exact ⟨_, (decide (a0_1 > 2048)), (by first | rfl | (simp; done) | (simp [*]; done)), H', ⟨by have := HJ3.out; first | omega | exact Nat.le_refl _⟩, ⟨by (with_reducible repeat (first | refine blk_drewN ?_ _ | refine blk_drew ?_ | refine blk_alloc ?_ _)); exact BK132.out⟩, ⟨by (with_reducible repeat (first | refine blk_drewN ?_ _ | refine blk_drew ?_ | refine blk_alloc ?_ _)); exact BK140.out⟩, ⟨by repeat (first | (with_reducible first | exact HB.out | apply below_alloc | apply pw_below_drewN | apply below_drew1 | refine below_set ?_ GE132.out | refine below_set ?_ GE140.out) | exact HB.out)⟩⟩
                · rw [if_neg c111] at H
                  have c111b0 : (t134 == 3) = false := beq_eq_false_iff_ne.mpr c111
                  have c111b1 : (t134 != 3) = true := bne_iff_ne.mpr c111
                  have H' := Aside0.mk H
                  clear H
                  have hnb115 := NB140_132.out
                  have hnc115 := NB132_140.out
                  have hcz116_0 : wc.cell? ⟨gb140, 0, none⟩ = some (.string t133) := (blk_cell BK140.out 0).trans rfl
                  have hcz116_1 : wc.cell? ⟨gb140, 1, none⟩ = some (.int .i64 t134) := (blk_cell BK140.out 1).trans rfl
                  have hcz116_2 : wc.cell? ⟨gb140, 2, none⟩ = some (.bool t135) := (blk_cell BK140.out 2).trans rfl
                  have hcz116_3 : wc.cell? ⟨gb140, 3, none⟩ = some (.bool t136) := (blk_cell BK140.out 3).trans rfl
                  have hcz116_4 : wc.cell? ⟨gb140, 4, none⟩ = some (.bool t137) := (blk_cell BK140.out 4).trans rfl
                  have hcz116_5 : wc.cell? ⟨gb140, 5, none⟩ = some (.int .i64 t138) := (blk_cell BK140.out 5).trans rfl
                  have hcz116_6 : wc.cell? ⟨gb140, 6, none⟩ = some (.int .i64 t139) := (blk_cell BK140.out 6).trans rfl
                  have hfz116_0 := blk_frozen BK140.out 0
                  have hfz116_1 := blk_frozen BK140.out 1
                  have hfz116_2 := blk_frozen BK140.out 2
                  have hfz116_3 := blk_frozen BK140.out 3
                  have hfz116_4 := blk_frozen BK140.out 4
                  have hfz116_5 := blk_frozen BK140.out 5
                  have hfz116_6 := blk_frozen BK140.out 6
                  go_wp2
                  go_meet
                  case rel => exact ⟨_, (false), (by first | rfl | (simp; done) | (simp [*]; done)), H', ⟨by have := HJ3.out; first | omega | exact Nat.le_refl _⟩, ⟨by (with_reducible repeat (first | refine blk_drewN ?_ _ | refine blk_drew ?_ | refine blk_alloc ?_ _)); exact BK132.out⟩, ⟨by (with_reducible repeat (first | refine blk_drewN ?_ _ | refine blk_drew ?_ | refine blk_alloc ?_ _)); exact BK140.out⟩, ⟨by repeat (first | (with_reducible first | exact HB.out | apply below_alloc | apply pw_below_drewN | apply below_drew1 | refine below_set ?_ GE132.out | refine below_set ?_ GE140.out) | exact HB.out)⟩⟩
        case rest =>
          clear HC26
          try clear c1
          try clear c2
          try clear p2
          try clear c5
          try clear c6
          try clear c7
          try clear c8
          try clear c9
          try clear c10
          try clear c11
          try clear c27
          try clear c27b0
          try clear c27b1
          try clear c28
          try clear c28b0
          try clear c28b1
          try clear c53
          try clear c53b0
          try clear c53b1
          try clear c54
          try clear c54b0
          try clear c55
          try clear c58
          try clear c58b0
          try clear c58b1
          try clear c59
          try clear c62
          try clear c65
          try clear c65b0
          try clear c65b1
          try clear c66
          try clear c69
          try clear c72
          try clear c75
          try clear c75b0
          try clear c75b1
          try clear c76
          try clear c76b0
          try clear c77
          try clear c80
          try clear c80b0
          try clear c80b1
          try clear c81
          try clear c81b0
          try clear c82
          try clear c85
          try clear c85b0
          try clear c85b1
          try clear c86
          try clear c89
          try clear c92
          try clear c92b0
          try clear c92b1
          try clear c93
          try clear c96
          try clear c99
          try clear c99b0
          try clear c99b1
          try clear c100
          try clear c100b0
          try clear c101
          try clear c104
          try clear c104b0
          try clear c104b1
          try clear c105
          try clear c108
          try clear c111
          try clear c111b0
          try clear c111b1
          try clear c112
          try clear c115
          try clear hcz102_0
          try clear hcz102_1
          try clear hcz102_2
          try clear hcz102_3
          try clear hcz102_4
          try clear hcz102_5
          try clear hcz102_6
          try clear hcz103_0
          try clear hcz103_1
          try clear hcz103_2
          try clear hcz103_3
          try clear hcz106_0
          try clear hcz106_1
          try clear hcz106_2
          try clear hcz106_3
          try clear hcz106_4
          try clear hcz106_5
          try clear hcz106_6
          try clear hcz107_0
          try clear hcz107_1
          try clear hcz107_2
          try clear hcz107_3
          try clear hcz109_0
          try clear hcz109_1
          try clear hcz109_2
          try clear hcz109_3
          try clear hcz109_4
          try clear hcz109_5
          try clear hcz109_6
          try clear hcz110_0
          try clear hcz110_1
          try clear hcz110_2
          try clear hcz110_3
          try clear hcz113_0
          try clear hcz113_1
          try clear hcz113_2
          try clear hcz113_3
          try clear hcz113_4
          try clear hcz113_5
          try clear hcz113_6
          try clear hcz114_0
          try clear hcz114_1
          try clear hcz114_2
          try clear hcz114_3
          try clear hcz116_0
          try clear hcz116_1
          try clear hcz116_2
          try clear hcz116_3
          try clear hcz116_4
          try clear hcz116_5
          try clear hcz116_6
          try clear hcz56_0
          try clear hcz56_1
          try clear hcz56_2
          try clear hcz56_3
          try clear hcz56_4
          try clear hcz56_5
          try clear hcz56_6
          try clear hcz57_0
          try clear hcz57_1
          try clear hcz57_2
          try clear hcz57_3
          try clear hcz60_0
          try clear hcz60_1
          try clear hcz60_2
          try clear hcz60_3
          try clear hcz60_4
          try clear hcz60_5
          try clear hcz60_6
          try clear hcz61_0
          try clear hcz61_1
          try clear hcz61_2
          try clear hcz61_3
          try clear hcz63_0
          try clear hcz63_1
          try clear hcz63_2
          try clear hcz63_3
          try clear hcz63_4
          try clear hcz63_5
          try clear hcz63_6
          try clear hcz64_0
          try clear hcz64_1
          try clear hcz64_2
          try clear hcz64_3
          try clear hcz67_0
          try clear hcz67_1
          try clear hcz67_2
          try clear hcz67_3
          try clear hcz67_4
          try clear hcz67_5
          try clear hcz67_6
          try clear hcz68_0
          try clear hcz68_1
          try clear hcz68_2
          try clear hcz68_3
          try clear hcz70_0
          try clear hcz70_1
          try clear hcz70_2
          try clear hcz70_3
          try clear hcz70_4
          try clear hcz70_5
          try clear hcz70_6
          try clear hcz71_0
          try clear hcz71_1
          try clear hcz71_2
          try clear hcz71_3
          try clear hcz73_0
          try clear hcz73_1
          try clear hcz73_2
          try clear hcz73_3
          try clear hcz73_4
          try clear hcz73_5
          try clear hcz73_6
          try clear hcz74_0
          try clear hcz74_1
          try clear hcz74_2
          try clear hcz74_3
          try clear hcz78_0
          try clear hcz78_1
          try clear hcz78_2
          try clear hcz78_3
          try clear hcz78_4
          try clear hcz78_5
          try clear hcz78_6
          try clear hcz79_0
          try clear hcz79_1
          try clear hcz79_2
          try clear hcz79_3
          try clear hcz83_0
          try clear hcz83_1
          try clear hcz83_2
          try clear hcz83_3
          try clear hcz83_4
          try clear hcz83_5
          try clear hcz83_6
          try clear hcz84_0
          try clear hcz84_1
          try clear hcz84_2
          try clear hcz84_3
          try clear hcz87_0
          try clear hcz87_1
          try clear hcz87_2
          try clear hcz87_3
          try clear hcz87_4
          try clear hcz87_5
          try clear hcz87_6
          try clear hcz88_0
          try clear hcz88_1
          try clear hcz88_2
          try clear hcz88_3
          try clear hcz90_0
          try clear hcz90_1
          try clear hcz90_2
          try clear hcz90_3
          try clear hcz90_4
          try clear hcz90_5
          try clear hcz90_6
          try clear hcz91_0
          try clear hcz91_1
          try clear hcz91_2
          try clear hcz91_3
          try clear hcz94_0
          try clear hcz94_1
          try clear hcz94_2
          try clear hcz94_3
          try clear hcz94_4
          try clear hcz94_5
          try clear hcz94_6
          try clear hcz95_0
          try clear hcz95_1
          try clear hcz95_2
          try clear hcz95_3
          try clear hcz97_0
          try clear hcz97_1
          try clear hcz97_2
          try clear hcz97_3
          try clear hcz97_4
          try clear hcz97_5
          try clear hcz97_6
          try clear hcz98_0
          try clear hcz98_1
          try clear hcz98_2
          try clear hcz98_3
          try clear hfz102_0
          try clear hfz102_1
          try clear hfz102_2
          try clear hfz102_3
          try clear hfz102_4
          try clear hfz102_5
          try clear hfz102_6
          try clear hfz103_0
          try clear hfz103_1
          try clear hfz103_2
          try clear hfz103_3
          try clear hfz106_0
          try clear hfz106_1
          try clear hfz106_2
          try clear hfz106_3
          try clear hfz106_4
          try clear hfz106_5
          try clear hfz106_6
          try clear hfz107_0
          try clear hfz107_1
          try clear hfz107_2
          try clear hfz107_3
          try clear hfz109_0
          try clear hfz109_1
          try clear hfz109_2
          try clear hfz109_3
          try clear hfz109_4
          try clear hfz109_5
          try clear hfz109_6
          try clear hfz110_0
          try clear hfz110_1
          try clear hfz110_2
          try clear hfz110_3
          try clear hfz113_0
          try clear hfz113_1
          try clear hfz113_2
          try clear hfz113_3
          try clear hfz113_4
          try clear hfz113_5
          try clear hfz113_6
          try clear hfz114_0
          try clear hfz114_1
          try clear hfz114_2
          try clear hfz114_3
          try clear hfz116_0
          try clear hfz116_1
          try clear hfz116_2
          try clear hfz116_3
          try clear hfz116_4
          try clear hfz116_5
          try clear hfz116_6
          try clear hfz56_0
          try clear hfz56_1
          try clear hfz56_2
          try clear hfz56_3
          try clear hfz56_4
          try clear hfz56_5
          try clear hfz56_6
          try clear hfz57_0
          try clear hfz57_1
          try clear hfz57_2
          try clear hfz57_3
          try clear hfz60_0
          try clear hfz60_1
          try clear hfz60_2
          try clear hfz60_3
          try clear hfz60_4
          try clear hfz60_5
          try clear hfz60_6
          try clear hfz61_0
          try clear hfz61_1
          try clear hfz61_2
          try clear hfz61_3
          try clear hfz63_0
          try clear hfz63_1
          try clear hfz63_2
          try clear hfz63_3
          try clear hfz63_4
          try clear hfz63_5
          try clear hfz63_6
          try clear hfz64_0
          try clear hfz64_1
          try clear hfz64_2
          try clear hfz64_3
          try clear hfz67_0
          try clear hfz67_1
          try clear hfz67_2
          try clear hfz67_3
          try clear hfz67_4
          try clear hfz67_5
          try clear hfz67_6
          try clear hfz68_0
          try clear hfz68_1
          try clear hfz68_2
          try clear hfz68_3
          try clear hfz70_0
          try clear hfz70_1
          try clear hfz70_2
          try clear hfz70_3
          try clear hfz70_4
          try clear hfz70_5
          try clear hfz70_6
          try clear hfz71_0
          try clear hfz71_1
          try clear hfz71_2
          try clear hfz71_3
          try clear hfz73_0
          try clear hfz73_1
          try clear hfz73_2
          try clear hfz73_3
          try clear hfz73_4
          try clear hfz73_5
          try clear hfz73_6
          try clear hfz74_0
          try clear hfz74_1
          try clear hfz74_2
          try clear hfz74_3
          try clear hfz78_0
          try clear hfz78_1
          try clear hfz78_2
          try clear hfz78_3
          try clear hfz78_4
          try clear hfz78_5
          try clear hfz78_6
          try clear hfz79_0
          try clear hfz79_1
          try clear hfz79_2
          try clear hfz79_3
          try clear hfz83_0
          try clear hfz83_1
          try clear hfz83_2
          try clear hfz83_3
          try clear hfz83_4
          try clear hfz83_5
          try clear hfz83_6
          try clear hfz84_0
          try clear hfz84_1
          try clear hfz84_2
          try clear hfz84_3
          try clear hfz87_0
          try clear hfz87_1
          try clear hfz87_2
          try clear hfz87_3
          try clear hfz87_4
          try clear hfz87_5
          try clear hfz87_6
          try clear hfz88_0
          try clear hfz88_1
          try clear hfz88_2
          try clear hfz88_3
          try clear hfz90_0
          try clear hfz90_1
          try clear hfz90_2
          try clear hfz90_3
          try clear hfz90_4
          try clear hfz90_5
          try clear hfz90_6
          try clear hfz91_0
          try clear hfz91_1
          try clear hfz91_2
          try clear hfz91_3
          try clear hfz94_0
          try clear hfz94_1
          try clear hfz94_2
          try clear hfz94_3
          try clear hfz94_4
          try clear hfz94_5
          try clear hfz94_6
          try clear hfz95_0
          try clear hfz95_1
          try clear hfz95_2
          try clear hfz95_3
          try clear hfz97_0
          try clear hfz97_1
          try clear hfz97_2
          try clear hfz97_3
          try clear hfz97_4
          try clear hfz97_5
          try clear hfz97_6
          try clear hfz98_0
          try clear hfz98_1
          try clear hfz98_2
          try clear hfz98_3
          obtain ⟨kq, x65_25, rfl, HA, HJ25, BK132, BK140, HB⟩ := hcut
          cases kq with
          | zero => exact absurd HA.out (by simp [prompterref14_Right.j1])
          | succ kj25 =>
            have H := HA.out
            clear HA
            simp only [prompterref14_Right.j1] at H
            by_cases c117 : x65_25 = true
            · subst c117
              have H1 : (some false) = some r := by rw [if_pos rfl] at H; exact H
              clear H
              have H := H1
              clear H1
              obtain rfl := Option.some.inj H
              go_wp2
              go_ret
              exact ⟨by first | rfl | (simp [errW_none, errW_some] <;> rfl) | (simp [*, errW_none, errW_some] <;> rfl), by repeat (first | (with_reducible first | exact HB.out | apply below_alloc | apply pw_below_drewN | apply below_drew1 | refine below_set ?_ GE132.out | refine below_set ?_ GE140.out) | exact HB.out)⟩
            · replace c117 := Bool.eq_false_iff.mpr c117
              subst c117
              have H1 : (if t136 = true then (some (decide ((a0_3.size : Int) ≤ 4095))) else (if t137 = true then ((prompterref04_Name.f kj25 a0_3).bind fun t141 => (some t141)) else (some (a0_3.toList == ([] : List UInt8))))) = some r := by rw [if_neg (show ¬ (false = true) by decide)] at H; exact H
              clear H
              have H := H1
              clear H1
              by_cases c118 : t136 = true
              · subst c118
                have H1 : (some (decide ((a0_3.size : Int) ≤ 4095))) = some r := by rw [if_pos rfl] at H; exact H
                clear H
                have H := H1
                clear H1
                obtain rfl := Option.some.inj H
                have hnb119 := NB140_132.out
                have hnc119 := NB132_140.out
                have hcz120_0 : wc.cell? ⟨gb140, 0, none⟩ = some (.string t133) := (blk_cell BK140.out 0).trans rfl
                have hcz120_1 : wc.cell? ⟨gb140, 1, none⟩ = some (.int .i64 t134) := (blk_cell BK140.out 1).trans rfl
                have hcz120_2 : wc.cell? ⟨gb140, 2, none⟩ = some (.bool t135) := (blk_cell BK140.out 2).trans rfl
                have hcz120_3 : wc.cell? ⟨gb140, 3, none⟩ = some (.bool true) := (blk_cell BK140.out 3).trans rfl
                have hcz120_4 : wc.cell? ⟨gb140, 4, none⟩ = some (.bool t137) := (blk_cell BK140.out 4).trans rfl
                have hcz120_5 : wc.cell? ⟨gb140, 5, none⟩ = some (.int .i64 t138) := (blk_cell BK140.out 5).trans rfl
                have hcz120_6 : wc.cell? ⟨gb140, 6, none⟩ = some (.int .i64 t139) := (blk_cell BK140.out 6).trans rfl
                have hfz120_0 := blk_frozen BK140.out 0
                have hfz120_1 := blk_frozen BK140.out 1
                have hfz120_2 := blk_frozen BK140.out 2
                have hfz120_3 := blk_frozen BK140.out 3
                have hfz120_4 := blk_frozen BK140.out 4
                have hfz120_5 := blk_frozen BK140.out 5
                have hfz120_6 := blk_frozen BK140.out 6
                have hcz121_0 : wc.cell? ⟨gb132, 0, none⟩ = some (.int .u8 a0_0) := (blk_cell BK132.out 0).trans rfl
                have hcz121_1 : wc.cell? ⟨gb132, 1, none⟩ = some (.int .i64 a0_1) := (blk_cell BK132.out 1).trans rfl
                have hcz121_2 : wc.cell? ⟨gb132, 2, none⟩ = some (.int .i64 a0_2) := (blk_cell BK132.out 2).trans rfl
                have hcz121_3 : wc.cell? ⟨gb132, 3, none⟩ = some (.string a0_3) := (blk_cell BK132.out 3).trans rfl
                have hfz121_0 := blk_frozen BK132.out 0
                have hfz121_1 := blk_frozen BK132.out 1
                have hfz121_2 := blk_frozen BK132.out 2
                have hfz121_3 := blk_frozen BK132.out 3
                go_wp2
                go_ret
                exact ⟨by first | rfl | (simp [errW_none, errW_some] <;> rfl) | (simp [*, errW_none, errW_some] <;> rfl), by repeat (first | (with_reducible first | exact HB.out | apply below_alloc | apply pw_below_drewN | apply below_drew1 | refine below_set ?_ GE132.out | refine below_set ?_ GE140.out) | exact HB.out)⟩
              · replace c118 := Bool.eq_false_iff.mpr c118
                subst c118
                have H1 : (if t137 = true then ((prompterref04_Name.f kj25 a0_3).bind fun t141 => (some t141)) else (some (a0_3.toList == ([] : List UInt8)))) = some r := by rw [if_neg (show ¬ (false = true) by decide)] at H; exact H
                clear H
                have H := H1
                clear H1
                by_cases c122 : t137 = true
                · subst c122
                  have H1 : ((prompterref04_Name.f kj25 a0_3).bind fun t141 => (some t141)) = some r := by rw [if_pos rfl] at H; exact H
                  clear H
                  have H := H1
                  clear H1
                  replace H := Option.bind_eq_some_iff.mp H
                  obtain ⟨t141, A1230, H⟩ := H
                  replace H : (some t141) = some r := H
                  have A123 := Aside0.mk A1230
                  clear A1230
                  obtain rfl := Option.some.inj H
                  have hnb124 := NB140_132.out
                  have hnc124 := NB132_140.out
                  have hcz125_0 : wc.cell? ⟨gb140, 0, none⟩ = some (.string t133) := (blk_cell BK140.out 0).trans rfl
                  have hcz125_1 : wc.cell? ⟨gb140, 1, none⟩ = some (.int .i64 t134) := (blk_cell BK140.out 1).trans rfl
                  have hcz125_2 : wc.cell? ⟨gb140, 2, none⟩ = some (.bool t135) := (blk_cell BK140.out 2).trans rfl
                  have hcz125_3 : wc.cell? ⟨gb140, 3, none⟩ = some (.bool false) := (blk_cell BK140.out 3).trans rfl
                  have hcz125_4 : wc.cell? ⟨gb140, 4, none⟩ = some (.bool true) := (blk_cell BK140.out 4).trans rfl
                  have hcz125_5 : wc.cell? ⟨gb140, 5, none⟩ = some (.int .i64 t138) := (blk_cell BK140.out 5).trans rfl
                  have hcz125_6 : wc.cell? ⟨gb140, 6, none⟩ = some (.int .i64 t139) := (blk_cell BK140.out 6).trans rfl
                  have hfz125_0 := blk_frozen BK140.out 0
                  have hfz125_1 := blk_frozen BK140.out 1
                  have hfz125_2 := blk_frozen BK140.out 2
                  have hfz125_3 := blk_frozen BK140.out 3
                  have hfz125_4 := blk_frozen BK140.out 4
                  have hfz125_5 := blk_frozen BK140.out 5
                  have hfz125_6 := blk_frozen BK140.out 6
                  have hcz126_0 : wc.cell? ⟨gb132, 0, none⟩ = some (.int .u8 a0_0) := (blk_cell BK132.out 0).trans rfl
                  have hcz126_1 : wc.cell? ⟨gb132, 1, none⟩ = some (.int .i64 a0_1) := (blk_cell BK132.out 1).trans rfl
                  have hcz126_2 : wc.cell? ⟨gb132, 2, none⟩ = some (.int .i64 a0_2) := (blk_cell BK132.out 2).trans rfl
                  have hcz126_3 : wc.cell? ⟨gb132, 3, none⟩ = some (.string a0_3) := (blk_cell BK132.out 3).trans rfl
                  have hfz126_0 := blk_frozen BK132.out 0
                  have hfz126_1 := blk_frozen BK132.out 1
                  have hfz126_2 := blk_frozen BK132.out 2
                  have hfz126_3 := blk_frozen BK132.out 3
                  go_wp2_with (first | ((with_reducible refine gate_callee (f := 35) rfl ?_); refine goesL_ (some 76) rfl rfl Try.func35 (by kernel_rfl) rfl #[.string a0_3] rfl (by (try simp only [List.map_toArray, List.map_cons, List.map_nil]); first | done | rfl | (simp only [List.length_drop, List.length_take]; rfl)) ?_; (with_reducible refine (prompterref04_Name.calls kj25 a0_3 t141 _ A123.out).mono ?_); rintro e w' ⟨rfl, ⟨nd, rfl⟩⟩; refine ⟨_, rfl, ?_⟩))
                  go_ret
                  exact ⟨by first | rfl | (simp [errW_none, errW_some] <;> rfl) | (simp [*, errW_none, errW_some] <;> rfl), by repeat (first | (with_reducible first | exact HB.out | apply below_alloc | apply pw_below_drewN | apply below_drew1 | refine below_set ?_ GE132.out | refine below_set ?_ GE140.out) | exact HB.out)⟩
                · replace c122 := Bool.eq_false_iff.mpr c122
                  subst c122
                  have H1 : (some (a0_3.toList == ([] : List UInt8))) = some r := by rw [if_neg (show ¬ (false = true) by decide)] at H; exact H
                  clear H
                  have H := H1
                  clear H1
                  obtain rfl := Option.some.inj H
                  have hnb127 := NB140_132.out
                  have hnc127 := NB132_140.out
                  have hcz128_0 : wc.cell? ⟨gb140, 0, none⟩ = some (.string t133) := (blk_cell BK140.out 0).trans rfl
                  have hcz128_1 : wc.cell? ⟨gb140, 1, none⟩ = some (.int .i64 t134) := (blk_cell BK140.out 1).trans rfl
                  have hcz128_2 : wc.cell? ⟨gb140, 2, none⟩ = some (.bool t135) := (blk_cell BK140.out 2).trans rfl
                  have hcz128_3 : wc.cell? ⟨gb140, 3, none⟩ = some (.bool false) := (blk_cell BK140.out 3).trans rfl
                  have hcz128_4 : wc.cell? ⟨gb140, 4, none⟩ = some (.bool false) := (blk_cell BK140.out 4).trans rfl
                  have hcz128_5 : wc.cell? ⟨gb140, 5, none⟩ = some (.int .i64 t138) := (blk_cell BK140.out 5).trans rfl
                  have hcz128_6 : wc.cell? ⟨gb140, 6, none⟩ = some (.int .i64 t139) := (blk_cell BK140.out 6).trans rfl
                  have hfz128_0 := blk_frozen BK140.out 0
                  have hfz128_1 := blk_frozen BK140.out 1
                  have hfz128_2 := blk_frozen BK140.out 2
                  have hfz128_3 := blk_frozen BK140.out 3
                  have hfz128_4 := blk_frozen BK140.out 4
                  have hfz128_5 := blk_frozen BK140.out 5
                  have hfz128_6 := blk_frozen BK140.out 6
                  have hcz129_0 : wc.cell? ⟨gb132, 0, none⟩ = some (.int .u8 a0_0) := (blk_cell BK132.out 0).trans rfl
                  have hcz129_1 : wc.cell? ⟨gb132, 1, none⟩ = some (.int .i64 a0_1) := (blk_cell BK132.out 1).trans rfl
                  have hcz129_2 : wc.cell? ⟨gb132, 2, none⟩ = some (.int .i64 a0_2) := (blk_cell BK132.out 2).trans rfl
                  have hcz129_3 : wc.cell? ⟨gb132, 3, none⟩ = some (.string a0_3) := (blk_cell BK132.out 3).trans rfl
                  have hfz129_0 := blk_frozen BK132.out 0
                  have hfz129_1 := blk_frozen BK132.out 1
                  have hfz129_2 := blk_frozen BK132.out 2
                  have hfz129_3 := blk_frozen BK132.out 3
                  go_wp2
                  go_ret
                  exact ⟨by first | rfl | (simp [errW_none, errW_some] <;> rfl) | (simp [*, errW_none, errW_some] <;> rfl), by repeat (first | (with_reducible first | exact HB.out | apply below_alloc | apply pw_below_drewN | apply below_drew1 | refine below_set ?_ GE132.out | refine below_set ?_ GE140.out) | exact HB.out)⟩

end Go.Proofs.Ytcpjjnikehcleaa.PChk
