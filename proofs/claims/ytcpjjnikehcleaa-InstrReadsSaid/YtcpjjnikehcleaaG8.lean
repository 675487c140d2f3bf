/- look, walked: its walk is born. -/
import Derived.Test.YtcpjjnikehcleaaGg
import Derived.Test.YtcpjjnikehcleaaRa
import Derived.Deep.OwnRows
import Derived.Laws.OwnMore
namespace Go.Proofs.Ytcpjjnikehcleaa.Gw
open Go.RowKit PChk Hq Lk Rt Go.Proofs.YtcpjjnikehcleaaW.PrintWords Go.Proofs.YtcpjjnikehcleaaW.PrintLast Go.Proofs.YtcpjjnikehcleaaW.PrintMore
open Go.Maps (Keyed)
set_option linter.unusedVariables false
set_option linter.unusedSimpArgs false

theorem make28 (n : Nat) (h : n ≤ 8192) (W : World) : (Instr.makeSlice 28 (.int .i64 (n : Int)) (.int .i64 (n : Int))).run Try.prog W = .ok (.slice (some ⟨W.heap.size, 0, none⟩) n n) (W.alloc (.cells (madeCells #[.int .i64 0] n) 3)) :=
  run_make_row' 28 3 (.int .i64 0) 8 Try.underlying28 info3 rfl .i64 .i64 n (by omega) (by omega) W
def zeros (n : Nat) : List Int := List.replicate n 0
theorem row28 (B : Nat) (W : World) (n : Nat) (hB : B ≤ W.heap.size) (hn : n ≤ 8192) :
    (W.alloc (.cells (madeCells #[.int .i64 0] n) 3)).ownsRow B 3 1 (.slice (some ⟨W.heap.size, 0, none⟩) n n) n (ints (zeros n)) := by
  have h := World.ownsRow_lit (base := B) (e := 3) (size := 1) W (madeCells #[.int .i64 0] n) n hB (by unfold maxLen; omega) (by rw [size_madeCells, Nat.mul_one])
  rw [toList_madeCells_one] at h
  rw [show ints (zeros n) = List.replicate n (.int .i64 0) from by simp [ints, zeros]]
  exact h
theorem new_any (B : Nat) (w : World) (hB : B ≤ w.heap.size) : Calls Try.prog 30 #[] w fun e w' => ∃ y, e = .returned (.pointer (some ⟨y.g, 0, none⟩)) ∧ HAt B w' y newS ∧ Ch (fun _ => False) w w' := by
  have hu94 := Try.underlying94
  have hu92 := Try.underlying92
  have hu91 := Try.underlying91
  have hmm := make_map
  go_enter Try.func30, Try.ntmps30
  go_wp2
  go_ret
  exact ⟨_, rfl, born w _ hB, ((Ch.refl _ w).alloc _).alloc _⟩
/-- A walk, just made. -/
theorem wat_new {w0 W : World} {xs : List S36} {A : Option Addr} {c gd cd : Nat} {h : Lay} (hc : Kd.C k36 w0 A xs.length xs) (hr : W.ownsRow w0.heap.size 3 1 (.slice (some ⟨gd, 0, none⟩) xs.length cd) xs.length (ints (zeros xs.length)))
    (hh : HAt w0.heap.size W h newS) (hw : Ch (fun _ => False) w0 W) :
    WAt w0 (W.alloc (.cells #[.slice A xs.length c, .slice (some ⟨gd, 0, none⟩) xs.length cd, .pointer (some ⟨h.g, 0, none⟩)] 59)) ⟨W.heap.size, A, c, gd, cd, h⟩ xs (zeros xs.length) newS := by
  have ha : Ch (fun _ => False) W (W.alloc (.cells #[.slice A xs.length c, .slice (some ⟨gd, 0, none⟩) xs.length cd, .pointer (some ⟨h.g, 0, none⟩)] 59)) := (Ch.refl (fun _ => False) W).alloc _
  exact ⟨blk_new W _, hc, ownsRow_ch hr ha (fun _ _ h => h), hh.same ha, hw.size, (hw.below (Nat.le_refl _) (fun _ h => h.elim)).trans (ha.below hw.size (fun _ h => h.elim))⟩
/-- Where look stands behind its first line. -/
def Born (w : World) (A : Option Addr) (c : Nat) (xs : List S36) (v : Value) (w' : World) : Prop := ∃ y : WL, v = .pointer (some ⟨y.g, 0, none⟩) ∧ y.A = A ∧ y.c = c ∧ WAt w w' y xs (zeros xs.length) newS
/-- Behind look. -/
def LookPost (w : World) (xs : List S36) (p : Int) (e : Ending) (w' : World) : Prop :=
  match lookP xs p with
  | .inl d => ∃ y s, e = .returned (.tuple #[.pointer (some ⟨y.g, 0, none⟩), .int .i64 0, .int .i64 0]) ∧ WAt w w' y xs d s
  | .inr (i, er) => e = .returned (.tuple #[.pointer none, .int .i64 i, .int .i64 er]) ∧ Below w.heap.size w w'
theorem look_no {w : World} {xs : List S36} {p i er : Int} (h : lookP xs p = .inr (i, er)) {w' : World} (hb : Below w.heap.size w w') : LookPost w xs p (.returned (.tuple #[.pointer none, .int .i64 i, .int .i64 er])) w' := by
  unfold LookPost; rw [h]; exact ⟨rfl, hb⟩
theorem look_yes {w : World} {xs : List S36} {p : Int} {d : List Int} (h : lookP xs p = .inl d) {w' : World} {y : WL} {s : HS} (hW : WAt w w' y xs d s) : LookPost w xs p (.returned (.tuple #[.pointer (some ⟨y.g, 0, none⟩), .int .i64 0, .int .i64 0])) w' := by
  unfold LookPost; rw [h]; exact ⟨y, s, rfl, hW⟩
/-- Before each round of look's loop. -/
structure LInv (w : World) (A : Option Addr) (c : Nat) (xs : List S36) (i : Nat) (g : Nat) (w' : World) : Prop where
  at_ : ∃ y : WL, y.g = g ∧ y.A = A ∧ y.c = c ∧ WAt w w' y xs (negs i ++ zeros (xs.length - i)) newS
  ok : ∀ j, j < i → okN xs.length (rd_T36 xs j) = true
set_option maxHeartbeats 4000000 in
set_option maxRecDepth 100000 in
theorem look_calls (w : World) (A : Option Addr) (c : Nat) (xs : List S36) (p : Int) (hc : Kd.C k36 w A xs.length xs) (hU : Rt.Bytes xs) :
    Calls Try.prog 19 #[.slice A xs.length c, .int .i64 p] w (LookPost w xs p) := by
  have hu59 := Try.underlying59
  have hu22 := Try.underlying22
  have hu36 := Try.underlying36
  have hu28 := Try.underlying28
  have HC := Aside0.mk hc
  have HU := Aside0.mk hU
  obtain ⟨n, hN⟩ : ∃ n, xs.length = n := ⟨_, rfl⟩
  have HN := Aside0.mk hN
  rw [hN]
  clear hc hU hN
  by_cases hp : p < 0
  · have d1 : decide (p < 0) = true := decide_eq_true hp
    have hl : lookP xs p = .inr (0, 1) := by unfold lookP; rw [if_pos (Or.inl hp)]
    have HL := Aside0.mk hl
    clear hl
    go_enter Try.func19, Try.ntmps19
    go_wp2
    go_ret3
    exact look_no HL.out (Below.refl _ _)
  · have d1 : decide (p < 0) = false := decide_eq_false hp
    by_cases hp2 : 100 < p
    · have d2 : decide (100 < p) = true := decide_eq_true hp2
      have hl : lookP xs p = .inr (0, 1) := by unfold lookP; rw [if_pos (Or.inr hp2)]
      have HL := Aside0.mk hl
      clear hl
      go_enter Try.func19, Try.ntmps19
      go_wp2
      go_ret3
      exact look_no HL.out (Below.refl _ _)
    · have d2 : decide (100 < p) = false := decide_eq_false hp2
      by_cases hn : 8192 < n
      · have d3 : decide (8192 < (n : Int)) = true := decide_eq_true (by omega)
        have d3' : decide (8192 < n) = true := decide_eq_true hn
        have hl : lookP xs p = .inr (0, 2) := by unfold lookP; rw [if_neg (by omega), if_pos (by have := HN.out; omega)]
        have HL := Aside0.mk hl
        clear hl
        go_enter Try.func19, Try.ntmps19
        go_wp2
        go_ret3
        exact look_no HL.out (Below.refl _ _)
      · have d3 : decide (8192 < (n : Int)) = false := decide_eq_false (by omega)
        have d3' : decide (8192 < n) = false := decide_eq_false hn
        by_cases hn0 : n = 0
        · have d4 : ((n : Int) == 0) = true := beq_iff_eq.mpr (by omega)
          have d4' : decide (n = 0) = true := decide_eq_true hn0
          have hl : lookP xs p = .inr (0, 3) := by unfold lookP; rw [if_neg (by omega), if_neg (by have := HN.out; omega), if_pos (by have := HN.out; omega)]
          have HL := Aside0.mk hl
          clear hl hn0
          go_enter Try.func19, Try.ntmps19
          go_wp2
          go_ret3
          exact look_no HL.out (Below.refl _ _)
        · have d4 : ((n : Int) == 0) = false := beq_eq_false_iff_ne.mpr (by omega)
          have d4' : decide (n = 0) = false := decide_eq_false hn0
          have hms := make28 n (by omega)
          have HM := Aside0.mk (show lookP xs p = match badAt xs with | some i => .inr ((i : Int), 3) | none => match lookL (nodN xs) (frN xs) xs.length with | .inr i => .inr ((i : Int), 140) | .inl d => .inl d from by
            unfold lookP; rw [if_neg (by omega), if_neg (by have := HN.out; omega), if_neg (by have := HN.out; omega)]; rfl)
          have H8 := Aside0.mk (show n ≤ 8192 by omega)
          have H0 := Aside0.mk hn0
          clear hp hp2 hn hn0
          go_enter Try.func19, Try.ntmps19
          go_upto_region 7 with (fail)
          go_cut [7] (fun v7 wc => Aside0 (Born w A c xs v7 wc))
          case first =>
            go_region_with (first | (go_at_call 30; go_loud (refine (new_any w.heap.size _ (by simp)).mono ?_; rintro e w1 ⟨y, rfl, hH, hC⟩; have H1 := Aside0.mk hH; have C1 := Aside0.mk hC; clear hH hC)))
            · go_wp2
              go_meet
              case rel =>
                have e := HN.out
                subst e
                exact ⟨⟨_, rfl, rfl, rfl, wat_new HC.out (ownsRow_ch (row28 _ w xs.length (Nat.le_refl _) H8.out) ((((Ch.refl (fun _ => False) _)).drew).trans C1.out (fun _ _ h => h)) (fun _ _ h => h)) H1.out ((((Ch.refl (fun _ => False) w).alloc _).drew).trans C1.out (fun _ _ h => h))⟩⟩
            · go_wp2
              go_meet
              case rel =>
                have e := HN.out
                subst e
                have hc1 := ((Ch.refl (fun _ => False) w).drew).trans C1.out (fun _ _ h => h)
                have hw := wat_new (c := c) HC.out (row28 w.heap.size w1 xs.length hc1.size H8.out) (H1.out.same ((Ch.refl (fun _ => False) w1).alloc _)) (hc1.alloc _)
                rw [World.size_alloc] at hw
                exact ⟨⟨_, rfl, rfl, rfl, hw⟩⟩
          case rest =>
            obtain ⟨y0, rfl, hA0, hc0, hW0⟩ := hcut.out
            have W0 := Aside0.mk hW0
            have A0 := Aside0.mk hA0
            have C0 := Aside0.mk hc0
            obtain ⟨g, hg⟩ : ∃ g, y0.g = g := ⟨_, rfl⟩
            rw [hg]
            have G0 := Aside0.mk hg
            clear hcut hW0 hA0 hc0 hg hms
            go_wp2
            go_loopg [35] n (fun kq v35 w' => ∃ i : Nat, v35 = .int .i64 (i : Int) ∧ Aside0 (i + kq = n) ∧ Aside0 (LInv w A c xs i g w'))
            case atStart => exact ⟨0, rfl, ⟨by omega⟩, ⟨⟨⟨y0, G0.out, A0.out, C0.out, by simpa [negs] using W0.out⟩, fun j hj => by omega⟩⟩⟩
            case round =>
              obtain ⟨i, rfl, hk, hI⟩ := hrel
              clear W0 A0 C0 G0
              by_cases hi : i < n
              · have e1 : decide ((i : Int) < (n : Int)) = true := decide_eq_true (by omega)
                have e2 : decide (i < n) = true := decide_eq_true hi
                have q1 : (0 ≤ (i : Int)) = True := eq_true (by omega)
                have q2 : ((i : Int) < (n : Int)) = True := eq_true (by omega)
                obtain ⟨y, hg, hA, hcc, hW⟩ := hI.out.at_
                obtain ⟨ad, hA2, a0, a1, a2, a3⟩ := hW.code_at (i := i) (by have := HN.out; omega)
                have hA3 : A = some ad := hA.symm.trans hA2
                subst hA3
                have hUi := HU.out i (by have := HN.out; omega)
                obtain ⟨b, hb⟩ : ∃ b, okN xs.length (rd_T36 xs (i : Int)) = b := ⟨_, rfl⟩
                have RC := Aside0.mk (fun w1 => instr_right.calls 40 (rd_T36 xs (i : Int)).f0 (rd_T36 xs (i : Int)).f1 (rd_T36 xs (i : Int)).f2 (rd_T36 xs (i : Int)).f3 (n : Int) b w1 (by rw [right_is hUi.1 hUi.2 (n : Int) (by omega), ← hb, HN.out]))
                have YW := Aside0.mk hW
                have YG := Aside0.mk hg
                have YA := Aside0.mk hA
                have YC := Aside0.mk hcc
                have HB := Aside0.mk hb
                have HI := Aside0.mk hi
                have wi : IntKind.i64.wrap ((i : Int) + 1) = ((i + 1 : Nat) : Int) := by rw [IntKind.wrap_i64]; have := H8.out; omega
                obtain ⟨m, rfl⟩ : ∃ m, gk = m + 1 := ⟨gk - 1, by have := hk.out; omega⟩
                clear hW hg hA hcc hA2 hUi hb hi
                generalize hx : rd_T36 xs (i : Int) = x at *
                have HX := Aside0.mk hx
                clear hx
                cases b with
                | false =>
                  go_wp2_with (go_at_call 31; go_loud (refine (RC.out _).mono ?_; rintro e w1 ⟨rfl, hb⟩; have C1 := Aside0.mk (((Ch.refl (fun _ => False) wr).alloc (.cells #[.int .u8 x.f0, .int .i64 x.f1, .int .i64 x.f2, .string x.f3] 36)).trans (Ch.of_below (S := fun _ => False) hb (fun k hk hle => by omega)) (fun _ _ hk => hk)); clear hb))
                  go_ret3
                  refine look_no ?_ (YW.out.same C1.out).below
                  rw [HM.out, badAt_some.2 ⟨show i < xs.length from by have := HN.out; have := HI.out; omega, by rw [HX.out]; exact HB.out, hI.out.ok⟩]
                | true =>
                  go_wp2_with (go_at_call 31; go_loud (refine (RC.out _).mono ?_; rintro e w1 ⟨rfl, hb⟩; have C1 := Aside0.mk (((Ch.refl (fun _ => False) wr).alloc (.cells #[.int .u8 x.f0, .int .i64 x.f1, .int .i64 x.f2, .string x.f3] 36)).trans (Ch.of_below (S := fun _ => False) hb (fun k hk hle => by omega)) (fun _ _ hk => hk)); clear hb; have H2 := Aside0.mk (YW.out.same C1.out); have g1 := (blk_cell H2.out.blk 1).trans rfl; rw [YG.out, HN.out] at g1; have c1 := H2.out.depth (i := i) (by have := HN.out; have := HI.out; omega); have f1 := H2.out.thaw i))
                  go_roundg m
                  case measure => omega
                  case rel => exact ⟨i + 1, rfl, ⟨by have := hk.out; omega⟩, ⟨⟨⟨y, YG.out, YA.out, YC.out, by
                    have h3 := H2.out.put i (-1)
                    rwa [show (negs i ++ zeros (xs.length - i)).set i (-1) = negs (i + 1) ++ zeros (xs.length - (i + 1)) from by
                      rw [List.set_append_right _ _ (by simp [negs]), show i - (negs i).length = 0 from by simp [negs], show xs.length - i = (xs.length - (i + 1)) + 1 from by have := HN.out; have := HI.out; omega, zeros, List.replicate_succ, List.set_cons_zero, negs, negs, List.replicate_succ', List.append_assoc]
                      rfl] at h3⟩, fun j hj => by
                    by_cases e : j = i
                    · subst e; rw [HX.out]; exact HB.out
                    · exact hI.out.ok j (by omega)⟩⟩⟩
              · have e1 : decide ((i : Int) < (n : Int)) = false := decide_eq_false (by omega)
                have e2 : decide (i < n) = false := decide_eq_false hi
                obtain ⟨y, hg, hA, hcc, hW⟩ := hI.out.at_
                have hin : i = xs.length := by have := hk.out; have := HN.out; omega
                rw [show negs i ++ zeros (xs.length - i) = negs xs.length from by rw [hin, Nat.sub_self]; simp [zeros]] at hW
                have hbad : badAt xs = none := badAt_none.2 (fun j hj => hI.out.ok j (by omega))
                have hG := good HU.out (by have := HN.out; have := H8.out; omega) (by have := HN.out; have := H0.out; omega) hbad
                have HM2 := HM.out
                rw [hbad] at HM2
                simp only at HM2
                rw [lookL_is] at HM2
                have AC := all_calls w wr y xs hW hG.len hG.pos hG.fit
                rw [hg] at AC
                obtain ⟨r, hr⟩ := all_some xs
                rw [hr] at HM2
                have AC := Aside0.mk AC
                have HR := Aside0.mk hr
                have HG := Aside0.mk hG
                have YG := Aside0.mk hg
                clear hg hA hcc hW hin hbad hG hr
                cases r with
                | inr b =>
                  have hl : lookP xs p = .inr ((b : Int), 140) := HM2
                  have HL := Aside0.mk hl
                  have f1 : decide ((b : Int) < 0) = false := decide_eq_false (by omega)
                  have f2 : decide (0 ≤ (b : Int)) = true := decide_eq_true (by omega)
                  have f3 : decide ((b : Int) ≥ 0) = true := decide_eq_true (by omega)
                  clear HM2 hl
                  go_wp2_with (go_at_call 32; go_loud (refine AC.out.mono ?_; rintro e w1 ⟨h1, d1, s1, rfl, -, hW1, -, -⟩; have W1 := Aside0.mk hW1; clear hW1; rw [HR.out, show allV (some (Sum.inr b)) = (b : Int) from rfl]))
                  go_ret3
                  exact look_no HL.out W1.out.below
                | inl d =>
                  have hD := (all_done HG.out HR.out).2.2
                  have HD := Aside0.mk hD
                  clear hD
                  cases hc : circL (frN xs) xs.length d with
                  | some b =>
                    simp only [hc] at HM2
                    have hl : lookP xs p = .inr ((b : Int), 140) := HM2
                    have HL := Aside0.mk hl
                    have HCi := Aside0.mk hc
                    have f1 : decide ((b : Int) < 0) = false := decide_eq_false (by omega)
                    have f2 : decide (0 ≤ (b : Int)) = true := decide_eq_true (by omega)
                    have f3 : decide ((b : Int) ≥ 0) = true := decide_eq_true (by omega)
                    clear HM2 hl hc
                    go_wp2_with (first
                      | (go_at_call 32; go_loud (refine AC.out.mono ?_; rintro e w1 ⟨h1, d1, s1, rfl, hd1, hW1, -, -⟩; obtain rfl := hd1 d HR.out; have W1 := Aside0.mk hW1; have CC := Aside0.mk (circle_calls w w1 { y with h := h1 } xs d1 s1 W1.out HG.out.len HG.out.fit HD.out); clear hW1 hd1; rw [HR.out, show allV (some (Sum.inl d1)) = -1 from rfl]))
                      | (go_at_call 33; go_loud (have CC2 := CC.out; rw [show ({ y with h := h1 } : WL).g = g from YG.out] at CC2; refine CC2.mono ?_; clear CC2; rintro e w2 ⟨rfl, rfl⟩; rw [HCi.out, show circV (some b) = (b : Int) from rfl])))
                    go_ret3
                    exact look_no HL.out W1.out.below
                  | none =>
                    simp only [hc] at HM2
                    have hl : lookP xs p = .inl d := HM2
                    have HL := Aside0.mk hl
                    have HCi := Aside0.mk hc
                    clear HM2 hl hc
                    go_wp2_with (first
                      | (go_at_call 32; go_loud (refine AC.out.mono ?_; rintro e w1 ⟨h1, d1, s1, rfl, hd1, hW1, -, -⟩; obtain rfl := hd1 d HR.out; have W1 := Aside0.mk hW1; have CC := Aside0.mk (circle_calls w w1 { y with h := h1 } xs d1 s1 W1.out HG.out.len HG.out.fit HD.out); clear hW1 hd1; rw [HR.out, show allV (some (Sum.inl d1)) = -1 from rfl]))
                      | (go_at_call 33; go_loud (have CC2 := CC.out; rw [show ({ y with h := h1 } : WL).g = g from YG.out] at CC2; refine CC2.mono ?_; clear CC2; rintro e w2 ⟨rfl, rfl⟩; rw [HCi.out, show circV none = -1 from rfl])))
                    go_ret3
                    have hy := look_yes HL.out W1.out
                    dsimp only at hy
                    rw [YG.out] at hy
                    exact hy
end Go.Proofs.Ytcpjjnikehcleaa.Gw
