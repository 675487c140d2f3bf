/- The heap's steps, walked: lay. -/
import Derived.Test.YtcpjjnikehcleaaH0
namespace Go.Proofs.Ytcpjjnikehcleaa.Hq
open Go.RowKit Go.Proofs.YtcpjjnikehcleaaW.PrintWords Go.Proofs.YtcpjjnikehcleaaW.PrintLast Go.Proofs.YtcpjjnikehcleaaW.PrintMore
open Go.Maps (Keyed)
set_option linter.unusedVariables false
set_option linter.unusedSimpArgs false

def ik (n : Int) : Lit := .int .i64 n
def W64 (n : Int) : Prop := (Lit.int .i64 n).wf = true
theorem w64_nat {n : Nat} (h : n < 1000000) : W64 (n : Int) := by simp [W64, Lit.wf, IntKind.min, IntKind.max, IntKind.bits, IntKind.signed]; omega
/-- A thing is laid at a place. -/
def layS (s : HS) (i : Nat) (x : Th) : HS := { s with l := s.l.set i x, D := s.D.put (ik x.num) (.lit (.int .i64 (i : Int))) }
theorem HAt.rowed {B : Nat} {W V : World} {y : Lay} {s : HS} (h : HAt B W y s) {l : List Th} (hl : l.length = s.l.length) (hc : Ch (fun k => y.v.ownBlock = some k) W V) (hr : V.ownsRow B 115 3 y.v s.l.length (flat l)) : HAt B V y { s with l := l } := by
  have ha := h.apart
  refine ⟨hc.keep h.blk (fun e => (ha.2 _ e).1 rfl), ownsMap_ch h.map hc (fun e => (ha.2 _ e).2 rfl), ?_, h.bg, h.bm⟩
  show V.ownsRow B 115 3 y.v l.length (flat l)
  rw [hl]; exact hr
theorem HAt.mapped {B : Nat} {W V : World} {y : Lay} {s : HS} (h : HAt B W y s) {n : Nat} {D : DataW Nat} (hc : Ch (fun k => k = y.gm) W V) (hm : V.ownsMap Try.prog 3 (plainElem Try.prog 3) y.gm n D) : HAt B V y { s with D := D } := by
  have ha := h.apart
  exact ⟨hc.keep h.blk ha.1, ownsMap_tight hm, ownsRow_ch h.row hc (fun k hk => (ha.2 k hk).2), h.bg, h.bm⟩
set_option maxHeartbeats 2000000 in
set_option maxRecDepth 100000 in
theorem lay_calls (B : Nat) (w : World) (y : Lay) (s : HS) (i : Nat) (x : Th) (h : HAt B w y s) (hi : i < s.l.length) (hx : W64 x.num) (hl : s.l.length < 1000000) (hD : Maps.size s.D < 1000000) :
    Calls Try.prog 64 #[.pointer (some ⟨y.g, 0, none⟩), .int .i64 (i : Int), .agg #[.int .i64 x.key, .int .i64 x.num, .int .i64 x.v]] w (Stay B y (layS s i x) (.tuple #[]) w) := by
  have hu94 := Try.underlying94
  have hu92 := Try.underlying92
  have hu115 := Try.underlying115
  obtain ⟨g, cap, hv, a0, a1, a2, fz, hgy, hgm, hgl⟩ := h.at_ hi
  have g1 := (blk_cell h.blk 1).trans rfl
  rw [hv] at g1
  have hblt := blk_lt h.blk
  have p1 : (0 ≤ (i : Int)) = True := eq_true (by omega)
  have p2 : ((i : Int) < (s.l.length : Int)) = True := eq_true (by omega)
  have H := Aside0.mk h
  have HX := Aside0.mk hx
  have HV := Aside0.mk hv
  have HI := Aside0.mk hi
  have HL := Aside0.mk hl
  have HD := Aside0.mk hD
  clear h hx hv hi hl hD
  go_enter Try.func64, Try.ntmps64
  go_wp2
  go_region
  go_wp2
  have hs3 : Ch (fun k => y.v.ownBlock = some k) w (((w.setCell ⟨g, i * 3, none⟩ (.int .i64 x.key)).setCell ⟨g, i * 3 + 1, none⟩ (.int .i64 x.num)).setCell ⟨g, i * 3 + 2, none⟩ (.int .i64 x.v)) := by
    have hb : y.v.ownBlock = some g := by rw [HV.out]; rfl
    exact (((Ch.refl _ w).set (.inl hb) _).set (.inl hb) _).set (.inl hb) _
  have hr3 := row_set (by have := H.out.row; rw [HV.out] at this; exact this) rfl HI.out x
  rw [← HV.out] at hr3
  have H1 := H.out.rowed (l := s.l.set i x) (by simp) hs3 hr3
  have hz : (((w.setCell ⟨g, i * 3, none⟩ (.int .i64 x.key)).setCell ⟨g, i * 3 + 1, none⟩ (.int .i64 x.num)).setCell ⟨g, i * 3 + 2, none⟩ (.int .i64 x.v)).heap.size = w.heap.size := by simp [World.setCell]
  have hb2 := blk_new (((w.setCell ⟨g, i * 3, none⟩ (.int .i64 x.key)).setCell ⟨g, i * 3 + 1, none⟩ (.int .i64 x.num)).setCell ⟨g, i * 3 + 2, none⟩ (.int .i64 x.v)) (.cells #[.int .i64 x.key, .int .i64 x.num, .int .i64 x.v] 115)
  rw [hz] at hb2
  have n1 := (blk_cell hb2 1).trans rfl
  have H2 := Aside0.mk (H1.same (((Ch.refl (fun _ => False) _).alloc (.cells #[.int .i64 x.key, .int .i64 x.num, .int .i64 x.v] 115)).drew))
  have C2 := Aside0.mk ((hs3.mono (T := y.own) (fun k _ hk => .inr (.inr hk))).alloc (.cells #[.int .i64 x.key, .int .i64 x.num, .int .i64 x.v] 115)).drew
  have g2 := (blk_cell H2.out.blk 2).trans rfl
  have n1' : ((((w.setCell ⟨g, i * 3, none⟩ (.int .i64 x.key)).setCell ⟨g, i * 3 + 1, none⟩ (.int .i64 x.num)).setCell ⟨g, i * 3 + 2, none⟩ (.int .i64 x.v)).alloc (.cells #[.int .i64 x.key, .int .i64 x.num, .int .i64 x.v] 115)).drew.cell? ⟨w.heap.size, 1, none⟩ = some (.int .i64 x.num) := n1
  clear n1 hb2 hz H1 hr3 hs3 a0 a1 a2 fz hgy hgm hgl g1 hblt
  generalize ((((w.setCell ⟨g, i * 3, none⟩ (.int .i64 x.key)).setCell ⟨g, i * 3 + 1, none⟩ (.int .i64 x.num)).setCell ⟨g, i * 3 + 2, none⟩ (.int .i64 x.v)).alloc (.cells #[.int .i64 x.key, .int .i64 x.num, .int .i64 x.v] 115)).drew = W2 at *
  generalize w.heap.size = b at *
  go_still_tail 7, (by kernel_rfl)
  go_wp2_with (at_mapUpdate; go_loud (refine wpList_mapUpdate_own _ rfl _ _ _ 91 rfl 3 3 (Maps.int_keyed Try.underlying3) Try.underlying91 (plainElem Try.prog 3) y.gm _ s.D rfl (H2.out.map.drew) ?hn _ _ (ik x.num) rfl rfl (Maps.keyOf_int_mk Try.underlying3 HX.out) (.lit (.int .i64 (i : Int))) [] (plainElem_int Try.underlying3 (w64_nat (by have := HI.out; have := HL.out; omega))) ?_); (case hn => show Maps.size s.D < maxLen; have := HD.out; unfold maxLen; omega); intro w4 hown4 hgrow4; have hch4 := (Ch.refl (fun k => k = y.gm) _).grown hgrow4 (fun k hk => .inl (Option.some.inj hk).symm); have H4 := Aside0.mk ((H2.out.same (Ch.refl (fun _ => False) W2).drew).mapped hch4 hown4); have C4 := Aside0.mk (C2.out.drew.trans (hch4.mono (T := y.own) (fun k _ hk => .inr (.inl hk))) (fun _ _ hk => hk)); clear hown4 hgrow4 hch4)
  go_end0
  exact ⟨rfl, H4.out, C4.out⟩
end Go.Proofs.Ytcpjjnikehcleaa.Hq
