/- Two caches that a law has made for itself. -/
import Derived.Test.YtcfdldgekfacfaaA1
namespace Go.Proofs.Ytcfdldgekfacfaa.Sk
open Go.RowKit Go.Proofs.YtcfdldgekfacfaaW.PrintWords Go.Proofs.YtcfdldgekfacfaaW.PrintLast Go.Proofs.YtcfdldgekfacfaaW.PrintMore
set_option linter.unusedVariables false
set_option linter.unusedSimpArgs false

/-- What one sees of a cache. -/
structure Cs where
  room : Int
  hits : Int
  misses : Int
  l : Things
def Hs (N : Nat) (W : World) (y : Lay) (c : Cs) : Prop := Holds N W y c.room c.hits c.misses c.l
def Cw2 (N : Nat) (W : World) (g1 g2 : Nat) (c d : Cs) : Prop := ∃ y z, y.g = g1 ∧ z.g = g2 ∧ N ≤ W.heap.size ∧ Hs N W y c ∧ Hs N W z d ∧ ∀ k, y.own k → ¬ z.own k
def Cw2Post (N : Nat) (g1 g2 : Nat) (c d : Cs) (v : Value) (w : World) (e : Ending) (w' : World) : Prop := e = .returned v ∧ Cw2 N w' g1 g2 c d ∧ Below N w w'
theorem Cw2.symm {N : Nat} {W : World} {g1 g2 : Nat} {c d : Cs} (h : Cw2 N W g1 g2 c d) : Cw2 N W g2 g1 d c := by
  obtain ⟨y, z, h1, h2, h3, h4, h5, h6⟩ := h
  exact ⟨z, y, h2, h1, h3, h5, h4, fun k hk hy => h6 k hy hk⟩
theorem Cw2Post.symm {N : Nat} {g1 g2 : Nat} {c d : Cs} {v : Value} {w : World} {e : Ending} {w' : World} (h : Cw2Post N g1 g2 c d v w e w') : Cw2Post N g2 g1 d c v w e w' := ⟨h.1, h.2.1.symm, h.2.2⟩
theorem Cw2.below {N : Nat} {W V : World} {g1 g2 : Nat} {c d : Cs} (h : Cw2 N W g1 g2 c d) (hb : Below W.heap.size W V) : Cw2 N V g1 g2 c d := by
  obtain ⟨y, z, h1, h2, h3, h4, h5, h6⟩ := h
  have hc : Ch (fun _ => False) W V := Ch.of_below hb (fun k hk hle => by omega)
  exact ⟨y, z, h1, h2, Nat.le_trans h3 hb.size, Holds.ch h4 hc (fun _ _ hk => hk), Holds.ch h5 hc (fun _ _ hk => hk), h6⟩
theorem Cw2.drew {N : Nat} {W : World} {g1 g2 : Nat} {c d : Cs} (h : Cw2 N W g1 g2 c d) : Cw2 N W.drew g1 g2 c d := h.below (below_drew1 (Below.refl _ _))
theorem Cw2.drewN {N : Nat} {W : World} {g1 g2 : Nat} {c d : Cs} (h : Cw2 N W g1 g2 c d) (n : Nat) : Cw2 N (W.drewN n) g1 g2 c d := h.below (pw_below_drewN (Below.refl _ _) n)
theorem chg_cw2 {N : Nat} {y z : Lay} {c c' d : Cs} {v : Value} {w : World} {e : Ending} {w' : World} (hN : N ≤ w.heap.size) (hc : Hs N w y c) (hd : Hs N w z d) (ha : ∀ k, y.own k → ¬ z.own k) (h : Chg N y c'.room c'.hits c'.misses c'.l v w e w') :
    Cw2Post N y.g z.g c' d v w e w' := by
  obtain ⟨he, y', hh, hg, ho, hch⟩ := h
  have hb := hch.below hN (fun k hk => (Holds.ge hc hk).1)
  refine ⟨he, ⟨y', z, hg, rfl, Nat.le_trans hN hb.size, hh, Holds.ch hd hch (fun k hk hy => ha k hy hk), fun k hk hz => ?_⟩, hb⟩
  rcases ho k hk with h1 | h1
  · exact ha k h1 hz
  · have := (Holds.ge hd hz).2; omega
noncomputable def Cs.put (c : Cs) (nm : ByteArray) (v : Int) : Cs := { c with l := putL c.room c.l nm v }
noncomputable def Cs.get (c : Cs) (nm : ByteArray) : Cs := ⟨c.room, if inB c.l nm then wrap64 (c.hits + 1) else c.hits, if inB c.l nm then c.misses else wrap64 (c.misses + 1), getL c.l nm⟩
theorem put_c {N : Nat} {w : World} {g1 g2 : Nat} {c d : Cs} (h : Cw2 N w g1 g2 c d) (nm : ByteArray) (v : Int) (hn : nm.size ≤ maxLen) :
    Calls Try.prog 9 #[.pointer (some ⟨g1, 0, none⟩), .string nm, .int .i64 v] w (Cw2Post N g1 g2 (c.put nm v) d (.tuple #[.string (putT c.room c.l nm).1, .bool (putT c.room c.l nm).2]) w) := by
  obtain ⟨y, z, rfl, rfl, hN, hc, hd, ha⟩ := h
  exact (put_calls N w y c.room c.hits c.misses c.l nm v hc hN hn).mono fun e w' hp => chg_cw2 (c' := c.put nm v) hN hc hd ha hp
theorem get_c {N : Nat} {w : World} {g1 g2 : Nat} {c d : Cs} (h : Cw2 N w g1 g2 c d) (nm : ByteArray) (hn : nm.size ≤ maxLen) :
    Calls Try.prog 10 #[.pointer (some ⟨g1, 0, none⟩), .string nm] w (Cw2Post N g1 g2 (c.get nm) d (.tuple #[.int .i64 (val c.l nm), .bool (inB c.l nm)]) w) := by
  obtain ⟨y, z, rfl, rfl, hN, hc, hd, ha⟩ := h
  exact (get_calls N w y c.room c.hits c.misses c.l nm hc hn).mono fun e w' hp => chg_cw2 (c' := c.get nm) hN hc hd ha hp
theorem put_d {N : Nat} {w : World} {g1 g2 : Nat} {c d : Cs} (h : Cw2 N w g1 g2 c d) (nm : ByteArray) (v : Int) (hn : nm.size ≤ maxLen) :
    Calls Try.prog 9 #[.pointer (some ⟨g2, 0, none⟩), .string nm, .int .i64 v] w (Cw2Post N g1 g2 c (d.put nm v) (.tuple #[.string (putT d.room d.l nm).1, .bool (putT d.room d.l nm).2]) w) :=
  (put_c h.symm nm v hn).mono fun e w' hp => hp.symm
theorem get_d {N : Nat} {w : World} {g1 g2 : Nat} {c d : Cs} (h : Cw2 N w g1 g2 c d) (nm : ByteArray) (hn : nm.size ≤ maxLen) :
    Calls Try.prog 10 #[.pointer (some ⟨g2, 0, none⟩), .string nm] w (Cw2Post N g1 g2 c (d.get nm) (.tuple #[.int .i64 (val d.l nm), .bool (inB d.l nm)]) w) :=
  (get_c h.symm nm hn).mono fun e w' hp => hp.symm
/-- The names of the first: a new row; both caches stay. -/
theorem names_c {N : Nat} {w : World} {g1 g2 : Nat} {c d : Cs} (h : Cw2 N w g1 g2 c d) :
    Calls Try.prog 12 #[.pointer (some ⟨g1, 0, none⟩)] w fun e w' => ∃ v, e = .returned v ∧ Row w.heap.size w' v (c.l.map (·.1)) ∧ Cw2 N w' g1 g2 c d ∧ Below w.heap.size w w' := by
  have h0 := h
  obtain ⟨y, z, rfl, rfl, hN, hc, hd, ha⟩ := h
  refine (namesL_calls N w y c.room c.hits c.misses c.l hc).mono fun e w' ⟨v, he, hr, hch⟩ => ?_
  have hb := hch.below (Nat.le_refl _) (fun _ hk => hk.elim)
  exact ⟨v, he, hr, h0.below hb, hb⟩
theorem names_d {N : Nat} {w : World} {g1 g2 : Nat} {c d : Cs} (h : Cw2 N w g1 g2 c d) :
    Calls Try.prog 12 #[.pointer (some ⟨g2, 0, none⟩)] w fun e w' => ∃ v, e = .returned v ∧ Row w.heap.size w' v (d.l.map (·.1)) ∧ Cw2 N w' g1 g2 c d ∧ Below w.heap.size w w' :=
  (names_c h.symm).mono fun e w' ⟨v, he, hr, hc, hb⟩ => ⟨v, he, hr, hc.symm, hb⟩
theorem own_lower {W : World} {B N e size n : Nat} {v : Value} {xs : List Value} (h : W.ownsRow B e size v n xs) (hN : N ≤ B) : W.ownsRow N e size v n xs := by
  refine ⟨h.1, h.2.imp id ?_⟩
  rintro ⟨g, cap, cur, h1, h2, h3⟩
  exact ⟨g, cap, cur, h1, Nat.le_trans hN h2, h3⟩
/-- A second cache beside a first. -/
theorem new_2 {N : Nat} {w : World} {g1 : Nat} {c : Cs} (h : Cw N w g1 c.room c.hits c.misses c.l) (room : Int) (hr : 1 ≤ room ∧ room ≤ 4096) :
    Calls Try.prog 8 #[.int .i64 room] w fun e w' => ∃ g, e = .returned (.tuple #[.pointer (some ⟨g, 0, none⟩), .int .i64 0]) ∧ Cw2 N w' g1 g c ⟨room, 0, 0, []⟩ ∧ Below w.heap.size w w' := by
  obtain ⟨y, rfl, hN, ha⟩ := h
  refine (newL_calls w room hr).mono fun e w' ⟨hc, z, he, hz⟩ => ?_
  have hb := hc.below (Nat.le_refl _) (fun _ hk => hk.elim)
  have hz' : Holds N w' z room 0 0 [] := by
    obtain ⟨s, L, h1, h2⟩ := hz
    exact ⟨s, L, ⟨h1.blk, h1.map, h1.ring, own_lower h1.free hN, Nat.le_trans hN h1.bg, Nat.le_trans hN h1.bm, Nat.le_trans hN h1.bc⟩, h2⟩
  exact ⟨z.g, he, ⟨y, z, rfl, rfl, Nat.le_trans hN hb.size, Holds.ch ha hc (fun _ _ hk => hk), hz', fun k hk hz2 => by have := (ha.ge hk).2; have := (hz.ge hz2).1; omega⟩, hb⟩
end Go.Proofs.Ytcfdldgekfacfaa.Sk
