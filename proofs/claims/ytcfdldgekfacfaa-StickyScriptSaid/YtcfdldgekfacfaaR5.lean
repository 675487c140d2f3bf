/- A cache beside the document's. -/
import Derived.Test.YtcfdldgekfacfaaR4
namespace Go.Proofs.Ytcfdldgekfacfaa.Rf
open Go.RowKit Sk PRef Go.Proofs.YtcfdldgekfacfaaW.PrintWords Go.Proofs.YtcfdldgekfacfaaW.PrintLast Go.Proofs.YtcfdldgekfacfaaW.PrintMore
set_option linter.unusedVariables false
set_option linter.unusedSimpArgs false

theorem apart_type {B : Nat} {W : World} {y : Lay} {s : St} (h : CAt B W y s) : ∀ (k : Nat) (t : TypeId) (cur : Array Value), W.heap[k]? = some (.cells cur t (0, 0)) → t ≠ 64 → t ≠ 66 → t ≠ 3 → ¬ y.own k := by
  intro k t cur hb h64 h66 h3 ho
  rcases ho with ho | ho | ho | ho
  · subst ho; exact blk_ne h.blk hb (fun e => h64 e.symm) rfl
  · subst ho
    obtain ⟨es, clock, hm, _⟩ := h.map
    rw [hm] at hb; simp at hb
  · subst ho; exact blk_ne h.ring.blk hb (fun e => h66 e.symm) rfl
  · rcases h.free.2 with ⟨e, _⟩ | ⟨g, cap, cur', e, _, h2, _⟩
    · rw [e] at ho; simp [Value.ownBlock] at ho
    · rw [e] at ho
      simp [Value.ownBlock] at ho
      subst ho
      exact blk_ne h2 hb (fun e => h3 e.symm) rfl
theorem apart_ref {B N : Nat} {W : World} {y : Lay} {s : St} {g : Nat} {u : Value} {d : Cs} (h : CAt B W y s) (hr : RAt N W g u d) : ¬ y.own g ∧ ∀ k, u.ownBlock = some k → ¬ y.own k := by
  have key := apart_type h
  refine ⟨key g 45 _ hr.blk (by decide) (by decide) (by decide), fun k hk => ?_⟩
  obtain ⟨inner, ho⟩ := Kd.R_own hr.row
  rcases ho.2 with ⟨e, _⟩ | ⟨g', cap, cur, e, _, h2, _⟩
  · rw [e] at hk; simp [Value.ownBlock] at hk
  · rw [e] at hk
    simp [Value.ownBlock] at hk
    subst hk
    exact key g' 72 cur h2 (by decide) (by decide) (by decide)
/-- At gc a cache, at gr the document's. -/
def Two (N : Nat) (W : World) (gc gr : Nat) (c d : Cs) : Prop := ∃ y u, y.g = gc ∧ N ≤ W.heap.size ∧ Hs N W y c ∧ RAt N W gr u d
/-- A step of a script, a row of names that lie in memory stay as they were. -/
def K29 (w w' : World) : Prop := ∀ (k : Nat) (cells : Array Value) (t : TypeId), t = 29 ∨ t = 9 → w.heap[k]? = some (Obj.cells cells t (0, 0)) → w'.heap[k]? = some (Obj.cells cells t (0, 0))
theorem K29.of_ch {S : Nat → Prop} {w w' : World} (hc : Ch S w w') (h : ∀ (k : Nat) (cells : Array Value) (t : TypeId), t = 29 ∨ t = 9 → w.heap[k]? = some (Obj.cells cells t (0, 0)) → ¬ S k) : K29 w w' := fun k cells t ht hk => hc.keep hk (h k cells t ht hk)
theorem K29.of_below {w w' : World} (hb : Below w.heap.size w w') : K29 w w' := K29.of_ch (S := fun _ => False) (Ch.of_below hb (fun k hk hle => by omega)) (fun _ _ _ _ _ h => h)
theorem K29.row {w w' : World} (h : K29 w w') {B : Nat} {v : Value} {l : List ByteArray} (hr : Row B w v l) : Row B w' v l := by
  refine ⟨hr.1, hr.2.imp id ?_⟩
  rintro ⟨g, cap, cur, rfl, h1, h2, h3⟩
  exact ⟨g, cap, cur, rfl, h1, h _ _ _ (.inr rfl) h2, h3⟩
def TwoPost (N gc gr : Nat) (c d : Cs) (v : Value) (w : World) (e : Ending) (w' : World) : Prop := e = .returned v ∧ Two N w' gc gr c d ∧ Below N w w' ∧ K29 w w'
theorem Two.below {N : Nat} {W V : World} {gc gr : Nat} {c d : Cs} (h : Two N W gc gr c d) (hb : Below W.heap.size W V) : Two N V gc gr c d := by
  obtain ⟨y, u, h1, h2, h3, h4⟩ := h
  have hc : Ch (fun _ => False) W V := Ch.of_below hb (fun k hk hle => by omega)
  exact ⟨y, u, h1, Nat.le_trans h2 hb.size, Holds.ch h3 hc (fun _ _ hk => hk), h4.same hc⟩
theorem Two.drewN {N : Nat} {W : World} {gc gr : Nat} {c d : Cs} (h : Two N W gc gr c d) (n : Nat) : Two N (W.drewN n) gc gr c d := h.below (pw_below_drewN (Below.refl _ _) n)
theorem Two.drew {N : Nat} {W : World} {gc gr : Nat} {c d : Cs} (h : Two N W gc gr c d) : Two N W.drew gc gr c d := h.below (below_drew1 (Below.refl _ _))
theorem Holds.facts {B : Nat} {W : World} {y : Lay} {room hits misses : Int} {l : Things} (h : Holds B W y room hits misses l) : Nd l ∧ l.length < 1000000 ∧ 1 ≤ room ∧ room ≤ 4096 ∧ (l.length : Int) ≤ room := by
  obtain ⟨s, L, hc, hI, rfl, rfl, rfl, rfl, r1, r2, hle⟩ := h
  refine ⟨?_, by omega, r1, r2, hle⟩
  unfold Nd th
  rw [List.map_map]
  have hn := (List.nodup_cons.1 hI.ri.nd).2
  unfold List.Nodup
  rw [List.pairwise_map]
  exact hn.imp_of_mem (fun {a b} ha hb hab he => hab (hI.inj ha hb he))
/-- What the cache's own do: the document's stays. -/
theorem two_chg {N : Nat} {y : Lay} {gr : Nat} {u : Value} {c c' d : Cs} {v : Value} {w : World} {e : Ending} {w' : World} (hN : N ≤ w.heap.size) (hc : Hs N w y c) (hd : RAt N w gr u d) (h : Chg N y c'.room c'.hits c'.misses c'.l v w e w') :
    TwoPost N y.g gr c' d v w e w' := by
  obtain ⟨he, y', hh, hg, ho, hch⟩ := h
  have hb := hch.below hN (fun k hk => (Holds.ge hc hk).1)
  have hc' := hc
  obtain ⟨s, L, ha, _⟩ := hc'
  have hap := apart_ref ha hd
  exact ⟨he, ⟨y', u, hg, Nat.le_trans hN hb.size, hh, hd.ch hch hap.1 hap.2⟩, hb, K29.of_ch hch (fun k cells t ht hk => apart_type ha k t cells hk (by rcases ht with rfl | rfl <;> decide) (by rcases ht with rfl | rfl <;> decide) (by rcases ht with rfl | rfl <;> decide))⟩
/-- What the document's do: the cache stays. -/
theorem two_ref {N : Nat} {y : Lay} {gr : Nat} {u : Value} {c d d' : Cs} {v : Value} {w : World} {e : Ending} {w' : World} (hN : N ≤ w.heap.size) (hc : Hs N w y c) (hd : RAt N w gr u d) (h : RPost N gr d' v w e w') :
    TwoPost N y.g gr c d' v w e w' := by
  obtain ⟨he, ⟨u', hr⟩, hch⟩ := h
  have hb := hch.below hN (fun k hk => by subst hk; exact hd.ge)
  have hc' := hc
  obtain ⟨s, L, ha, _⟩ := hc'
  have hap := apart_ref ha hd
  exact ⟨he, ⟨y, u', rfl, Nat.le_trans hN hb.size, Holds.ch hc hch (fun k hk e => hap.1 (e ▸ hk)), hr⟩, hb, K29.of_ch hch (fun k cells t ht hk e => by subst e; exact blk_ne hk hd.blk (by rcases ht with rfl | rfl <;> decide) rfl)⟩
theorem putC {N : Nat} {w : World} {gc gr : Nat} {c d : Cs} (h : Two N w gc gr c d) (nm : ByteArray) (v : Int) (hn : nm.size ≤ maxLen) :
    Calls Try.prog 9 #[.pointer (some ⟨gc, 0, none⟩), .string nm, .int .i64 v] w (TwoPost N gc gr (c.put nm v) d (.tuple #[.string (putT c.room c.l nm).1, .bool (putT c.room c.l nm).2]) w) := by
  obtain ⟨y, u, rfl, hN, hc, hd⟩ := h
  exact (Sk.put_calls N w y c.room c.hits c.misses c.l nm v hc hN hn).mono fun e w' hp => two_chg (c' := c.put nm v) hN hc hd hp
theorem getC {N : Nat} {w : World} {gc gr : Nat} {c d : Cs} (h : Two N w gc gr c d) (nm : ByteArray) (hn : nm.size ≤ maxLen) :
    Calls Try.prog 10 #[.pointer (some ⟨gc, 0, none⟩), .string nm] w (TwoPost N gc gr (c.get nm) d (.tuple #[.int .i64 (val c.l nm), .bool (inB c.l nm)]) w) := by
  obtain ⟨y, u, rfl, hN, hc, hd⟩ := h
  exact (Sk.get_calls N w y c.room c.hits c.misses c.l nm hc hn).mono fun e w' hp => two_chg (c' := c.get nm) hN hc hd hp
theorem peekC {N : Nat} {w : World} {gc gr : Nat} {c d : Cs} (h : Two N w gc gr c d) (nm : ByteArray) (hn : nm.size ≤ maxLen) :
    Calls Try.prog 18 #[.pointer (some ⟨gc, 0, none⟩), .string nm] w (TwoPost N gc gr c d (.tuple #[.int .i64 (val c.l nm), .bool (inB c.l nm)]) w) := by
  obtain ⟨y, u, rfl, hN, hc, hd⟩ := h
  exact (Sk.peek_calls N w y c.room c.hits c.misses c.l nm hc hn).mono fun e w' hp => two_chg (c' := c) hN hc hd hp
def Cs.drop (c : Cs) (nm : ByteArray) : Cs := { c with l := wo c.l nm }
theorem dropC {N : Nat} {w : World} {gc gr : Nat} {c d : Cs} (h : Two N w gc gr c d) (nm : ByteArray) (hn : nm.size ≤ maxLen) :
    Calls Try.prog 20 #[.pointer (some ⟨gc, 0, none⟩), .string nm] w (TwoPost N gc gr (Cs.drop c nm) d (.bool (inB c.l nm)) w) := by
  obtain ⟨y, u, rfl, hN, hc, hd⟩ := h
  exact (Sk.drop_calls N w y c.room c.hits c.misses c.l nm hc hN hn).mono fun e w' hp => two_chg (c' := Cs.drop c nm) hN hc hd hp
theorem putR {N : Nat} {w : World} {gc gr : Nat} {c d : Cs} (h : Two N w gc gr c d) (nm : ByteArray) (v : Int) (hl : d.l.length < 1000000) (hd : Nd d.l) (hr : 1 ≤ d.room) :
    Calls Try.prog 16 #[.pointer (some ⟨gr, 0, none⟩), .string nm, .int .i64 v] w (TwoPost N gc gr c (d.put nm v) (.tuple #[.string (putT d.room d.l nm).1, .bool (putT d.room d.l nm).2]) w) := by
  obtain ⟨y, u, rfl, hN, hc, hd'⟩ := h
  exact (put_calls N w gr u d nm v hd' hN hl hd hr).mono fun e w' hp => two_ref hN hc hd' hp
theorem getR {N : Nat} {w : World} {gc gr : Nat} {c d : Cs} (h : Two N w gc gr c d) (nm : ByteArray) (hl : d.l.length < 1000000) (hd : Nd d.l) :
    Calls Try.prog 17 #[.pointer (some ⟨gr, 0, none⟩), .string nm] w (TwoPost N gc gr c (d.get nm) (.tuple #[.int .i64 (val d.l nm), .bool (inB d.l nm)]) w) := by
  obtain ⟨y, u, rfl, hN, hc, hd'⟩ := h
  exact (get_calls N w gr u d nm hd' hN hl hd).mono fun e w' hp => two_ref hN hc hd' hp
theorem peekR {N : Nat} {w : World} {gc gr : Nat} {c d : Cs} (h : Two N w gc gr c d) (nm : ByteArray) (hl : d.l.length < 1000000) (hd : Nd d.l) :
    Calls Try.prog 19 #[.pointer (some ⟨gr, 0, none⟩), .string nm] w (TwoPost N gc gr c d (.tuple #[.int .i64 (val d.l nm), .bool (inB d.l nm)]) w) := by
  obtain ⟨y, u, rfl, hN, hc, hd'⟩ := h
  exact (peek_calls N w gr u d nm hd' hl hd).mono fun e w' ⟨he, hch⟩ => two_ref hN hc hd' ⟨he, ⟨_, hd'.same hch⟩, Ch.toG hch⟩
theorem dropR {N : Nat} {w : World} {gc gr : Nat} {c d : Cs} (h : Two N w gc gr c d) (nm : ByteArray) (hl : d.l.length < 1000000) (hd : Nd d.l) :
    Calls Try.prog 21 #[.pointer (some ⟨gr, 0, none⟩), .string nm] w (TwoPost N gc gr c (Cs.drop d nm) (.bool (inB d.l nm)) w) := by
  obtain ⟨y, u, rfl, hN, hc, hd'⟩ := h
  exact (drop_calls N w gr u d nm hd' hN hl hd).mono fun e w' hp => two_ref hN hc hd' hp
theorem Two.facts {N : Nat} {W : World} {gc gr : Nat} {c d : Cs} (h : Two N W gc gr c d) : Nd c.l ∧ c.l.length < 1000000 ∧ 1 ≤ c.room ∧ c.room ≤ 4096 ∧ (c.l.length : Int) ≤ c.room := by
  obtain ⟨y, u, h1, h2, h3, h4⟩ := h
  exact Holds.facts h3

/-- Shrink, of both: another room; what went is told. -/
def TwoShPost (N gc gr : Nat) (c d : Cs) (ns : List ByteArray) (w : World) (e : Ending) (w' : World) : Prop := ∃ v, e = .returned v ∧ Row w.heap.size w' v ns ∧ Two N w' gc gr c d ∧ Below N w w' ∧ K29 w w'
noncomputable def Cs.shrink (c : Cs) (r : Int) : Cs := by classical exact if 1 ≤ r ∧ r ≤ 4096 then { c with room := r, l := c.l.take r.toNat } else c
noncomputable def goneL (l : Things) (r : Int) : List ByteArray := by classical exact if 1 ≤ r ∧ r ≤ 4096 then gone l r.toNat else []
theorem shrinkC {N : Nat} {w : World} {gc gr : Nat} {c d : Cs} (h : Two N w gc gr c d) (r : Int) :
    Calls Try.prog 22 #[.pointer (some ⟨gc, 0, none⟩), .int .i64 r] w (TwoShPost N gc gr (Cs.shrink c r) d (goneL c.l r) w) := by
  obtain ⟨y, u, rfl, hN, hc, hd⟩ := h
  have key : ∀ (c' : Cs) (ns : List ByteArray) e w', ShPost N y c'.room c'.hits c'.misses c'.l ns w e w' → TwoShPost N y.g gr c' d ns w e w' := by
    rintro c' ns e w' ⟨v, he, hr, hrest⟩
    have := two_chg (v := v) hN hc hd ⟨he, hrest⟩
    exact ⟨v, he, hr, this.2⟩
  by_cases hr : 1 ≤ r ∧ r ≤ 4096
  · have e1 : Cs.shrink c r = { c with room := r, l := c.l.take r.toNat } := by unfold Cs.shrink; rw [if_pos hr]
    have e2 : goneL c.l r = gone c.l r.toNat := by unfold goneL; rw [if_pos hr]
    rw [e1, e2]
    have := Sk.shrink_yes N w y c.room c.hits c.misses r.toNat c.l hc hN (by omega)
    rw [show ((r.toNat : Nat) : Int) = r by omega] at this
    exact this.mono fun e w' hp => key { c with room := r, l := c.l.take r.toNat } _ e w' hp
  · have e1 : Cs.shrink c r = c := by unfold Cs.shrink; rw [if_neg hr]
    have e2 : goneL c.l r = [] := by unfold goneL; rw [if_neg hr]
    rw [e1, e2]
    exact (Sk.shrink_no N w y c.room c.hits c.misses r c.l hc hr).mono fun e w' hp => key c _ e w' hp
theorem shrinkR {N : Nat} {w : World} {gc gr : Nat} {c d : Cs} (h : Two N w gc gr c d) (r : Int) (hl : d.l.length < 1000000) :
    Calls Try.prog 23 #[.pointer (some ⟨gr, 0, none⟩), .int .i64 r] w (TwoShPost N gc gr c (Cs.shrink d r) (goneL d.l r) w) := by
  obtain ⟨y, u, rfl, hN, hc, hd⟩ := h
  have key : ∀ (d' : Cs) (ns : List ByteArray) e w', RShPost N gr d' ns w e w' → TwoShPost N y.g gr c d' ns w e w' := by
    rintro d' ns e w' ⟨v, he, hr, hrest⟩
    have := two_ref (v := v) hN hc hd ⟨he, hrest⟩
    exact ⟨v, he, hr, this.2⟩
  by_cases hr : 1 ≤ r ∧ r ≤ 4096
  · have e1 : Cs.shrink d r = { d with room := r, l := d.l.take r.toNat } := by unfold Cs.shrink; rw [if_pos hr]
    have e2 : goneL d.l r = gone d.l r.toNat := by unfold goneL; rw [if_pos hr]
    rw [e1, e2]
    have := shrink_yes N w gr u d r.toNat hd (by omega) hl
    rw [show ((r.toNat : Nat) : Int) = r by omega] at this
    exact this.mono fun e w' hp => key _ _ e w' hp
  · have e1 : Cs.shrink d r = d := by unfold Cs.shrink; rw [if_neg hr]
    have e2 : goneL d.l r = [] := by unfold goneL; rw [if_neg hr]
    rw [e1, e2]
    exact (shrink_no N w gr u d r hd hr).mono fun e w' hp => key d _ e w' hp
theorem names_l0 (a : List ByteArray) (ha : a.length < 1000000) (d : Nat) : ∀ p k : Nat, p + d = a.length → d + 1 ≤ k → prompterlaw19_names.l0 k a a p = some true := by
  induction d with
  | zero =>
    intro p k hp hk
    obtain ⟨k, rfl⟩ : ∃ m, k = m + 1 := ⟨k - 1, by omega⟩
    simp only [prompterlaw19_names.l0]
    rw [if_neg (by omega)]
  | succ d ih =>
    intro p k hp hk
    obtain ⟨k, rfl⟩ : ∃ m, k = m + 1 := ⟨k - 1, by omega⟩
    simp only [prompterlaw19_names.l0]
    rw [if_pos (by omega), if_pos (by omega), if_pos (by omega), if_pos trivial, wr1 (by omega)]
    exact ih (p + 1) k (by omega) (by omega)
/-- Two rows of the same names. -/
theorem names_same {w : World} {A1 A2 : Option Addr} {n1 n2 c1 c2 : Nat} {a : List ByteArray} (h1 : Kd.C Kd.string w A1 a.length a) (k1 : a.length ≤ c1) (h2 : Kd.C Kd.string w A2 a.length a) (k2 : a.length ≤ c2) (e1 : n1 = a.length) (e2 : n2 = a.length) (ha : a.length < 1000000) :
    Calls Try.prog 24 #[.slice A1 n1 c1, .slice A2 n2 c2] w fun e w' => e = .returned (.bool true) ∧ ∃ m, w' = w.drewN m := by
  subst e1 e2
  exact (prompterlaw19_names.calls (a.length + 1) A1 c1 a A2 c2 a true w h1 k1 h2 k2 (by
    unfold prompterlaw19_names.f
    rw [if_pos rfl]
    exact names_l0 a ha a.length 0 _ (by omega) (Nat.le_refl _))).mono fun e w' ⟨he, hd⟩ => ⟨he, by obtain ⟨m, rfl⟩ := hd; exact ⟨m, rfl⟩⟩
set_option maxHeartbeats 1000000 in
set_option maxRecDepth 100000 in
theorem len_q {N : Nat} {w : World} {gc gr : Nat} {c d : Cs} (h : Two N w gc gr c d) : Calls Try.prog 14 #[.pointer (some ⟨gc, 0, none⟩)] w fun e w' => e = .returned (.int .i64 (c.l.length : Int)) ∧ w' = w := by
  obtain ⟨y, u, rfl, hN, ⟨s, L, hc, hI, hl, rest⟩, hd⟩ := h
  have hu := Try.underlying64
  have c1 := blk_cell hc.blk 1
  have HM := Aside0.mk hc.map
  have HS := Aside0.mk (show (Maps.size s.D : Int) = (c.l.length : Int) by rw [hI.size, ← hl, th_length])
  clear hc hI hl rest hd
  go_enter Try.func14, Try.ntmps14
  go_wp2_with (at_len; refine wpList_len_own _ rfl _ 51 rfl 9 3 Try.underlying51 _ _ _ _ rfl HM.out ?_)
  go_ret
  exact ⟨by rw [← HS.out]; rfl, rfl⟩
set_option maxHeartbeats 1000000 in
set_option maxRecDepth 100000 in
theorem room_q {N : Nat} {w : World} {gc gr : Nat} {c d : Cs} (h : Two N w gc gr c d) : Calls Try.prog 36 #[.pointer (some ⟨gc, 0, none⟩)] w fun e w' => e = .returned (.int .i64 c.room) ∧ w' = w := by
  obtain ⟨y, u, rfl, hN, ⟨s, L, hc, hI, hl, hr, rest⟩, hd⟩ := h
  have hu := Try.underlying64
  have c0 := blk_cell hc.blk 0
  have HR := Aside0.mk hr
  clear hc hI hl rest hd hr
  go_enter Try.func36, Try.ntmps36
  go_wp2
  go_ret
  exact ⟨by rw [← HR.out]; rfl, rfl⟩
theorem countsC {N : Nat} {w : World} {gc gr : Nat} {c d : Cs} (h : Two N w gc gr c d) :
    Calls Try.prog 46 #[.pointer (some ⟨gc, 0, none⟩)] w fun e w' => e = .returned (.tuple #[.int .i64 c.hits, .int .i64 c.misses]) ∧ Two N w' gc gr c d ∧ Below w.heap.size w w' := by
  have h0 := h
  obtain ⟨y, u, rfl, hN, hc, hd⟩ := h
  refine (countsL_calls N w y c.room c.hits c.misses c.l hc).mono fun e w' ⟨he, hch⟩ => ?_
  have hb := hch.below (Nat.le_refl _) (fun _ hk => hk.elim)
  exact ⟨he, h0.below hb, hb⟩
theorem namesC {N : Nat} {w : World} {gc gr : Nat} {c d : Cs} (h : Two N w gc gr c d) :
    Calls Try.prog 12 #[.pointer (some ⟨gc, 0, none⟩)] w fun e w' => ∃ v, e = .returned v ∧ Row w.heap.size w' v (c.l.map (·.1)) ∧ Two N w' gc gr c d ∧ Below w.heap.size w w' := by
  have h0 := h
  obtain ⟨y, u, rfl, hN, hc, hd⟩ := h
  refine (namesL_calls N w y c.room c.hits c.misses c.l hc).mono fun e w' ⟨v, he, hr, hch⟩ => ?_
  have hb := hch.below (Nat.le_refl _) (fun _ hk => hk.elim)
  exact ⟨v, he, hr, h0.below hb, hb⟩
theorem Two.cells {N : Nat} {W : World} {gc gr : Nat} {c d : Cs} (h : Two N W gc gr c d) : ∃ A n cap, n = d.l.length ∧ d.l.length ≤ cap ∧ Kd.C k72 W A d.l.length (sT d.l) ∧
    W.cell? ⟨gr, 0, none⟩ = some (.int .i64 d.room) ∧ W.cell? ⟨gr, 1, none⟩ = some (.slice A n cap) ∧ W.cell? ⟨gr, 2, none⟩ = some (.int .i64 d.hits) ∧ W.cell? ⟨gr, 3, none⟩ = some (.int .i64 d.misses) := by
  obtain ⟨y, u, h1, h2, h3, h4⟩ := h
  obtain ⟨A, cap, rfl, hcap, hr⟩ := h4.reads
  exact ⟨A, _, cap, rfl, hcap, hr, blk_cell h4.blk 0, blk_cell h4.blk 1, blk_cell h4.blk 2, blk_cell h4.blk 3⟩
theorem Row.put {B : Nat} {W : World} {A : Option Addr} {n cap i : Nat} {l : List ByteArray} (h : Row B W (.slice A n cap) l) (hn : l.length = n) (hi : i < n) (z : ByteArray) :
    ∃ g u, A = some ⟨g, 0, none⟩ ∧ W.cell? ⟨g, i, none⟩ = some u ∧ W.frozen? ⟨g, i, none⟩ = false ∧ Row B (W.setCell ⟨g, i, none⟩ (.string z)) (.slice A n cap) (l.set i z) ∧ B ≤ g := by
  obtain ⟨g, cap', hsh⟩ := own_shape h (by omega)
  simp only [Value.slice.injEq] at hsh
  obtain ⟨rfl, rfl, rfl⟩ := hsh
  have h' : W.ownsRow B 9 1 (.slice (some ⟨g, 0, none⟩) l.length cap) l.length (encs Value.string l) := h
  obtain ⟨h1, h2⟩ := own_at_of (d := ByteArray.empty) h' (i : Int) (by omega) (by omega)
  have h3 := (own_store_of (enc := Value.string) h' (i : Int) z).1
  refine ⟨g, _, rfl, h1, h2, ?_, (h'.lt g rfl).1⟩
  show World.ownsRow _ B 9 1 _ (l.set i z).length _
  rw [List.length_set]
  exact h3
set_option maxHeartbeats 2000000 in
set_option maxRecDepth 100000 in
theorem told_calls (N : Nat) (w : World) (gc gr : Nat) (c : Cs) (h : Two N w gc gr c c) : Calls Try.prog 25 #[.pointer (some ⟨gc, 0, none⟩), .pointer (some ⟨gr, 0, none⟩)] w (TwoPost N gc gr c c (.bool true) w) := by
  have hu45 := Try.underlying45
  have hu43 := Try.underlying43
  have hu72 := Try.underlying72
  have hu35 := Try.underlying35
  obtain ⟨ti, ht0, ht1, ht2, ht3⟩ := info_parts info9
  have H := Aside0.mk h
  have HF := Aside0.mk h.facts
  clear h
  go_enter Try.func25, Try.ntmps25
  go_wp2
  go_loopg [5, 6] c.l.length (fun kq v5 v6 w' => ∃ (i : Nat), v6 = .int .i64 (i : Int) ∧ Aside0 (i + kq = c.l.length) ∧ Aside0 (Row w.heap.size w' v5 ((c.l.take i).map (·.1))) ∧ Aside0 (Below w.heap.size w w'))
  case atStart => exact ⟨0, rfl, ⟨by omega⟩, ⟨by simpa using Row.nil _ _⟩, ⟨Below.refl _ _⟩⟩
  case round =>
    obtain ⟨i, rfl, HI, HR, HB⟩ := hrel
    have H2 := Aside0.mk (H.out.below HB.out)
    obtain ⟨A, n, cap, hn, hcap, hC, g0, g1, g2, g3⟩ := H2.out.cells
    by_cases hi : i < c.l.length
    · obtain ⟨ad, rfl, s0, s1⟩ := RAt.at_ hC hi
      have p0 : decide ((i : Int) < (n : Int)) = true := decide_eq_true (by omega)
      have p1 : (0 ≤ (i : Int)) = True := eq_true (by omega)
      have p2 : ((i : Int) < (n : Int)) = True := eq_true (by omega)
      have p3 : decide (i < n) = true := decide_eq_true (by omega)
      have TK := Aside0.mk (show (c.l.take (i + 1)).map (·.1) = (c.l.take i).map (·.1) ++ [(c.l[i]).1] by rw [List.take_succ_eq_append_getElem hi, List.map_append]; rfl)
      have glen := Aside0.mk (show ((c.l.take i).map (·.1)).length < 1000000 by have := HF.out.2.1; rw [List.length_map, List.length_take]; omega)
      generalize (c.l[i]).1 = z at *
      have HI2 := Aside0.mk hi
      clear s1 hC hcap hn hi g0 g2 g3
      generalize (c.l.take i).map (·.1) = nn at *
      go_wp2_with (at_builtin; go_loud (refine wpList_append_own_at _ rfl _ _ 35 rfl w.heap.size 9 ti (.string ⟨#[]⟩) 1 16 Try.underlying35 ht0 ht1 ht2 ht3 rfl (by decide) _ _ _ rfl (HR.out.alloc _) ⟨_, 0, none⟩ 1 1 [.string z] rfl rfl (cell_one_at (by simp)) (by simp [Value.oneCell']) (by have := glen.out; unfold maxLen; omega) (by have := glen.out; omega) (by have := HB.out.size; simp; omega) ?_); intro v' w5 hown' hgrow hnil hloc; obtain ⟨gn, cn, rfl⟩ := own_shape hown' (Nat.succ_pos _); have B5 := Aside0.mk ((below_alloc HB.out (.cells #[.string z] 9)).grown hgrow (by have := HB.out.size; simp; omega) (fun k hk => (HR.out.lt k hk).1)); have W5 := Aside0.mk (show Row w.heap.size w5 (.slice (some ⟨gn, 0, none⟩) _ cn) (nn ++ [z]) from by simpa [Row, strs] using hown'); clear hown' hgrow hnil hloc)
      go_roundg (gk - 1)
      case measure => have := HI.out; have := HI2.out; omega
      case rel => exact ⟨i + 1, by rw [wr1 (by have := HF.out.2.1; have := HI2.out; omega)], ⟨by have := HI.out; have := HI2.out; omega⟩, ⟨by rw [TK.out]; exact W5.out⟩, B5⟩
    · obtain rfl : i = c.l.length := by have := HI.out; omega
      have p0 : decide ((c.l.length : Int) < (n : Int)) = false := decide_eq_false (by omega)
      have p3 : decide (c.l.length < n) = false := decide_eq_false (by omega)
      have HR := Aside0.mk (show Row w.heap.size wr u5 (c.l.map (·.1)) from by have := HR.out; rwa [List.take_length] at this)
      obtain ⟨A5, c5, rfl, kl5, hC5⟩ := HR.out.slice
      have K5 := Aside0.mk (And.intro hC5 kl5)
      clear hC hcap hn hi g2 g3 hC5 kl5 HI
      have hml : (c.l.map (·.1)).length = c.l.length := List.length_map _
      have HML := Aside0.mk hml
      clear hml
      generalize hnn : c.l.map (·.1) = nn at *
      have HNN := Aside0.mk hnn
      clear hnn
      go_wp2_with (go_at_call 12; go_loud (refine (namesC H2.out).mono ?_); rintro e w6 ⟨v6, rfl, hr, hc, hb⟩; rw [HNN.out] at hr; have R6 := Aside0.mk hr; have C6 := Aside0.mk hc; have HB6 := Aside0.mk hb; have K6 := Aside0.mk (Kd.C_below K5.out.1 hb); clear hr hc hb)
      obtain ⟨A6, c6, rfl, kl6, hC6⟩ := R6.out.slice
      have J6 := Aside0.mk (And.intro hC6 kl6)
      have LN := Aside0.mk (show nn.length < 1000000 by rw [HML.out]; exact HF.out.2.1)
      obtain ⟨A7, n7, cap7, hn7, hcap7, hC7, g0', g1', g2', g3'⟩ := C6.out.cells
      have LQ := Aside0.mk (fun m => by have := len_q (C6.out.drewN m); rw [← HML.out] at this; exact this)
      clear hC6 kl6 hn7 hcap7 hC7 g0 g1
      go_wp2
      go_quiet (first
        | (go_at_call 24; exact Calls.quiet_of (names_same (Kd.C_below J6.out.1 (pw_below_drewN (Below.refl _ _) _)) J6.out.2 (Kd.C_below K6.out (pw_below_drewN (Below.refl _ _) _)) K5.out.2 rfl rfl LN.out))
        | (go_at_call 14; exact Calls.quiet_of_same (LQ.out _))
        | (go_at_call 36; exact Calls.quiet_of_same (room_q (C6.out.drewN _))))
      go_wp2
      go_loopg [8] nn.length (fun kq v8 w' => ∃ (i : Nat), v8 = .int .i64 (i : Int) ∧ Aside0 (i + kq = nn.length) ∧ Aside0 (∃ ms : List ByteArray, ms.length = nn.length ∧ Row wr.heap.size w' (.slice A6 nn.length c6) ms) ∧ Aside0 (Below wr.heap.size wr w'))
      case atStart => exact ⟨0, rfl, ⟨by omega⟩, ⟨nn, rfl, ownsRow_ch R6.out ((Ch.refl (fun _ => False) w6).drewN _) (fun _ _ h => h)⟩, ⟨pw_below_drewN HB6.out _⟩⟩
      case round =>
        obtain ⟨i, rfl, HI, HM, HB7⟩ := hrel
        by_cases hi : i < nn.length
        · have p0 : decide ((i : Int) < (nn.length : Int)) = true := decide_eq_true (by omega)
          have p1 : (0 ≤ (i : Int)) = True := eq_true (by omega)
          have p2 : ((i : Int) < (nn.length : Int)) = True := eq_true (by omega)
          obtain ⟨ms, hml, hrow⟩ := HM.out
          obtain ⟨g9, u9, rfl, s9, f9, r9, hg9⟩ := Row.put hrow hml hi ⟨#[119, 114, 105, 116, 116, 101, 110, 32, 111, 118, 101, 114]⟩
          have R9 := Aside0.mk r9
          have HG9 := Aside0.mk hg9
          have HML9 := Aside0.mk hml
          have HI9 := Aside0.mk hi
          clear hrow r9 hg9 hml HM hi
          go_wp2
          go_roundg (gk - 1)
          case measure => have := HI.out; have := HI9.out; omega
          case rel => exact ⟨i + 1, by rw [wr1 (by have := LN.out; have := HI9.out; omega)], ⟨by have := HI.out; have := HI9.out; omega⟩, ⟨_, by rw [List.length_set]; exact HML9.out, R9.out⟩, ⟨below_set HB7.out HG9.out⟩⟩
        · have p0 : decide ((i : Int) < (nn.length : Int)) = false := decide_eq_false (by omega)
          have T7 := Aside0.mk (H2.out.below HB7.out)
          have B7 := Aside0.mk (HB.out.trans (HB7.out.mono HB.out.size))
          go_wp2_with (go_at_call 46; go_loud (refine (countsC T7.out).mono ?_); rintro e w8 ⟨rfl, hc, hb⟩; have T8 := Aside0.mk hc; have B8 := Aside0.mk (B7.out.trans (hb.mono B7.out.size)); obtain ⟨A8, n8, cap8, hn8, hcap8, hC8, h0', h1', h2', h3'⟩ := hc.cells; clear hc hb hn8 hcap8 hC8)
          go_ret
          refine ⟨by simp, T8.out, B8.out.mono ?_, K29.of_below B8.out⟩
          obtain ⟨_, _, _, hN, _⟩ := H.out
          exact hN
end Go.Proofs.Ytcfdldgekfacfaa.Rf
