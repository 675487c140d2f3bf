/- Going through code, in plain: which places are met, and how deep the stack is there. -/
namespace Go.Proofs.Ytcpjjnikehcleaa.Lk
set_option linter.unusedVariables false
structure Nod where
  takes : Int
  leave : Int
  ends : Bool
  tgt : Option Nat
  jump : Bool
  mode : Nat
def dp (d : List Int) (i : Nat) : Int := d.getD i (-1)
def gn (g : List Bool) (i : Nat) : Bool := g.getD i false
theorem dp_set {d : List Int} {i j : Nat} {x : Int} (h : i < d.length) : dp (d.set i x) j = if i = j then x else dp d j := by
  unfold dp
  by_cases e : i = j
  · subst e; simp [h]
  · rw [if_neg e]; simp [List.getElem?_set, e]
theorem gn_set {g : List Bool} {i j : Nat} {x : Bool} (h : i < g.length) : gn (g.set i x) j = if i = j then x else gn g j := by
  unfold gn
  by_cases e : i = j
  · subst e; simp [h]
  · rw [if_neg e]; simp [List.getElem?_set, e]
def meetL (d : List Int) (t : Nat) (x : Int) : List Int := if dp d t < 0 then d.set t x else d
def okL (d : List Int) (t : Nat) (x : Int) : Bool := decide (dp (meetL d t x) t = x)
@[simp] theorem meetL_length (d : List Int) (t : Nat) (x : Int) : (meetL d t x).length = d.length := by unfold meetL; split <;> simp
def thr (mode : Nat) (dep next : Int) : Int := if mode = 1 then 0 else if mode = 2 then dep else next
theorem thr_nn {mode : Nat} {dep next : Int} (h1 : 0 ≤ dep) (h2 : 0 ≤ next) : 0 ≤ thr mode dep next := by
  unfold thr
  split
  · omega
  · split <;> assumption
/-- Behind a place. -/
def fallL (nd : Nod) (n i : Nat) (next : Int) (d : List Int) : Option (List Int) :=
  if nd.jump then some d else if i + 1 = n then none else if okL d (i + 1) next then some (meetL d (i + 1) next) else none
/-- Through a place: the depths; none: it is wrong there. -/
def gotoL (nd : Nod) (n i : Nat) (d : List Int) : Option (List Int) :=
  if nd.ends then (if dp d i = nd.takes then some d else none)
  else if dp d i < nd.takes then none
  else match nd.tgt with
    | some t => if okL d t (thr nd.mode (dp d i) (dp d i - nd.takes + nd.leave)) then fallL nd n i (dp d i - nd.takes + nd.leave) (meetL d t (thr nd.mode (dp d i) (dp d i - nd.takes + nd.leave))) else none
    | none => fallL nd n i (dp d i - nd.takes + nd.leave) d
/-- Is a place met, and not gone through? -/
def wait (d : List Int) (g : List Bool) (i : Nat) : Bool := decide (0 ≤ dp d i) && !gn g i
def nxt (n : Nat) (d : List Int) (g : List Bool) : Option Nat := (List.range n).find? (wait d g)
theorem nxt_some {n : Nat} {d : List Int} {g : List Bool} {i : Nat} : nxt n d g = some i ↔ i < n ∧ wait d g i = true ∧ ∀ j, j < i → wait d g j = false := by
  unfold nxt
  rw [List.find?_range_eq_some]
  simp only [List.mem_range]
  constructor
  · rintro ⟨h1, h2, h3⟩
    exact ⟨h2, h1, fun j hj => by simpa using h3 j hj⟩
  · rintro ⟨h1, h2, h3⟩
    exact ⟨h2, h1, fun j hj => by simpa using h3 j hj⟩
theorem nxt_none {n : Nat} {d : List Int} {g : List Bool} : nxt n d g = none ↔ ∀ j, j < n → wait d g j = false := by
  unfold nxt
  rw [List.find?_eq_none]
  simp only [List.mem_range, Bool.not_eq_true]
/-- All places: the depths, or where it is wrong. -/
def runL (N : Nat → Nod) (n : Nat) : Nat → List Int → List Bool → Option (Sum (List Int) Nat)
  | 0, _, _ => none
  | k + 1, d, g => match nxt n d g with
    | none => some (.inl d)
    | some i => match gotoL (N i) n i d with
      | none => some (.inr i)
      | some d' => runL N n k d' (g.set i true)
theorem gotoL_length {nd : Nod} {n i : Nat} {d d' : List Int} (h : gotoL nd n i d = some d') : d'.length = d.length := by
  have fall : ∀ (next : Int) (d1 : List Int), fallL nd n i next d1 = some d' → d'.length = d1.length := by
    intro next d1 hf
    unfold fallL at hf
    split at hf
    · cases hf; rfl
    · split at hf
      · cases hf
      · split at hf
        · cases hf; simp
        · cases hf
  unfold gotoL at h
  split at h
  · split at h
    · cases h; rfl
    · cases h
  · split at h
    · cases h
    · split at h
      · split at h
        · rw [fall _ _ h]; simp
        · cases h
      · exact fall _ _ h
theorem gone_count {g : List Bool} {i : Nat} (hi : i < g.length) (hg : gn g i = false) : (g.set i true).count false + 1 = g.count false := by
  induction g generalizing i with
  | nil => simp at hi
  | cons b g ih =>
    cases i with
    | zero =>
      simp only [gn, List.getD_cons_zero] at hg
      subst hg
      simp
    | succ i =>
      have := ih (i := i) (by simpa using hi) (by simpa [gn] using hg)
      simp only [List.set_cons_succ, List.count_cons]
      omega
theorem runL_some (N : Nat → Nod) (n : Nat) (k : Nat) : ∀ d g, g.length = n → g.count false < k → ∃ r, runL N n k d g = some r := by
  induction k with
  | zero => intro d g _ h; omega
  | succ k ih =>
    intro d g hl hc
    unfold runL
    cases hn : nxt n d g with
    | none => exact ⟨_, rfl⟩
    | some i =>
      obtain ⟨h1, h2, h3⟩ := nxt_some.1 hn
      cases hg : gotoL (N i) n i d with
      | none => exact ⟨.inr i, by simp only [hg]⟩
      | some d' =>
        simp only [hg]
        have hgf : gn g i = false := by unfold wait at h2; simp at h2; exact h2.2
        have := gone_count (g := g) (i := i) (by omega) hgf
        exact ih d' (g.set i true) (by simpa using hl) (by omega)
/-- More fuel changes nothing. -/
theorem runL_mono (N : Nat → Nod) (n : Nat) (k : Nat) : ∀ d g r, runL N n k d g = some r → runL N n (k + 1) d g = some r := by
  induction k with
  | zero => intro d g r h; simp [runL] at h
  | succ k ih =>
    intro d g r h
    unfold runL at h ⊢
    split at h
    · exact h
    · split at h
      · exact h
      · exact ih _ _ _ h

/-! ### what fits is closed -/
/-- Every place that was gone through leads to places at the right depths. -/
structure Done (N : Nat → Nod) (n : Nat) (d : List Int) (i : Nat) : Prop where
  pos : 0 ≤ dp d i
  fin : (N i).ends = true → dp d i = (N i).takes
  deep : (N i).ends = false → (N i).takes ≤ dp d i
  tgt : (N i).ends = false → ∀ t, (N i).tgt = some t → dp d t = thr (N i).mode (dp d i) (dp d i - (N i).takes + (N i).leave)
  next : (N i).ends = false → (N i).jump = false → i + 1 < n ∧ dp d (i + 1) = dp d i - (N i).takes + (N i).leave
/-- Depths that were met stay. -/
def Ext (d d' : List Int) : Prop := d'.length = d.length ∧ ∀ j, 0 ≤ dp d j → dp d' j = dp d j
theorem Ext.refl (d : List Int) : Ext d d := ⟨rfl, fun _ _ => rfl⟩
theorem Ext.trans {a b c : List Int} (h : Ext a b) (k : Ext b c) : Ext a c := ⟨k.1.trans h.1, fun j hj => (k.2 j (by rw [h.2 j hj]; exact hj)).trans (h.2 j hj)⟩
theorem dp_lt {d : List Int} {t : Nat} (h : 0 ≤ dp d t) : t < d.length := by
  apply Decidable.byContradiction
  intro hn
  have : dp d t = -1 := by unfold dp; rw [List.getD_eq_getElem?_getD, List.getElem?_eq_none (by omega)]; rfl
  omega
theorem meetL_ext (d : List Int) (t : Nat) (x : Int) : Ext d (meetL d t x) := by
  refine ⟨meetL_length _ _ _, fun j hj => ?_⟩
  unfold meetL
  split
  · next h =>
    by_cases ht : t < d.length
    · rw [dp_set ht]
      by_cases e : t = j
      · subst e; omega
      · rw [if_neg e]
    · rw [List.set_eq_of_length_le (by omega)]
  · rfl
theorem okL_iff {d : List Int} {t : Nat} {x : Int} : okL d t x = true ↔ dp (meetL d t x) t = x := by unfold okL; simp
/-- Sound places: takes and leave are from 0 on, targets are places. -/
structure Sound (N : Nat → Nod) (n : Nat) : Prop where
  takes : ∀ i, 0 ≤ (N i).takes
  leave : ∀ i, 0 ≤ (N i).leave
  tgt : ∀ i t, (N i).tgt = some t → t < n
theorem fallL_some {nd : Nod} {n i : Nat} {next : Int} {d d' : List Int} (h : fallL nd n i next d = some d') : Ext d d' ∧ (nd.jump = false → i + 1 ≠ n ∧ dp d' (i + 1) = next) := by
  unfold fallL at h
  split at h
  · next hj => cases h; exact ⟨Ext.refl _, fun e => by rw [hj] at e; cases e⟩
  · split at h
    · cases h
    · next hn =>
      split at h
      · next ho => cases h; exact ⟨meetL_ext _ _ _, fun _ => ⟨hn, okL_iff.1 ho⟩⟩
      · cases h
theorem gotoL_done {N : Nat → Nod} {n i : Nat} {d d' : List Int} (hs : Sound N n) (hl : d.length = n) (hi : 0 ≤ dp d i) (h : gotoL (N i) n i d = some d') : Ext d d' ∧ Done N n d' i := by
  have hin : i < n := hl ▸ dp_lt hi
  unfold gotoL at h
  split at h
  · next he =>
    split at h
    · next hd => cases h; exact ⟨Ext.refl _, ⟨hi, fun _ => hd, (fun e => absurd (he.symm.trans e) (by decide)), (fun e => absurd (he.symm.trans e) (by decide)), (fun e => absurd (he.symm.trans e) (by decide))⟩⟩
    · cases h
  · next he =>
    have he' : (N i).ends = false := by simpa using he
    split at h
    · cases h
    · next hd =>
      have hnx : 0 ≤ dp d i - (N i).takes + (N i).leave := by have := hs.leave i; omega
      have hth : 0 ≤ thr (N i).mode (dp d i) (dp d i - (N i).takes + (N i).leave) := thr_nn hi hnx
      have fin : ∀ d1, Ext d d1 → (∀ t, (N i).tgt = some t → dp d1 t = thr (N i).mode (dp d i) (dp d i - (N i).takes + (N i).leave)) → fallL (N i) n i (dp d i - (N i).takes + (N i).leave) d1 = some d' → Ext d d' ∧ Done N n d' i := by
        intro d1 h1 ht hf
        obtain ⟨h2, h3⟩ := fallL_some hf
        have hx := h1.trans h2
        have hdi : dp d' i = dp d i := hx.2 i hi
        refine ⟨hx, ⟨by omega, (fun e => absurd (he'.symm.trans e) (by decide)), fun _ => by omega, fun _ t htt => ?_, fun _ hj => ?_⟩⟩
        · rw [hdi, h2.2 t (by rw [ht t htt]; exact hth), ht t htt]
        · obtain ⟨a, b⟩ := h3 hj
          rw [hdi]
          exact ⟨by omega, b⟩
      split at h
      · next t htg =>
        split at h
        · next ho =>
          refine fin _ (meetL_ext _ _ _) (fun t' ht' => ?_) h
          rw [htg] at ht'
          cases ht'
          exact okL_iff.1 ho
        · cases h
      · next htg => exact fin _ (Ext.refl _) (fun t' ht' => by rw [htg] at ht'; cases ht') h
theorem Done.ext {N : Nat → Nod} {n i : Nat} {d d' : List Int} (hs : Sound N n) (h : Done N n d i) (hx : Ext d d') : Done N n d' i := by
  have hd := hx.2 i h.pos
  refine ⟨by rw [hd]; exact h.pos, fun e => by rw [hd]; exact h.fin e, fun e => by rw [hd]; exact h.deep e, fun e t ht => ?_, fun e hj => ?_⟩
  · have h1 := h.tgt e t ht
    have hdp := h.deep e
    have hl := hs.leave i
    rw [hd, hx.2 t (by rw [h1]; exact thr_nn h.pos (by omega)), h1]
  · obtain ⟨a, b⟩ := h.next e hj
    have hdp := h.deep e
    have hl := hs.leave i
    refine ⟨a, ?_⟩
    rw [hd, hx.2 (i + 1) (by omega), b]
theorem runL_fits {N : Nat → Nod} {n : Nat} (hs : Sound N n) (k : Nat) : ∀ d g r, d.length = n → g.length = n → (∀ i, gn g i = true → Done N n d i) → runL N n k d g = some (.inl r) → Ext d r ∧ ∀ i, 0 ≤ dp r i → Done N n r i := by
  induction k with
  | zero => intro d g r _ _ _ h; simp [runL] at h
  | succ k ih =>
    intro d g r hd hg hdone h
    unfold runL at h
    split at h
    · next hn =>
      cases h
      refine ⟨Ext.refl _, fun i hi => ?_⟩
      have := nxt_none.1 hn i (hd ▸ dp_lt hi)
      unfold wait at this
      simp only [Bool.and_eq_false_iff, decide_eq_false_iff_not, Bool.not_eq_false'] at this
      rcases this with h1 | h1
      · exact absurd hi h1
      · exact hdone i h1
    · next i hn =>
      split at h
      · cases h
      · next d' hgo =>
        obtain ⟨h1, h2, h3⟩ := nxt_some.1 hn
        have hpos : 0 ≤ dp d i := by unfold wait at h2; simp at h2; exact h2.1
        obtain ⟨hx, hD⟩ := gotoL_done hs hd hpos hgo
        have := ih d' (g.set i true) r (by rw [gotoL_length hgo]; exact hd) (by simpa using hg) (fun j hj => by
          rw [gn_set (by omega)] at hj
          by_cases e : i = j
          · subst e; exact hD
          · rw [if_neg e] at hj; exact (hdone j hj).ext hs hx) h
        exact ⟨hx.trans this.1, this.2⟩
/-! ### circles -/
/-- Where a free instruction leads; none: it is not free. -/
def hop (fr : Nat → Option Nat) : Nat → Nat → Bool
  | 0, _ => true
  | k + 1, i => match fr i with
    | some j => hop fr k j
    | none => false
/-- The least met place from which there is a circle. -/
def circL (fr : Nat → Option Nat) (n : Nat) (d : List Int) : Option Nat := (List.range n).find? (fun i => decide (0 ≤ dp d i) && hop fr (n + 1) i)
def hops (fr : Nat → Option Nat) : Nat → Nat → Option Nat
  | 0, i => some i
  | k + 1, i => (fr i).bind (hops fr k)
theorem hop_hops (fr : Nat → Option Nat) : ∀ k i, hop fr k i = (hops fr k i).isSome
  | 0, i => rfl
  | k + 1, i => by
    simp only [hop, hops]
    cases fr i with
    | none => rfl
    | some j => exact hop_hops fr k j
theorem hops_next (fr : Nat → Option Nat) : ∀ k i, hops fr (k + 1) i = (hops fr k i).bind fr
  | 0, i => by simp [hops]
  | k + 1, i => by
    rw [hops]
    cases h : fr i with
    | none => simp [hops, h]
    | some j =>
      show hops fr (k + 1) j = _
      rw [hops_next fr k j]
      simp [hops, h]
theorem circL_none {fr : Nat → Option Nat} {n : Nat} {d : List Int} : circL fr n d = none ↔ ∀ i, i < n → 0 ≤ dp d i → hop fr (n + 1) i = false := by
  unfold circL
  rw [List.find?_eq_none]
  simp only [List.mem_range, Bool.not_eq_true, Bool.and_eq_false_iff, decide_eq_false_iff_not]
  constructor
  · intro h i hi hd
    rcases h i hi with h1 | h1
    · exact absurd hd h1
    · exact h1
  · intro h i hi
    by_cases hd : 0 ≤ dp d i
    · exact .inr (h i hi hd)
    · exact .inl hd
theorem circL_some {fr : Nat → Option Nat} {n i : Nat} {d : List Int} : circL fr n d = some i ↔ i < n ∧ 0 ≤ dp d i ∧ hop fr (n + 1) i = true ∧ ∀ j, j < i → ¬ (0 ≤ dp d j ∧ hop fr (n + 1) j = true) := by
  unfold circL
  rw [List.find?_range_eq_some]
  simp only [List.mem_range, Bool.and_eq_true, decide_eq_true_eq]
  constructor
  · rintro ⟨⟨h1, h2⟩, h3, h4⟩
    exact ⟨h3, h1, h2, fun j hj h => by
      have := h4 j hj
      simp at this
      rcases this with h5 | h5
      · have := h.1; omega
      · rw [h.2] at h5; cases h5⟩
  · rintro ⟨h1, h2, h3, h4⟩
    refine ⟨⟨h2, h3⟩, h1, fun j hj => ?_⟩
    simp only [Bool.not_eq_true', Bool.and_eq_false_iff, decide_eq_false_iff_not]
    by_cases hd : 0 ≤ dp d j
    · right
      cases hh : hop fr (n + 1) j
      · rfl
      · exact absurd ⟨hd, hh⟩ (h4 j hj)
    · exact .inl hd
/-- Code as it is gone through, whole: the depths, or where it is wrong. -/
def start (n : Nat) : List Int := (List.replicate n (-1)).set 0 0
def lookL (N : Nat → Nod) (fr : Nat → Option Nat) (n : Nat) : Sum (List Int) Nat :=
  match runL N n (n + 1) (start n) (List.replicate n false) with
  | some (.inr i) => .inr i
  | some (.inl d) => (match circL fr n d with | some i => .inr i | none => .inl d)
  | none => .inr 0
theorem start_dp {n i : Nat} (hn : 0 < n) : dp (start n) i = if i = 0 then 0 else -1 := by
  unfold start
  rw [dp_set (by simpa using hn)]
  by_cases e : i = 0
  · subst e; simp
  · rw [if_neg (fun h => e h.symm), if_neg e]
    unfold dp
    by_cases hi : i < n
    · simp [hi]
    · simp [hi]
/-- What fits: closed, 0 is met at 0, no circle. -/
theorem lookL_fits {N : Nat → Nod} {fr : Nat → Option Nat} {n : Nat} {d : List Int} (hs : Sound N n) (hn : 0 < n) (h : lookL N fr n = .inl d) :
    d.length = n ∧ dp d 0 = 0 ∧ (∀ i, 0 ≤ dp d i → Done N n d i) ∧ circL fr n d = none := by
  unfold lookL at h
  split at h
  · cases h
  · next d' hr =>
    split at h
    · cases h
    · next hc =>
      cases h
      have hg : ∀ i, gn (List.replicate n false) i = true → Done N n (start n) i := fun i hi => by
        unfold gn at hi
        by_cases hin : i < n
        · simp [hin] at hi
        · simp [hin] at hi
      obtain ⟨hx, hd⟩ := runL_fits hs (n + 1) (start n) (List.replicate n false) d (by simp [start]) (by simp) hg hr
      refine ⟨by rw [hx.1]; simp [start], ?_, hd, hc⟩
      rw [hx.2 0 (by rw [start_dp hn]; simp), start_dp hn]; rfl
  · cases h
end Go.Proofs.Ytcpjjnikehcleaa.Lk
