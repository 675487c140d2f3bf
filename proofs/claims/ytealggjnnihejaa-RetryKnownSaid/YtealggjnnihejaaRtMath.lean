/- Plain laws of waits, their sum and drawn waits: numbers alone, no Go and no memory. -/
namespace Go.Proofs.Ytealggjnnihejaa.Rt

/-- The greatest int64. -/
def gr : Int := 9223372036854775807

/-- A policy's numbers; nf: how many fatal codes it has. -/
structure Pol where
  first : Int
  cap : Int
  num : Int
  den : Int
  most : Int
  spread : Int
  nf : Int

def okP (p : Pol) : Prop := 0 ≤ p.first ∧ p.first ≤ p.cap ∧ 1 ≤ p.den ∧ p.den ≤ p.num ∧ p.num ≤ 1000 ∧ 1 ≤ p.most ∧ p.most ≤ 1000 ∧ 0 ≤ p.spread ∧ p.spread ≤ 100 ∧ p.nf ≤ 100 ∧ p.cap ≤ gr

def nx (p : Pol) (w : Int) : Int := if w * p.num > gr then p.cap else min (w * p.num / p.den) p.cap

def it (p : Pol) : Nat → Int
  | 0 => p.first
  | n + 1 => nx p (it p n)

theorem nx_ge {p : Pol} (h : okP p) {w : Int} (h0 : p.first ≤ w) (h1 : w ≤ p.cap) : w ≤ nx p w ∧ nx p w ≤ p.cap := by
  obtain ⟨a, b, c, d, _⟩ := h
  unfold nx
  split
  · exact ⟨h1, Int.le_refl _⟩
  · have : w ≤ w * p.num / p.den := by
      rw [Int.le_ediv_iff_mul_le (by omega)]
      exact Int.mul_le_mul_of_nonneg_left d (by omega)
    omega

theorem it_bd {p : Pol} (h : okP p) (n : Nat) : p.first ≤ it p n ∧ it p n ≤ p.cap := by
  induction n with
  | zero => exact ⟨Int.le_refl _, h.2.1⟩
  | succ n ih => have := nx_ge h ih.1 ih.2; exact ⟨by show _ ≤ nx p (it p n); omega, this.2⟩

theorem it_mono1 {p : Pol} (h : okP p) (n : Nat) : it p n ≤ it p (n + 1) := (nx_ge h (it_bd h n).1 (it_bd h n).2).1

theorem it_mono {p : Pol} (h : okP p) (n k : Nat) : it p n ≤ it p (n + k) := by
  induction k with
  | zero => exact Int.le_refl _
  | succ k ih => exact Int.le_trans ih (it_mono1 h (n + k))

theorem it_stays {p : Pol} {n : Nat} (h : it p (n + 1) = it p n) (k : Nat) : it p (n + k) = it p n := by
  induction k with
  | zero => rfl
  | succ k ih => show nx p (it p (n + k)) = _; rw [ih]; exact h

/-- The first n waits. -/
def upto (p : Pol) (n : Nat) : List Int := (List.range n).map (it p)
theorem upto_succ (p : Pol) (n : Nat) : upto p (n + 1) = upto p n ++ [it p n] := by simp [upto, List.range_succ]
theorem upto_length (p : Pol) (n : Nat) : (upto p n).length = n := by simp [upto]

/-- Sum and product of what is not below 0, held at the greatest number. -/
def sadd (a b : Int) : Int := if a + b > gr then gr else a + b
def smul (a b : Int) : Int := if a * b > gr then gr else a * b
def sums (l : List Int) : Int := l.foldl sadd 0
theorem sums_snoc (l : List Int) (x : Int) : sums (l ++ [x]) = sadd (sums l) x := by simp [sums]
def lastOf (l : List Int) : Int := l.getLastD 0
theorem lastOf_snoc (l : List Int) (x : Int) : lastOf (l ++ [x]) = x := by simp [lastOf]

theorem sadd_bd {a b : Int} (ha : 0 ≤ a) (hb : 0 ≤ b) (h : a ≤ gr) : 0 ≤ sadd a b ∧ sadd a b ≤ gr ∧ a ≤ sadd a b := by
  unfold sadd; have : 0 ≤ gr := by unfold gr; omega
  split <;> omega

def tot (p : Pol) : Nat → Int
  | 0 => 0
  | n + 1 => sadd (tot p n) (it p n)

theorem sums_upto (p : Pol) (n : Nat) : sums (upto p n) = tot p n := by
  induction n with
  | zero => rfl
  | succ n ih => rw [upto_succ, sums_snoc, ih]; rfl

theorem tot_bd {p : Pol} (h : okP p) (n : Nat) : 0 ≤ tot p n ∧ tot p n ≤ gr := by
  induction n with
  | zero => exact ⟨Int.le_refl _, by unfold tot gr; omega⟩
  | succ n ih => have := sadd_bd ih.1 (Int.le_trans h.1 (it_bd h n).1) ih.2; exact ⟨this.1, this.2.1⟩

/-- From a wait on that stays, the rest of the sum is a product. -/
theorem tot_stays {p : Pol} (h : okP p) {n : Nat} (hs : it p (n + 1) = it p n) (k : Nat) : tot p (n + k) = sadd (tot p n) (smul (it p n) k) := by
  have h0 := (it_bd h n).1
  have h1 := h.1
  have hg : 0 ≤ gr := by unfold gr; omega
  induction k with
  | zero => have := tot_bd h n; simp [sadd, smul]; omega
  | succ k ih =>
    show sadd (tot p (n + k)) (it p (n + k)) = _
    rw [ih, it_stays hs]
    have ht := tot_bd h n
    have hm : it p n * ((k + 1 : Nat) : Int) = it p n * (k : Int) + it p n := by
      rw [Int.natCast_add, Int.mul_add]; simp
    have hk : 0 ≤ it p n * (k : Int) := Int.mul_nonneg (by omega) (by omega)
    unfold sadd smul
    rw [hm]
    generalize it p n * (k : Int) = x at *
    generalize it p n = y at *
    generalize tot p n = z at *
    repeat' split
    all_goals omega

/-- What is left of a wait behind a draw. -/
def cutOf (p : Pol) (w d : Int) : Int := w * p.spread / 100 * d / 4294967296
def drawn (p : Pol) (w d : Int) : Int := w - cutOf p w d

theorem part_le {w s : Int} (hw : 0 ≤ w) (hs0 : 0 ≤ s) (hs : s ≤ 100) : 0 ≤ w * s / 100 ∧ w * s / 100 ≤ w := by
  have h1 : 0 ≤ w * s := Int.mul_nonneg hw hs0
  have h2 : w * s ≤ w * 100 := Int.mul_le_mul_of_nonneg_left hs hw
  omega

theorem cut_bd {p : Pol} (h0 : 0 ≤ p.spread) (h1 : p.spread ≤ 100) {w d : Int} (hw : 0 ≤ w) (hd0 : 0 ≤ d) (hd : d < 4294967296) :
    0 ≤ cutOf p w d ∧ cutOf p w d ≤ w * p.spread / 100 := by
  have hm := part_le hw h0 h1
  unfold cutOf
  generalize w * p.spread / 100 = m at *
  have a1 : 0 ≤ m * d := Int.mul_nonneg hm.1 hd0
  have a2 : m * d ≤ m * 4294967296 := Int.mul_le_mul_of_nonneg_left (by omega) hm.1
  omega

theorem drawn_bd {p : Pol} (h0 : 0 ≤ p.spread) (h1 : p.spread ≤ 100) {w d : Int} (hw : 0 ≤ w) (hd0 : 0 ≤ d) (hd : d < 4294967296) :
    0 ≤ drawn p w d ∧ drawn p w d ≤ w := by
  have hm := part_le hw h0 h1
  have := cut_bd (p := p) h0 h1 hw hd0 hd
  unfold drawn; omega

theorem drawn_zero (p : Pol) (w : Int) : drawn p w 0 = w := by simp [drawn, cutOf]

theorem drawn_anti {p : Pol} (h0 : 0 ≤ p.spread) (h1 : p.spread ≤ 100) {w d e : Int} (hw : 0 ≤ w) (hde : d ≤ e) : drawn p w e ≤ drawn p w d := by
  have hm := part_le hw h0 h1
  unfold drawn cutOf
  generalize w * p.spread / 100 = m at *
  have a2 : m * d ≤ m * e := Int.mul_le_mul_of_nonneg_left hde hm.1
  have := Int.ediv_le_ediv (c := 4294967296) (by omega) a2
  omega

/-- By hundreds and what is left. -/
theorem hundreds (w s : Int) : w * s / 100 = w / 100 * s + w % 100 * s / 100 := by
  have h := Int.mul_ediv_add_emod w 100
  have e : w * s = 100 * (w / 100 * s) + w % 100 * s := by
    conv => lhs; rw [← h]
    rw [Int.add_mul, Int.mul_assoc]
  rw [e, Int.add_comm, Int.add_mul_ediv_left _ _ (by omega), Int.add_comm]

/-- By halves. -/
theorem halves (m d : Int) : m * d / 4294967296 = m / 4294967296 * d + m % 4294967296 * d / 4294967296 := by
  have h := Int.mul_ediv_add_emod m 4294967296
  have e : m * d = 4294967296 * (m / 4294967296 * d) + m % 4294967296 * d := by
    conv => lhs; rw [← h]
    rw [Int.add_mul, Int.mul_assoc]
  rw [e, Int.add_comm, Int.add_mul_ediv_left _ _ (by omega), Int.add_comm]

/-- The sum of waits drawn is at most the sum of the waits. -/
def dsum (p : Pol) (ds : Nat → Int) : Nat → Int
  | 0 => 0
  | n + 1 => sadd (dsum p ds n) (drawn p (it p n) (ds n))
theorem dsum_le {p : Pol} (h : okP p) (ds : Nat → Int) (hd : ∀ n, 0 ≤ ds n ∧ ds n < 4294967296) (n : Nat) : 0 ≤ dsum p ds n ∧ dsum p ds n ≤ tot p n := by
  induction n with
  | zero => exact ⟨Int.le_refl _, Int.le_refl _⟩
  | succ n ih =>
    have h0 := (it_bd h n).1
    have ht := tot_bd h n
    have hw := h.1
    have b := drawn_bd (p := p) h.2.2.2.2.2.2.2.1 h.2.2.2.2.2.2.2.2.1 (w := it p n) (by omega) (hd n).1 (hd n).2
    have hg : 0 ≤ gr := by unfold gr; omega
    show 0 ≤ sadd _ _ ∧ sadd _ _ ≤ sadd _ _
    unfold sadd
    generalize drawn p (it p n) (ds n) = x at *
    generalize it p n = y at *
    repeat' split
    all_goals omega

instance (p : Pol) : Decidable (okP p) := by unfold okP; infer_instance

/-- What Wait, Total, Next tell; none: numbers that are no int64 (a cap above the greatest, an attempt above it). -/
def waitOf (p : Pol) (a : Int) : Option (Int × Int) :=
  if p.cap ≤ gr ∧ a ≤ gr then (if okP p ∧ 1 ≤ a then some (it p (a - 1).toNat, 0) else some (0, 1)) else none
def totalOf (p : Pol) : Option (Int × Int) :=
  if p.cap ≤ gr then (if okP p then some (tot p (p.most - 1).toNat, 0) else some (0, 1)) else none
def nextOf (p : Pol) (fatal : List Int) (a code draw : Int) : Option (Int × Bool × Int) :=
  if p.cap ≤ gr ∧ a ≤ gr ∧ 0 ≤ draw ∧ draw < 4294967296 then
    (if okP p ∧ 1 ≤ a then (if p.most ≤ a ∨ code ∈ fatal then some (0, false, 0) else some (drawn p (it p (a - 1).toNat) draw, true, 0)) else some (0, false, 1))
  else none
def drawnOf (p : Pol) (x d : Int) : Option (Int × Int) :=
  if p.cap ≤ gr ∧ x ≤ gr ∧ 0 ≤ d ∧ d < 4294967296 then (if okP p ∧ 0 ≤ x then some (drawn p x d, 0) else some (0, 1)) else none
/-- Two words by a hundred. -/
def divOf (hi lo y : Int) : Option (Int × Int) :=
  if y = 100 ∧ 0 ≤ hi ∧ hi < 100 ∧ 0 ≤ lo ∧ lo < 18446744073709551616 then some ((hi * 18446744073709551616 + lo) / 100, (hi * 18446744073709551616 + lo) % 100) else none

end Go.Proofs.Ytealggjnnihejaa.Rt
