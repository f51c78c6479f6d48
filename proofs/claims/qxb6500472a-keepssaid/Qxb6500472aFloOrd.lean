import Derived.Test.Qxb6500472aFloLaw
namespace Go.Proofs.Qxb6500472a
open Ieee (Format Datum double single Toward)

/-- The sign and the rung of a word. -/
def sgn (f : Format) (x : Nat) : Bool := x / f.signWeight % 2 == 1
def rung (f : Format) (x : Nat) : Nat := x % f.signWeight
/-- The word is a finite number. -/
def fin (f : Format) (x : Nat) : Prop := rung f x < f.infRung

theorem read_fin (f : Format) (x : Nat) (h : fin f x) : ∃ m e, f.read x = .number (sgn f x) m e ∧ f.leastPlace ≤ e ∧ m * 2 ^ (e - f.leastPlace).toNat = valR f (rung f x) := by
  unfold Format.read
  simp only
  have h' : x % f.signWeight < f.infRung := h
  by_cases hb : x % f.signWeight < f.binade
  · rw [if_pos hb]
    refine ⟨_, _, rfl, Int.le_refl _, ?_⟩
    rw [Int.sub_self, show rung f x = x % f.signWeight from rfl, valR_small f _ hb]
    show _ * 2 ^ 0 = _
    rw [Nat.pow_zero, Nat.mul_one]
  · rw [if_neg hb, if_pos h']
    refine ⟨_, _, rfl, by omega, ?_⟩
    unfold valR rung
    rw [if_neg hb]
    congr 2
    omega
theorem read_inf (f : Format) (x : Nat) (h : rung f x = f.infRung) (hb : f.binade ≤ f.infRung) : f.read x = .infinity (sgn f x) := by
  unfold Format.read
  simp only
  have h' : x % f.signWeight = f.infRung := h
  rw [if_neg (by omega), if_neg (by omega), if_pos h']; rfl
theorem read_nan (f : Format) (x : Nat) (h : f.infRung < rung f x) (hb : f.binade ≤ f.infRung) : ∃ t, f.read x = .nan (sgn f x) t := by
  unfold Format.read
  simp only
  have h' : f.infRung < x % f.signWeight := h
  rw [if_neg (by omega), if_neg (by omega), if_neg (by omega)]
  exact ⟨_, rfl⟩

/-- A finite word's number, in units of the least place. -/
def val (f : Format) (x : Nat) : Int := if sgn f x then -(valR f (rung f x) : Int) else (valR f (rung f x) : Int)

theorem signed_units {s : Bool} {m : Nat} {e base least : Int} (h1 : base ≤ e) (h2 : least ≤ base) :
    Ieee.signed s m (e - base).toNat * 2 ^ (base - least).toNat = if s then -((m * 2 ^ (e - least).toNat : Nat) : Int) else ((m * 2 ^ (e - least).toNat : Nat) : Int) := by
  have e1 : (e - least).toNat = (e - base).toNat + (base - least).toNat := by omega
  unfold Ieee.signed
  rw [shl_eq, e1, Nat.pow_add, ← Nat.mul_assoc]
  split
  · rw [Int.neg_mul]; congr 1
  · push_cast; rfl

theorem compare_scale (a b : Int) (k : Nat) : compare (a * 2 ^ k) (b * 2 ^ k) = compare a b := by
  have hp : (0 : Int) < 2 ^ k := Int.pow_pos (by decide)
  rcases Int.lt_trichotomy a b with h | h | h
  · have h' : a * 2 ^ k < b * 2 ^ k := Int.mul_lt_mul_of_pos_right h hp
    rw [Int.compare_eq_lt.2 h', Int.compare_eq_lt.2 h]
  · subst h; simp
  · have h' : b * 2 ^ k < a * 2 ^ k := Int.mul_lt_mul_of_pos_right h hp
    rw [Int.compare_eq_gt.2 h', Int.compare_eq_gt.2 h]

/-- Two finite words stand to each other as their numbers do. -/
theorem order_fin (f : Format) (x y : Nat) (hx : fin f x) (hy : fin f y) : f.order x y = some (compare (val f x) (val f y)) := by
  obtain ⟨m, i, ex, hi, vx⟩ := read_fin f x hx
  obtain ⟨n, j, ey, hj, vy⟩ := read_fin f y hy
  unfold Format.order
  rw [ex, ey]
  simp only [Datum.order]
  congr 1
  have hb : f.leastPlace ≤ min i j := by omega
  have h1 := signed_units (s := sgn f x) (m := m) (e := i) (base := min i j) (least := f.leastPlace) (by omega) hb
  have h2 := signed_units (s := sgn f y) (m := n) (e := j) (base := min i j) (least := f.leastPlace) (by omega) hb
  rw [vx] at h1
  rw [vy] at h2
  rw [← compare_scale _ _ (min i j - f.leastPlace).toNat, h1, h2]
  rfl
end Go.Proofs.Qxb6500472a
