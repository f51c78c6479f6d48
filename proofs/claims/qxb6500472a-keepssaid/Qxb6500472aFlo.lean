import Derived.Test.Qxb6500472aBase
import Derived.WalkLawsBesides
import Derived.Deep.Draws
namespace Go.Proofs.Qxb6500472a
open Go.RowKit
open Ieee (Format Datum double single)

/-! ### floats up to the bits of a NaN -/

def isNan (k : FloatKind) (x : Nat) : Bool := (k.format.read x).isNaN
def theNan : FloatKind → Nat
  | .f32 => 0x7fc00000
  | .f64 => 0x7ff8000000000000
/-- The float, all NaNs being one. -/
def can (k : FloatKind) (x : Nat) : Nat := if isNan k x then theNan k else x

theorem isNan_theNan (k : FloatKind) : isNan k (theNan k) = true := by cases k <;> decide +kernel

theorem can_nan {k : FloatKind} {x : Nat} (h : isNan k x = true) : can k x = theNan k := by simp [can, h]
theorem can_num {k : FloatKind} {x : Nat} (h : isNan k x = false) : can k x = x := by simp [can, h]
theorem isNan_can (k : FloatKind) (x : Nat) : isNan k (can k x) = isNan k x := by
  cases h : isNan k x with
  | true => rw [can_nan h]; exact isNan_theNan k
  | false => rw [can_num h]; exact h
theorem can_can (k : FloatKind) (x : Nat) : can k (can k x) = can k x := by
  cases h : isNan k x with
  | true => rw [can_nan h, can_nan (isNan_theNan k)]
  | false => rw [can_num h, can_num h]

theorem nan_of {d : Datum} (h : d.isNaN = true) : ∃ s t, d = .nan s t := by
  cases d with
  | nan s t => exact ⟨s, t, rfl⟩
  | _ => simp [Datum.isNaN] at h

/-- Two words that are one float. -/
theorem can_eq_iff {k : FloatKind} {x y : Nat} : can k x = can k y → x = y ∨ (isNan k x = true ∧ isNan k y = true) := by
  intro h
  cases hx : isNan k x <;> cases hy : isNan k y
  · rw [can_num hx, can_num hy] at h; exact .inl h
  · have := congrArg (isNan k) h; rw [isNan_can, isNan_can, hx, hy] at this; cases this
  · have := congrArg (isNan k) h; rw [isNan_can, isNan_can, hx, hy] at this; cases this
  · exact .inr ⟨rfl, rfl⟩

section
variable {k : FloatKind} {x y : Nat}
theorem sum_nan_l {d : Datum} (h : isNan k x = true) : (k.format.read x).sum d = none := by
  obtain ⟨s, t, e⟩ := nan_of h; rw [e]; cases d <;> rfl
theorem sum_nan_r {d : Datum} (h : isNan k y = true) : d.sum (k.format.read y) = none := by
  obtain ⟨s, t, e⟩ := nan_of h; rw [e]; cases d <;> rfl
theorem product_nan_l {d : Datum} (h : isNan k x = true) : (k.format.read x).product d = none := by
  obtain ⟨s, t, e⟩ := nan_of h; rw [e]; cases d <;> rfl
theorem product_nan_r {d : Datum} (h : isNan k y = true) : d.product (k.format.read y) = none := by
  obtain ⟨s, t, e⟩ := nan_of h; rw [e]; cases d <;> rfl
theorem quotient_nan_l {n : Nat} {d : Datum} (h : isNan k x = true) : (k.format.read x).quotient n d = none := by
  obtain ⟨s, t, e⟩ := nan_of h; rw [e]; cases d <;> rfl
theorem quotient_nan_r {n : Nat} {d : Datum} (h : isNan k y = true) : d.quotient n (k.format.read y) = none := by
  obtain ⟨s, t, e⟩ := nan_of h; rw [e]; cases d <;> rfl
theorem order_nan_l {d : Datum} (h : isNan k x = true) : (k.format.read x).order d = none := by
  obtain ⟨s, t, e⟩ := nan_of h; rw [e]; cases d <;> rfl
theorem order_nan_r {d : Datum} (h : isNan k y = true) : d.order (k.format.read y) = none := by
  obtain ⟨s, t, e⟩ := nan_of h; rw [e]; cases d <;> rfl
theorem opposite_nan {d : Datum} (h : d.isNaN = true) : d.opposite.isNaN = true := by
  obtain ⟨s, t, e⟩ := nan_of h; rw [e]; rfl
end

/-- The four operations on bits do not ask which NaN an operand is. -/
theorem floatBits_can (op : BinOp) (k : FloatKind) (x y : Nat) : floatBits op k x y = floatBits op k (can k x) (can k y) := by
  cases hx : isNan k x with
  | true =>
    have hx' : isNan k (can k x) = true := by rw [isNan_can]; exact hx
    cases op <;> simp only [floatBits, Format.add, Format.sub, Format.mul, Format.div, sum_nan_l hx, sum_nan_l hx', product_nan_l hx, product_nan_l hx', quotient_nan_l hx, quotient_nan_l hx']
  | false =>
    rw [can_num hx]
    cases hy : isNan k y with
    | true =>
      have hy' : isNan k (can k y) = true := by rw [isNan_can]; exact hy
      have s1 : (k.format.read x).sum (k.format.read y).opposite = none := by
        obtain ⟨s, t, e⟩ := nan_of hy; rw [e]; simp only [Datum.opposite]; cases k.format.read x <;> rfl
      have s2 : (k.format.read x).sum (k.format.read (can k y)).opposite = none := by
        obtain ⟨s, t, e⟩ := nan_of hy'; rw [e]; simp only [Datum.opposite]; cases k.format.read x <;> rfl
      cases op <;> simp only [floatBits, Format.add, Format.sub, Format.mul, Format.div, sum_nan_r hy, sum_nan_r hy', product_nan_r hy, product_nan_r hy', quotient_nan_r hy, quotient_nan_r hy', s1, s2]
    | false => rw [can_num hy]

theorem order_can (k : FloatKind) (x y : Nat) : k.format.order x y = k.format.order (can k x) (can k y) := by
  unfold Format.order
  cases hx : isNan k x with
  | true =>
    have hx' : isNan k (can k x) = true := by rw [isNan_can]; exact hx
    rw [order_nan_l hx, order_nan_l hx']
  | false =>
    rw [can_num hx]
    cases hy : isNan k y with
    | true =>
      have hy' : isNan k (can k y) = true := by rw [isNan_can]; exact hy
      rw [order_nan_r hy, order_nan_r hy']
    | false => rw [can_num hy]

/-! ### what an operation leaves -/

/-- The result's bits: those of the rounded result, or what the tape says of a NaN. -/
def fres (_k : FloatKind) (q : Question) (w : World) : Option Nat → Nat
  | some r => r
  | none => q.cut (w.tape w.drawn q)
/-- How many answers were drawn. -/
def nd : Option Nat → Nat
  | some _ => 0
  | none => 1

theorem run_arith {P : Program} (op : BinOp) (t : TypeId) (k : FloatKind) (x y : Nat) (hop : op = .add ∨ op = .sub ∨ op = .mul ∨ op = .quo) (w : World) :
    (binOp op t (.float k x) (.float k y)).run P w = .ok (.float k (fres k (.nanBits k x y) w (floatBits op k x y))) (w.drewN (nd (floatBits op k x y))) := by
  cases h : floatBits op k x y with
  | some r => rw [run_float_arith w op t k x y r h]; rfl
  | none =>
    unfold floatBits at h
    rcases hop with rfl | rfl | rfl | rfl <;> simp only at h <;> simp [binOp, Op.floatArith, h, choose, Sem.run, Question.forced, fres, nd] <;> rfl

/-- The abstract operation: on floats all of whose NaNs are one. -/
def fop (op : BinOp) (k : FloatKind) (X Y : Nat) : Nat := (floatBits op k X Y).getD (theNan k)

theorem isNan_of_rung (k : FloatKind) (z : Nat) (h : k.format.infRung < z % k.format.signWeight) : isNan k z = true := by
  unfold isNan Format.read
  have hb : k.format.binade ≤ k.format.infRung := by cases k <;> decide +kernel
  simp only
  rw [if_neg (by omega), if_neg (by omega), if_neg (by omega)]
  rfl
theorem nanCut64 (x y t : Nat) : isNan .f64 ((Question.nanBits .f64 x y).cut t) = true := by
  refine isNan_of_rung .f64 _ ?_
  have h2 : (t / 2) % (2 ^ 52 - 1) < 2 ^ 52 - 1 := Nat.mod_lt _ (by decide)
  show 9218868437227405312 < ((t % 2) * 2 ^ 63 + 0x7ff0000000000000 + 1 + (t / 2) % (2 ^ 52 - 1)) % 9223372036854775808
  rcases Nat.mod_two_eq_zero_or_one t with h | h <;> rw [h] <;> omega
theorem nanCut32 (x y t : Nat) : isNan .f32 ((Question.nanBits .f32 x y).cut t) = true := by
  refine isNan_of_rung .f32 _ ?_
  have h2 : (t / 2) % (2 ^ 23 - 1) < 2 ^ 23 - 1 := Nat.mod_lt _ (by decide)
  show 2139095040 < ((t % 2) * 2 ^ 31 + 0x7f800000 + 1 + (t / 2) % (2 ^ 23 - 1)) % 2147483648
  rcases Nat.mod_two_eq_zero_or_one t with h | h <;> rw [h] <;> omega
theorem nanCut (k : FloatKind) (x y t : Nat) : isNan k ((Question.nanBits k x y).cut t) = true := by
  cases k
  · exact nanCut32 x y t
  · exact nanCut64 x y t

/-- What is written is no NaN. -/
theorem write_num (k : FloatKind) {d : Datum} (h : d.isNaN = false) : isNan k (k.format.write d) = false := by
  have key : ∀ (neg : Bool) (r : Nat), r ≤ k.format.infRung → isNan k (k.format.word neg r) = false := by
    intro neg r hr
    have hlt : r < k.format.signWeight := by have := Format.infRung_lt k.format; omega
    have e : (k.format.word neg r) % k.format.signWeight = r := by
      cases neg
      · simp [Format.word]; exact Nat.mod_eq_of_lt hlt
      · simp [Format.word]; exact Nat.mod_eq_of_lt hlt
    unfold isNan Format.read
    simp only [e]
    split
    · rfl
    · split
      · rfl
      · split
        · rfl
        · omega
  cases d with
  | number neg mag place =>
    simp only [Format.write, Format.nearest]
    split
    · exact key _ _ (Nat.zero_le _)
    · exact key _ _ (Nat.min_le_right _ _)
  | infinity neg => exact key _ _ (Nat.le_refl _)
  | nan s t => cases h

theorem sum_num {a b d : Datum} (h : a.sum b = some d) : d.isNaN = false := by
  cases a <;> cases b <;> simp only [Datum.sum] at h
  all_goals first | (cases h; done) | (split at h; (cases h; rfl); cases h; done) | (split at h <;> cases h <;> rfl) | (cases h; rfl)
theorem product_num {a b d : Datum} (h : a.product b = some d) : d.isNaN = false := by
  cases a <;> cases b <;> simp only [Datum.product] at h
  all_goals first | (cases h; done) | (split at h <;> first | (cases h; done) | (cases h; rfl)) | (cases h; rfl)
theorem quotient_num {n : Nat} {a b d : Datum} (h : a.quotient n b = some d) : d.isNaN = false := by
  cases a <;> cases b <;> simp only [Datum.quotient] at h
  all_goals first | (cases h; done) | (cases h; rfl) | skip
  split at h
  · split at h
    · cases h
    · cases h; rfl
  · cases h; rfl

theorem floatBits_num {op : BinOp} {k : FloatKind} {x y r : Nat} (h : floatBits op k x y = some r) : isNan k r = false := by
  cases op <;> simp only [floatBits, Format.add, Format.sub, Format.mul, Format.div] at h
  all_goals first | (cases h; done) | skip
  all_goals
    obtain ⟨d, hd, e⟩ := Option.map_eq_some_iff.1 h
    subst e
    first | exact write_num k (sum_num hd) | exact write_num k (product_num hd) | exact write_num k (quotient_num hd)

/-- The result, all NaNs being one, is the abstract operation's. -/
theorem can_fres (op : BinOp) (k : FloatKind) (x y : Nat) (w : World) : can k (fres k (.nanBits k x y) w (floatBits op k x y)) = fop op k (can k x) (can k y) := by
  unfold fop
  rw [← floatBits_can]
  cases h : floatBits op k x y with
  | some r => simp only [fres, Option.getD_some]; exact can_num (floatBits_num h)
  | none => simp only [fres, Option.getD_none]; exact can_nan (nanCut k x y _)
/-- The operation as a walk takes it: some bits, some draws, the abstract result. -/
theorem arith_ex (P : Program) (op : BinOp) (t : TypeId) (k : FloatKind) (hop : op = .add ∨ op = .sub ∨ op = .mul ∨ op = .quo) :
    ∃ (ra : Nat → Nat → World → Nat) (na : Nat → Nat → Nat), (∀ x y W, (binOp op t (.float k x) (.float k y)).run P W = .ok (.float k (ra x y W)) (W.drewN (na x y))) ∧ Hid (∀ x y W, can k (ra x y W) = fop op k (can k x) (can k y)) :=
  ⟨fun x y W => fres k (.nanBits k x y) W (floatBits op k x y), fun x y => nd (floatBits op k x y), fun x y W => run_arith op t k x y hop W, fun x y W => can_fres op k x y W⟩
theorem fop_can (op : BinOp) (k : FloatKind) (x y : Nat) : fop op k x y = fop op k (can k x) (can k y) := by
  unfold fop; rw [floatBits_can]
theorem can_fop (op : BinOp) (k : FloatKind) (x y : Nat) : can k (fop op k x y) = fop op k x y := by
  unfold fop
  cases h : floatBits op k x y with
  | some r => exact can_num (floatBits_num h)
  | none => exact can_nan (isNan_theNan k)
theorem can_ofInt (k : FloatKind) (n : Int) : can k (floatOfInt k n) = floatOfInt k n :=
  can_num (write_num k (d := .number (n < 0) n.natAbs 0) rfl)
theorem floatToIntVal_can (k : FloatKind) (x : Nat) (d : IntKind) : floatToIntVal k (can k x) d = floatToIntVal k x d := by
  cases h : isNan k x with
  | true =>
    obtain ⟨s, t, e⟩ := nan_of h
    obtain ⟨s', t', e'⟩ := nan_of ((isNan_can k x).trans h)
    have e1 : k.decode x = .nan s t := e
    have e2 : k.decode (can k x) = .nan s' t' := e'
    simp only [floatToIntVal, e1, e2, Datum.toInt, Datum.integral]
  | false => rw [can_num h]

/-! ### float64 to float32 -/
/-- The float64 x is no number beyond float32's range. -/
def fits32 (x : Nat) : Bool := match double.read x with
  | .number s m e => !(single.read (single.write (.number s m e))).isInfinity
  | _ => true
/-- 'float32(x)' of such an x, all NaNs being one. -/
def conv32 (x : Nat) : Nat := match double.read x with
  | .nan _ _ => theNan .f32
  | d => single.write d
theorem nanConvCut (bits t : Nat) : isNan .f32 ((Question.nanConv .f32 bits).cut t) = true := nanCut32 0 0 t
theorem conv32_can (x : Nat) : conv32 (can .f64 x) = conv32 x := by
  cases h : isNan .f64 x with
  | true =>
    obtain ⟨s, t, e⟩ := nan_of h
    obtain ⟨s', t', e'⟩ := nan_of ((isNan_can .f64 x).trans h)
    have e1 : double.read x = .nan s t := e
    have e2 : double.read (can .f64 x) = .nan s' t' := e'
    simp only [conv32, e1, e2]
  | false => rw [can_num h]
theorem fits32_can (x : Nat) : fits32 (can .f64 x) = fits32 x := by
  cases h : isNan .f64 x with
  | true =>
    obtain ⟨s, t, e⟩ := nan_of h
    obtain ⟨s', t', e'⟩ := nan_of ((isNan_can .f64 x).trans h)
    have e1 : double.read x = .nan s t := e
    have e2 : double.read (can .f64 x) = .nan s' t' := e'
    simp only [fits32, e1, e2]
  | false => rw [can_num h]
theorem can_conv32 (x : Nat) : can .f32 (conv32 x) = conv32 x := by
  unfold conv32
  split
  · exact can_nan (isNan_theNan .f32)
  · rename_i d hd
    refine can_num (write_num .f32 ?_)
    cases hx : double.read x with
    | nan s t => exact absurd hx (hd s t)
    | _ => rfl
/-- The conversion as a walk takes it. -/
theorem conv_ex (P : Program) (src dst : TypeId) (hs : P.underlying src = some (.float .f64)) (hd : P.underlying dst = some (.float .f32)) :
    ∃ (rc : Nat → World → Nat) (nc : Nat → Nat), (∀ x W, fits32 x = true → (convert src dst (.float .f64 x)).run P W = .ok (.float .f32 (rc x W)) (W.drewN (nc x))) ∧ Hid (∀ x W, can .f32 (rc x W) = conv32 (can .f64 x)) := by
  refine ⟨fun x W => match double.read x with | .nan _ _ => (Question.nanConv .f32 x).cut (W.tape W.drawn (.nanConv .f32 x)) | d => single.write d, fun x => match double.read x with | .nan _ _ => 1 | _ => 0, fun x W hf => ?_, fun x W => ?_⟩
  · have hr : FloatKind.f64.decode x = double.read x := rfl
    cases hx : double.read x with
    | nan s t => simp [convert, run_underlying hs, run_underlying hd, Conv.floatToFloat, hr, hx, choose, Sem.run, Question.forced]; rfl
    | infinity s => simp [convert, run_underlying hs, run_underlying hd, Conv.floatToFloat, hr, hx]; exact ⟨rfl, rfl⟩
    | number s m e =>
      have hi : (single.read (single.write (.number s m e))).isInfinity = false := by simpa [fits32, hx] using hf
      have hi' : (FloatKind.f32.decode (FloatKind.f32.encode (.number s m e))).isInfinity = false := hi
      simp [convert, run_underlying hs, run_underlying hd, Conv.floatToFloat, hr, hx, hi']; exact ⟨rfl, rfl⟩
  · rw [conv32_can]
    unfold conv32
    show can .f32 (match double.read x with | .nan _ _ => (Question.nanConv .f32 x).cut (W.tape W.drawn (.nanConv .f32 x)) | d => single.write d) = _
    cases hx : double.read x with
    | nan s t => exact can_nan (nanConvCut x _)
    | infinity s => exact can_num (write_num .f32 (d := .infinity s) rfl)
    | number s m e => exact can_num (write_num .f32 (d := .number s m e) rfl)

/-- A float is the value of one cell. -/
theorem run_store_float {P : Program} {w : World} {a : Addr} {m : Mode} (k : FloatKind) (x : Nat) : (store a (.float k x) m).run P w = stored P w a (.float k x) m := run_store P w a _ m rfl
theorem drewN_alloc (w : World) (n : Nat) (o : Obj) : (w.drewN n).alloc o = (w.alloc o).drewN n := rfl
theorem drewN_setCell (w : World) (n : Nat) (a : Addr) (v : Value) : (w.drewN n).setCell a v = (w.setCell a v).drewN n := rfl
theorem Blk.drewN {w : World} {b : Nat} {c : Array Value} {t : TypeId} (h : Blk w b c t) (n : Nat) : Blk (w.drewN n) b c t := h
theorem Upd.drewN {bs : List Nat} {a w : World} (h : Upd bs a w) (n : Nat) : Upd bs a (w.drewN n) := ⟨h.os, h.tape, h.output, h.size, h.block⟩
theorem Below.drewN {B : Nat} {a w : World} (h : Below B a w) (n : Nat) : Below B a (w.drewN n) := ⟨h.os, h.tape, h.output, h.size, h.block⟩
end Go.Proofs.Qxb6500472a
