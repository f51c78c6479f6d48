import Derived.Test.Qxb6500472aSer4
namespace Go.Proofs.Qxb6500472a
open Go.RowKit
attribute [local go_sem] run_store_float drewN_alloc drewN_setCell
abbrev D32 (x : Nat) : Value := .float .f32 x
abbrev can32 (x : Nat) : Nat := can .f32 x
abbrev add32 (X Y : Nat) : Nat := fop .add .f32 X Y
abbrev sub32 (X Y : Nat) : Nat := fop .sub .f32 X Y
abbrev mul32 (X Y : Nat) : Nat := fop .mul .f32 X Y
abbrev quo32 (X Y : Nat) : Nat := fop .quo .f32 X Y
def ord32 (a b : Nat) : Option Ordering := FloatKind.f32.format.order a b
theorem ord32_can (a b : Nat) : ord32 (can32 a) (can32 b) = ord32 a b := (order_can .f32 a b).symm
def eq32 (a b : Nat) : Bool := ord32 a b == some .eq
def lt32 (a b : Nat) : Bool := ord32 a b == some .lt
def gt32 (a b : Nat) : Bool := ord32 a b == some .gt
def le32 (a b : Nat) : Bool := ord32 a b == some .lt || ord32 a b == some .eq
def ge32 (a b : Nat) : Bool := ord32 a b == some .gt || ord32 a b == some .eq
theorem eq32_can (a b : Nat) : eq32 (can32 a) (can32 b) = eq32 a b := by unfold eq32; rw [ord32_can]
theorem lt32_can (a b : Nat) : lt32 (can32 a) (can32 b) = lt32 a b := by unfold lt32; rw [ord32_can]
theorem gt32_can (a b : Nat) : gt32 (can32 a) (can32 b) = gt32 a b := by unfold gt32; rw [ord32_can]
theorem le32_can (a b : Nat) : le32 (can32 a) (can32 b) = le32 a b := by unfold le32; rw [ord32_can]
theorem ge32_can (a b : Nat) : ge32 (can32 a) (can32 b) = ge32 a b := by unfold ge32; rw [ord32_can]

/-- An axis: four fields. -/
structure Ax where
  lo : Nat
  hi : Nat
  w : Nat
  wide : Bool
def Ax.v (a : Ax) : Value := .agg #[D32 a.lo, D32 a.hi, D32 a.w, .bool a.wide]
def Ax.can (a : Ax) : Ax := ⟨can32 a.lo, can32 a.hi, can32 a.w, a.wide⟩
/-- What span makes of two float64s, all NaNs being one. -/
def spanF (lo hi : Nat) : Ax :=
  let a := conv32 lo
  let b := conv32 hi
  let c := sub32 b a
  ⟨a, b, c, !(eq32 (add32 c c) c)⟩

theorem span_close (a b c r LO HI : Nat) (wd : Bool) (ha : can32 a = conv32 LO) (hb : can32 b = conv32 HI) (hc : can32 c = sub32 (can32 b) (can32 a)) (hr : can32 r = add32 (can32 c) (can32 c))
    (hw : (FloatKind.f32.format.order r c == some .eq) = !wd) : (⟨a, b, c, wd⟩ : Ax).can = spanF LO HI := by
  have e : eq32 (can32 r) (can32 c) = !wd := by rw [eq32_can]; exact hw
  rw [hr] at e
  simp only [Ax.can, spanF, ← ha, ← hb, ← hc, e, Bool.not_not]

set_option maxHeartbeats 2000000 in
theorem span_any (lo hi : Nat) (fl : fits32 lo = true) (fh : fits32 hi = true) (w : World) :
    Calls Try.prog 68 #[D64 lo, D64 hi] w fun e w' => ∃ a : Ax, e = .returned a.v ∧ a.can = spanF (can64 lo) (can64 hi) ∧ Below w.heap.size w w' := by
  obtain ⟨ra, na, ha, ca⟩ := arith_ex Try.prog .add 35 .f32 (by simp)
  obtain ⟨rs, ns, hs, cs⟩ := arith_ex Try.prog .sub 35 .f32 (by simp)
  obtain ⟨rc, nc, hc, cc⟩ := conv_ex Try.prog 80 35 Try.underlying80 Try.underlying35
  go_enter Try.func68, Try.ntmps68
  go_wp2
  · refine ret_row Try.results68 rfl rfl (((Blk.new rfl).old _).drewN _) Try.underlying60 rfl (by kernel_rfl) ⟨⟨_, _, _, false⟩, rfl, ?_, ?_⟩
    · exact span_close _ _ _ _ _ _ _ (cc.out _ _) (cc.out _ _) (cs.out _ _ _) (ca.out _ _ _) (by assumption)
    · exact Below.drewN (((Below.refl _ _).alloc (Nat.le_refl _) _).alloc (by simp) _) _
  · refine ret_row Try.results68 rfl rfl (((Blk.new rfl).old _).drewN _) Try.underlying60 rfl (by kernel_rfl) ⟨⟨_, _, _, true⟩, rfl, ?_, ?_⟩
    · exact span_close _ _ _ _ _ _ _ (cc.out _ _) (cc.out _ _) (cs.out _ _ _) (ca.out _ _ _) (by assumption)
    · exact Below.drewN (((Below.refl _ _).alloc (Nat.le_refl _) _).alloc (by simp) _) _

set_option maxHeartbeats 400000 in
theorem bratio_any (n d : Int) (w : World) :
    Calls Try.prog 69 #[I n, I d] w fun e w' => ∃ r m, e = .returned (D64 r) ∧ can64 r = ratioF n d ∧ w' = w.drewN m := by
  obtain ⟨rq, nq, hq, cq⟩ := arith_ex Try.prog .quo 80 .f64 (by simp)
  go_enter Try.func69, Try.ntmps69
  go_wp2
  go_ret
  refine ⟨_, _, rfl, ?_, rfl⟩
  exact (cq.out _ _ _).trans (by rw [can_ofInt, can_ofInt]; rfl)
/-- 'float32(ratio)', all NaNs being one. -/
def coordF (n d : Int) : Nat := conv32 (ratioF n d)
set_option maxHeartbeats 400000 in
theorem coord_any (n d : Int) (hf : fits32 (ratioF n d) = true) (w : World) :
    Calls Try.prog 29 #[I n, I d] w fun e w' => ∃ r m, e = .returned (D32 r) ∧ can32 r = coordF n d ∧ w' = w.drewN m := by
  obtain ⟨rc, nc, hc, cc⟩ := conv_ex Try.prog 80 35 Try.underlying80 Try.underlying35
  go_enter Try.func29, Try.ntmps29
  go_wp2_with fail
  refine (bratio_any _ _ _).mono ?_
  rintro e w1 ⟨x, m, rfl, cx, rfl⟩
  have hx : fits32 x = true := by rw [← fits32_can]; show fits32 (can64 x) = true; rw [cx]; exact hf
  go_wp2
  go_ret
  exact ⟨_, _, rfl, (cc.out _ _).trans (by show conv32 (can64 x) = _; rw [cx]; rfl), rfl⟩
def holdsF (a : Ax) (p : Nat) : Bool := ge32 p a.lo && le32 p a.hi
theorem holdsF_can (a : Ax) (p : Nat) : holdsF a.can (can32 p) = holdsF a p := by unfold holdsF; simp only [Ax.can]; rw [ge32_can, le32_can]
set_option maxHeartbeats 400000 in
theorem holds_any (a : Ax) (p : Nat) (w : World) :
    Calls Try.prog 30 #[a.v, D32 p] w fun e w' => e = .returned (.bool (holdsF a.can (can32 p))) ∧ Below w.heap.size w w' := by
  rw [holdsF_can]
  unfold holdsF ge32 le32 ord32 Ax.v
  go_enter Try.func30, Try.ntmps30
  go_wp2
  · go_ret
    exact ⟨rfl, (Below.refl _ _).alloc (Nat.le_refl _) _⟩
  · rename_i hh
    go_ret
    refine ⟨?_, (Below.refl _ _).alloc (Nat.le_refl _) _⟩
    show Ending.returned (.bool false) = _
    simp only [not_or] at hh
    simp [hh.1, hh.2]
abbrev four32 : Nat := 1082130432
abbrev one32 : Nat := 1065353216
def fracF (a : Ax) (p : Nat) : Nat := quo32 (sub32 p a.lo) a.w
def partIn (f : Nat) : Bool := ge32 f 0 && le32 f one32
def gridI (f : Nat) : Option Int := floatToIntVal .f32 (mul32 four32 f) .i64
def partF (a : Ax) (p : Nat) : Int × Bool :=
  if a.wide then
    if partIn (fracF a p) then (if (gridI (fracF a p)).getD 0 = 4 then 3 else (gridI (fracF a p)).getD 0, true) else (0, false)
  else (0, false)
set_option maxHeartbeats 2000000 in
theorem part_any (a : Ax) (p : Nat) (hg : a.wide = true → partIn (fracF a.can (can32 p)) = true → (gridI (fracF a.can (can32 p))).isSome = true) (w : World) :
    Calls Try.prog 31 #[a.v, D32 p] w fun e w' => e = .returned (.tuple #[I (partF a.can (can32 p)).1, .bool (partF a.can (can32 p)).2]) ∧ Below w.heap.size w w' := by
  obtain ⟨rs, ns, hs, cs⟩ := arith_ex Try.prog .sub 35 .f32 (by simp)
  obtain ⟨rq, nq, hq, cq⟩ := arith_ex Try.prog .quo 35 .f32 (by simp)
  obtain ⟨rm, nm, hm, cm⟩ := arith_ex Try.prog .mul 35 .f32 (by simp)
  by_cases hw : a.wide = true
  case neg =>
    have hw : a.wide = false := by simpa using hw
    have e : partF a.can (can32 p) = (0, false) := by simp [partF, Ax.can, hw]
    rw [e]
    unfold Ax.v
    rw [hw]
    go_enter Try.func31, Try.ntmps31
    go_wp2
    go_ret2
    exact ⟨rfl, (Below.refl _ _).alloc (Nat.le_refl _) _⟩
  have hfr : ∀ W W', can32 (rq (rs p a.lo W) a.w W') = fracF a.can (can32 p) := by
    intro W W'
    refine (cq.out _ _ _).trans ?_
    rw [cs.out]
    rfl
  have Hfr : Hid _ := hfr
  clear hfr
  have hge : ∀ W W', (FloatKind.f32.format.order (rq (rs p a.lo W) a.w W') 0 == some .gt || FloatKind.f32.format.order (rq (rs p a.lo W) a.w W') 0 == some .eq) = ge32 (fracF a.can (can32 p)) 0 := by
    intro W W'
    rw [← Hfr.out W W']
    exact (ge32_can _ 0).symm
  have hle : ∀ W W', (FloatKind.f32.format.order (rq (rs p a.lo W) a.w W') one32 == some .lt || FloatKind.f32.format.order (rq (rs p a.lo W) a.w W') one32 == some .eq) = le32 (fracF a.can (can32 p)) one32 := by
    intro W W'
    rw [← Hfr.out W W']
    exact (le32_can _ one32).symm
  have hcv : ∀ W W' W'', floatToIntVal .f32 (rm four32 (rq (rs p a.lo W) a.w W') W'') .i64 = gridI (fracF a.can (can32 p)) := by
    intro W W' W''
    rw [← floatToIntVal_can, cm.out]
    show floatToIntVal .f32 (fop .mul .f32 (can .f32 four32) (can32 _)) .i64 = _
    rw [Hfr.out W W']
    rfl
  have ep : partF a.can (can32 p) = if partIn (fracF a.can (can32 p)) then (if (gridI (fracF a.can (can32 p))).getD 0 = 4 then 3 else (gridI (fracF a.can (can32 p))).getD 0, true) else (0, false) := by
    have : a.can.wide = true := hw
    simp [partF, this]
  rw [ep]
  clear ep
  replace hg := hg hw
  generalize fracF a.can (can32 p) = f at *
  unfold partIn at *
  clear Hfr
  unfold Ax.v
  rw [hw]
  cases h1 : ge32 f 0 with
  | false =>
    rw [h1] at hge
    simp only [Bool.false_and, Bool.false_eq_true, if_false]
    clear hcv hle hg
    go_enter Try.func31, Try.ntmps31
    go_wp2
    go_ret2
    exact ⟨rfl, Below.drewN ((Below.refl _ _).alloc (Nat.le_refl _) _) _⟩
  | true =>
    rw [h1] at hge
    cases h2 : le32 f one32 with
    | false =>
      rw [h2] at hle
      simp only [Bool.and_false, Bool.false_eq_true, if_false]
      clear hcv hg
      go_enter Try.func31, Try.ntmps31
      go_wp2
      go_ret2
      exact ⟨rfl, Below.drewN ((Below.refl _ _).alloc (Nat.le_refl _) _) _⟩
    | true =>
      rw [h2] at hle
      obtain ⟨k, hk⟩ := Option.isSome_iff_exists.1 (hg (by rw [h1, h2]; rfl))
      clear hg
      rw [hk] at hcv ⊢
      simp only [Bool.and_self, if_true, Option.getD_some]
      have hcv2 := fun W W' W'' V => run_convert_float_int (P := Try.prog) V 35 3 .f32 .i64 _ k (by rw [Try.underlying35]; rfl) Try.underlying3 (hcv W W' W'')
      clear hcv
      by_cases h4 : k = 4
      · subst h4
        simp only [if_true]
        go_enter Try.func31, Try.ntmps31
        go_wp2
        go_ret2
        exact ⟨rfl, Below.drewN ((Below.refl _ _).alloc (Nat.le_refl _) _) _⟩
      · rw [if_neg h4]
        have h4' : (k == 4) = false := by simpa using h4
        go_enter Try.func31, Try.ntmps31
        go_wp2
        go_ret2
        exact ⟨rfl, Below.drewN ((Below.refl _ _).alloc (Nat.le_refl _) _) _⟩
end Go.Proofs.Qxb6500472a
