import Derived.Test.Qxb6500470aIt9
namespace Go.Proofs.Qxb6500470a
open Go.RowKit Go.Shelf
/-- a + b, the size not tested. -/
def rawAdd : TV → TV → Except Int TV
  | .int n, .int m => .ok (.int (wrap64 (n + m)))
  | .int _, _ => .error 6
  | .str s, .str t => .ok (.str (s ++ t))
  | .str _, _ => .error 6
  | .pair _ _, _ => .error 5
  | .nil, b => if b.isList then .ok b else .error 6
  | .cons h t, b => if b.isList then .ok (appT (.cons h t) b) else .error 6
def plusT (a b : TV) : Except Int TV :=
  match rawAdd a b with
  | .error k => .error k
  | .ok x => if (text x).length ≤ 30 then .ok x else .error 7
theorem inner_app (c d : TV) : (inner (appT c d)).length ≤ (inner c).length + 1 + (inner d).length := by
  induction c with
  | cons a b _ ih =>
    show (inner (.cons a (appT b d))).length ≤ _
    rw [inner_cons, inner_cons]
    have h1 : ((if (appT b d).isCons = true then [32] ++ inner (appT b d) else []) : List UInt8).length ≤ 1 + (inner (appT b d)).length := by split <;> simp <;> omega
    cases hb : b.isCons with
    | true => simp at *; omega
    | false =>
      have e : appT b d = d := by cases b <;> first | (simp [TV.isCons] at hb; done) | rfl
      rw [e] at h1 ⊢
      simp at *
      omega
  | _ => show (inner d).length ≤ _; omega
theorem text_inner (y : TV) (h : y.isList = true) : (text y).length = (inner y).length + 2 := by
  cases y with
  | cons a b => rw [text_cons]; simp
  | nil => rfl
  | _ => simp [TV.isList] at h
theorem app_list (c d : TV) (hc : c.isList = true) (hd : d.isList = true) : (appT c d).isList = true := by
  cases c with
  | cons a b => rfl
  | nil => exact hd
  | _ => simp [TV.isList] at hc
theorem str_text (s : List UInt8) : (text (.str s)).length = (itoa s.length).length + 1 + s.length := by
  show (itoa s.length ++ [58] ++ s).length = _
  simp
  omega
theorem raw_len (a b x : TV) (h : rawAdd a b = .ok x) (la : (text a).length ≤ 30) (lb : (text b).length ≤ 30) : (text x).length ≤ 1000 := by
  cases a with
  | int n =>
    cases b with
    | int m =>
      simp only [rawAdd, Except.ok.injEq] at h
      subst h
      have := w64_bounds (n + m)
      have := itoa_len _ this.1 this.2
      show (itoa _).length ≤ 1000
      omega
    | _ => simp [rawAdd] at h
  | str s =>
    cases b with
    | str t =>
      simp only [rawAdd, Except.ok.injEq] at h
      subst h
      rw [str_text] at *
      have := itoa_len ((s ++ t).length : Int) (by omega) (by simp; omega)
      simp at *
      omega
    | _ => simp [rawAdd] at h
  | nil =>
    simp only [rawAdd] at h
    split at h
    · simp only [Except.ok.injEq] at h; subst h; omega
    · cases h
  | cons p q =>
    simp only [rawAdd] at h
    split at h
    · rename_i hb
      simp only [Except.ok.injEq] at h
      subst h
      have h1 := inner_app (.cons p q) b
      have h2 := text_inner _ (app_list (.cons p q) b rfl hb)
      have h3 := text_inner (.cons p q) rfl
      have h4 := text_inner b hb
      omega
    · cases h
  | pair p q => simp [rawAdd] at h
/-- What plus answers. -/
def PlusR (K : Nat → Prop) (w : World) (a b : TV) : Ending → World → Prop := fun e w' =>
  (match plusT a b with | .error k => e = .returned (.tuple #[.nilIface, I k]) | .ok x => ∃ v, e = .returned (.tuple #[v, I 0]) ∧ NewV K w x v w') ∧ Below w.heap.size w w'
theorem NewV.same {K : Nat → Prop} {w : World} {x : TV} {v : Value} (h : RV K w x v) : NewV K w x v w := ⟨K, fun _ h => h, fun _ h => .inl h, h⟩
theorem plus_of (K : Nat → Prop) (w : World) (a b x : TV) (t : TypeId) (u vb : Value) (fA : FuncId) (r : Value) (ks : ∀ k, K k → k < w.heap.size) (hx : rawAdd a b = .ok x) (la : (text a).length ≤ 30) (lb : (text b).length ≤ 30)
    (ta : ∀ w, (Instr.typeAssert (.iface t u) 64 105 true).run Try.prog w = .ok (.tuple #[.iface t u, .bool true]) w)
    (hm : ∀ W, (method 260 t u "Add").run Try.prog W = .ok (fA, r) W) (hcf : ∀ args W, (callFunc fA args).run Try.prog W = .ok (.enter fA args) W)
    (hA : Calls Try.prog fA #[r, vb] w fun e w' => ∃ v, e = .returned (.tuple #[v, I 0]) ∧ NewV K w x v w' ∧ Below w.heap.size w w') :
    Calls Try.prog 55 #[.iface t u, vb] w (PlusR K w a b) := by
  unfold PlusR plusT
  rw [hx]
  by_cases hl : (text x).length ≤ 30
  · simp only [if_pos hl]
    refine (plus_ok K w t u vb fA r x ks ta hm hcf hA hl).mono ?_
    rintro e w' ⟨v, rfl, nv, bb⟩
    exact ⟨⟨v, rfl, nv⟩, bb⟩
  · simp only [if_neg hl]
    exact plus_big K w t u vb fA r x ks ta hm hcf hA (raw_len a b x hx la lb) hl
theorem plus_bad (K : Nat → Prop) (w : World) (a b : TV) (t : TypeId) (u vb : Value) (fA : FuncId) (r : Value) (hx : rawAdd a b = .error 6)
    (ta : ∀ w, (Instr.typeAssert (.iface t u) 64 105 true).run Try.prog w = .ok (.tuple #[.iface t u, .bool true]) w)
    (hm : ∀ W, (method 260 t u "Add").run Try.prog W = .ok (fA, r) W) (hcf : ∀ args W, (callFunc fA args).run Try.prog W = .ok (.enter fA args) W)
    (hA : Calls Try.prog fA #[r, vb] w fun e w' => e = .returned (.tuple #[.nilIface, I 6]) ∧ w' = w) :
    Calls Try.prog 55 #[.iface t u, vb] w (PlusR K w a b) := by
  unfold PlusR plusT
  rw [hx]
  exact plus_err w t u vb fA r ta hm hcf hA
theorem hasI (n : Int) (w : World) : (Instr.typeAssert (VI n) 64 105 true).run Try.prog w = .ok (.tuple #[VI n, .bool true]) w := run_typeAssert_hasB Try.underlying105 (by kernel_rfl) _ _ w
theorem hasS (z : List UInt8) (w : World) : (Instr.typeAssert (VS z) 64 105 true).run Try.prog w = .ok (.tuple #[VS z, .bool true]) w := run_typeAssert_hasB Try.underlying105 (by kernel_rfl) _ _ w
theorem hasL (tp : Option Addr) (w : World) : (Instr.typeAssert (.iface 69 (.pointer tp)) 64 105 true).run Try.prog w = .ok (.tuple #[.iface 69 (.pointer tp), .bool true]) w := run_typeAssert_hasB Try.underlying105 (by kernel_rfl) _ _ w
theorem intAdd' (K : Nat → Prop) (n m : Int) (w : World) : Calls Try.prog 140 #[I n, VI m] w fun e w' => ∃ v, e = .returned (.tuple #[v, I 0]) ∧ NewV K w (.int (wrap64 (n + m))) v w' ∧ Below w.heap.size w w' := by
  refine (intAdd n m w).mono ?_
  rintro e w' ⟨rfl, rfl⟩
  exact ⟨_, rfl, .same ⟨rfl, w64_bounds _⟩, Below.refl _ _⟩
theorem strAdd' (K : Nat → Prop) (z y : List UInt8) (hz : z.length ≤ 1000) (hy : y.length ≤ 1000) (w : World) : Calls Try.prog 148 #[S z, VS y] w fun e w' => ∃ v, e = .returned (.tuple #[v, I 0]) ∧ NewV K w (.str (z ++ y)) v w' ∧ Below w.heap.size w w' := by
  refine (strAdd z y hz hy w).mono ?_
  rintro e w' ⟨rfl, rfl⟩
  exact ⟨_, rfl, .same rfl, Below.refl _ _⟩
theorem listAdd' (K : Nat → Prop) (w : World) (tp tq : Option Addr) (c d : TV) (rc : RV K w c (.iface 69 (.pointer tp))) (rd : RV K w d (.iface 69 (.pointer tq))) (ksw : ∀ k, K k → k < w.heap.size) (hc : (text c).length ≤ 30) :
    Calls Try.prog 135 #[.pointer tp, .iface 69 (.pointer tq)] w fun e w' => ∃ v, e = .returned (.tuple #[v, I 0]) ∧ NewV K w (appT c d) v w' ∧ Below w.heap.size w w' := by
  refine (listAdd K w tp tq c d rc rd ksw hc).mono ?_
  rintro e w' ⟨r, rfl, nv, bb⟩
  exact ⟨_, rfl, nv, bb⟩
theorem plus_any (K : Nat → Prop) (w : World) (a b : TV) (va vb : Value) (ra : RV K w a va) (rb : RV K w b vb) (ks : ∀ k, K k → k < w.heap.size) (la : (text a).length ≤ 30) (lb : (text b).length ≤ 30) :
    Calls Try.prog 55 #[va, vb] w (PlusR K w a b) := by
  have eI : ∀ args W, (callFunc 140 args).run Try.prog W = .ok (.enter 140 args) W := enters_of Try.func140 (by kernel_rfl) rfl
  have eS : ∀ args W, (callFunc 148 args).run Try.prog W = .ok (.enter 148 args) W := enters_of Try.func148 (by kernel_rfl) rfl
  have eL : ∀ args W, (callFunc 135 args).run Try.prog W = .ok (.enter 135 args) W := enters_of Try.func135 (by kernel_rfl) rfl
  have lst : ∀ (tp : Option Addr), va = .iface 69 (.pointer tp) → (∀ x, b.isList = true → rawAdd a b = .ok x → x = appT a b) → (b.isList = true → ∃ x, rawAdd a b = .ok x) → (b.isList = false → rawAdd a b = .error 6) → Calls Try.prog 55 #[va, vb] w (PlusR K w a b) := by
    rintro tp rfl h1 h2 h3
    cases b with
    | int m =>
      obtain ⟨rfl, -⟩ := rb
      exact plus_bad K w _ _ _ _ _ _ _ (h3 rfl) (hasL tp) (mAddL tp) eL (lstAdd_mix tp _ w (fun _ => by kernel_rfl))
    | str s =>
      obtain rfl : vb = VS s := rb
      exact plus_bad K w _ _ _ _ _ _ _ (h3 rfl) (hasL tp) (mAddL tp) eL (lstAdd_mix tp _ w (fun _ => by kernel_rfl))
    | pair p q =>
      obtain ⟨q', av, bv, rfl, -⟩ := rb
      exact plus_bad K w _ _ _ _ _ _ _ (h3 rfl) (hasL tp) (mAddL tp) eL (lstAdd_mix tp _ w (fun _ => by kernel_rfl))
    | nil =>
      obtain rfl : vb = VL := rb
      obtain ⟨x, hx⟩ := h2 rfl
      obtain rfl := h1 x rfl hx
      exact plus_of K w _ _ _ _ _ _ _ _ ks hx la lb (hasL tp) (mAddL tp) eL (listAdd' K w tp none _ _ ra rfl ks la)
    | cons p q =>
      have rb' := rb
      obtain ⟨q', hv, tq, rfl, -⟩ := rb'
      obtain ⟨x, hx⟩ := h2 rfl
      obtain rfl := h1 x rfl hx
      exact plus_of K w _ _ _ _ _ _ _ _ ks hx la lb (hasL tp) (mAddL tp) eL (listAdd' K w tp _ _ _ ra rb ks la)
  cases a with
  | int n =>
    obtain ⟨rfl, -⟩ := ra
    cases b with
    | int m =>
      obtain ⟨rfl, -⟩ := rb
      exact plus_of K w _ _ _ _ _ _ _ _ ks rfl la lb (hasI n) (mAddI n) eI (intAdd' K n m w)
    | str s =>
      obtain rfl : vb = VS s := rb
      exact plus_bad K w _ _ _ _ _ _ _ rfl (hasI n) (mAddI n) eI (intAdd_mix n _ w (fun _ => by kernel_rfl))
    | nil =>
      obtain rfl : vb = VL := rb
      exact plus_bad K w _ _ _ _ _ _ _ rfl (hasI n) (mAddI n) eI (intAdd_mix n _ w (fun _ => by kernel_rfl))
    | cons p q =>
      obtain ⟨q', hv, tq, rfl, -⟩ := rb
      exact plus_bad K w _ _ _ _ _ _ _ rfl (hasI n) (mAddI n) eI (intAdd_mix n _ w (fun _ => by kernel_rfl))
    | pair p q =>
      obtain ⟨q', av, bv, rfl, -⟩ := rb
      exact plus_bad K w _ _ _ _ _ _ _ rfl (hasI n) (mAddI n) eI (intAdd_mix n _ w (fun _ => by kernel_rfl))
  | str z =>
    obtain rfl : va = VS z := ra
    cases b with
    | int m =>
      obtain ⟨rfl, -⟩ := rb
      exact plus_bad K w _ _ _ _ _ _ _ rfl (hasS z) (mAddS (str z)) eS (strAdd_mix z _ w (fun _ => by kernel_rfl))
    | str s =>
      obtain rfl : vb = VS s := rb
      have l1 := str_text z
      have l2 := str_text s
      exact plus_of K w _ _ _ _ _ _ _ _ ks rfl la lb (hasS z) (mAddS (str z)) eS (strAdd' K z s (by omega) (by omega) w)
    | nil =>
      obtain rfl : vb = VL := rb
      exact plus_bad K w _ _ _ _ _ _ _ rfl (hasS z) (mAddS (str z)) eS (strAdd_mix z _ w (fun _ => by kernel_rfl))
    | cons p q =>
      obtain ⟨q', hv, tq, rfl, -⟩ := rb
      exact plus_bad K w _ _ _ _ _ _ _ rfl (hasS z) (mAddS (str z)) eS (strAdd_mix z _ w (fun _ => by kernel_rfl))
    | pair p q =>
      obtain ⟨q', av, bv, rfl, -⟩ := rb
      exact plus_bad K w _ _ _ _ _ _ _ rfl (hasS z) (mAddS (str z)) eS (strAdd_mix z _ w (fun _ => by kernel_rfl))
  | pair p q =>
    obtain ⟨q', av, bv, rfl, -⟩ := ra
    exact plus_cap w _ vb
  | nil =>
    obtain rfl : va = VL := ra
    refine lst none rfl ?_ ?_ ?_
    · intro x hb hx
      simp only [rawAdd, hb, if_true, Except.ok.injEq] at hx
      rw [← hx]; rfl
    · intro hb; exact ⟨b, by simp [rawAdd, hb]⟩
    · intro hb; simp [rawAdd, hb]
  | cons p q =>
    have ra' := ra
    obtain ⟨q', hv, tq, rfl, -⟩ := ra'
    refine lst _ rfl ?_ ?_ ?_
    · intro x hb hx
      simp only [rawAdd, hb, if_true, Except.ok.injEq] at hx
      exact hx.symm
    · intro hb; exact ⟨_, by simp [rawAdd, hb]; rfl⟩
    · intro hb; simp [rawAdd, hb]
end Go.Proofs.Qxb6500470a
