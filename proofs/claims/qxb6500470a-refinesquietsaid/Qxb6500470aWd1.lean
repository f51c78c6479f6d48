import Derived.Test.Qxb6500470aXtc
namespace Go.Proofs.Qxb6500470a
open Go.RowKit
/-- A word's answer and the stack behind it. -/
def Wc (K : Nat → Prop) (w : World) (p : Nat) (r : List TV × Int) : Ending → World → Prop := fun e w' => e = .returned (I r.2) ∧ Turn K w p r.1 w'
def Fine (st : List TV) : Prop := ∀ x ∈ st, (text x).length ≤ 30
theorem Fine.tail {x : TV} {st : List TV} (h : Fine (x :: st)) : Fine st := fun y hy => h y (List.mem_cons_of_mem _ hy)
theorem Fine.head {x : TV} {st : List TV} (h : Fine (x :: st)) : (text x).length ≤ 30 := h x (by simp)
theorem Wc.same {K : Nat → Prop} {w : World} {p : Nat} {st : List TV} (h : SRep K w p st) {k : Int} {f : FuncId} {args : Array Value} (hc : Calls Try.prog f args w fun e w' => e = .returned (I k) ∧ w' = w) : Calls Try.prog f args w (Wc K w p (st, k)) := by
  refine hc.mono ?_
  rintro e w' ⟨rfl, rfl⟩
  exact ⟨rfl, .refl h⟩
theorem Wc.below {K : Nat → Prop} {w : World} {p : Nat} {st : List TV} (h : SRep K w p st) {k : Int} {f : FuncId} {args : Array Value} (hc : Calls Try.prog f args w fun e w' => e = .returned (I k) ∧ Below w.heap.size w w') : Calls Try.prog f args w (Wc K w p (st, k)) := by
  refine hc.mono ?_
  rintro e w' ⟨rfl, b⟩
  exact ⟨rfl, .of_below h b⟩
theorem Wc.mkS {K : Nat → Prop} {w : World} {p : Nat} {x : TV} {r : List TV} {us : List Value} {nv : Value} {f : FuncId} {args : Array Value} (rr : RS K w r us) (rx : ∀ w', Kept K w w' → RV K w' x nv) (hc : Calls Try.prog f args w fun e w' => e = .returned (I 0) ∧ StR K w' p (us.reverse ++ [nv]) ∧ Kept K w w') : Calls Try.prog f args w (Wc K w p (x :: r, 0)) := by
  refine hc.mono ?_
  rintro e w' ⟨rfl, s, kk⟩
  exact ⟨rfl, .mkS s (rx w' kk) rr kk⟩
theorem Wc.mk1 {K : Nat → Prop} {w : World} {p : Nat} {x : TV} {r : List TV} {us : List Value} {f : FuncId} {args : Array Value} (rr : RS K w r us) (hc : Calls Try.prog f args w fun e w' => e = .returned (I 0) ∧ ∃ K' v, (∀ k, K k → K' k) ∧ (∀ k, K' k → K k ∨ w.heap.size ≤ k) ∧ RV K' w' x v ∧ StR K' w' p (us.reverse ++ [v]) ∧ Kept K w w') : Calls Try.prog f args w (Wc K w p (x :: r, 0)) := by
  refine hc.mono ?_
  rintro e w' ⟨rfl, K', v, m, n, rv, s, kk⟩
  exact ⟨rfl, .mk1 s rv rr kk m n⟩
theorem Wc.mkN {K : Nat → Prop} {w : World} {p : Nat} {x : TV} {r : List TV} {us : List Value} {f : FuncId} {args : Array Value} (rr : RS K w r us) (hc : Calls Try.prog f args w fun e w' => e = .returned (I 0) ∧ ∃ nv, RV (fun k => K k ∨ k = w.heap.size) w' x nv ∧ StR (fun k => K k ∨ k = w.heap.size) w' p (us.reverse ++ [nv]) ∧ Kept K w w') : Calls Try.prog f args w (Wc K w p (x :: r, 0)) := by
  refine hc.mono ?_
  rintro e w' ⟨rfl, v, rv, s, kk⟩
  refine ⟨rfl, .mk1 s rv rr kk (fun _ h => .inl h) ?_⟩
  rintro k (e | rfl)
  · exact .inl e
  · exact .inr (Nat.le_refl _)
theorem SRep.nil {K : Nat → Prop} {w : World} {p : Nat} (h : SRep K w p []) : StR K w p [] := by
  obtain ⟨vs, h, r⟩ := h
  rw [r.nil] at h
  exact h
theorem SRep.c1 {K : Nat → Prop} {w : World} {p : Nat} {x : TV} {st : List TV} (h : SRep K w p (x :: st)) : ∃ v us, StR K w p (us.reverse ++ [v]) ∧ RV K w x v ∧ RS K w st us := by
  obtain ⟨vs, h, r⟩ := h
  obtain ⟨v, us, rfl, rx, rs⟩ := r.cons
  rw [List.reverse_cons] at h
  exact ⟨v, us, h, rx, rs⟩
theorem SRep.c2 {K : Nat → Prop} {w : World} {p : Nat} {x y : TV} {st : List TV} (h : SRep K w p (x :: y :: st)) : ∃ v u us, StR K w p (us.reverse ++ [u, v]) ∧ RV K w x v ∧ RV K w y u ∧ RS K w st us := by
  obtain ⟨v, us, h, rx, rs⟩ := h.c1
  obtain ⟨u, us', rfl, ry, rs'⟩ := rs.cons
  rw [List.reverse_cons, List.append_assoc] at h
  exact ⟨v, u, us', h, rx, ry, rs'⟩
theorem SRep.lt2 {K : Nat → Prop} {w : World} {p : Nat} {st : List TV} (h : SRep K w p st) (hl : st.length < 2) : ∃ us, StR K w p us ∧ us.length < 2 := by
  obtain ⟨vs, h, r⟩ := h
  exact ⟨_, h, by rw [List.length_reverse, r.len]; exact hl⟩
def wPush (x : TV) (st : List TV) : List TV × Int := if st.length < 5 then (x :: st, 0) else (st, 3)
theorem pushI_w (K : Nat → Prop) (w : World) (p : Nat) (st : List TV) (h : SRep K w p st) (n : Int) (n1 : -9223372036854775808 ≤ n) (n2 : n ≤ 9223372036854775807) : Calls Try.prog 62 #[ptr p, I 1, I n, S []] w (Wc K w p (wPush (.int n) st)) := by
  have hle := h.le
  have h' := h
  obtain ⟨vs, hs, r⟩ := h
  have hl := r.len
  unfold wPush
  split
  · exact Wc.mkS r (fun _ _ => ⟨rfl, n1, n2⟩) (pushI K w p _ hs (by simp; omega) n)
  · exact Wc.same h' (pushI_full K w p _ hs (by simp; omega) n)
theorem pushS_w (K : Nat → Prop) (w : World) (p : Nat) (st : List TV) (h : SRep K w p st) (z : List UInt8) (hz : z.length ≤ 6) : Calls Try.prog 62 #[ptr p, I 2, I 0, S z] w (Wc K w p (wPush (.str z) st)) := by
  have hle := h.le
  have h' := h
  obtain ⟨vs, hs, r⟩ := h
  have hl := r.len
  unfold wPush
  split
  · exact Wc.mkS r (fun _ _ => rfl) (pushS K w p _ hs (by simp; omega) z hz)
  · exact Wc.same h' (pushS_full K w p _ hs (by simp; omega) z hz)
theorem pushL_w (K : Nat → Prop) (w : World) (p : Nat) (st : List TV) (h : SRep K w p st) : Calls Try.prog 62 #[ptr p, I 3, I 0, S []] w (Wc K w p (wPush .nil st)) := by
  have hle := h.le
  have h' := h
  obtain ⟨vs, hs, r⟩ := h
  have hl := r.len
  unfold wPush
  split
  · exact Wc.mkS r (fun _ _ => rfl) (pushL K w p _ hs (by simp; omega))
  · exact Wc.same h' (pushL_full K w p _ hs (by simp; omega))
def wDrop : List TV → List TV × Int
  | [] => ([], 4)
  | _ :: r => (r, 0)
theorem drop_w (K : Nat → Prop) (w : World) (p : Nat) (st : List TV) (h : SRep K w p st) : Calls Try.prog 44 #[ptr p] w (Wc K w p (wDrop st)) := by
  cases st with
  | nil => exact Wc.same h (drop_none K w p h.nil)
  | cons x st =>
    obtain ⟨v, us, hs, rx, rs⟩ := h.c1
    refine (drop_some K w p _ _ hs).mono ?_
    rintro e w' ⟨rfl, s, kk⟩
    exact ⟨rfl, K, fun _ h => h, fun _ h => .inl h, ⟨us, s, rs.kept kk⟩, kk⟩
def wDup : List TV → List TV × Int
  | [] => ([], 4)
  | x :: r => if r.length < 4 then (x :: x :: r, 0) else (x :: r, 3)
theorem dup_w (K : Nat → Prop) (w : World) (p : Nat) (st : List TV) (h : SRep K w p st) : Calls Try.prog 38 #[ptr p] w (Wc K w p (wDup st)) := by
  cases st with
  | nil => exact Wc.same h (dup_none K w p h.nil)
  | cons x st =>
    have hle := h.le
    obtain ⟨v, us, hs, rx, rs⟩ := h.c1
    have hl := rs.len
    obtain ⟨t, u, rfl⟩ := rx.iface
    unfold wDup
    simp only
    split
    · refine (dup_any K w p _ t u hs (by simp; omega)).mono ?_
      rintro e w' ⟨rfl, s, kk⟩
      exact ⟨rfl, K, fun _ h => h, fun _ h => .inl h, ⟨.iface t u :: .iface t u :: us, by simpa using s, rx.kept kk, rx.kept kk, rs.kept kk⟩, kk⟩
    · exact Wc.same h (dup_full K w p _ t u hs (by simp at hle ⊢; omega))
def wNeg : List TV → List TV × Int
  | [] => ([], 4)
  | .int n :: r => (.int (wrap64 (-n)) :: r, 0)
  | .pair a b :: r => (.pair b a :: r, 0)
  | st => (st, 5)
theorem neg_w (K : Nat → Prop) (w : World) (p : Nat) (st : List TV) (h : SRep K w p st) : Calls Try.prog 41 #[ptr p] w (Wc K w p (wNeg st)) := by
  cases st with
  | nil => exact Wc.same h (neg_none K w p h.nil)
  | cons x st =>
    obtain ⟨v, us, hs, rx, rs⟩ := h.c1
    cases x with
    | int n =>
      obtain ⟨rfl, -⟩ := rx
      exact Wc.mkS rs (fun _ _ => ⟨rfl, w64_bounds _⟩) (neg_int K w p _ n hs)
    | str z =>
      obtain rfl : v = VS z := rx
      exact Wc.same h (neg_str K w p _ z hs)
    | nil =>
      obtain rfl : v = VL := rx
      exact Wc.same h (neg_lst K w p _ none hs)
    | cons a b =>
      obtain ⟨q, hv, tq, rfl, -⟩ := rx
      exact Wc.same h (neg_lst K w p _ _ hs)
    | pair a b =>
      obtain ⟨q, av, bv, rfl, kq, bq, ra, rb⟩ := rx
      obtain ⟨ta, ua, rfl⟩ := ra.iface
      obtain ⟨tb, ub, rfl⟩ := rb.iface
      refine (neg_pair K w p _ q ta tb ua ub hs bq).mono ?_
      rintro e w' ⟨rfl, q', hq, bq', s, kk⟩
      refine ⟨rfl, .mk1 s ⟨q', _, _, rfl, .inr rfl, bq', (rb.kept kk).mono (fun _ h => .inl h), (ra.kept kk).mono (fun _ h => .inl h)⟩ rs kk (fun _ h => .inl h) ?_⟩
      rintro k (e | rfl)
      · exact .inl e
      · exact .inr hq
theorem cnt_elems (c : TV) : cnt c = (elems c).length := by
  induction c with
  | cons a b _ ih => simp [cnt, elems, ih]; omega
  | _ => rfl
theorem cnt_le (c : TV) (h : (text c).length ≤ 30) : cnt c ≤ 30 := by
  have e2 := elems_len c
  have e3 := inner_len c
  rw [cnt_elems]
  omega
def wLen : List TV → List TV × Int
  | [] => ([], 4)
  | .int n :: r => (.int n :: r, 5)
  | .str z :: r => (.int z.length :: r, 0)
  | .pair _ _ :: r => (.int 2 :: r, 0)
  | .nil :: r => (.int 0 :: r, 0)
  | .cons a b :: r => (.int (cnt (.cons a b)) :: r, 0)
theorem len_w (K : Nat → Prop) (w : World) (p : Nat) (st : List TV) (h : SRep K w p st) (hf : Fine st) : Calls Try.prog 40 #[ptr p] w (Wc K w p (wLen st)) := by
  cases st with
  | nil => exact Wc.same h (len_none K w p h.nil)
  | cons x st =>
    have hx := hf.head
    obtain ⟨v, us, hs, rx, rs⟩ := h.c1
    cases x with
    | int n =>
      obtain ⟨rfl, -⟩ := rx
      exact Wc.same h (len_int K w p _ n hs)
    | str z =>
      obtain rfl : v = VS z := rx
      have := str_text z
      exact Wc.mkS rs (fun _ _ => ⟨rfl, by omega, by omega⟩) (len_str K w p _ z hs)
    | nil =>
      obtain rfl : v = VL := rx
      exact Wc.mkS rs (fun _ _ => ⟨rfl, by decide, by decide⟩) (len_lst K w p _ .nil none hs rfl (by decide))
    | cons a b =>
      have rx' := rx
      obtain ⟨q, hv, tq, rfl, -⟩ := rx'
      have := cnt_le _ hx
      exact Wc.mkS rs (fun _ _ => ⟨rfl, by omega, by omega⟩) (len_lst K w p _ (.cons a b) _ hs rx (by omega))
    | pair a b =>
      obtain ⟨q, av, bv, rfl, -⟩ := rx
      exact Wc.mkS rs (fun _ _ => ⟨rfl, by decide, by decide⟩) (len_pair K w p _ _ hs)
def wPair : List TV → List TV × Int
  | y :: x :: r => if (text (.pair x y)).length ≤ 30 then (.pair x y :: r, 0) else (y :: x :: r, 7)
  | st => (st, 4)
theorem pair_w (K : Nat → Prop) (w : World) (p : Nat) (st : List TV) (h : SRep K w p st) (hf : Fine st) : Calls Try.prog 42 #[ptr p] w (Wc K w p (wPair st)) := by
  match st, h, hf with
  | [], h, _ => obtain ⟨us, hs, hl⟩ := h.lt2 (by simp); exact Wc.same h (pair_under K w p us hs hl)
  | [_], h, _ => obtain ⟨us, hs, hl⟩ := h.lt2 (by simp); exact Wc.same h (pair_under K w p us hs hl)
  | y :: x :: st, h, hf =>
    obtain ⟨v, u, us, hs, ry, rx, rs⟩ := h.c2
    have l1 := hf.head
    have l2 := hf.tail.head
    unfold wPair
    simp only
    split
    · rename_i hl
      exact Wc.mkN rs (pair_ok K w p _ _ _ x y hs rx ry hl)
    · rename_i hl
      refine Wc.below h (pair_big K w p _ _ _ x y hs rx ry ?_ hl)
      have := congrArg List.length (text_pair x y)
      simp at this
      omega
def wCons : List TV → List TV × Int
  | y :: x :: r => if x.isList then (if (text (.cons y x)).length ≤ 30 then (.cons y x :: r, 0) else (y :: x :: r, 7)) else (y :: x :: r, 2)
  | st => (st, 4)
theorem cons_w (K : Nat → Prop) (w : World) (p : Nat) (st : List TV) (h : SRep K w p st) (hf : Fine st) : Calls Try.prog 37 #[ptr p] w (Wc K w p (wCons st)) := by
  match st, h, hf with
  | [], h, _ => obtain ⟨us, hs, hl⟩ := h.lt2 (by simp); exact Wc.same h (cons_under K w p us hs hl)
  | [_], h, _ => obtain ⟨us, hs, hl⟩ := h.lt2 (by simp); exact Wc.same h (cons_under K w p us hs hl)
  | y :: x :: st, h, hf =>
    obtain ⟨v, u, us, hs, ry, rx, rs⟩ := h.c2
    have l1 := hf.head
    have l2 := hf.tail.head
    have lst : ∀ (tp : Option Addr), u = .iface 69 (.pointer tp) → x.isList = true → Calls Try.prog 37 #[ptr p] w (Wc K w p (wCons (y :: x :: st))) := by
      rintro tp rfl hxl
      unfold wCons
      simp only [hxl, if_true]
      split
      · rename_i hl
        exact Wc.mkN rs (cons_ok K w p _ tp _ x y hs rx ry hl)
      · rename_i hl
        refine Wc.below h (cons_big K w p _ tp _ x y hs rx ry ?_ hl)
        have e1 := congrArg List.length (text_cons y x)
        have e2 := congrArg List.length (inner_cons y x)
        have e3 := inner_len x
        have e4 : ((if x.isCons = true then [32] ++ inner x else []) : List UInt8).length ≤ 1 + (inner x).length := by split <;> simp <;> omega
        rw [List.length_append] at e2
        simp at e1
        omega
    cases x with
    | int n =>
      obtain ⟨rfl, -⟩ := rx
      exact Wc.same h (cons_int K w p _ n _ hs)
    | str z =>
      obtain rfl : u = VS z := rx
      exact Wc.same h (cons_str K w p _ z _ hs)
    | nil => exact lst none rx rfl
    | cons a b =>
      have rx' := rx
      obtain ⟨q, hv, tq, e, -⟩ := rx'
      exact lst _ e rfl
    | pair a b =>
      obtain ⟨q, av, bv, rfl, -⟩ := rx
      exact Wc.same h (cons_pair K w p _ _ _ hs)
def wAdd : List TV → List TV × Int
  | b :: a :: r => match plusT a b with | .ok x => (x :: r, 0) | .error k => (b :: a :: r, k)
  | st => (st, 4)
theorem add_w (K : Nat → Prop) (w : World) (p : Nat) (st : List TV) (h : SRep K w p st) (hf : Fine st) : Calls Try.prog 36 #[ptr p] w (Wc K w p (wAdd st)) := by
  match st, h, hf with
  | [], h, _ => obtain ⟨us, hs, hl⟩ := h.lt2 (by simp); exact Wc.same h (add_under K w p us hs hl)
  | [_], h, _ => obtain ⟨us, hs, hl⟩ := h.lt2 (by simp); exact Wc.same h (add_under K w p us hs hl)
  | b :: a :: st, h, hf =>
    obtain ⟨vb, va, us, hs, rb, ra, rs⟩ := h.c2
    have hP := plus_any K w a b va vb ra rb hs.ks hf.tail.head hf.head
    unfold PlusR at hP
    cases hp : plusT a b with
    | ok x =>
      have e : wAdd (b :: a :: st) = (x :: st, 0) := by simp [wAdd, hp]
      rw [hp] at hP
      rw [e]
      exact Wc.mk1 rs (add_ok K w p _ va vb x hs hP)
    | error k =>
      have e : wAdd (b :: a :: st) = (b :: a :: st, k) := by simp [wAdd, hp]
      rw [hp] at hP
      rw [e]
      exact Wc.below h (add_err K w p _ va vb k hs (plus_ne hp) hP)
def iterT : TV → Option (List TV)
  | .nil => some []
  | .cons a b => some (elems (.cons a b))
  | .pair a b => some [a, b]
  | _ => none
theorem findI_le (t : List UInt8) : ∀ (es : List TV) (k : Int), 0 ≤ k → -1 ≤ findI t es k ∧ findI t es k ≤ k + es.length
  | [], k, hk => ⟨Int.le_refl _, by simp [findI]; omega⟩
  | e :: es, k, hk => by
    unfold findI
    split
    · simp; omega
    · have := findI_le t es (k + 1) (by omega)
      simp
      omega
def wFind : List TV → List TV × Int
  | x :: c :: r => match iterT c with | some es => (.int (findI (text x) es 0) :: r, 0) | none => (x :: c :: r, 5)
  | st => (st, 4)
theorem iter_len (c : TV) (es : List TV) (h : iterT c = some es) (hl : (text c).length ≤ 30) : es.length ≤ 30 := by
  cases c with
  | nil => cases h; decide
  | cons a b => cases h; have := cnt_le _ hl; rw [cnt_elems] at this; exact this
  | pair a b => cases h; simp
  | _ => cases h
theorem find_w (K : Nat → Prop) (w : World) (p : Nat) (st : List TV) (h : SRep K w p st) (hf : Fine st) : Calls Try.prog 39 #[ptr p] w (Wc K w p (wFind st)) := by
  match st, h, hf with
  | [], h, _ => obtain ⟨us, hs, hl⟩ := h.lt2 (by simp); exact Wc.below h (find_under K w p us hs hl)
  | [_], h, _ => obtain ⟨us, hs, hl⟩ := h.lt2 (by simp); exact Wc.below h (find_under K w p us hs hl)
  | x :: c :: st, h, hf =>
    obtain ⟨v, u, us, hs, rx, rc, rs⟩ := h.c2
    have l1 := hf.head
    have l2 := hf.tail.head
    have bnd : ∀ es, iterT c = some es → -9223372036854775808 ≤ findI (text x) es 0 ∧ findI (text x) es 0 ≤ 9223372036854775807 := by
      intro es he
      have h1 := iter_len c es he l2
      have h2 := findI_le (text x) es 0 (by omega)
      omega
    cases c with
    | int n =>
      obtain ⟨rfl, -⟩ := rc
      exact Wc.below h (find_int K w p _ n _ hs)
    | str z =>
      obtain rfl : u = VS z := rc
      exact Wc.below h (find_str K w p _ z _ hs)
    | nil =>
      obtain rfl : u = VL := rc
      exact Wc.mkS rs (fun _ _ => ⟨rfl, bnd [] rfl⟩) (find_list K w p _ none v .nil x hs rfl rx l2 l1)
    | cons a b =>
      have rc' := rc
      obtain ⟨q, hv, tq, rfl, -⟩ := rc'
      exact Wc.mkS rs (fun _ _ => ⟨rfl, bnd _ rfl⟩) (find_list K w p _ _ v (.cons a b) x hs rc rx l2 l1)
    | pair a b =>
      obtain ⟨q, av, bv, rfl, kq, bq, ra, rb⟩ := rc
      have e2 := congrArg List.length (text_pair a b)
      simp at e2
      exact Wc.mkS rs (fun _ _ => ⟨rfl, bnd _ rfl⟩) (find_pair K w p _ q av bv v a b x hs kq bq ra rb rx (by omega) (by omega) l1)
def wFold : List TV → List TV × Int
  | [] => ([], 4)
  | c :: r => match iterT c with
    | none => (c :: r, 5)
    | some [] => (c :: r, 8)
    | some (e0 :: es) => match foldT e0 es with | .ok x => (x :: r, 0) | .error k => (c :: r, k)
theorem Wc.fold {K : Nat → Prop} {w : World} {p : Nat} {c : TV} {r : List TV} {us : List Value} {e0 : TV} {es : List TV} (h : SRep K w p (c :: r)) (rr : RS K w r us) (hi : iterT c = some (e0 :: es))
    (hc : Calls Try.prog 43 #[ptr p] w fun e w' =>
      (∃ k, foldT e0 es = .error k ∧ e = .returned (I k) ∧ Below w.heap.size w w') ∨ (∃ x, foldT e0 es = .ok x ∧ e = .returned (I 0) ∧ ∃ K' v, (∀ k, K k → K' k) ∧ (∀ k, K' k → K k ∨ w.heap.size ≤ k) ∧ RV K' w' x v ∧ StR K' w' p (us.reverse ++ [v]) ∧ Kept K w w')) : Calls Try.prog 43 #[ptr p] w (Wc K w p (wFold (c :: r))) := by
  refine hc.mono ?_
  rintro e w' (⟨k, hk, rfl, b⟩ | ⟨x, hx, rfl, K', v, m, n, rv, s, kk⟩)
  · have e : wFold (c :: r) = (c :: r, k) := by simp [wFold, hi, hk]
    rw [e]
    exact ⟨rfl, .of_below h b⟩
  · have e : wFold (c :: r) = (x :: r, 0) := by simp [wFold, hi, hx]
    rw [e]
    exact ⟨rfl, .mk1 s rv rr kk m n⟩
theorem fold_w (K : Nat → Prop) (w : World) (p : Nat) (st : List TV) (h : SRep K w p st) (hf : Fine st) : Calls Try.prog 43 #[ptr p] w (Wc K w p (wFold st)) := by
  cases st with
  | nil => exact Wc.below h (fold_none K w p h.nil)
  | cons c st =>
    have hl := hf.head
    obtain ⟨v, us, hs, rc, rs⟩ := h.c1
    cases c with
    | int n =>
      obtain ⟨rfl, -⟩ := rc
      exact Wc.below h (fold_int K w p _ n hs)
    | str z =>
      obtain rfl : v = VS z := rc
      exact Wc.below h (fold_str K w p _ z hs)
    | nil =>
      obtain rfl : v = VL := rc
      exact Wc.below h (fold_nil K w p _ hs)
    | cons a b =>
      have rc' := rc
      obtain ⟨q, hv, tq, rfl, -⟩ := rc'
      exact Wc.fold h rs rfl (fold_list K w p _ _ (.cons a b) hs rc hl a (elems b) rfl)
    | pair a b =>
      obtain ⟨q, av, bv, rfl, kq, bq, ra, rb⟩ := rc
      have e2 := congrArg List.length (text_pair a b)
      simp at e2
      exact Wc.fold h rs rfl (fold_pair K w p _ q av bv a b hs kq bq ra rb (by omega) (by omega))
theorem extra_w (K : Nat → Prop) (w : World) (p : Nat) (st : List TV) (h : SRep K w p st) (hf : Fine st) (k : Int) : Calls Try.prog 60 #[ptr p, I k] w (Wc K w p (extraT k st)) := extra_any K w p st h hf k
end Go.Proofs.Qxb6500470a
