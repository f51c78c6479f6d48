import Derived.Test.Qxb6500470aKz6
namespace Go.Proofs.Qxb6500470a
open Go.RowKit
/-- The word's own error, what it does to the stack: as the law says. -/
def LawW (c : UInt8) (s : List UInt8) (acc : Int) (st : List TV) (lit : Bool) : Prop :=
  (owesT c lit (topT st).1 (topT st).2 ≠ 0 → c ≠ 32 → wordT c s acc st = (0, owesT c lit (topT st).1 (topT st).2, acc, st)) ∧
  (owesT c lit (topT st).1 (topT st).2 = 0 → c ≠ 32 → c ≠ 59 → c ≠ 33 → ∀ v, (c = 35 → ∀ q, litL s = some q → v = q.2) → (c ≠ 35 → v = acc) → playT c v s st = ((wordT c s acc st).2.2.2, (wordT c s acc st).2.1))
theorem word_step (c : UInt8) (s : List UInt8) (acc : Int) (st : List TV) (h32 : c ≠ 32) (r : List TV × Int) (hr : Fr st r) (n : Nat) (hs : stepT c (c :: s) 0 acc st = (n, r.2, acc, r.1)) : ((wordT c s acc st).2.2.2, (wordT c s acc st).2.1) = r ∧ (wordT c s acc st).2.2.1 = acc := by
  unfold wordT
  rw [if_neg h32, hs]
  dsimp only
  by_cases h : r.2 = 0
  · rw [if_pos h]
    dsimp only
    rw [← h]
    exact ⟨rfl, rfl⟩
  · rw [if_neg h]
    dsimp only
    rw [← hr h]
    exact ⟨rfl, rfl⟩
theorem word_bad (c : UInt8) (s : List UInt8) (acc : Int) (st : List TV) (h32 : c ≠ 32) (k : Int) (hk : k ≠ 0) (hs : (stepT c (c :: s) 0 acc st).2.1 = k) : wordT c s acc st = (0, k, acc, st) := by
  unfold wordT
  rw [if_neg h32, hs, if_neg hk]
theorem lawW_one (c : UInt8) (s : List UInt8) (acc : Int) (st : List TV) (lit : Bool) (r : List TV × Int) (hr : Fr st r) (h32 : c ≠ 32) (h35 : c ≠ 35) (ho : owesT c lit (topT st).1 (topT st).2 = 0) (hp : ∀ v, v = acc → playT c v s st = r) (hs : stepT c (c :: s) 0 acc st = oneT acc r) : LawW c s acc st lit :=
  ⟨fun h => absurd ho h, fun _ _ _ _ v _ hv => (hp v (hv h35)).trans (word_step c s acc st h32 r hr 1 hs).1.symm⟩
theorem lawW_any (c : UInt8) (s : List UInt8) (acc : Int) (st : List TV) (hw : IsW c s) (lit : Bool) (hl : lit = if c = 35 then (litL s).isSome else decide (s.length = 1)) : LawW c s acc st lit := by
  by_cases h97 : c = 97
  · subst h97; exact lawW_one _ s acc st lit (wAdd st) (fr_add st) (by decide) (by decide) rfl (fun _ _ => rfl) rfl
  by_cases h99 : c = 99
  · subst h99; exact lawW_one _ s acc st lit (wCons st) (fr_cons st) (by decide) (by decide) rfl (fun _ _ => rfl) rfl
  by_cases h100 : c = 100
  · subst h100; exact lawW_one _ s acc st lit (wDup st) (fr_dup st) (by decide) (by decide) rfl (fun _ _ => rfl) rfl
  by_cases h102 : c = 102
  · subst h102; exact lawW_one _ s acc st lit (wFind st) (fr_find st) (by decide) (by decide) rfl (fun _ _ => rfl) rfl
  by_cases h108 : c = 108
  · subst h108; exact lawW_one _ s acc st lit (wLen st) (fr_len st) (by decide) (by decide) rfl (fun _ _ => rfl) rfl
  by_cases h110 : c = 110
  · subst h110; exact lawW_one _ s acc st lit (wNeg st) (fr_neg st) (by decide) (by decide) rfl (fun _ _ => rfl) rfl
  by_cases h112 : c = 112
  · subst h112; exact lawW_one _ s acc st lit (wPair st) (fr_pair st) (by decide) (by decide) rfl (fun _ _ => rfl) rfl
  by_cases h115 : c = 115
  · subst h115; exact lawW_one _ s acc st lit (wFold st) (fr_fold st) (by decide) (by decide) rfl (fun _ _ => rfl) rfl
  by_cases h120 : c = 120
  · subst h120; exact lawW_one _ s acc st lit (wDrop st) (fr_drop st) (by decide) (by decide) rfl (fun _ _ => rfl) rfl
  by_cases h91 : c = 91
  · subst h91; exact lawW_one _ s acc st lit (wPush .nil st) (fr_push _ st) (by decide) (by decide) rfl (fun _ _ => rfl) rfl
  by_cases h71 : c = 71
  · subst h71; exact lawW_one _ s acc st lit (wPush (.int acc) st) (fr_push _ st) (by decide) (by decide) rfl (fun _ e => by rw [e]; rfl) rfl
  by_cases h48 : c = 48
  · subst h48; exact lawW_one _ s acc st lit (extraT 0 st) (fr_extra _ st) (by decide) (by decide) rfl (fun _ _ => rfl) rfl
  by_cases h49 : c = 49
  · subst h49; exact lawW_one _ s acc st lit (extraT 1 st) (fr_extra _ st) (by decide) (by decide) rfl (fun _ _ => rfl) rfl
  by_cases h50 : c = 50
  · subst h50; exact lawW_one _ s acc st lit (extraT 2 st) (fr_extra _ st) (by decide) (by decide) rfl (fun _ _ => rfl) rfl
  by_cases h51 : c = 51
  · subst h51; exact lawW_one _ s acc st lit (extraT 3 st) (fr_extra _ st) (by decide) (by decide) rfl (fun _ _ => rfl) rfl
  by_cases h52 : c = 52
  · subst h52; exact lawW_one _ s acc st lit (extraT 4 st) (fr_extra _ st) (by decide) (by decide) rfl (fun _ _ => rfl) rfl
  by_cases h53 : c = 53
  · subst h53; exact lawW_one _ s acc st lit (extraT 5 st) (fr_extra _ st) (by decide) (by decide) rfl (fun _ _ => rfl) rfl
  by_cases h54 : c = 54
  · subst h54; exact lawW_one _ s acc st lit (extraT 6 st) (fr_extra _ st) (by decide) (by decide) rfl (fun _ _ => rfl) rfl
  by_cases h55 : c = 55
  · subst h55; exact lawW_one _ s acc st lit (extraT 7 st) (fr_extra _ st) (by decide) (by decide) rfl (fun _ _ => rfl) rfl
  by_cases h56 : c = 56
  · subst h56; exact lawW_one _ s acc st lit (extraT 8 st) (fr_extra _ st) (by decide) (by decide) rfl (fun _ _ => rfl) rfl
  by_cases h57 : c = 57
  · subst h57; exact lawW_one _ s acc st lit (extraT 9 st) (fr_extra _ st) (by decide) (by decide) rfl (fun _ _ => rfl) rfl
  by_cases h32 : c = 32
  · subst h32; exact ⟨fun _ h => absurd rfl h, fun _ h => absurd rfl h⟩
  by_cases h59 : c = 59
  · subst h59; exact ⟨fun h => absurd rfl h, fun _ _ h => absurd rfl h⟩
  by_cases h33 : c = 33
  · subst h33; exact ⟨fun h => absurd rfl h, fun _ _ _ h => absurd rfl h⟩
  by_cases h35 : c = 35
  · subst h35
    rw [if_pos rfl] at hl
    cases hq : litL s with
    | none =>
      rw [hq] at hl
      subst hl
      refine ⟨fun _ h => word_bad 35 s acc st h 11 (by decide) ?_, fun h => absurd h (by show ¬ (11 : Int) = 0; decide)⟩
      rw [step_35, hq]
    | some q =>
      rw [hq] at hl
      subst hl
      refine ⟨fun h => absurd rfl h, fun _ h _ _ v hv _ => ?_⟩
      rw [hv rfl q hq]
      refine Eq.trans ?_ (word_step 35 s acc st h (wPush (.int q.2) st) (fr_push _ st) q.1 (by rw [step_35, hq])).1.symm
      rfl
  rw [if_neg h35] at hl
  by_cases h39 : c = 39
  · subst h39
    match s, hw with
    | [], _ =>
      subst hl
      exact ⟨fun _ h => word_bad 39 [] acc st h 11 (by decide) rfl, fun h => absurd h (by show ¬ (11 : Int) = 0; decide)⟩
    | [a], _ =>
      subst hl
      refine ⟨fun h => absurd rfl h, fun _ h _ _ v _ _ => ?_⟩
      refine Eq.trans ?_ (word_step 39 [a] acc st h (wPush (.str [a]) st) (fr_push _ st) 2 rfl).1.symm
      rfl
    | _ :: _ :: _, hw =>
      exfalso
      simp [IsW, wdT] at hw
      omega
  have hreg : ∀ c' : UInt8, (c' = 83 ∨ c' = 68 ∨ c' = 77) → LawW c' s acc st lit := by
    intro c' hc'
    have hs : stepT c' (c' :: s) 0 acc st = (1, (regT c' acc st).2.2, (regT c' acc st).1, (regT c' acc st).2.1) := by rcases hc' with rfl | rfl | rfl <;> rfl
    have h32' : c' ≠ 32 := by rcases hc' with rfl | rfl | rfl <;> decide
    have ho : owesT c' lit (topT st).1 (topT st).2 = if (topT st).2 ≠ 0 then (topT st).2 else if c' ≠ 83 ∧ (topT st).1 = 0 then 10 else 0 := by rcases hc' with rfl | rfl | rfl <;> rfl
    have hp : ∀ v, playT c' v s st = wDrop st := by intro v; rcases hc' with rfl | rfl | rfl <;> rfl
    constructor
    · intro h _
      refine word_bad c' s acc st h32' _ h ?_
      rw [hs]
      show (regT c' acc st).2.2 = _
      rw [ho]
      rw [ho] at h
      unfold regT
      by_cases h1 : (topT st).2 ≠ 0
      · rw [if_pos h1, if_pos h1]
      · rw [if_neg h1] at h ⊢
        rw [if_neg h1]
        by_cases h2 : c' ≠ 83 ∧ (topT st).1 = 0
        · rw [if_pos h2, if_neg h2.1, if_pos h2.2]
        · rw [if_neg h2] at h
          exact absurd rfl h
    · intro h _ _ _ v _ _
      rw [hp]
      rw [ho] at h
      by_cases h1 : (topT st).2 ≠ 0
      · rw [if_pos h1] at h; exact absurd h h1
      rw [if_neg h1] at h
      obtain ⟨n, r, rfl, e⟩ := topT_zero (Decidable.not_not.1 h1)
      have e0 : (stepT c' (c' :: s) 0 acc (.int n :: r)).2.1 = 0 ∧ (stepT c' (c' :: s) 0 acc (.int n :: r)).2.2.2 = r := by
        rw [hs]
        show (regT c' acc (.int n :: r)).2.2 = 0 ∧ (regT c' acc (.int n :: r)).2.1 = r
        by_cases h2 : c' ≠ 83 ∧ (topT (.int n :: r)).1 = 0
        · rw [if_pos h2] at h; cases h
        · unfold regT
          rw [if_neg h1]
          by_cases h3 : c' = 83
          · rw [if_pos h3]; exact ⟨rfl, rfl⟩
          · rw [if_neg h3, if_neg (fun x => h2 ⟨h3, x⟩)]
            split
            · exact ⟨rfl, rfl⟩
            · exact ⟨rfl, rfl⟩
      unfold wordT
      rw [if_neg h32', if_pos e0.1]
      dsimp only
      rw [e0.2]
      rfl
  by_cases h83 : c = 83
  · exact hreg c (.inl h83)
  by_cases h68 : c = 68
  · exact hreg c (.inr (.inl h68))
  by_cases h77 : c = 77
  · exact hreg c (.inr (.inr h77))
  have hd : isDg c = false := by
    cases hd : isDg c with
    | false => rfl
    | true =>
      obtain ⟨d1, d2⟩ : 48 ≤ c.toNat ∧ c.toNat ≤ 57 := by simpa [isDg] using hd
      have e48 : c.toNat ≠ 48 := fun e => h48 (UInt8.toNat_inj.1 e)
      have e49 : c.toNat ≠ 49 := fun e => h49 (UInt8.toNat_inj.1 e)
      have e50 : c.toNat ≠ 50 := fun e => h50 (UInt8.toNat_inj.1 e)
      have e51 : c.toNat ≠ 51 := fun e => h51 (UInt8.toNat_inj.1 e)
      have e52 : c.toNat ≠ 52 := fun e => h52 (UInt8.toNat_inj.1 e)
      have e53 : c.toNat ≠ 53 := fun e => h53 (UInt8.toNat_inj.1 e)
      have e54 : c.toNat ≠ 54 := fun e => h54 (UInt8.toNat_inj.1 e)
      have e55 : c.toNat ≠ 55 := fun e => h55 (UInt8.toNat_inj.1 e)
      have e56 : c.toNat ≠ 56 := fun e => h56 (UInt8.toNat_inj.1 e)
      have e57 : c.toNat ≠ 57 := fun e => h57 (UInt8.toNat_inj.1 e)
      omega
  have e : owesT c lit (topT st).1 (topT st).2 = 9 := by simp [owesT, h32, h59, h33, h91, h71, h97, h99, h100, h102, h108, h110, h112, h115, h120, h35, h39, h83, h68, h77, hd]
  constructor
  · intro _ h
    rw [e]
    refine word_bad c s acc st h 9 (by decide) ?_
    simp [stepT, h59, h33, h91, h71, h97, h99, h100, h102, h108, h110, h112, h115, h120, h35, h39, h83, h68, h77, hd]
  · intro h
    rw [e] at h
    cases h
theorem word_acc (c : UInt8) (s : List UInt8) (acc : Int) (st : List TV) (h33 : c ≠ 33) (h83 : c ≠ 83) (h68 : c ≠ 68) (h77 : c ≠ 77) : (wordT c s acc st).2.2.1 = acc := by
  unfold wordT
  split
  · rfl
  · split
    · exact step_acc c (c :: s) 0 acc st h33 h83 h68 h77
    · rfl
/-- The boxes of the law's two looks, and the machine and the stack that they look at. -/
structure HB (L L' : Nat → Prop) (w W : World) (q1 q2 m2 p2 p3 : Nat) (acc : Int) (st sz : List TV) : Prop where
  yz : YZ L' W m2 p2 p3 acc st sz
  b1 : Blk W q1 #[ptr p2] 31
  b2 : Blk W q2 #[ptr p3] 31
  l1 : L' q1
  l2 : L' q2
  sub : ∀ k, L k → L' k
  kp : Kp L w W
theorem HB.start {L : Nat → Prop} {w : World} {m2 p2 p3 : Nat} {acc : Int} {st sz : List TV} (h : YZ L w m2 p2 p3 acc st sz) :
    ∃ L', HB L L' w ((w.alloc (.cells #[ptr p2] 31)).alloc (.cells #[ptr p3] 31)) w.heap.size (w.heap.size + 1) m2 p2 p3 acc st sz := by
  have b1 : Below w.heap.size w (w.alloc (.cells #[ptr p2] 31)) := (Below.refl _ _).alloc (Nat.le_refl _) _
  have b2 : Below (w.alloc (.cells #[ptr p2] 31)).heap.size (w.alloc (.cells #[ptr p2] 31)) ((w.alloc (.cells #[ptr p2] 31)).alloc (.cells #[ptr p3] 31)) := (Below.refl _ _).alloc (Nat.le_refl _) _
  have s1 : (w.alloc (.cells #[ptr p2] 31)).heap.size = w.heap.size + 1 := World.size_alloc _ _
  have h1 := h.grow (q := w.heap.size) b1 (Nat.le_refl _) (by rw [s1]; omega)
  have h2 := h1.grow (q := w.heap.size + 1) b2 (by rw [s1]; omega) (by rw [World.size_alloc, s1]; omega)
  have bb : Blk (w.alloc (.cells #[ptr p2] 31)) w.heap.size #[ptr p2] 31 := Blk.new rfl
  have bc : Blk ((w.alloc (.cells #[ptr p2] 31)).alloc (.cells #[ptr p3] 31)) (w.heap.size + 1) #[ptr p3] 31 := Blk.new s1.symm
  exact ⟨_, h2, bb.below b2 bb.lt, bc, .inl (.inr rfl), .inr rfl, fun k hk => .inl (.inl hk), .of_below (b1.trans (b2.mono b1.size)) h.lt⟩
theorem below_drewNk (W : World) (n : Nat) : Below W.heap.size W (W.drewN n) := ⟨rfl, rfl, rfl, Nat.le_refl _, fun _ _ => rfl⟩
section
variable {L L' : Nat → Prop} {w W : World} {q1 q2 m2 p2 p3 : Nat} {acc : Int} {st sz : List TV}
theorem HB.cells (h : HB L L' w W q1 q2 m2 p2 p3 acc st sz) : W.cell? ⟨q1, 0, none⟩ = some (ptr p2) ∧ W.cell? ⟨q2, 0, none⟩ = some (ptr p3) := ⟨h.b1.cell 0, h.b2.cell 0⟩
theorem HB.later (h : HB L L' w W q1 q2 m2 p2 p3 acc st sz) {W' : World} (b : Below W.heap.size W W') : HB L L' w W' q1 q2 m2 p2 p3 acc st sz :=
  ⟨h.yz.later b, h.b1.below b h.b1.lt, h.b2.below b h.b2.lt, h.l1, h.l2, h.sub, h.kp.trans (.of_below b (fun k hk => h.yz.lt k (h.sub k hk)))⟩
theorem HB.turn (h : HB L L' w W q1 q2 m2 p2 p3 acc st sz) {W' : World} {acc' : Int} {st' sz' : List TV} (y : YZ L' W' m2 p2 p3 acc' st' sz') (k : Kp L' W W') : HB L L' w W' q1 q2 m2 p2 p3 acc' st' sz' :=
  ⟨y, h.b1.kept k (.inl h.l1), h.b2.kept k (.inl h.l2), h.l1, h.l2, h.sub, h.kp.trans (k.weak h.sub)⟩
theorem HB.drewN (h : HB L L' w W q1 q2 m2 p2 p3 acc st sz) (n : Nat) : HB L L' w (W.drewN n) q1 q2 m2 p2 p3 acc st sz := h.later (below_drewNk W n)
theorem HB.fine (h : HB L L' w W q1 q2 m2 p2 p3 acc st sz) : Fine st ∧ Fine sz ∧ -9223372036854775808 ≤ acc ∧ acc ≤ 9223372036854775807 := by
  obtain ⟨a2, a3, mo, so, -⟩ := h.yz
  exact ⟨mo.so.ok, so.ok, mo.a1, mo.a2⟩
theorem HB.len (h : HB L L' w W q1 q2 m2 p2 p3 acc st sz) : st.length ≤ 5 ∧ sz.length ≤ 5 := by
  obtain ⟨K, mt, -⟩ := h.yz.turnY
  obtain ⟨K', sr, -⟩ := h.yz.turnZ
  exact ⟨mt.st.le, sr.le⟩
theorem hb_shownY (h : HB L L' w W q1 q2 m2 p2 p3 acc st sz) : Calls Try.prog 81 #[yv p2] W fun e w' => e = .returned (S (stText st)) ∧ HB L L' w w' q1 q2 m2 p2 p3 acc st sz := by
  obtain ⟨K, mt, -⟩ := h.yz.turnY
  refine (shown_w _ W p2 st h.fine.1 mt.st).mono ?_
  rintro e w' ⟨rfl, b⟩
  exact ⟨rfl, h.later b⟩
theorem hb_top (h : HB L L' w W q1 q2 m2 p2 p3 acc st sz) : Calls Try.prog 82 #[yv p2] W fun e w' => e = .returned (.tuple #[I (topT st).1, I (topT st).2]) ∧ HB L L' w w' q1 q2 m2 p2 p3 acc st sz := by
  obtain ⟨K, mt, -⟩ := h.yz.turnY
  refine (top_w _ W p2 st mt.st).mono ?_
  rintro e w' ⟨rfl, b⟩
  exact ⟨rfl, h.later b⟩
theorem hb_run (h : HB L L' w W q1 q2 m2 p2 p3 acc st sz) (s : List UInt8) (hs : s.length < 9223372036854775808) (k : Nat) (E A : Int) (ST : List TV) (hR : runAllT s acc st = (k, E, A, ST)) : Calls Try.prog 30 #[ptr m2, S s] W fun e w' => e = .returned (.tuple #[I k, I E]) ∧ HB L L' w w' q1 q2 m2 p2 p3 A ST sz := by
  refine (yz_run h.yz s hs _ hR).mono ?_
  rintro e w' ⟨rfl, y, k⟩
  exact ⟨rfl, h.turn y k⟩
theorem hb_shownZ (h : HB L L' w W q1 q2 m2 p2 p3 acc st sz) : Calls Try.prog 81 #[yv p3] W fun e w' => e = .returned (S (stText sz)) ∧ HB L L' w w' q1 q2 m2 p2 p3 acc st sz := by
  obtain ⟨K, sr, -⟩ := h.yz.turnZ
  refine (shown_w _ W p3 sz h.fine.2.1 sr).mono ?_
  rintro e w' ⟨rfl, b⟩
  exact ⟨rfl, h.later b⟩
theorem hb_depthZ (h : HB L L' w W q1 q2 m2 p2 p3 acc st sz) : Calls Try.prog 86 #[yv p3] W fun e w' => e = .returned (I sz.length) ∧ HB L L' w w' q1 q2 m2 p2 p3 acc st sz := by
  obtain ⟨K, sr, -⟩ := h.yz.turnZ
  refine (depthB_w _ W p3 sz sr).mono ?_
  rintro e w' ⟨rfl, b⟩
  exact ⟨rfl, h.later b⟩
theorem hb_show (h : HB L L' w W q1 q2 m2 p2 p3 acc st sz) : Calls Try.prog 31 #[ptr m2] W fun e w' => e = .returned (S (macTx acc st)) ∧ HB L L' w w' q1 q2 m2 p2 p3 acc st sz := by
  refine (yz_show h.yz).mono ?_
  rintro e w' ⟨rfl, b⟩
  exact ⟨rfl, h.later b⟩
theorem hb_itoa (h : HB L L' w W q1 q2 m2 p2 p3 acc st sz) : Calls Try.prog 46 #[I acc] W fun e w' => e = .returned (S (itoa acc)) ∧ HB L L' w w' q1 q2 m2 p2 p3 acc st sz := by
  refine (itoa_any acc h.fine.2.2.1 h.fine.2.2.2 W).mono ?_
  rintro e w' ⟨rfl, b⟩
  exact ⟨rfl, h.later b⟩
theorem hb_play (h : HB L L' w W q1 q2 m2 p2 p3 acc st sz) (c : UInt8) (v : Int) (s : List UInt8) (lit : Bool) (d f : Int) (hO : owesT c lit d f = 0) (h32 : c ≠ 32) (h59 : c ≠ 59) (h33 : c ≠ 33)
    (v1 : -9223372036854775808 ≤ v) (v2 : v ≤ 9223372036854775807) (hs : c = 39 → s.length ≤ 6) (ST : List TV) (E : Int) (hf : Fine ST) (hP : playT c v s sz = (ST, E)) :
    Calls Try.prog 85 #[yv p3, .int .u8 (c.toNat : Int), I v, S s] W fun e w' => e = .returned (I E) ∧ HB L L' w w' q1 q2 m2 p2 p3 acc st ST := by
  obtain ⟨K, sr, fz, hK⟩ := h.yz.turnZ
  refine (play_any _ W p3 sz fz sr c v s lit d f hO h32 h59 h33 v1 v2 hs).mono ?_
  rw [hP]
  rintro e w' ⟨rfl, tn⟩
  obtain ⟨y, k⟩ := hK _ _ hf tn
  exact ⟨rfl, h.turn y k⟩
theorem hb_acc (h : HB L L' w W q1 q2 m2 p2 p3 acc st sz) (h5 : st.length < 5) : Calls Try.prog 87 #[ptr m2, yv p2] W fun e w' => e = .returned (.tuple #[I acc, .bool true]) ∧ HB L L' w w' q1 q2 m2 p2 p3 acc st sz := by
  refine (acc_w h.yz h5).mono ?_
  rintro e w' ⟨rfl, y, k⟩
  exact ⟨rfl, h.turn y k⟩
theorem HB.done (h : HB L L' w W q1 q2 m2 p2 p3 acc st sz) : YZ L W m2 p2 p3 acc st sz ∧ Kp L w W := ⟨h.yz.weak h.sub, h.kp⟩
end
end Go.Proofs.Qxb6500470a
