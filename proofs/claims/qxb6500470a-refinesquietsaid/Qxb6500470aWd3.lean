import Derived.Test.Qxb6500470aWd2
namespace Go.Proofs.Qxb6500470a
open Go.RowKit
open Classical in
/-- The size of the list at a pointer, read off the world: for a loop's measure. -/
noncomputable def szV (K : Nat → Prop) (W : World) (v : Value) : Nat :=
  if h : ∃ y, RV K W y (.iface 69 v) then sz (Classical.choose h) else 0
theorem szV_eq {K : Nat → Prop} {W : World} {v : Value} {y : TV} (h : RV K W y (.iface 69 v)) : szV K W v = sz y := by
  have hex : ∃ y, RV K W y (.iface 69 v) := ⟨y, h⟩
  unfold szV
  rw [dif_pos hex, (Classical.choose_spec hex).inj h]
def SoundC (x : TV) : Prop := ∀ (K : Nat → Prop) (w : World) (v : Value), RV K w x v → Calls Try.prog 65 #[v] w fun e w' => e = .returned (.bool true) ∧ w' = w
set_option maxRecDepth 100000 in
set_option maxHeartbeats 4000000 in
theorem sound_list (x : TV) (ih : ∀ y, sz y < sz x → SoundC y) (K : Nat → Prop) (w : World) (tp : Option Addr) (h : RV K w x (.iface 69 (.pointer tp))) :
    Calls Try.prog 65 #[.iface 69 (.pointer tp)] w fun e w' => e = .returned (.bool true) ∧ w' = w := by
  have t1 : ∀ w, (Instr.typeAssert (.iface 69 (.pointer tp)) 64 80 true).run Try.prog w = .ok (.tuple #[I 0, .bool false]) w := fun _ => by kernel_rfl
  have t2 : ∀ w, (Instr.typeAssert (.iface 69 (.pointer tp)) 64 112 true).run Try.prog w = .ok (.tuple #[S [], .bool false]) w := fun _ => by kernel_rfl
  have t3 : ∀ w, (Instr.typeAssert (.iface 69 (.pointer tp)) 64 89 true).run Try.prog w = .ok (.tuple #[.pointer none, .bool false]) w := fun _ => by kernel_rfl
  have t4 : ∀ w, (Instr.typeAssert (.iface 69 (.pointer tp)) 64 69 true).run Try.prog w = .ok (.tuple #[.pointer tp, .bool true]) w := fun _ => by kernel_rfl
  go_enter Try.func65, Try.ntmps65
  go_wp2
  go_loopw [11] (fun c wr => ∃ y tq, c = .pointer tq ∧ RV K w y (.iface 69 (.pointer tq)) ∧ sz y ≤ sz x ∧ wr = w) (fun c _ => szV K w c)
  case atStart => exact ⟨x, tp, rfl, h, Nat.le_refl _, rfl⟩
  case round =>
    obtain ⟨y, tq, rfl, ry, hy, rfl⟩ := hrel
    rcases ry.list with ⟨rfl, rfl⟩ | ⟨a, b, q, hv, tr, rfl, rfl, kq', bl, ra, rb⟩
    · go_wp2
      go_ret
      exact ⟨rfl, rfl⟩
    · obtain ⟨c1, c2, c3⟩ := bl.facts
      have hs := ih a (by simp [sz] at hy; omega) K wr hv ra
      have m1 := szV_eq ry
      have m2 := szV_eq rb
      go_wp2_with fail
      refine hs.mono ?_
      rintro e w2 ⟨rfl, hw2⟩
      rw [hw2]
      clear hw2 w2
      go_wp2
      go_roundw
      case rel => exact ⟨b, tr, rfl, rb, by simp [sz] at hy; omega, trivial⟩
      case measure =>
        rw [m1, m2]
        simp [sz]
        omega
set_option maxRecDepth 100000 in
set_option maxHeartbeats 4000000 in
theorem sound_pair (a b : TV) (ha : SoundC a) (hb : SoundC b) (K : Nat → Prop) (w : World) (q : Nat) (av bv : Value) (bq : Blk w q #[av, bv] 91) (ra : RV K w a av) (rb : RV K w b bv) :
    Calls Try.prog 65 #[.iface 89 (ptr q)] w fun e w' => e = .returned (.bool true) ∧ w' = w := by
  have t1 : ∀ w, (Instr.typeAssert (.iface 89 (ptr q)) 64 80 true).run Try.prog w = .ok (.tuple #[I 0, .bool false]) w := fun _ => by kernel_rfl
  have t2 : ∀ w, (Instr.typeAssert (.iface 89 (ptr q)) 64 112 true).run Try.prog w = .ok (.tuple #[S [], .bool false]) w := fun _ => by kernel_rfl
  have t3 : ∀ w, (Instr.typeAssert (.iface 89 (ptr q)) 64 89 true).run Try.prog w = .ok (.tuple #[ptr q, .bool true]) w := fun _ => by kernel_rfl
  have h1 := ha K w av ra
  have h2 := hb K w bv rb
  obtain ⟨c1, c2, c3⟩ := bq.facts
  go_enter Try.func65, Try.ntmps65
  go_wp2_with fail
  refine h1.mono ?_
  rintro e w2 ⟨rfl, hw2⟩
  rw [hw2]
  clear hw2 w2
  go_wp2_with fail
  refine h2.mono ?_
  rintro e w2 ⟨rfl, hw2⟩
  rw [hw2]
  clear hw2 w2
  go_wp2
  go_ret
  exact ⟨rfl, rfl⟩
set_option maxHeartbeats 1000000 in
theorem sound_int (n : Int) (w : World) : Calls Try.prog 65 #[VI n] w fun e w' => e = .returned (.bool true) ∧ w' = w := by
  have t1 : ∀ w, (Instr.typeAssert (VI n) 64 80 true).run Try.prog w = .ok (.tuple #[I n, .bool true]) w := fun _ => by kernel_rfl
  go_enter Try.func65, Try.ntmps65
  go_wp2
  go_ret
  exact ⟨rfl, rfl⟩
set_option maxHeartbeats 1000000 in
theorem sound_str (z : List UInt8) (w : World) : Calls Try.prog 65 #[VS z] w fun e w' => e = .returned (.bool true) ∧ w' = w := by
  have t1 : ∀ w, (Instr.typeAssert (VS z) 64 80 true).run Try.prog w = .ok (.tuple #[I 0, .bool false]) w := fun _ => by kernel_rfl
  have t2 : ∀ w, (Instr.typeAssert (VS z) 64 112 true).run Try.prog w = .ok (.tuple #[S z, .bool true]) w := fun _ => by kernel_rfl
  go_enter Try.func65, Try.ntmps65
  go_wp2
  go_ret
  exact ⟨rfl, rfl⟩
theorem sound_all : ∀ n x, sz x ≤ n → SoundC x := by
  intro n
  induction n with
  | zero => intro x hx; cases x <;> simp [sz] at hx
  | succ n ih =>
    intro x hx K w v h
    cases x with
    | int m => obtain ⟨rfl, -⟩ := h; exact sound_int m w
    | str s => obtain rfl : v = VS s := h; exact sound_str s w
    | nil => obtain rfl : v = VL := h; exact sound_list .nil (fun y hy => ih y (by omega)) K w none rfl
    | cons a b =>
      have h' := h
      obtain ⟨q, hv, tp, rfl, -⟩ := h'
      exact sound_list _ (fun y hy => ih y (by omega)) K w _ h
    | pair a b =>
      obtain ⟨q, av, bv, rfl, k, bl, r1, r2⟩ := h
      simp [sz] at hx
      exact sound_pair a b (ih a (by omega)) (ih b (by omega)) K w q av bv bl r1 r2
theorem soundC (x : TV) : SoundC x := sound_all (sz x) x (Nat.le_refl _)
/-- The stack's text, up to the k-th value from the bottom. -/
def stTx (l : List TV) (k : Nat) : List UInt8 := itoa (l.length : Nat) ++ (l.take k).flatMap fun v => 32 :: text v
theorem stTx_succ (l : List TV) (k : Nat) (h : k < l.length) : stTx l (k + 1) = stTx l k ++ ([32] ++ text (l[k])) := by
  unfold stTx
  rw [List.take_succ_eq_append_getElem h, List.flatMap_append]
  simp
theorem flatT_len (l : List TV) (h : Fine l) : (l.flatMap fun v => 32 :: text v).length ≤ 31 * l.length := by
  induction l with
  | nil => simp
  | cons a l ih =>
    have := h.head
    have := ih h.tail
    simp only [List.flatMap_cons, List.length_append, List.length_cons]
    omega
theorem stTx_len (l : List TV) (k : Nat) (h : Fine l) (h5 : l.length ≤ 5) : (stTx l k).length ≤ 200 := by
  unfold stTx
  have h1 := itoa_len (l.length : Nat) (by omega) (by omega)
  have h2 := flatT_len (l.take k) (fun v hv => h v (List.mem_of_mem_take hv))
  have h3 : (l.take k).length ≤ 5 := by rw [List.length_take]; omega
  simp only [List.length_append]
  omega
/-- The text of the stack st, whose top is the first. -/
def stText (st : List TV) : List UInt8 := stTx st.reverse st.reverse.length
theorem RS.at {K : Nat → Prop} {w : World} : ∀ {xs : List TV} {vs : List Value}, RS K w xs vs → ∀ k (h : k < xs.length), RV K w xs[k] (vs.getD k .nilIface)
  | _ :: _, _ :: _, h, 0, _ => h.1
  | _ :: _, _ :: _, h, k + 1, hk => RS.at h.2 k (by simpa using hk)
  | [], _, _, k, hk => by cases hk
  | _ :: _, [], h, _, _ => h.elim
set_option maxRecDepth 100000 in
set_option maxHeartbeats 2000000 in
theorem stShowT (K : Nat → Prop) (w : World) (p : Nat) (st : List TV) (hf : Fine st) (h : SRep K w p st) :
    Calls Try.prog 47 #[ptr p] w fun e w' => e = .returned (S (stText st)) ∧ Below w.heap.size w w' := by
  obtain ⟨vs, hs, rs⟩ := h
  have rl := rs.reverse
  have fl := hf.reverse
  unfold stText
  generalize st.reverse = l at *
  generalize vs.reverse = us at *
  have hlu := rl.len
  obtain ⟨a, cap, hA⟩ := hs
  have ks := hA.ks
  have h5 := hA.le
  obtain ⟨c0, c1, f0, f1, lp⟩ := hA.at0
  rw [hlu] at c0 h5
  have HA : Hid (StA K w p a cap us) := hA
  clear hA
  have hit := itoa_any (l.length : Nat) (by omega) (by omega) w
  go_enter Try.func47, Try.ntmps47
  go_wp2_with fail
  refine hit.mono ?_
  rintro e w1 ⟨rfl, b1⟩
  have d0 := (b1.cell (p := ⟨p, 0, none⟩) lp).trans c0
  clear c0 c1 f0 f1 hit
  go_wp2
  go_loopw [3, 18] (fun t i wr => ∃ k : Nat, k ≤ l.length ∧ t = S (stTx l k) ∧ i = I (k : Int) ∧ Below w.heap.size w wr) (fun _ i _ => (l.length - intOf i).toNat)
  case atStart => exact ⟨0, by omega, by simp [stTx], rfl, b1⟩
  case round =>
    clear d0 b1
    obtain ⟨k, hk, rfl, rfl, br⟩ := hrel
    have hpl : (str (stTx l k)).size ≤ 200 := by rw [str_size]; exact stTx_len l k fl h5
    by_cases hlt : k < l.length
    · have hkl : (k : Int) < (l.length : Int) := by omega
      obtain ⟨g, rfl, hg, hle, -, lg⟩ := HA.out.form (by omega)
      have cg := (br.cell (p := ⟨g, k, none⟩) lg).trans (hg k (by omega))
      have rk := (rl.at k hlt).kept (Kept.of_below br ks)
      have hx := fl l[k] (List.getElem_mem hlt)
      have HS : Hid (stTx l (k + 1) = stTx l k ++ ([32] ++ text (l[k]))) := stTx_succ l k hlt
      generalize l[k] = x at *
      generalize us.getD k .nilIface = v at *
      clear hg
      obtain ⟨t1, u1, f1, v1, rfl, hm1, hcf, hc1⟩ := showD x K wr v rk (fun k hk => Nat.lt_of_lt_of_le (ks k hk) br.size) (by omega)
      have hvl : (str (text x)).size ≤ 30 := by rw [str_size]; exact hx
      generalize text x = tx at *
      go_wp2_with (refine hc1.mono ?_; rintro e w2 ⟨rfl, b2⟩)
      go_roundw
      case rel =>
        refine ⟨k + 1, by omega, ?_, by go_num, br.trans (b2.mono br.size)⟩
        show Value.string (str (stTx l k) ++ (str [32] ++ str tx)) = _
        rw [str_append, str_append, HS.out]
      case measure => simp [intOf]; omega
    · obtain rfl : k = l.length := by omega
      go_wp2
      go_ret
      exact ⟨rfl, br⟩
set_option maxRecDepth 100000 in
set_option maxHeartbeats 2000000 in
theorem stCheckT (K : Nat → Prop) (w : World) (p : Nat) (st : List TV) (hf : Fine st) (h : SRep K w p st) :
    Calls Try.prog 48 #[ptr p] w fun e w' => e = .returned (.bool true) ∧ Below w.heap.size w w' := by
  obtain ⟨vs, hs, rs⟩ := h
  have rl := rs.reverse
  have fl := hf.reverse
  generalize st.reverse = l at *
  generalize vs.reverse = us at *
  have hlu := rl.len
  obtain ⟨a, cap, hA⟩ := hs
  have ks := hA.ks
  have h5 := hA.le
  obtain ⟨c0, c1, f0, f1, lp⟩ := hA.at0
  rw [hlu] at c0 h5
  have h5' : (l.length : Int) ≤ 5 := by omega
  have HA : Hid (StA K w p a cap us) := hA
  clear hA
  go_enter Try.func48, Try.ntmps48
  go_wp2
  go_loopw [3, 17] (fun b i wr => ∃ k : Nat, k ≤ l.length ∧ b = I 0 ∧ i = I (k : Int) ∧ wr = w) (fun _ i _ => (l.length - intOf i).toNat)
  case atStart => exact ⟨0, by omega, rfl, rfl, rfl⟩
  case round =>
    obtain ⟨k, hk, rfl, rfl, rfl⟩ := hrel
    by_cases hlt : k < l.length
    · have hkl : (k : Int) < (l.length : Int) := by omega
      obtain ⟨g, rfl, hg, hle, -, lg⟩ := HA.out.form (by omega)
      have cg := hg k (by omega)
      have rk := rl.at k hlt
      have hsd := soundC _ K wr _ rk
      generalize us.getD k .nilIface = v at *
      clear hg
      obtain ⟨tv, uv, rfl⟩ := rk.iface
      go_wp2_with fail
      refine hsd.mono ?_
      rintro e w2 ⟨rfl, hw2⟩
      rw [hw2]
      clear hw2 w2
      go_wp2
      go_roundw
      case rel => exact ⟨k + 1, by omega, rfl, by go_num, trivial⟩
      case measure => simp [intOf]; omega
    · obtain rfl : k = l.length := by omega
      go_wp2
      go_loopw [34] (fun i wr' => ∃ j : Nat, j ≤ l.length ∧ i = I (j : Int) ∧ Below wr.heap.size wr wr') (fun i _ => (l.length - intOf i).toNat)
      case atStart => exact ⟨0, by omega, rfl, Below.refl _ _⟩
      case round =>
        clear c0 c1
        obtain ⟨j, hj, rfl, br⟩ := hrel
        have d0 := (br.cell (p := ⟨p, 0, none⟩) lp).trans (hlu ▸ HA.out.at0.1)
        by_cases hjt : j < l.length
        · have hjl : (j : Int) < (l.length : Int) := by omega
          obtain ⟨g, rfl, hg, hle, -, lg⟩ := HA.out.form (by omega)
          have cg := (br.cell (p := ⟨g, j, none⟩) lg).trans (hg j (by omega))
          have rk := (rl.at j hjt).kept (Kept.of_below br ks)
          have hx := fl l[j] (List.getElem_mem hjt)
          have hF := fits_any l[j] K _ _ rk (fun k hk => Nat.lt_of_lt_of_le (ks k hk) br.size) (by omega)
          rw [decide_eq_true hx] at hF
          generalize us.getD j .nilIface = v at *
          clear hg
          obtain ⟨tv, uv, rfl⟩ := rk.iface
          go_wp2_with fail
          refine hF.mono ?_
          rintro e w2 ⟨rfl, b2⟩
          go_wp2
          go_roundw
          case rel => exact ⟨j + 1, by omega, by go_num, br.trans (b2.mono br.size)⟩
          case measure => simp [intOf]; omega
        · obtain rfl : j = l.length := by omega
          go_wp2
          go_ret
          exact ⟨rfl, br⟩
end Go.Proofs.Qxb6500470a
