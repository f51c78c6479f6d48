import Derived.Test.Qxb6500470aCal7
import Derived.LaidEqlPtr
namespace Go.Proofs.Qxb6500470a
open Go.RowKit
/-- A value as the contract has it: a list is nil or cons. -/
inductive TV where
  | int (n : Int)
  | str (s : List UInt8)
  | nil
  | cons (h t : TV)
  | pair (a b : TV)
deriving DecidableEq
def TV.isCons : TV → Bool
  | .cons _ _ => true
  | _ => false
def TV.isList : TV → Bool
  | .cons _ _ => true
  | .nil => true
  | _ => false
/-- A value's text, and what stands between a list's brackets. -/
def tx2 : TV → List UInt8 × List UInt8
  | .int n => (itoa n, [])
  | .str s => (itoa s.length ++ [58] ++ s, [])
  | .nil => ([91, 93], [])
  | .cons h t => ([91] ++ ((tx2 h).1 ++ (if t.isCons then [32] ++ (tx2 t).2 else [])) ++ [93], (tx2 h).1 ++ (if t.isCons then [32] ++ (tx2 t).2 else []))
  | .pair a b => ([60] ++ (tx2 a).1 ++ [32] ++ (tx2 b).1 ++ [62], [])
def text (x : TV) : List UInt8 := (tx2 x).1
def inner (x : TV) : List UInt8 := (tx2 x).2
def sz : TV → Nat
  | .int _ => 1
  | .str _ => 1
  | .nil => 1
  | .cons h t => 1 + sz h + sz t
  | .pair a b => 1 + sz a + sz b
theorem text_cons (h t : TV) : text (.cons h t) = [91] ++ inner (.cons h t) ++ [93] := rfl
theorem inner_cons (h t : TV) : inner (.cons h t) = text h ++ (if t.isCons then [32] ++ inner t else []) := rfl
theorem text_pair (a b : TV) : text (.pair a b) = [60] ++ text a ++ [32] ++ text b ++ [62] := rfl
theorem itoa_ne0 (n : Int) : 0 < (itoa n).length := by
  unfold itoa
  split
  · simp
  · split
    · simp
    · exact dg_ne _ (by omega)
theorem text_pos (x : TV) : 0 < (text x).length := by
  cases x with
  | int n => exact itoa_ne0 n
  | str s => show 0 < (itoa s.length ++ [58] ++ s).length; simp; omega
  | nil => decide
  | cons h t => rw [text_cons]; simp
  | pair a b => rw [text_pair]; simp
/-- The Go value v is the value x; its cells lie in K. -/
def RV (K : Nat → Prop) (w : World) : TV → Value → Prop
  | .int n, v => v = VI n ∧ -9223372036854775808 ≤ n ∧ n ≤ 9223372036854775807
  | .str s, v => v = VS s
  | .nil, v => v = VL
  | .cons h t, v => ∃ q hv tp, v = .iface 69 (ptr q) ∧ K q ∧ Blk w q #[hv, .pointer tp] 72 ∧ RV K w h hv ∧ RV K w t (.iface 69 (.pointer tp))
  | .pair a b, v => ∃ q av bv, v = .iface 89 (ptr q) ∧ K q ∧ Blk w q #[av, bv] 91 ∧ RV K w a av ∧ RV K w b bv
theorem RV.kept {K : Nat → Prop} {w w' : World} (u : Kept K w w') : ∀ {x : TV} {v : Value}, RV K w x v → RV K w' x v
  | .int _, _, h => h
  | .str _, _, h => h
  | .nil, _, h => h
  | .cons _ _, _, ⟨q, hv, tp, e, k, b, r1, r2⟩ => ⟨q, hv, tp, e, k, b.kept u k, RV.kept u r1, RV.kept u r2⟩
  | .pair _ _, _, ⟨q, av, bv, e, k, b, r1, r2⟩ => ⟨q, av, bv, e, k, b.kept u k, RV.kept u r1, RV.kept u r2⟩
theorem RV.mono {K L : Nat → Prop} {w : World} (u : ∀ k, K k → L k) : ∀ {x : TV} {v : Value}, RV K w x v → RV L w x v
  | .int _, _, h => h
  | .str _, _, h => h
  | .nil, _, h => h
  | .cons _ _, _, ⟨q, hv, tp, e, k, b, r1, r2⟩ => ⟨q, hv, tp, e, u q k, b, RV.mono u r1, RV.mono u r2⟩
  | .pair _ _, _, ⟨q, av, bv, e, k, b, r1, r2⟩ => ⟨q, av, bv, e, u q k, b, RV.mono u r1, RV.mono u r2⟩
theorem Blk.inj {w : World} {b : Nat} {c c' : Array Value} {t t' : TypeId} (h : Blk w b c t) (h' : Blk w b c' t') : c = c' := by
  unfold Blk at h h'
  rw [h] at h'
  simp only [Option.some.injEq, Obj.cells.injEq] at h'
  exact h'.1
theorem RV.inj {K : Nat → Prop} {w : World} : ∀ {x y : TV} {v : Value}, RV K w x v → RV K w y v → x = y
  | .int n, y, v, h, h' => by
    obtain ⟨rfl, -, -⟩ := h
    cases y with
    | int m => obtain ⟨e, -, -⟩ := h'; simp at e; rw [e]
    | str s => exact absurd (show VI n = VS s from h') (by simp)
    | nil => exact absurd (show VI n = VL from h') (by simp)
    | cons a b => obtain ⟨q, hv, tp, e, -⟩ := h'; simp at e
    | pair a b => obtain ⟨q, hv, tp, e, -⟩ := h'; simp at e
  | .str s, y, v, h, h' => by
    obtain rfl : v = VS s := h
    cases y with
    | int m => obtain ⟨e, -, -⟩ := h'; simp at e
    | str s' =>
      have e : VS s = VS s' := h'
      have e2 : str s = str s' := by simpa using e
      have := congrArg ByteArray.toList e2
      rw [str_toList, str_toList] at this
      rw [this]
    | nil => exact absurd (show VS s = VL from h') (by simp)
    | cons a b => obtain ⟨q, hv, tp, e, -⟩ := h'; simp at e
    | pair a b => obtain ⟨q, hv, tp, e, -⟩ := h'; simp at e
  | .nil, y, v, h, h' => by
    obtain rfl : v = VL := h
    cases y with
    | int m => obtain ⟨e, -, -⟩ := h'; simp at e
    | str s' => exact absurd (show VL = VS s' from h') (by simp)
    | nil => rfl
    | cons a b => obtain ⟨q, hv, tp, e, -⟩ := h'; simp at e
    | pair a b => obtain ⟨q, hv, tp, e, -⟩ := h'; simp at e
  | .cons a b, y, v, h, h' => by
    obtain ⟨q, hv, tp, rfl, -, bl, r1, r2⟩ := h
    cases y with
    | int m => obtain ⟨e, -, -⟩ := h'; simp at e
    | str s' => exact absurd (show Value.iface _ (ptr q) = VS s' from h') (by simp)
    | nil => exact absurd (show Value.iface _ (ptr q) = VL from h') (by simp)
    | cons a' b' =>
      obtain ⟨q', hv', tp', e, -, bl', r1', r2'⟩ := h'
      simp at e
      subst e
      have := bl.inj bl'
      simp at this
      obtain ⟨rfl, rfl⟩ := this
      rw [RV.inj r1 r1', RV.inj r2 r2']
    | pair a' b' => obtain ⟨q', av, bv, e, -⟩ := h'; simp at e
  | .pair a b, y, v, h, h' => by
    obtain ⟨q, hv, tp, rfl, -, bl, r1, r2⟩ := h
    cases y with
    | int m => obtain ⟨e, -, -⟩ := h'; simp at e
    | str s' => exact absurd (show Value.iface _ (ptr q) = VS s' from h') (by simp)
    | nil => exact absurd (show Value.iface _ (ptr q) = VL from h') (by simp)
    | cons a' b' => obtain ⟨q', av, bv, e, -⟩ := h'; simp at e
    | pair a' b' =>
      obtain ⟨q', hv', tp', e, -, bl', r1', r2'⟩ := h'
      simp at e
      subst e
      have := bl.inj bl'
      simp at this
      obtain ⟨rfl, rfl⟩ := this
      rw [RV.inj r1 r1', RV.inj r2 r2']
/-- A pointer to a list: nil, or a cell. -/
theorem RV.list {K : Nat → Prop} {w : World} {y : TV} {tp : Option Addr} (h : RV K w y (.iface 69 (.pointer tp))) :
    (y = .nil ∧ tp = none) ∨ ∃ a b q hv tq, y = .cons a b ∧ tp = some ⟨q, 0, none⟩ ∧ K q ∧ Blk w q #[hv, .pointer tq] 72 ∧ RV K w a hv ∧ RV K w b (.iface 69 (.pointer tq)) := by
  cases y with
  | int m => obtain ⟨e, -, -⟩ := h; simp at e
  | str s' => exact absurd (show Value.iface _ _ = VS s' from h) (by simp)
  | nil => have e : Value.iface 69 (.pointer tp) = VL := h; simp at e; exact .inl ⟨rfl, e⟩
  | cons a b =>
    obtain ⟨q, hv, tq, e, k, bl, r1, r2⟩ := h
    simp at e
    exact .inr ⟨a, b, q, hv, tq, rfl, e, k, bl, r1, r2⟩
  | pair a b => obtain ⟨q, av, bv, e, -⟩ := h; simp at e
theorem mShowP (a : Option Addr) (w : World) : (method 260 89 (.pointer a) "Show").run Try.prog w = .ok (146, .pointer a) w := by kernel_rfl
/-- How v's text is asked for, in the world w. -/
def ShowC (x : TV) : Prop := ∀ (K : Nat → Prop) (w : World) (v : Value), RV K w x v → (∀ k, K k → k < w.heap.size) → (text x).length ≤ 1000 → ∃ t u f r, v = .iface t u ∧ (f = 142 ∨ f = 150 ∨ f = 138 ∨ f = 146) ∧ (∀ W, (method 260 t u "Show").run Try.prog W = .ok (f, r) W) ∧ Calls Try.prog f #[r] w fun e w' => e = .returned (S (text x)) ∧ Below w.heap.size w w'
theorem itoa_len30 (n : Int) (h1 : -9223372036854775808 ≤ n) (h2 : n ≤ 9223372036854775807) : (itoa n).length ≤ 30 := by have := itoa_len n h1 h2; omega
theorem inner_len (x : TV) : (inner x).length ≤ (text x).length := by
  cases x with
  | cons h t => rw [text_cons]; simp; omega
  | _ => exact Nat.zero_le _
theorem text_head (h t : TV) : (text h).length < (text (.cons h t)).length := by
  rw [text_cons, inner_cons]
  simp
  omega
def strLen : Value → Nat
  | .string s => s.size
  | _ => 0
theorem lInfo : (Try.prog.info? 72).map (·.size) = some 2 := by kernel_rfl
theorem eql_same (q : Nat) (w : World) : (binOp .eql 69 (ptr q) (ptr q)).run Try.prog w = .ok (.bool true) w := by
  obtain ⟨j, hj, hs⟩ := Option.map_eq_some_iff.1 lInfo
  exact run_eql_ptr_same w ⟨q, 0, none⟩ Try.underlying69 hj
theorem eql_other (q r : Nat) (w : World) (h : q ≠ r) {c d : Array Value} {s t : TypeId} (b1 : Blk w q c s) (b2 : Blk w r d t) : (binOp .eql 69 (ptr q) (ptr r)).run Try.prog w = .ok (.bool false) w := by
  obtain ⟨j, hj, hs⟩ := Option.map_eq_some_iff.1 lInfo
  exact run_eql_ptr_other w (a := ⟨q, 0, none⟩) (b := ⟨r, 0, none⟩) Try.underlying69 hj (by rw [hs]; decide) (by intro e; simp only [Addr.mk.injEq] at e; exact h e.1) b1 b2
theorem Kept.refl_below {K : Nat → Prop} {w w' : World} (hk : ∀ k, K k → k < w.heap.size) (b : Below w.heap.size w w') : Kept K w w' := Kept.of_below b hk

/-- What is still to be laid behind the text of the cells that have been met. -/
def restL (x y : TV) : List UInt8 := if y = x then inner x else if y.isCons then [32] ++ inner y else []
set_option maxHeartbeats 4000000 in
theorem listShow (h0 t0 : TV) (ih : ∀ y, sz y < sz (.cons h0 t0) → ShowC y) (K : Nat → Prop) (w : World) (q0 : Nat) (hv0 : Value) (tp0 : Option Addr) (kq : K q0) (b0 : Blk w q0 #[hv0, .pointer tp0] 72) (r1 : RV K w h0 hv0) (r2 : RV K w t0 (.iface 69 (.pointer tp0))) (ks : ∀ k, K k → k < w.heap.size) (hlen : (text (.cons h0 t0)).length ≤ 1000) :
    Calls Try.prog 138 #[ptr q0] w fun e w' => e = .returned (S (text (.cons h0 t0))) ∧ Below w.heap.size w w' := by
  have RX : RV K w (.cons h0 t0) (.iface 69 (ptr q0)) := ⟨q0, hv0, tp0, rfl, kq, b0, r1, r2⟩
  obtain ⟨X, hX⟩ : ∃ X, TV.cons h0 t0 = X := ⟨_, rfl⟩
  rw [hX] at ih hlen RX ⊢
  have XC : ∃ a b, X = .cons a b := ⟨h0, t0, hX.symm⟩
  have tX : text X = [91] ++ inner X ++ [93] := by obtain ⟨a, b, rfl⟩ := XC; rfl
  clear r1 r2 hX
  generalize text X = TX at *
  go_enter Try.func138, Try.ntmps138
  go_wp2
  go_loopw [3, 4] (fun t c wr => ∃ y tp pre, c = .pointer tp ∧ RV K wr y (.iface 69 (.pointer tp)) ∧ (y = X ∧ pre = [91] ∧ tp = some ⟨q0, 0, none⟩ ∨ sz y < sz X) ∧ t = S pre ∧ pre ++ restL X y = [91] ++ inner X ∧ Below w.heap.size w wr) (fun t _ _ => 2000 - strLen t)
  case atStart => exact ⟨X, some ⟨q0, 0, none⟩, [91], rfl, RX, .inl ⟨rfl, rfl, rfl⟩, rfl, by unfold restL; rw [if_pos rfl], Below.refl _ _⟩
  case round =>
    obtain ⟨y, tp, pre, rfl, ry, hsz, rfl, hpre, br⟩ := hrel
    have hpl : pre.length ≤ 1000 := by
      have := congrArg List.length hpre
      have l2 := congrArg List.length tX
      simp at this l2
      omega
    have hps : (str pre).size ≤ 1000 := by rw [str_size]; exact hpl
    rcases ry.list with ⟨rfl, rfl⟩ | ⟨a, b, q, hv, tq, rfl, rfl, kq', bl, ra, rb⟩
    · go_wp2
      go_ret
      refine ⟨?_, br⟩
      have hne : ¬ TV.nil = X := by obtain ⟨a, b, rfl⟩ := XC; simp
      have : pre = [91] ++ inner X := by
        unfold restL at hpre
        rw [if_neg hne] at hpre
        simpa [TV.isCons] using hpre
      show Ending.returned (.string (str pre ++ str [93])) = _
      rw [str_append, tX, this]
    · have ksr : ∀ k, K k → k < wr.heap.size := fun k hk => Nat.lt_of_lt_of_le (ks k hk) br.size
      have hsa : sz a < sz X := by
        rcases hsz with ⟨e, -, -⟩ | e
        · rw [← e]; simp [sz]; omega
        · simp [sz] at e; omega
      have hsb : sz b < sz X := by
        rcases hsz with ⟨e, -, -⟩ | e
        · rw [← e]; simp [sz]; omega
        · simp [sz] at e; omega
      have hla : (text a).length ≤ 1000 := by
        have := congrArg List.length hpre
        have l2 := congrArg List.length tX
        have l3 : (text a).length ≤ (restL X (.cons a b)).length := by
          unfold restL
          split
          · rename_i e; rw [← e, inner_cons]; simp
          · simp [TV.isCons, inner_cons]
            omega
        simp at this l2
        omega
      obtain ⟨ti, ui, fi, ri, rfl, hfi, hmi, hca⟩ := ih a hsa K wr hv ra ksr hla
      have hla' : (str (text a)).size ≤ 1000 := by rw [str_size]; exact hla
      have hpa := text_pos a
      obtain ⟨c1, c2, c3⟩ := bl.facts
      have HP : Hid _ := hpre
      have HT : Hid _ := tX
      clear hpre tX hlen
      rcases hfi with rfl | rfl | rfl | rfl
      · go_wp2_with fail
        refine hca.mono ?_
        rintro e w2 ⟨rfl, d2⟩
        have kk := Kept.of_below (K := K) d2 ksr
        have bl2 := bl.kept kk kq'
        have rb2 := rb.kept kk
        have br2 := br.trans (d2.mono br.size)
        have b02 : Blk w2 q0 #[hv0, .pointer tp0] 72 := (b0.below br b0.lt).kept kk kq
        have RX2 := (RX.kept (Kept.of_below (K := K) br ks)).kept kk
        have ry2 := ry.kept kk
        clear c1 c2 c3 bl rb hca hmi ry
        obtain ⟨c1, c2, c3⟩ := bl2.facts
        rcases hsz with ⟨e, rfl, hq⟩ | e
        · simp only [Option.some.injEq, Addr.mk.injEq, and_true] at hq
          subst hq
          have eq := eql_same q w2
          go_wp2
          go_roundw
          case rel =>
            refine ⟨b, tq, [91] ++ text a, rfl, rb2, .inr hsb, ?_, ?_, br2⟩
            · show Value.string (str [91] ++ str (text a)) = _
              rw [str_append]
            · have hne : ¬ b = X := by intro e2; rw [e2] at hsb; omega
              unfold restL
              rw [if_neg hne, ← e, inner_cons, List.append_assoc]
          case measure =>
            simp [strLen, str_size] at hps hla' ⊢
            omega
        · have hne : q ≠ q0 := by
            intro e2
            subst e2
            have := RX2.inj ry2
            rw [this] at e
            omega
          have eq := eql_other q q0 w2 hne bl2 b02
          go_wp2
          go_roundw
          case rel =>
            refine ⟨b, tq, pre ++ [32] ++ text a, rfl, rb2, .inr hsb, ?_, ?_, br2⟩
            · show Value.string (str pre ++ str [32] ++ str (text a)) = _
              rw [str_append, str_append]
            · have hne : ¬ b = X := by intro e2; rw [e2] at hsb; omega
              have hne2 : ¬ TV.cons a b = X := by intro e2; rw [e2] at e; omega
              have := HP.out
              unfold restL at this ⊢
              rw [if_neg hne2] at this
              rw [if_neg hne, ← this]
              simp [TV.isCons, inner_cons]
          case measure =>
            simp [strLen, str_size] at hps hla' ⊢
            omega
      · go_wp2_with fail
        refine hca.mono ?_
        rintro e w2 ⟨rfl, d2⟩
        have kk := Kept.of_below (K := K) d2 ksr
        have bl2 := bl.kept kk kq'
        have rb2 := rb.kept kk
        have br2 := br.trans (d2.mono br.size)
        have b02 : Blk w2 q0 #[hv0, .pointer tp0] 72 := (b0.below br b0.lt).kept kk kq
        have RX2 := (RX.kept (Kept.of_below (K := K) br ks)).kept kk
        have ry2 := ry.kept kk
        clear c1 c2 c3 bl rb hca hmi ry
        obtain ⟨c1, c2, c3⟩ := bl2.facts
        rcases hsz with ⟨e, rfl, hq⟩ | e
        · simp only [Option.some.injEq, Addr.mk.injEq, and_true] at hq
          subst hq
          have eq := eql_same q w2
          go_wp2
          go_roundw
          case rel =>
            refine ⟨b, tq, [91] ++ text a, rfl, rb2, .inr hsb, ?_, ?_, br2⟩
            · show Value.string (str [91] ++ str (text a)) = _
              rw [str_append]
            · have hne : ¬ b = X := by intro e2; rw [e2] at hsb; omega
              unfold restL
              rw [if_neg hne, ← e, inner_cons, List.append_assoc]
          case measure =>
            simp [strLen, str_size] at hps hla' ⊢
            omega
        · have hne : q ≠ q0 := by
            intro e2
            subst e2
            have := RX2.inj ry2
            rw [this] at e
            omega
          have eq := eql_other q q0 w2 hne bl2 b02
          go_wp2
          go_roundw
          case rel =>
            refine ⟨b, tq, pre ++ [32] ++ text a, rfl, rb2, .inr hsb, ?_, ?_, br2⟩
            · show Value.string (str pre ++ str [32] ++ str (text a)) = _
              rw [str_append, str_append]
            · have hne : ¬ b = X := by intro e2; rw [e2] at hsb; omega
              have hne2 : ¬ TV.cons a b = X := by intro e2; rw [e2] at e; omega
              have := HP.out
              unfold restL at this ⊢
              rw [if_neg hne2] at this
              rw [if_neg hne, ← this]
              simp [TV.isCons, inner_cons]
          case measure =>
            simp [strLen, str_size] at hps hla' ⊢
            omega
      · go_wp2_with fail
        refine hca.mono ?_
        rintro e w2 ⟨rfl, d2⟩
        have kk := Kept.of_below (K := K) d2 ksr
        have bl2 := bl.kept kk kq'
        have rb2 := rb.kept kk
        have br2 := br.trans (d2.mono br.size)
        have b02 : Blk w2 q0 #[hv0, .pointer tp0] 72 := (b0.below br b0.lt).kept kk kq
        have RX2 := (RX.kept (Kept.of_below (K := K) br ks)).kept kk
        have ry2 := ry.kept kk
        clear c1 c2 c3 bl rb hca hmi ry
        obtain ⟨c1, c2, c3⟩ := bl2.facts
        rcases hsz with ⟨e, rfl, hq⟩ | e
        · simp only [Option.some.injEq, Addr.mk.injEq, and_true] at hq
          subst hq
          have eq := eql_same q w2
          go_wp2
          go_roundw
          case rel =>
            refine ⟨b, tq, [91] ++ text a, rfl, rb2, .inr hsb, ?_, ?_, br2⟩
            · show Value.string (str [91] ++ str (text a)) = _
              rw [str_append]
            · have hne : ¬ b = X := by intro e2; rw [e2] at hsb; omega
              unfold restL
              rw [if_neg hne, ← e, inner_cons, List.append_assoc]
          case measure =>
            simp [strLen, str_size] at hps hla' ⊢
            omega
        · have hne : q ≠ q0 := by
            intro e2
            subst e2
            have := RX2.inj ry2
            rw [this] at e
            omega
          have eq := eql_other q q0 w2 hne bl2 b02
          go_wp2
          go_roundw
          case rel =>
            refine ⟨b, tq, pre ++ [32] ++ text a, rfl, rb2, .inr hsb, ?_, ?_, br2⟩
            · show Value.string (str pre ++ str [32] ++ str (text a)) = _
              rw [str_append, str_append]
            · have hne : ¬ b = X := by intro e2; rw [e2] at hsb; omega
              have hne2 : ¬ TV.cons a b = X := by intro e2; rw [e2] at e; omega
              have := HP.out
              unfold restL at this ⊢
              rw [if_neg hne2] at this
              rw [if_neg hne, ← this]
              simp [TV.isCons, inner_cons]
          case measure =>
            simp [strLen, str_size] at hps hla' ⊢
            omega
      · go_wp2_with fail
        refine hca.mono ?_
        rintro e w2 ⟨rfl, d2⟩
        have kk := Kept.of_below (K := K) d2 ksr
        have bl2 := bl.kept kk kq'
        have rb2 := rb.kept kk
        have br2 := br.trans (d2.mono br.size)
        have b02 : Blk w2 q0 #[hv0, .pointer tp0] 72 := (b0.below br b0.lt).kept kk kq
        have RX2 := (RX.kept (Kept.of_below (K := K) br ks)).kept kk
        have ry2 := ry.kept kk
        clear c1 c2 c3 bl rb hca hmi ry
        obtain ⟨c1, c2, c3⟩ := bl2.facts
        rcases hsz with ⟨e, rfl, hq⟩ | e
        · simp only [Option.some.injEq, Addr.mk.injEq, and_true] at hq
          subst hq
          have eq := eql_same q w2
          go_wp2
          go_roundw
          case rel =>
            refine ⟨b, tq, [91] ++ text a, rfl, rb2, .inr hsb, ?_, ?_, br2⟩
            · show Value.string (str [91] ++ str (text a)) = _
              rw [str_append]
            · have hne : ¬ b = X := by intro e2; rw [e2] at hsb; omega
              unfold restL
              rw [if_neg hne, ← e, inner_cons, List.append_assoc]
          case measure =>
            simp [strLen, str_size] at hps hla' ⊢
            omega
        · have hne : q ≠ q0 := by
            intro e2
            subst e2
            have := RX2.inj ry2
            rw [this] at e
            omega
          have eq := eql_other q q0 w2 hne bl2 b02
          go_wp2
          go_roundw
          case rel =>
            refine ⟨b, tq, pre ++ [32] ++ text a, rfl, rb2, .inr hsb, ?_, ?_, br2⟩
            · show Value.string (str pre ++ str [32] ++ str (text a)) = _
              rw [str_append, str_append]
            · have hne : ¬ b = X := by intro e2; rw [e2] at hsb; omega
              have hne2 : ¬ TV.cons a b = X := by intro e2; rw [e2] at e; omega
              have := HP.out
              unfold restL at this ⊢
              rw [if_neg hne2] at this
              rw [if_neg hne, ← this]
              simp [TV.isCons, inner_cons]
          case measure =>
            simp [strLen, str_size] at hps hla' ⊢
            omega
end Go.Proofs.Qxb6500470a
