import Derived.Test.Qxb6500470aXt8
namespace Go.Proofs.Qxb6500470a
open Go.RowKit Go.Shelf
attribute [local go_sem] Fx_round Oper.semAt_some
theorem lAllX (n : Nat) (p0 : Option Addr) (w : World) :
    CallsIn Fx n Try.prog 136 #[.pointer p0] w fun e w' => e = .returned (.func (.func 139) #[] #[ptr w.heap.size]) ∧ w' = w.alloc (.cells #[.pointer p0] 69) := by
  have hmf : ∀ (fn : Fn) (first cap : Array Value) (w : World), (Instr.makeFunc fn first cap).run Try.prog w = .ok (.func fn first cap) w := fun _ _ _ _ => rfl
  refine callsIn_of_wp_marks Try.func136 rfl ⟨_, Try.func136⟩ ?_ rfl
  simp only [Try.ntmps136, List.size_toArray, List.length_cons, List.length_nil, Nat.reduceAdd, Nat.reduceSub, Array.replicate_succ, Array.replicate_zero, List.push_toArray, List.append_toArray, List.nil_append, List.cons_append]
  gi_wp2
  exact ⟨_, results_tmp rfl _ _ _, rfl, rfl⟩
theorem pAllX (n : Nat) (p0 : Option Addr) (w : World) :
    CallsIn Fx n Try.prog 143 #[.pointer p0] w fun e w' => e = .returned (.func (.func 147) #[] #[ptr w.heap.size]) ∧ w' = w.alloc (.cells #[.pointer p0] 89) := by
  have hmf : ∀ (fn : Fn) (first cap : Array Value) (w : World), (Instr.makeFunc fn first cap).run Try.prog w = .ok (.func fn first cap) w := fun _ _ _ _ => rfl
  refine callsIn_of_wp_marks Try.func143 rfl ⟨_, Try.func143⟩ ?_ rfl
  simp only [Try.ntmps143, List.size_toArray, List.length_cons, List.length_nil, Nat.reduceAdd, Nat.reduceSub, Array.replicate_succ, Array.replicate_zero, List.push_toArray, List.append_toArray, List.nil_append, List.cons_append]
  gi_wp2
  exact ⟨_, results_tmp rfl _ _ _, rfl, rfl⟩
set_option maxRecDepth 100000 in
set_option maxHeartbeats 1000000 in
theorem pall1X {α : Type} (enc : α → Value) (n : Nat) (hn : 1 ≤ n) (l Bn : Nat) (K : Nat → Prop) (q : Nat) (x y : α) (J Jx : List α → World → Prop) (Pn : List PanicEntry → World → Prop)
    (hY : ∀ pre x W, J pre W → pre.length < 2 → YieldAt Fx (n - 1) Try.prog l #[enc x] W fun e W' =>
      (e = .returned (.bool true) ∧ J (pre ++ [x]) W' ∧ KK K W W') ∨ (e = .returned (.bool false) ∧ Jx (pre ++ [x]) W') ∨ (∃ c, e = .panicked c ∧ Pn c W'))
    (W : World) (hb : ∀ V, KK K W V → V.cell? ⟨Bn, 0, none⟩ = some (ptr q)) (kq : K q) (hL : Blk W q #[enc x, enc y] 91) (h0 : J [] W) :
    CallsIn Fx n Try.prog 147 #[.func (.yield l) #[] #[], .pointer (some ⟨Bn, 0, none⟩)] W fun e W' =>
      ((∃ v, e = .returned v) ∧ ((∃ ys, ys = [x, y] ∧ J ys W') ∨ (∃ pre, pre <+: [x, y] ∧ Jx pre W'))) ∨ (∃ c, e = .panicked c ∧ Pn c W') := by
  refine callsIn_of_wp Try.func147 rfl ⟨_, Try.func147⟩ ?_ rfl
  simp only [Try.ntmps147, List.size_toArray, List.length_cons, List.length_nil, Nat.reduceAdd, Nat.reduceSub, Array.replicate_succ, Array.replicate_zero, List.push_toArray, List.append_toArray, List.nil_append, List.cons_append]
  have hBn := hb W (fun _ _ => rfl)
  obtain ⟨c1, c2, c3⟩ := hL.facts
  obtain ⟨fn, tmps, assign, body, hy, hR⟩ := hY [] x W h0 (by simp)
  gi_wp2
  refine hR.mono ?_
  rintro e W1 (⟨rfl, hJ1, hk1⟩ | ⟨rfl, hJx1⟩ | ⟨c, rfl, hp⟩)
  · have hL1 := hL.kk hk1 kq
    have hBn1 := hb W1 hk1
    clear c1 c2 c3 hBn
    obtain ⟨c1, c2, c3⟩ := hL1.facts
    obtain ⟨fn, tmps, assign, body, hy, hR⟩ := hY [x] y W1 hJ1 (by simp)
    gi_wp2
    refine hR.mono ?_
    rintro e W2 (⟨rfl, hJ2, hk2⟩ | ⟨rfl, hJx2⟩ | ⟨c, rfl, hp⟩)
    · gi_wp2
      go_end0
      exact .inl ⟨⟨_, rfl⟩, .inl ⟨[x, y], rfl, hJ2⟩⟩
    · gi_wp2
      go_end0
      exact .inl ⟨⟨_, rfl⟩, .inr ⟨[x, y], List.prefix_refl _, hJx2⟩⟩
    · gi_wp2
      exact ⟨rfl, .inr ⟨c, rfl, hp⟩⟩
  · gi_wp2
    refine bodyPost_ret (results_none rfl _ _ _) rfl ?_
    exact .inl ⟨⟨_, rfl⟩, .inr ⟨[x], ⟨[y], rfl⟩, hJx1⟩⟩
  · gi_wp2
    exact ⟨rfl, .inr ⟨c, rfl, hp⟩⟩
theorem Ch.mono {α : Type} {enc : α → Value} {A B : Nat → Prop} {W : World} (h : ∀ k, A k → B k) : ∀ {tp : Option Addr} {xs : List α}, Ch enc A W tp xs → Ch enc B W tp xs
  | _, [], e => e
  | _, _ :: _, ⟨q, tr, e, k, b, c⟩ => ⟨q, tr, e, h q k, b, Ch.mono h c⟩
/-- What a spread lays on the stack, or its refusal. -/
def spreadT : List TV → Except Int (List TV)
  | .nil :: r => .ok r
  | .cons a b :: r => if 5 < r.length + (elems (.cons a b)).length then .error 3 else .ok ((elems (.cons a b)).reverse ++ r)
  | .pair a b :: r => if 5 < r.length + 2 then .error 3 else .ok (b :: a :: r)
  | _ => .error 5
theorem spread_fin {K : Nat → Prop} {w : World} {p : Nat} {us : List Value} {st : List TV} {xs : List (El K w)} {es : List TV} (rs : RS K w st us) (he : xs.map tvE = es) {x : TV} (hx : spreadT (x :: st) = if 5 < st.length + es.length then .error 3 else .ok (es.reverse ++ st)) {e : Ending} {w' : World}
    (h : (us.reverse.length + xs.length ≤ 5 ∧ e = .returned (.tuple #[]) ∧ StQ K w' p (us.reverse ++ xs.map encE) ∧ Kept K w w') ∨ (5 < us.reverse.length + xs.length ∧ e = .panicked [{ v := .iface 26 (I 3), recovered := false }] ∧ (∃ x, Blk w' p #[x, .bool true] 62) ∧ Kept K w w')) : Out K w p (spreadT (x :: st)) e w' := by
  have hl := rs.len
  have hx2 : es.length = xs.length := by rw [← he]; simp
  rw [List.length_reverse, hl, ← hx2] at h
  rw [hx]
  rcases h with ⟨h1, rfl, s, kk⟩ | ⟨h1, rfl, hb, kk⟩
  · rw [if_neg (by omega)]
    refine ⟨rfl, K, fun _ h => h, fun _ h => .inl h, ⟨(xs.map encE).reverse ++ us, by simpa using s, ?_⟩, kk⟩
    rw [← he]
    exact ((El.rs xs).reverse.append rs).kept kk
  · rw [if_pos (by omega)]
    exact ⟨_, rfl, .inl rfl, kk, hb⟩
set_option maxHeartbeats 1000000 in
theorem spread_none (K : Nat → Prop) (w : World) (p : Nat) (h : StQ K w p []) : Calls Try.prog 77 #[ptr p] w (Out K w p (.error 5)) := by
  have hB0 : Below w.heap.size w (w.alloc (.cells #[ptr p] 29)) := (Below.refl _ _).alloc (Nat.le_refl _) _
  have h' := h.later hB0
  have ht := take_none K _ p h'
  obtain ⟨o, ho⟩ := ta_nil_i (xT := 64) Try.underlying75
  dsimp only at ho
  refine (callsIn_wide (n := 7)).1 ?_
  refine callsIn_of_wp_marks Try.func77 rfl trivial ?_ rfl
  simp only [Try.ntmps77, List.size_toArray, List.length_cons, List.length_nil, Nat.reduceAdd, Nat.reduceSub, Array.replicate_succ, Array.replicate_zero, List.push_toArray, List.append_toArray, List.nil_append, List.cons_append]
  gi_wp2_with fail
  refine ⟨trivial, (callsIn_wide.2 ht).mono ?_⟩
  rintro e w0 ⟨rfl, hw0⟩
  rw [hw0]
  clear hw0 w0
  gi_wp2
  have key := Out.ta h' (Kept.of_below hB0 h.ks) o
  rw [World.size_alloc] at key
  exact key
set_option maxHeartbeats 1000000 in
theorem spread_lack (K : Nat → Prop) (w : World) (p : Nat) (us : List Value) (t : TypeId) (u : Value) (h : StQ K w p (us ++ [.iface t u])) (hl : TaP (fun w => (Instr.typeAssert (.iface t u) 64 75 false).run Try.prog w)) : Calls Try.prog 77 #[ptr p] w (Out K w p (.error 5)) := by
  have hB0 : Below w.heap.size w (w.alloc (.cells #[ptr p] 29)) := (Below.refl _ _).alloc (Nat.le_refl _) _
  have ks := h.ks
  have ht := take_some K _ p _ _ _ (h.later hB0)
  obtain ⟨o, ho⟩ := hl
  dsimp only at ho
  refine (callsIn_wide (n := 7)).1 ?_
  refine callsIn_of_wp_marks Try.func77 rfl trivial ?_ rfl
  simp only [Try.ntmps77, List.size_toArray, List.length_cons, List.length_nil, Nat.reduceAdd, Nat.reduceSub, Array.replicate_succ, Array.replicate_zero, List.push_toArray, List.append_toArray, List.nil_append, List.cons_append]
  gi_wp2_with fail
  refine ⟨trivial, (callsIn_wide.2 ht).mono ?_⟩
  rintro e w0 ⟨rfl, s1, k1⟩
  gi_wp2
  exact Out.ta s1 ((Kept.of_below hB0 ks).trans k1) o
theorem spread_list (K : Nat → Prop) (w : World) (p : Nat) (us : List Value) (tp : Option Addr) (c : TV) (st : List TV) (h : StQ K w p (us.reverse ++ [.iface 69 (.pointer tp)])) (rs : RS K w st us) (rc : RV K w c (.iface 69 (.pointer tp))) (hc : (text c).length ≤ 30) (hx : spreadT (c :: st) = if 5 < st.length + (elems c).length then .error 3 else .ok ((elems c).reverse ++ st)) :
    Calls Try.prog 77 #[ptr p] w (Out K w p (spreadT (c :: st))) := by
  have hel : ∀ e ∈ elems c, (text e).length ≤ 30 := fun e he => Nat.le_trans (elem_len c e he) (Nat.le_trans (inner_len c) hc)
  obtain ⟨xs, hch, hxs⟩ := elems_list c tp rc hel
  refine (spread_gen K w p us.reverse _ _ (.pointer tp) 136 139 69 h (fun w => run_typeAssert_hasB Try.underlying75 (by kernel_rfl) _ _ w) (fun _ => by kernel_rfl) (mAllL tp) (enters_of Try.func136 (by kernel_rfl) rfl) ⟨_, Try.func136⟩ ⟨_, Try.func139⟩ (fun n W => lAllX n tp W) (enters_of Try.func139 (by kernel_rfl) rfl) xs ?_).mono ?_
  · intro K3 W Bn m kb ks kw hc0 l J Jx Pn W' hW hY h0
    exact all1_in encE Fx 6 ⟨_, Try.func139⟩ rfl (by omega) l Bn K3 tp xs J Jx Pn hY W' ((hW.cell (p := ⟨Bn, 0, none⟩) (ks Bn kb)).trans hc0) (((hch.below kw.block).mono m).below (fun q hq => hW.block q (ks q hq))) h0
  · intro e w' hh
    exact spread_fin rs hxs hx hh
theorem spread_pair (K : Nat → Prop) (w : World) (p : Nat) (us : List Value) (q0 : Nat) (av bv : Value) (a b : TV) (st : List TV) (h : StQ K w p (us.reverse ++ [.iface 89 (ptr q0)])) (rs : RS K w st us) (kq0 : K q0) (bq0 : Blk w q0 #[av, bv] 91) (ra : RV K w a av) (rb : RV K w b bv) (ha : (text a).length ≤ 30) (hb : (text b).length ≤ 30) :
    Calls Try.prog 77 #[ptr p] w (Out K w p (spreadT (.pair a b :: st))) := by
  refine (spread_gen K w p us.reverse _ _ (ptr q0) 143 147 89 h (fun w => run_typeAssert_hasB Try.underlying75 (by kernel_rfl) _ _ w) (fun _ => by kernel_rfl) (mAllP (some ⟨q0, 0, none⟩)) (enters_of Try.func143 (by kernel_rfl) rfl) ⟨_, Try.func143⟩ ⟨_, Try.func147⟩ (fun n W => pAllX n _ W) (enters_of Try.func147 (by kernel_rfl) rfl) [⟨(a, av), ra, ha⟩, ⟨(b, bv), rb, hb⟩] ?_).mono ?_
  · intro K3 W Bn m kb ks kw hc0 l J Jx Pn W' hW hY h0
    refine pall1X encE 6 (by omega) l Bn K3 q0 _ _ J Jx Pn hY W' (fun V hV => ?_) (m _ kq0) ((bq0.kept kw kq0).kk (fun q hq => hW.block q (ks q hq)) (m _ kq0)) h0
    have e1 : W'.cell? ⟨Bn, 0, none⟩ = some (ptr q0) := (hW.cell (p := ⟨Bn, 0, none⟩) (ks _ kb)).trans hc0
    rw [← e1]
    exact World.cell?_of_block (hV Bn kb)
  · intro e w' hh
    exact spread_fin (es := [a, b]) rs rfl rfl hh
theorem spread_any (K : Nat → Prop) (w : World) (p : Nat) (st : List TV) (h : SRepQ K w p st) (hl : ∀ x ∈ st, (text x).length ≤ 30) : Calls Try.prog 77 #[ptr p] w (Out K w p (spreadT st)) := by
  obtain ⟨vs, h, r⟩ := h
  cases st with
  | nil => rw [r.nil] at h; exact spread_none K w p h
  | cons x st =>
    obtain ⟨v, us, rfl, rx, rs⟩ := r.cons
    rw [List.reverse_cons] at h
    have la := hl x (by simp)
    cases x with
    | int n =>
      obtain ⟨rfl, -⟩ := rx
      exact spread_lack K w p us.reverse _ _ h (ta_lack_i Try.underlying75 (by kernel_rfl) _)
    | str z =>
      obtain rfl : v = VS z := rx
      exact spread_lack K w p us.reverse _ _ h (ta_lack_i Try.underlying75 (by kernel_rfl) _)
    | nil =>
      obtain rfl : v = VL := rx
      refine spread_list K w p us none .nil st h rs rfl la ?_
      have hle := h.le
      have := rs.len
      simp at hle
      rw [if_neg (by simp [elems]; omega)]
      rfl
    | cons c d =>
      have rx' := rx
      obtain ⟨q', hv, tq, rfl, -⟩ := rx'
      exact spread_list K w p us _ _ st h rs rx la rfl
    | pair c d =>
      obtain ⟨q', av, bv, rfl, kq, bq, ra, rb⟩ := rx
      have e := text_pair c d
      have e2 := congrArg List.length e
      simp at e2
      exact spread_pair K w p us _ _ _ _ _ st h rs kq bq ra rb (by omega) (by omega)
end Go.Proofs.Qxb6500470a
