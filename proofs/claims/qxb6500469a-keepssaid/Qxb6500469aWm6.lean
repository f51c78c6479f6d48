import Derived.Test.Qxb6500469aWm5
import Derived.Deep.RegionHeld3
namespace Go.Proofs.Qxb6500469a
open Go.RowKit

theorem mul_in (x v : Int) (hx : -65536 ≤ x ∧ x ≤ 65536) (hv : -65536 ≤ v ∧ v ≤ 65536) : -4294967296 ≤ x * v ∧ x * v ≤ 4294967296 := by
  have h1 := Int.natAbs_mul x v
  have h2 : x.natAbs * v.natAbs ≤ 65536 * 65536 := Nat.mul_le_mul (by omega) (by omega)
  omega
theorem div_in (x v : Int) (hx : -65536 ≤ x ∧ x ≤ 65536) : -65536 ≤ x.tdiv v ∧ x.tdiv v ≤ 65536 := by
  have h1 : (x.tdiv v).natAbs = x.natAbs / v.natAbs := Int.natAbs_tdiv x v
  have h2 := Nat.div_le_self x.natAbs v.natAbs
  rw [← h1] at h2
  omega
theorem MbR.set1 {w : World} {b : Nat} {ad : Option Addr} {cap u : Nat} {a p q : Int} (h : MbR w b ad cap u a p q) (i : Nat) (x a' p' q' : Int) (he : (#[.slice ad (bitsL u 64).length cap, I a, I p, I q] : Array Value).setIfInBounds i (I x) = #[.slice ad (bitsL u 64).length cap, I a', I p', I q']) (ha : -128 ≤ a' ∧ a' ≤ 127) (hp : -32768 ≤ p' ∧ p' ≤ 32767) (hq : 0 ≤ q' ∧ q' ≤ 65535) : MbR (w.setCell ⟨b, i, none⟩ (I x)) b ad cap u a' p' q' := by
  have hh := h.head.set (i := i) (I x)
  rw [he] at hh
  refine ⟨hh, ⟨h.own.1, ?_⟩, h.far, h.hu, ha, hp, hq⟩
  rcases h.own.2 with h0 | ⟨g, c, cur, hvv, h1, hB, h2⟩
  · exact .inl h0
  · refine .inr ⟨g, c, cur, hvv, h1, ?_, h2⟩
    have e : ad = some ⟨g, 0, none⟩ := by simp only [Value.slice.injEq] at hvv; exact hvv.1
    exact Blk.other (w := w) (t := 3) hB (a := ⟨b, i, none⟩) (fun e2 => h.far (by rw [e]; exact congrArg some e2)) _
set_option maxRecDepth 100000 in
set_option maxHeartbeats 8000000 in
theorem mcalc_gen {R : World → Prop} (w : World) (b rr : Nat) (hr : (rr : Int) < 3) (lo hi x v vv op : Int) (wrp : Int → Int) (h1 : 1 ≤ op) (h8 : op ≤ 8) (cx : ∀ W, Below w.heap.size w W → W.cell? ⟨b, 1 + rr, none⟩ = some (I x) ∧ W.frozen? ⟨b, 1 + rr, none⟩ = false)
    (hE : ∀ W, Calls Try.prog 50 #[I rr] W fun e w' => e = .returned (.tuple #[I lo, I hi]) ∧ w' = W)
    (hW : ∀ n W, Calls Try.prog 24 #[I n, I lo, I hi] W fun e w' => e = .returned (I (wrp n)) ∧ Below W.heap.size W w') (hvv : wrp v = vv) (bx : -65536 ≤ x ∧ x ≤ 65536) (bv : -65536 ≤ vv ∧ vv ≤ 65536) (hz : ¬ (vv = 0 ∧ (op = 5 ∨ op = 6)))
    (hR : ∀ w1, Below w.heap.size w w1 → R (w1.setCell ⟨b, 1 + rr, none⟩ (I (wrp (rawC op x vv lo hi))))) :
    Calls Try.prog 77 #[ptr b, I rr, I op, I v] w fun e w' => e = .returned (I 0) ∧ R w' := by
  have hop : op = 1 ∨ op = 2 ∨ op = 3 ∨ op = 4 ∨ op = 5 ∨ op = 6 ∨ op = 7 ∨ op = 8 := by omega
  have n1 : ¬ (rr : Int) < 0 := by omega
  have n2 : ¬ (3 : Int) ≤ (rr : Int) := by omega
  have hW1 := hW v
  rw [hvv] at hW1
  have HR : Hid _ := hR
  have HC : Hid _ := cx
  have HW : Hid _ := hW
  have mu := mul_in x vv bx bv
  have dv := div_in x vv bx
  have tm := tmod_in x vv
  clear hR cx hW hvv h1 h8
  rcases hop with rfl | rfl | rfl | rfl | rfl | rfl | rfl | rfl
  · rw [show rawC 1 x vv lo hi = vv from rfl] at HR
    clear hz
    have hW2 := HW.out (vv)
    generalize wrp (vv) = yy at *
    clear HW mu dv tm
    go_enter Try.func77, Try.ntmps77
    go_wp2_with fail
    refine (hE _).mono ?_
    rintro e w1 ⟨rfl, rfl⟩
    go_wp2_with fail
    refine (hW1 _).mono ?_
    rintro e w2 ⟨rfl, b2⟩
    obtain ⟨c0, -⟩ := HC.out _ b2
    go_wp2_with fail
    have bv3 : Below w2.heap.size w2 w2.drew := (Below.refl _ _).drew
    go_region_held3 (fun W => True) (trivial) (first | (go_at_call 24; refine (hW2 _).mono ?_; rintro e w4 ⟨rfl, b4⟩; have b4' : Below w2.heap.size w2 w4 := (by first | exact b4 | exact bv3.trans b4); have bb4 := b2.trans (b4'.mono b2.size); have xx := HC.out _ bb4; obtain ⟨x0, x1⟩ := xx))
    all_goals
      clear c0
      have HRR := HR.out _ bb4
      go_wp2
      go_ret
      exact ⟨rfl, HRR⟩
  · rw [show rawC 2 x vv lo hi = x + vv from rfl] at HR
    clear hz
    have wa := wr64 (x + vv) (by omega) (by omega)
    have hW2 := HW.out (x + vv)
    generalize wrp (x + vv) = yy at *
    clear HW mu dv tm
    go_enter Try.func77, Try.ntmps77
    go_wp2_with fail
    refine (hE _).mono ?_
    rintro e w1 ⟨rfl, rfl⟩
    go_wp2_with fail
    refine (hW1 _).mono ?_
    rintro e w2 ⟨rfl, b2⟩
    obtain ⟨c0, -⟩ := HC.out _ b2
    go_wp2_with fail
    have bv3 : Below w2.heap.size w2 w2.drew := (Below.refl _ _).drew
    go_region_held3 (fun W => True) (trivial) (first | (go_at_call 24; refine (hW2 _).mono ?_; rintro e w4 ⟨rfl, b4⟩; have b4' : Below w2.heap.size w2 w4 := (by first | exact b4 | exact bv3.trans b4); have bb4 := b2.trans (b4'.mono b2.size); have xx := HC.out _ bb4; obtain ⟨x0, x1⟩ := xx))
    all_goals
      clear c0
      have HRR := HR.out _ bb4
      go_wp2
      go_ret
      exact ⟨rfl, HRR⟩
  · rw [show rawC 3 x vv lo hi = x - vv from rfl] at HR
    clear hz
    have wa := wr64 (x - vv) (by omega) (by omega)
    have hW2 := HW.out (x - vv)
    generalize wrp (x - vv) = yy at *
    clear HW mu dv tm
    go_enter Try.func77, Try.ntmps77
    go_wp2_with fail
    refine (hE _).mono ?_
    rintro e w1 ⟨rfl, rfl⟩
    go_wp2_with fail
    refine (hW1 _).mono ?_
    rintro e w2 ⟨rfl, b2⟩
    obtain ⟨c0, -⟩ := HC.out _ b2
    go_wp2_with fail
    have bv3 : Below w2.heap.size w2 w2.drew := (Below.refl _ _).drew
    go_region_held3 (fun W => True) (trivial) (first | (go_at_call 24; refine (hW2 _).mono ?_; rintro e w4 ⟨rfl, b4⟩; have b4' : Below w2.heap.size w2 w4 := (by first | exact b4 | exact bv3.trans b4); have bb4 := b2.trans (b4'.mono b2.size); have xx := HC.out _ bb4; obtain ⟨x0, x1⟩ := xx))
    all_goals
      clear c0
      have HRR := HR.out _ bb4
      go_wp2
      go_ret
      exact ⟨rfl, HRR⟩
  · rw [show rawC 4 x vv lo hi = x * vv from rfl] at HR
    clear hz
    have wa := wr64 (x * vv) (by omega) (by omega)
    have hW2 := HW.out (x * vv)
    generalize wrp (x * vv) = yy at *
    clear HW mu dv tm
    go_enter Try.func77, Try.ntmps77
    go_wp2_with fail
    refine (hE _).mono ?_
    rintro e w1 ⟨rfl, rfl⟩
    go_wp2_with fail
    refine (hW1 _).mono ?_
    rintro e w2 ⟨rfl, b2⟩
    obtain ⟨c0, -⟩ := HC.out _ b2
    go_wp2_with fail
    have bv3 : Below w2.heap.size w2 w2.drew := (Below.refl _ _).drew
    go_region_held3 (fun W => True) (trivial) (first | (go_at_call 24; refine (hW2 _).mono ?_; rintro e w4 ⟨rfl, b4⟩; have b4' : Below w2.heap.size w2 w4 := (by first | exact b4 | exact bv3.trans b4); have bb4 := b2.trans (b4'.mono b2.size); have xx := HC.out _ bb4; obtain ⟨x0, x1⟩ := xx))
    all_goals
      clear c0
      have HRR := HR.out _ bb4
      go_wp2
      go_ret
      exact ⟨rfl, HRR⟩
  · rw [show rawC 5 x vv lo hi = x.tdiv vv from rfl] at HR
    have hv0 : vv ≠ 0 := fun e => hz ⟨e, by simp⟩
    have v0 : (vv == 0) = false := by simpa using hv0
    clear hz
    have wa := wr64 (x.tdiv vv) (by omega) (by omega)
    have hW2 := HW.out (x.tdiv vv)
    generalize wrp (x.tdiv vv) = yy at *
    clear HW mu dv tm
    go_enter Try.func77, Try.ntmps77
    go_wp2_with fail
    refine (hE _).mono ?_
    rintro e w1 ⟨rfl, rfl⟩
    go_wp2_with fail
    refine (hW1 _).mono ?_
    rintro e w2 ⟨rfl, b2⟩
    obtain ⟨c0, -⟩ := HC.out _ b2
    go_wp2_with fail
    have bv3 : Below w2.heap.size w2 w2.drew := (Below.refl _ _).drew
    go_region_held3 (fun W => True) (trivial) (first | (go_at_call 24; refine (hW2 _).mono ?_; rintro e w4 ⟨rfl, b4⟩; have b4' : Below w2.heap.size w2 w4 := (by first | exact b4 | exact bv3.trans b4); have bb4 := b2.trans (b4'.mono b2.size); have xx := HC.out _ bb4; obtain ⟨x0, x1⟩ := xx))
    all_goals
      clear c0
      have HRR := HR.out _ bb4
      go_wp2
      go_ret
      exact ⟨rfl, HRR⟩
  · rw [show rawC 6 x vv lo hi = x.tmod vv from rfl] at HR
    have hv0 : vv ≠ 0 := fun e => hz ⟨e, by simp⟩
    have v0 : (vv == 0) = false := by simpa using hv0
    clear hz
    have hW2 := HW.out (x.tmod vv)
    generalize wrp (x.tmod vv) = yy at *
    clear HW mu dv tm
    go_enter Try.func77, Try.ntmps77
    go_wp2_with fail
    refine (hE _).mono ?_
    rintro e w1 ⟨rfl, rfl⟩
    go_wp2_with fail
    refine (hW1 _).mono ?_
    rintro e w2 ⟨rfl, b2⟩
    obtain ⟨c0, -⟩ := HC.out _ b2
    go_wp2_with fail
    have bv3 : Below w2.heap.size w2 w2.drew := (Below.refl _ _).drew
    go_region_held3 (fun W => True) (trivial) (first | (go_at_call 24; refine (hW2 _).mono ?_; rintro e w4 ⟨rfl, b4⟩; have b4' : Below w2.heap.size w2 w4 := (by first | exact b4 | exact bv3.trans b4); have bb4 := b2.trans (b4'.mono b2.size); have xx := HC.out _ bb4; obtain ⟨x0, x1⟩ := xx))
    all_goals
      clear c0
      have HRR := HR.out _ bb4
      go_wp2
      go_ret
      exact ⟨rfl, HRR⟩
  · rw [show rawC 7 x vv lo hi = clampI (x + vv) lo hi from rfl] at HR
    clear hz
    have wa := wr64 (x + vv) (by omega) (by omega)
    have hK := clamp_any (x + vv) lo hi
    generalize clampI (x + vv) lo hi = cc at *
    have hW2 := HW.out (cc)
    generalize wrp (cc) = yy at *
    clear HW mu dv tm
    go_enter Try.func77, Try.ntmps77
    go_wp2_with fail
    refine (hE _).mono ?_
    rintro e w1 ⟨rfl, rfl⟩
    go_wp2_with fail
    refine (hW1 _).mono ?_
    rintro e w2 ⟨rfl, b2⟩
    obtain ⟨c0, -⟩ := HC.out _ b2
    go_wp2_with fail
    refine (hK _).mono ?_
    rintro e w3 ⟨rfl, rfl⟩
    go_wp2_with fail
    have bv3 : Below w3.heap.size w3 w3.drew := (Below.refl _ _).drew
    go_region_held3 (fun W => True) (trivial) (first | (go_at_call 24; refine (hW2 _).mono ?_; rintro e w4 ⟨rfl, b4⟩; have b4' : Below w3.heap.size w3 w4 := (by first | exact b4 | exact bv3.trans b4); have bb4 := b2.trans (b4'.mono b2.size); have xx := HC.out _ bb4; obtain ⟨x0, x1⟩ := xx))
    all_goals
      clear c0
      have HRR := HR.out _ bb4
      go_wp2
      go_ret
      exact ⟨rfl, HRR⟩
  · rw [show rawC 8 x vv lo hi = clampI (x - vv) lo hi from rfl] at HR
    clear hz
    have wa := wr64 (x - vv) (by omega) (by omega)
    have hK := clamp_any (x - vv) lo hi
    generalize clampI (x - vv) lo hi = cc at *
    have hW2 := HW.out (cc)
    generalize wrp (cc) = yy at *
    clear HW mu dv tm
    go_enter Try.func77, Try.ntmps77
    go_wp2_with fail
    refine (hE _).mono ?_
    rintro e w1 ⟨rfl, rfl⟩
    go_wp2_with fail
    refine (hW1 _).mono ?_
    rintro e w2 ⟨rfl, b2⟩
    obtain ⟨c0, -⟩ := HC.out _ b2
    go_wp2_with fail
    refine (hK _).mono ?_
    rintro e w3 ⟨rfl, rfl⟩
    go_wp2_with fail
    have bv3 : Below w3.heap.size w3 w3.drew := (Below.refl _ _).drew
    go_region_held3 (fun W => True) (trivial) (first | (go_at_call 24; refine (hW2 _).mono ?_; rintro e w4 ⟨rfl, b4⟩; have b4' : Below w3.heap.size w3 w4 := (by first | exact b4 | exact bv3.trans b4); have bb4 := b2.trans (b4'.mono b2.size); have xx := HC.out _ bb4; obtain ⟨x0, x1⟩ := xx))
    all_goals
      clear c0
      have HRR := HR.out _ bb4
      go_wp2
      go_ret
      exact ⟨rfl, HRR⟩
set_option maxRecDepth 100000 in
set_option maxHeartbeats 8000000 in
theorem mcalc_div (w : World) (b rr : Nat) (hr : (rr : Int) < 3) (lo hi v op : Int) (wrp : Int → Int) (hop : op = 5 ∨ op = 6)
    (hE : ∀ W, Calls Try.prog 50 #[I rr] W fun e w' => e = .returned (.tuple #[I lo, I hi]) ∧ w' = W)
    (hW : ∀ n W, Calls Try.prog 24 #[I n, I lo, I hi] W fun e w' => e = .returned (I (wrp n)) ∧ Below W.heap.size W w') (hvv : wrp v = 0) :
    Calls Try.prog 77 #[ptr b, I rr, I op, I v] w fun e w' => e = .returned (I 5) ∧ Below w.heap.size w w' := by
  have n1 : ¬ (rr : Int) < 0 := by omega
  have n2 : ¬ (3 : Int) ≤ (rr : Int) := by omega
  have hW1 := hW v
  rw [hvv] at hW1
  clear hW hvv
  rcases hop with rfl | rfl
  all_goals
    go_enter Try.func77, Try.ntmps77
    go_wp2_with fail
    refine (hE _).mono ?_
    rintro e w1 ⟨rfl, rfl⟩
    go_wp2_with fail
    refine (hW1 _).mono ?_
    rintro e w2 ⟨rfl, b2⟩
    go_wp2
    go_ret
    exact ⟨rfl, b2⟩
theorem wr8 (n : Int) (W : World) : Calls Try.prog 24 #[I n, I (-128), I 127] W fun e w' => e = .returned (I (t8 n)) ∧ Below W.heap.size W w' := wrap_i8 n W
theorem wr16 (n : Int) (W : World) : Calls Try.prog 24 #[I n, I (-32768), I 32767] W fun e w' => e = .returned (I (t16 n)) ∧ Below W.heap.size W w' := wrap_i16 n W
theorem wrU (n : Int) (W : World) : Calls Try.prog 24 #[I n, I 0, I 65535] W fun e w' => e = .returned (I (tU n)) ∧ Below W.heap.size W w' := by
  have h := wrap_u16 n W
  rw [show (n + 0) % 65536 - 0 = tU n from by unfold tU; omega] at h
  exact h
set_option maxHeartbeats 4000000 in
theorem mcalc_any (w : World) (b : Nat) (ad : Option Addr) (cap u : Nat) (a p q : Int) (h : MbR w b ad cap u a p q) (r op v E a' p' q' : Int) (HR : Hid (calcP r op v a p q = (E, a', p', q'))) :
    Calls Try.prog 77 #[ptr b, I r, I op, I v] w fun e w' => e = .returned (I E) ∧ Mod w b ad u a' p' q' w' := by
  have hr := HR.out
  unfold calcP at hr
  clear HR
  have low : ∀ v, Below w.heap.size w v → Mod w b ad u a p q v := fun v bv => ⟨ad, cap, h.later bv, .inl rfl, Upd.of_below bv⟩
  by_cases cinl : r < 0
  · rw [if_pos (.inl cinl)] at hr
    obtain ⟨rfl, rfl, rfl, rfl⟩ : 2 = E ∧ a = a' ∧ p = p' ∧ q = q' := by simpa using hr
    clear hr
    go_enter Try.func77, Try.ntmps77
    go_wp2
    go_ret
    exact ⟨rfl, low _ (Below.refl _ _)⟩
  by_cases cinr : 3 ≤ r
  · rw [if_pos (.inr cinr)] at hr
    obtain ⟨rfl, rfl, rfl, rfl⟩ : 2 = E ∧ a = a' ∧ p = p' ∧ q = q' := by simpa using hr
    clear hr
    go_enter Try.func77, Try.ntmps77
    go_wp2
    go_ret
    exact ⟨rfl, low _ (Below.refl _ _)⟩
  rw [if_neg (by omega)] at hr
  by_cases oinl : op < 1
  · rw [if_pos (.inl oinl)] at hr
    obtain ⟨rfl, rfl, rfl, rfl⟩ : 4 = E ∧ a = a' ∧ p = p' ∧ q = q' := by simpa using hr
    clear hr
    go_enter Try.func77, Try.ntmps77
    go_wp2
    go_ret
    exact ⟨rfl, low _ (Below.refl _ _)⟩
  by_cases oinr : 8 < op
  · rw [if_pos (.inr oinr)] at hr
    obtain ⟨rfl, rfl, rfl, rfl⟩ : 4 = E ∧ a = a' ∧ p = p' ∧ q = q' := by simpa using hr
    clear hr
    go_enter Try.func77, Try.ntmps77
    go_wp2
    go_ret
    exact ⟨rfl, low _ (Below.refl _ _)⟩
  rw [if_neg (by omega)] at hr
  have hop1 : 1 ≤ op := by omega
  have hop8 : op ≤ 8 := by omega
  have hr3 : r = 0 ∨ r = 1 ∨ r = 2 := by omega
  have hha := h.ha
  have hhp := h.hp
  have hhq := h.hq
  rcases hr3 with rfl | rfl | rfl
  · rw [if_pos rfl] at hr
    have hin := t8_in v
    by_cases hz : t8 v = 0 ∧ (op = 5 ∨ op = 6)
    · rw [if_pos hz] at hr
      obtain ⟨rfl, rfl, rfl, rfl⟩ : 5 = E ∧ a = a' ∧ p = p' ∧ q = q' := by simpa using hr
      refine (mcalc_div w b 0 (by decide) (-128) 127 v op t8 hz.2 (fun W => ends_any 0 W) wr8 hz.1).mono ?_
      rintro e w1 ⟨rfl, b1⟩
      exact ⟨rfl, low _ b1⟩
    · rw [if_neg hz] at hr
      obtain ⟨rfl, rfl, rfl, rfl⟩ : 0 = E ∧ t8 (rawC op a (t8 v) (-128) 127) = a' ∧ p = p' ∧ q = q' := by simpa using hr
      refine mcalc_gen w b 0 (by decide) (-128) 127 a v (t8 v) op t8 hop1 hop8 (fun W bW => ⟨(h.later bW).head.cell 1, (h.later bW).head.frozen 1⟩) (fun W => ends_any 0 W) wr8 rfl (by omega) (by omega) hz ?_
      intro w1 b1
      have hW1 := h.later b1
      exact ⟨ad, cap, hW1.set1 1 _ (t8 (rawC op a (t8 v) (-128) 127)) p q rfl (t8_in _) hW1.hp hW1.hq, .inl rfl, (Upd.of_below b1).setCell (p := ⟨b, 1, none⟩) (by simp) _⟩
  · rw [if_neg (by decide), if_pos rfl] at hr
    have hin := t16_in v
    by_cases hz : t16 v = 0 ∧ (op = 5 ∨ op = 6)
    · rw [if_pos hz] at hr
      obtain ⟨rfl, rfl, rfl, rfl⟩ : 5 = E ∧ a = a' ∧ p = p' ∧ q = q' := by simpa using hr
      refine (mcalc_div w b 1 (by decide) (-32768) 32767 v op t16 hz.2 (fun W => ends_any 1 W) wr16 hz.1).mono ?_
      rintro e w1 ⟨rfl, b1⟩
      exact ⟨rfl, low _ b1⟩
    · rw [if_neg hz] at hr
      obtain ⟨rfl, rfl, rfl, rfl⟩ : 0 = E ∧ a = a' ∧ t16 (rawC op p (t16 v) (-32768) 32767) = p' ∧ q = q' := by simpa using hr
      refine mcalc_gen w b 1 (by decide) (-32768) 32767 p v (t16 v) op t16 hop1 hop8 (fun W bW => ⟨(h.later bW).head.cell 2, (h.later bW).head.frozen 2⟩) (fun W => ends_any 1 W) wr16 rfl (by omega) (by omega) hz ?_
      intro w1 b1
      have hW1 := h.later b1
      exact ⟨ad, cap, hW1.set1 2 _ a (t16 (rawC op p (t16 v) (-32768) 32767)) q rfl hW1.ha (t16_in _) hW1.hq, .inl rfl, (Upd.of_below b1).setCell (p := ⟨b, 2, none⟩) (by simp) _⟩
  · rw [if_neg (by decide), if_neg (by decide)] at hr
    have hin := tU_in v
    by_cases hz : tU v = 0 ∧ (op = 5 ∨ op = 6)
    · rw [if_pos hz] at hr
      obtain ⟨rfl, rfl, rfl, rfl⟩ : 5 = E ∧ a = a' ∧ p = p' ∧ q = q' := by simpa using hr
      refine (mcalc_div w b 2 (by decide) 0 65535 v op tU hz.2 (fun W => ends_any 2 W) wrU hz.1).mono ?_
      rintro e w1 ⟨rfl, b1⟩
      exact ⟨rfl, low _ b1⟩
    · rw [if_neg hz] at hr
      obtain ⟨rfl, rfl, rfl, rfl⟩ : 0 = E ∧ a = a' ∧ p = p' ∧ tU (rawC op q (tU v) 0 65535) = q' := by simpa using hr
      refine mcalc_gen w b 2 (by decide) 0 65535 q v (tU v) op tU hop1 hop8 (fun W bW => ⟨(h.later bW).head.cell 3, (h.later bW).head.frozen 3⟩) (fun W => ends_any 2 W) wrU rfl (by omega) (by omega) hz ?_
      intro w1 b1
      have hW1 := h.later b1
      exact ⟨ad, cap, hW1.set1 3 _ a p (tU (rawC op q (tU v) 0 65535)) rfl hW1.ha hW1.hp (tU_in _), .inl rfl, (Upd.of_below b1).setCell (p := ⟨b, 3, none⟩) (by simp) _⟩
set_option maxRecDepth 100000 in
set_option maxHeartbeats 4000000 in
theorem mmove_gen {R : World → Prop} (w : World) (b ff tt : Nat) (hf : (ff : Int) < 3) (ht : (tt : Int) < 3) (lo hi x y z : Int) (cx : ∀ W, Below w.heap.size w W → W.cell? ⟨b, 1 + ff, none⟩ = some (I x) ∧ W.cell? ⟨b, 1 + tt, none⟩ = some (I z) ∧ W.frozen? ⟨b, 1 + tt, none⟩ = false)
    (hE : ∀ W, Calls Try.prog 50 #[I tt] W fun e w' => e = .returned (.tuple #[I lo, I hi]) ∧ w' = W)
    (hW : ∀ W, Calls Try.prog 24 #[I x, I lo, I hi] W fun e w' => e = .returned (I y) ∧ Below W.heap.size W w')
    (hR : ∀ w1, Below w.heap.size w w1 → R (w1.setCell ⟨b, 1 + tt, none⟩ (I y))) :
    Calls Try.prog 78 #[ptr b, I ff, I tt] w fun e w' => e = .returned (I 0) ∧ R w' := by
  have n1 : ¬ (ff : Int) < 0 := by omega
  have n2 : ¬ (3 : Int) ≤ (ff : Int) := by omega
  have n3 : ¬ (tt : Int) < 0 := by omega
  have n4 : ¬ (3 : Int) ≤ (tt : Int) := by omega
  have HR : Hid _ := hR
  have HC : Hid _ := cx
  obtain ⟨c0, c1, c2⟩ := cx w (Below.refl _ _)
  clear hR cx
  have bv3 : Below w.heap.size w w.drew := (Below.refl _ _).drew
  go_enter Try.func78, Try.ntmps78
  go_wp2_with fail
  refine (hE _).mono ?_
  rintro e w1 ⟨rfl, rfl⟩
  go_wp2_with fail
  go_region_with (first | (go_at_call 24; refine (hW _).mono ?_; rintro e w4 ⟨rfl, b4⟩; have b4' : Below w1.heap.size w1 w4 := (by first | exact b4 | exact bv3.trans b4); have xx := HC.out _ b4'; obtain ⟨x0, x1, x2⟩ := xx))
  all_goals
    have HRR := HR.out _ b4'
    clear c0 c1 c2
    go_wp2
    go_ret
    exact ⟨rfl, HRR⟩
set_option maxHeartbeats 4000000 in
theorem mmove_any (w : World) (b : Nat) (ad : Option Addr) (cap u : Nat) (a p q : Int) (h : MbR w b ad cap u a p q) (f t E a' p' q' : Int) (HR : Hid (moveP f t a p q = (E, a', p', q'))) :
    Calls Try.prog 78 #[ptr b, I f, I t] w fun e w' => e = .returned (I E) ∧ Mod w b ad u a' p' q' w' := by
  have hr := HR.out
  unfold moveP at hr
  clear HR
  have hha := h.ha
  have hhp := h.hp
  have hhq := h.hq
  have low : ∀ v, Below w.heap.size w v → Mod w b ad u a p q v := fun v bv => ⟨ad, cap, h.later bv, .inl rfl, Upd.of_below bv⟩
  by_cases n1 : f < 0
  · rw [if_pos (.inl n1)] at hr
    obtain ⟨rfl, rfl, rfl, rfl⟩ : 2 = E ∧ a = a' ∧ p = p' ∧ q = q' := by simpa using hr
    clear hr
    go_enter Try.func78, Try.ntmps78
    go_wp2
    go_ret
    exact ⟨rfl, low _ (Below.refl _ _)⟩
  by_cases n2 : 3 ≤ f
  · rw [if_pos (.inr (.inl n2))] at hr
    obtain ⟨rfl, rfl, rfl, rfl⟩ : 2 = E ∧ a = a' ∧ p = p' ∧ q = q' := by simpa using hr
    clear hr
    go_enter Try.func78, Try.ntmps78
    go_wp2
    go_ret
    exact ⟨rfl, low _ (Below.refl _ _)⟩
  by_cases n3 : t < 0
  · rw [if_pos (.inr (.inr (.inl n3)))] at hr
    obtain ⟨rfl, rfl, rfl, rfl⟩ : 2 = E ∧ a = a' ∧ p = p' ∧ q = q' := by simpa using hr
    clear hr
    go_enter Try.func78, Try.ntmps78
    go_wp2
    go_ret
    exact ⟨rfl, low _ (Below.refl _ _)⟩
  by_cases n4 : 3 ≤ t
  · rw [if_pos (.inr (.inr (.inr n4)))] at hr
    obtain ⟨rfl, rfl, rfl, rfl⟩ : 2 = E ∧ a = a' ∧ p = p' ∧ q = q' := by simpa using hr
    clear hr
    go_enter Try.func78, Try.ntmps78
    go_wp2
    go_ret
    exact ⟨rfl, low _ (Below.refl _ _)⟩
  rw [if_neg (by omega)] at hr
  have hf : f = 0 ∨ f = 1 ∨ f = 2 := by omega
  have ht : t = 0 ∨ t = 1 ∨ t = 2 := by omega
  clear n1 n2 n3 n4
  rcases hf with rfl | rfl | rfl
  · rcases ht with rfl | rfl | rfl
    · obtain ⟨rfl, rfl, rfl, rfl⟩ : 0 = E ∧ (t8 a) = a' ∧ p = p' ∧ q = q' := by simpa [regAt] using hr
      refine mmove_gen w b 0 0 (by decide) (by decide) (-128) 127 a (t8 a) a (fun W bW => ⟨(h.later bW).head.cell 1, (h.later bW).head.cell 1, (h.later bW).head.frozen 1⟩) (fun W => ends_any 0 W) (wr8 a) ?_
      intro w1 b1
      have hW1 := h.later b1
      exact ⟨ad, cap, hW1.set1 1 _ (t8 a) p q rfl (t8_in _) hW1.hp hW1.hq, .inl rfl, (Upd.of_below b1).setCell (p := ⟨b, 1, none⟩) (by simp) _⟩
    · obtain ⟨rfl, rfl, rfl, rfl⟩ : 0 = E ∧ a = a' ∧ (t16 a) = p' ∧ q = q' := by simpa [regAt] using hr
      refine mmove_gen w b 0 1 (by decide) (by decide) (-32768) 32767 a (t16 a) p (fun W bW => ⟨(h.later bW).head.cell 1, (h.later bW).head.cell 2, (h.later bW).head.frozen 2⟩) (fun W => ends_any 1 W) (wr16 a) ?_
      intro w1 b1
      have hW1 := h.later b1
      exact ⟨ad, cap, hW1.set1 2 _ a (t16 a) q rfl hW1.ha (t16_in _) hW1.hq, .inl rfl, (Upd.of_below b1).setCell (p := ⟨b, 2, none⟩) (by simp) _⟩
    · obtain ⟨rfl, rfl, rfl, rfl⟩ : 0 = E ∧ a = a' ∧ p = p' ∧ (tU a) = q' := by simpa [regAt] using hr
      refine mmove_gen w b 0 2 (by decide) (by decide) 0 65535 a (tU a) q (fun W bW => ⟨(h.later bW).head.cell 1, (h.later bW).head.cell 3, (h.later bW).head.frozen 3⟩) (fun W => ends_any 2 W) (wrU a) ?_
      intro w1 b1
      have hW1 := h.later b1
      exact ⟨ad, cap, hW1.set1 3 _ a p (tU a) rfl hW1.ha hW1.hp (tU_in _), .inl rfl, (Upd.of_below b1).setCell (p := ⟨b, 3, none⟩) (by simp) _⟩
  · rcases ht with rfl | rfl | rfl
    · obtain ⟨rfl, rfl, rfl, rfl⟩ : 0 = E ∧ (t8 p) = a' ∧ p = p' ∧ q = q' := by simpa [regAt] using hr
      refine mmove_gen w b 1 0 (by decide) (by decide) (-128) 127 p (t8 p) a (fun W bW => ⟨(h.later bW).head.cell 2, (h.later bW).head.cell 1, (h.later bW).head.frozen 1⟩) (fun W => ends_any 0 W) (wr8 p) ?_
      intro w1 b1
      have hW1 := h.later b1
      exact ⟨ad, cap, hW1.set1 1 _ (t8 p) p q rfl (t8_in _) hW1.hp hW1.hq, .inl rfl, (Upd.of_below b1).setCell (p := ⟨b, 1, none⟩) (by simp) _⟩
    · obtain ⟨rfl, rfl, rfl, rfl⟩ : 0 = E ∧ a = a' ∧ (t16 p) = p' ∧ q = q' := by simpa [regAt] using hr
      refine mmove_gen w b 1 1 (by decide) (by decide) (-32768) 32767 p (t16 p) p (fun W bW => ⟨(h.later bW).head.cell 2, (h.later bW).head.cell 2, (h.later bW).head.frozen 2⟩) (fun W => ends_any 1 W) (wr16 p) ?_
      intro w1 b1
      have hW1 := h.later b1
      exact ⟨ad, cap, hW1.set1 2 _ a (t16 p) q rfl hW1.ha (t16_in _) hW1.hq, .inl rfl, (Upd.of_below b1).setCell (p := ⟨b, 2, none⟩) (by simp) _⟩
    · obtain ⟨rfl, rfl, rfl, rfl⟩ : 0 = E ∧ a = a' ∧ p = p' ∧ (tU p) = q' := by simpa [regAt] using hr
      refine mmove_gen w b 1 2 (by decide) (by decide) 0 65535 p (tU p) q (fun W bW => ⟨(h.later bW).head.cell 2, (h.later bW).head.cell 3, (h.later bW).head.frozen 3⟩) (fun W => ends_any 2 W) (wrU p) ?_
      intro w1 b1
      have hW1 := h.later b1
      exact ⟨ad, cap, hW1.set1 3 _ a p (tU p) rfl hW1.ha hW1.hp (tU_in _), .inl rfl, (Upd.of_below b1).setCell (p := ⟨b, 3, none⟩) (by simp) _⟩
  · rcases ht with rfl | rfl | rfl
    · obtain ⟨rfl, rfl, rfl, rfl⟩ : 0 = E ∧ (t8 q) = a' ∧ p = p' ∧ q = q' := by simpa [regAt] using hr
      refine mmove_gen w b 2 0 (by decide) (by decide) (-128) 127 q (t8 q) a (fun W bW => ⟨(h.later bW).head.cell 3, (h.later bW).head.cell 1, (h.later bW).head.frozen 1⟩) (fun W => ends_any 0 W) (wr8 q) ?_
      intro w1 b1
      have hW1 := h.later b1
      exact ⟨ad, cap, hW1.set1 1 _ (t8 q) p q rfl (t8_in _) hW1.hp hW1.hq, .inl rfl, (Upd.of_below b1).setCell (p := ⟨b, 1, none⟩) (by simp) _⟩
    · obtain ⟨rfl, rfl, rfl, rfl⟩ : 0 = E ∧ a = a' ∧ (t16 q) = p' ∧ q = q' := by simpa [regAt] using hr
      refine mmove_gen w b 2 1 (by decide) (by decide) (-32768) 32767 q (t16 q) p (fun W bW => ⟨(h.later bW).head.cell 3, (h.later bW).head.cell 2, (h.later bW).head.frozen 2⟩) (fun W => ends_any 1 W) (wr16 q) ?_
      intro w1 b1
      have hW1 := h.later b1
      exact ⟨ad, cap, hW1.set1 2 _ a (t16 q) q rfl hW1.ha (t16_in _) hW1.hq, .inl rfl, (Upd.of_below b1).setCell (p := ⟨b, 2, none⟩) (by simp) _⟩
    · obtain ⟨rfl, rfl, rfl, rfl⟩ : 0 = E ∧ a = a' ∧ p = p' ∧ (tU q) = q' := by simpa [regAt] using hr
      refine mmove_gen w b 2 2 (by decide) (by decide) 0 65535 q (tU q) q (fun W bW => ⟨(h.later bW).head.cell 3, (h.later bW).head.cell 3, (h.later bW).head.frozen 3⟩) (fun W => ends_any 2 W) (wrU q) ?_
      intro w1 b1
      have hW1 := h.later b1
      exact ⟨ad, cap, hW1.set1 3 _ a p (tU q) rfl hW1.ha hW1.hp (tU_in _), .inl rfl, (Upd.of_below b1).setCell (p := ⟨b, 3, none⟩) (by simp) _⟩
end Go.Proofs.Qxb6500469a
