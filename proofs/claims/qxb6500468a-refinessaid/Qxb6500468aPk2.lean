import Derived.Test.Qxb6500468aPk1
namespace Go.Proofs.Qxb6500468a
open Go.RowKit

/-! ### the words -/
def wsC (ws : List Nat) : Array Value := (ws.map fun n => W64 n).toArray
theorem wsC_set (ws : List Nat) (o n : Nat) : (wsC ws).setIfInBounds o (W64 n) = wsC (ws.set o n) := by
  unfold wsC
  rw [List.setIfInBounds_toArray, List.map_set]
theorem wsC_at (ws : List Nat) (o : Nat) (h : o < ws.length) : (wsC ws)[o]? = some (W64 (ws.getD o 0)) := by
  unfold wsC
  rw [List.getElem?_toArray, List.getElem?_map, List.getElem?_eq_getElem h, List.getD_eq_getElem?_getD, List.getElem?_eq_getElem h]
  rfl
def setF (n sh wd v : Nat) : Nat := n % 2 ^ sh + 2 ^ sh * (v % 2 ^ wd + 2 ^ wd * (n / 2 ^ (sh + wd)))
def F5 (a b c e g : Nat) : Nat := a + b * 256 + c * 16777216 + e * 1099511627776 + g * 35184372088832
theorem F5_8 (a b c e g v : Nat) (h1 : a < 256) (h2 : b < 65536) : setF (F5 a b c e g) 8 16 v = F5 a (v % 65536) c e g := by
  show F5 a b c e g % 256 + 256 * (v % 65536 + 65536 * (F5 a b c e g / 16777216)) = _
  unfold F5; omega
theorem F5_24 (a b c e g v : Nat) (h1 : a < 256) (h2 : b < 65536) (h3 : c < 65536) : setF (F5 a b c e g) 24 16 v = F5 a b (v % 65536) e g := by
  show F5 a b c e g % 16777216 + 16777216 * (v % 65536 + 65536 * (F5 a b c e g / 1099511627776)) = _
  unfold F5; omega
theorem F5_45 (a b c e g v : Nat) (h1 : a < 256) (h2 : b < 65536) (h3 : c < 65536) (h4 : e < 32) (h5 : g < 2048) : setF (F5 a b c e g) 45 11 v = F5 a b c e (v % 2048) := by
  show F5 a b c e g % 35184372088832 + 35184372088832 * (v % 2048 + 2048 * (F5 a b c e g / 72057594037927936)) = _
  unfold F5; omega
theorem xor_bit (n i : Nat) : n ^^^ 2 ^ i = n % 2 ^ i + 2 ^ i * ((1 - n / 2 ^ i % 2) + 2 * (n / 2 ^ (i + 1))) := by
  apply Nat.eq_of_testBit_eq
  intro j
  rw [Nat.testBit_xor, Nat.testBit_two_pow, testBit_mulAdd _ _ _ _ (Nat.mod_lt _ (Nat.two_pow_pos _))]
  by_cases h1 : j < i
  · rw [if_pos h1, Nat.testBit_mod_two_pow, decide_eq_true h1, decide_eq_false (by omega)]; simp
  · rw [if_neg h1, show (2 : Nat) * (n / 2 ^ (i + 1)) = 2 ^ 1 * (n / 2 ^ (i + 1)) from by rw [Nat.pow_one], testBit_mulAdd _ _ _ _ (by omega)]
    by_cases h2 : j = i
    · subst h2
      rw [if_pos (by omega), decide_eq_true rfl, Nat.sub_self]
      have e : n.testBit j = decide (n / 2 ^ j % 2 = 1) := Nat.testBit_eq_decide_div_mod_eq
      rw [e]
      have : n / 2 ^ j % 2 = 0 ∨ n / 2 ^ j % 2 = 1 := by omega
      rcases this with h | h <;> rw [h] <;> rfl
    · rw [if_neg (by omega), decide_eq_false (fun e => h2 e.symm), Nat.testBit_div_two_pow, show j - i - 1 + (i + 1) = j from by omega]; simp
theorem F5_x (a b c e g : Nat) (h1 : a < 256) (h2 : b < 65536) (h3 : c < 65536) (h4 : e < 32) : F5 a b c e g ^^^ 1099511627776 = F5 a b c (if e % 2 = 0 then e + 1 else e - 1) g := by
  rw [show (1099511627776 : Nat) = 2 ^ 40 from rfl, xor_bit]
  show F5 a b c e g % 1099511627776 + 1099511627776 * ((1 - F5 a b c e g / 1099511627776 % 2) + 2 * (F5 a b c e g / 2199023255552)) = _
  have q : F5 a b c e g / 1099511627776 = e + 32 * g := by unfold F5; omega
  have q2 : F5 a b c e g / 2199023255552 = (e + 32 * g) / 2 := by rw [← q]; unfold F5; omega
  have q3 : F5 a b c e g % 1099511627776 = a + b * 256 + c * 16777216 := by unfold F5; omega
  rw [q, q2, q3]
  unfold F5
  split <;> omega

set_option maxHeartbeats 1000000 in
theorem lay_8 (w : World) (b o n v : Nat) (cs : Array Value) (t : TypeId) (hB : Blk w b cs t) (hcs : cs[o]? = some (W64 n)) (hn : n < 18446744073709551616) (hv : v < 18446744073709551616) :
    Calls Try.prog 73 #[.pointer (some ⟨b, o, none⟩), .int .u64 8, .int .u64 65535, .int .u64 (v : Int)] w fun e w' => e = .returned (.tuple #[]) ∧ Blk w' b (cs.setIfInBounds o (W64 (setF n 8 16 v))) t ∧ Upd [b] w w' := by
  have hc : w.cell? ⟨b, o, none⟩ = some (W64 n) := (hB.cell o).trans hcs
  have hf := hB.frozen o
  have e1 : bits .and .u64 (v : Int) 65535 = ((v % 65536 : Nat) : Int) := by
    rw [show (65535 : Int) = ((65535 : Nat) : Int) from rfl, and_low _ (by omega) (by omega) 16 65535 rfl (by omega)]; rfl
  have e2 : bits .or .u64 (bits .andNot .u64 (n : Int) 16776960) (IntKind.u64.wrap (bits .and .u64 (v : Int) 65535 * 256)) = ((setF n 8 16 v : Nat) : Int) := by
    have hv2 : v % 65536 < 65536 := Nat.mod_lt _ (by decide)
    have e3 := field_set n 8 16 (v % 65536) (by decide) hn hv2
    rw [e1, IntKind.wrap_u64, show (16776960 : Int) = ((16776960 : Nat) : Int) from rfl, u64_andNot_nat n 16776960 hn (by decide), show (((v % 65536 : Nat) : Int) * 256) % 18446744073709551616 = ((v % 65536 * 256 : Nat) : Int) from by omega, u64_or_nat _ _ (Nat.lt_of_le_of_lt Nat.and_le_left hn) (by omega)]
    exact congrArg _ e3
  have HE : Hid _ := e2
  clear e1 e2 hcs
  go_enter Try.func73, Try.ntmps73
  go_wp2
  go_end0
  refine ⟨rfl, ?_, ((Upd.refl _ _).setCell (by simp) _).setCell (by simp) _⟩
  have := (hB.set (i := o) (.int .u64 (bits .andNot .u64 (n : Int) 16776960))).set (i := o) (.int .u64 (bits .or .u64 (bits .andNot .u64 (n : Int) 16776960) (IntKind.u64.wrap (bits .and .u64 (v : Int) 65535 * 256))))
  rw [Array.setIfInBounds_setIfInBounds, HE.out] at this
  rw [HE.out]
  exact this
set_option maxHeartbeats 1000000 in
theorem lay_24 (w : World) (b o n v : Nat) (cs : Array Value) (t : TypeId) (hB : Blk w b cs t) (hcs : cs[o]? = some (W64 n)) (hn : n < 18446744073709551616) (hv : v < 18446744073709551616) :
    Calls Try.prog 73 #[.pointer (some ⟨b, o, none⟩), .int .u64 24, .int .u64 65535, .int .u64 (v : Int)] w fun e w' => e = .returned (.tuple #[]) ∧ Blk w' b (cs.setIfInBounds o (W64 (setF n 24 16 v))) t ∧ Upd [b] w w' := by
  have hc : w.cell? ⟨b, o, none⟩ = some (W64 n) := (hB.cell o).trans hcs
  have hf := hB.frozen o
  have e1 : bits .and .u64 (v : Int) 65535 = ((v % 65536 : Nat) : Int) := by
    rw [show (65535 : Int) = ((65535 : Nat) : Int) from rfl, and_low _ (by omega) (by omega) 16 65535 rfl (by omega)]; rfl
  have e2 : bits .or .u64 (bits .andNot .u64 (n : Int) 1099494850560) (IntKind.u64.wrap (bits .and .u64 (v : Int) 65535 * 16777216)) = ((setF n 24 16 v : Nat) : Int) := by
    have hv2 : v % 65536 < 65536 := Nat.mod_lt _ (by decide)
    have e3 := field_set n 24 16 (v % 65536) (by decide) hn hv2
    rw [e1, IntKind.wrap_u64, show (1099494850560 : Int) = ((1099494850560 : Nat) : Int) from rfl, u64_andNot_nat n 1099494850560 hn (by decide), show (((v % 65536 : Nat) : Int) * 16777216) % 18446744073709551616 = ((v % 65536 * 16777216 : Nat) : Int) from by omega, u64_or_nat _ _ (Nat.lt_of_le_of_lt Nat.and_le_left hn) (by omega)]
    exact congrArg _ e3
  have HE : Hid _ := e2
  clear e1 e2 hcs
  go_enter Try.func73, Try.ntmps73
  go_wp2
  go_end0
  refine ⟨rfl, ?_, ((Upd.refl _ _).setCell (by simp) _).setCell (by simp) _⟩
  have := (hB.set (i := o) (.int .u64 (bits .andNot .u64 (n : Int) 1099494850560))).set (i := o) (.int .u64 (bits .or .u64 (bits .andNot .u64 (n : Int) 1099494850560) (IntKind.u64.wrap (bits .and .u64 (v : Int) 65535 * 16777216))))
  rw [Array.setIfInBounds_setIfInBounds, HE.out] at this
  rw [HE.out]
  exact this
set_option maxHeartbeats 1000000 in
theorem lay_45 (w : World) (b o n v : Nat) (cs : Array Value) (t : TypeId) (hB : Blk w b cs t) (hcs : cs[o]? = some (W64 n)) (hn : n < 18446744073709551616) (hv : v < 18446744073709551616) :
    Calls Try.prog 73 #[.pointer (some ⟨b, o, none⟩), .int .u64 45, .int .u64 2047, .int .u64 (v : Int)] w fun e w' => e = .returned (.tuple #[]) ∧ Blk w' b (cs.setIfInBounds o (W64 (setF n 45 11 v))) t ∧ Upd [b] w w' := by
  have hc : w.cell? ⟨b, o, none⟩ = some (W64 n) := (hB.cell o).trans hcs
  have hf := hB.frozen o
  have e1 : bits .and .u64 (v : Int) 2047 = ((v % 2048 : Nat) : Int) := by
    rw [show (2047 : Int) = ((2047 : Nat) : Int) from rfl, and_low _ (by omega) (by omega) 11 2047 rfl (by omega)]; rfl
  have e2 : bits .or .u64 (bits .andNot .u64 (n : Int) 72022409665839104) (IntKind.u64.wrap (bits .and .u64 (v : Int) 2047 * 35184372088832)) = ((setF n 45 11 v : Nat) : Int) := by
    have hv2 : v % 2048 < 2048 := Nat.mod_lt _ (by decide)
    have e3 := field_set n 45 11 (v % 2048) (by decide) hn hv2
    rw [e1, IntKind.wrap_u64, show (72022409665839104 : Int) = ((72022409665839104 : Nat) : Int) from rfl, u64_andNot_nat n 72022409665839104 hn (by decide), show (((v % 2048 : Nat) : Int) * 35184372088832) % 18446744073709551616 = ((v % 2048 * 35184372088832 : Nat) : Int) from by omega, u64_or_nat _ _ (Nat.lt_of_le_of_lt Nat.and_le_left hn) (by omega)]
    exact congrArg _ e3
  have HE : Hid _ := e2
  clear e1 e2 hcs
  go_enter Try.func73, Try.ntmps73
  go_wp2
  go_end0
  refine ⟨rfl, ?_, ((Upd.refl _ _).setCell (by simp) _).setCell (by simp) _⟩
  have := (hB.set (i := o) (.int .u64 (bits .andNot .u64 (n : Int) 72022409665839104))).set (i := o) (.int .u64 (bits .or .u64 (bits .andNot .u64 (n : Int) 72022409665839104) (IntKind.u64.wrap (bits .and .u64 (v : Int) 2047 * 35184372088832))))
  rw [Array.setIfInBounds_setIfInBounds, HE.out] at this
  rw [HE.out]
  exact this

def w16 (x : Int) : Int := (x + 32768) % 65536 - 32768
/-- What bump makes of a word. -/
def bumpN (n : Nat) (d : Int) : Nat := packN (unK n) (w16 (unD n + w16 d)) (if unL n < 65535 then unL n + 1 else unL n) (if unF n % 2 = 0 then unF n + 1 else unF n - 1) ((unS n + 1) % 2048)
theorem word_F5 (n : Nat) : n = F5 (n % 256) (n / 256 % 65536) (n / 16777216 % 65536) (n / 1099511627776 % 32) (n / 35184372088832) := by unfold F5; omega
theorem F5_lt (a b c e g : Nat) (h1 : a < 256) (h2 : b < 65536) (h3 : c < 65536) (h4 : e < 32) (h5 : g < 2048) : F5 a b c e g < 72057594037927936 := by unfold F5; omega
theorem bump_law (n : Nat) (d : Int) : bumpN n d = F5 (n % 256) ((w16 (unD n + w16 d)) % 65536).toNat (if n / 16777216 % 65536 < 65535 then n / 16777216 % 65536 + 1 else n / 16777216 % 65536) (if n / 1099511627776 % 32 % 2 = 0 then n / 1099511627776 % 32 + 1 else n / 1099511627776 % 32 - 1) ((n / 35184372088832 + 1) % 2048) := by
  unfold bumpN packN F5
  have a1 : (unK n % 256).toNat = n % 256 := by unfold unK; omega
  have a3 : ((if unL n < 65535 then unL n + 1 else unL n) % 65536).toNat = if n / 16777216 % 65536 < 65535 then n / 16777216 % 65536 + 1 else n / 16777216 % 65536 := by unfold unL; split <;> split <;> omega
  have a4 : ((if unF n % 2 = 0 then unF n + 1 else unF n - 1) % 32).toNat = if n / 1099511627776 % 32 % 2 = 0 then n / 1099511627776 % 32 + 1 else n / 1099511627776 % 32 - 1 := by unfold unF; split <;> split <;> omega
  have a5 : ((unS n + 1) % 2048 % 2048).toNat = (n / 35184372088832 + 1) % 2048 := by unfold unS; omega
  rw [a1, a3, a4, a5]

set_option maxRecDepth 100000 in
set_option maxHeartbeats 2000000 in
theorem bump_any (w : World) (b o n : Nat) (d : Int) (cs : Array Value) (t : TypeId) (hB : Blk w b cs t) (hcs : cs[o]? = some (W64 n)) (hn : n < 72057594037927936) :
    Calls Try.prog 55 #[.pointer (some ⟨b, o, none⟩), I d] w fun e w' => e = .returned (.tuple #[]) ∧ Blk w' b (cs.setIfInBounds o (W64 (bumpN n d))) t ∧ Upd [b] w w' := by
  have hc : w.cell? ⟨b, o, none⟩ = some (W64 n) := (hB.cell o).trans hcs
  have hlt : o < cs.size := (Array.getElem?_eq_some_iff.1 hcs).1
  have hset : ∀ x, (cs.setIfInBounds o x)[o]? = some x := fun x => by rw [Array.getElem?_setIfInBounds_self_of_lt hlt]
  -- the delta
  obtain ⟨dv, hdv, hdv2⟩ : ∃ dv : Nat, dv < 65536 ∧ ((w16 (unD n + w16 d)) % 65536).toNat = dv := ⟨_, by omega, rfl⟩
  have e1 : IntKind.u64.wrap (IntKind.u16.wrap (IntKind.i16.wrap (IntKind.i16.wrap ((n : Int) / 256) + IntKind.i16.wrap d))) = (dv : Int) := by
    rw [wr_i16, wr_i16, wr_i16, IntKind.wrap_u16, IntKind.wrap_u64, ← hdv2]
    show (w16 (unD n + w16 d)) % 65536 % 18446744073709551616 = _
    omega
  have hw := word_F5 n
  have hL := bump_law n d
  rw [hdv2] at hL
  generalize ha : n % 256 = a at *
  generalize hb2 : n / 256 % 65536 = b2 at *
  generalize hc2 : n / 16777216 % 65536 = c at *
  generalize he : n / 1099511627776 % 32 = e at *
  generalize hg : n / 35184372088832 = g at *
  have B1 : a < 256 := by omega
  have B2 : b2 < 65536 := by omega
  have B3 : c < 65536 := by omega
  have B4 : e < 32 := by omega
  have B5 : g < 2048 := by omega
  obtain ⟨N1, HN1, HF1⟩ : ∃ N1, Hid (setF n 8 16 dv = N1) ∧ Hid (N1 = F5 a dv c e g) := ⟨_, rfl, by show _ = _; rw [hw, F5_8 _ _ _ _ _ _ B1 B2, Nat.mod_eq_of_lt hdv]⟩
  have L1 : N1 < 72057594037927936 := by rw [HF1.out]; exact F5_lt _ _ _ _ _ B1 hdv B3 B4 B5
  have t1 : IntKind.u16.wrap ((N1 : Int) / 16777216) = (c : Int) := by
    rw [IntKind.wrap_u16, HF1.out]; unfold F5; omega
  have HL : Hid _ := hL
  clear hw hL ha hb2 hc2 he hg hdv2
  go_enter Try.func55, Try.ntmps55
  go_wp2_with fail
  refine (lay_8 w b o n dv cs t hB hcs (by omega) (by omega)).mono ?_
  rintro e0 w1 ⟨rfl, X1, u1⟩
  rw [HN1.out] at X1
  have k1 : w1.cell? ⟨b, o, none⟩ = some (W64 N1) := (X1.cell o).trans (hset _)
  clear hc e1
  have fin : ∀ (c' : Nat), c' < 65536 → Hid (c' = if c < 65535 then c + 1 else c) → ∃ N2, Hid (setF N1 24 16 c' = N2) ∧ Hid (N2 = F5 a dv c' e g) ∧ N2 < 72057594037927936 ∧ ∃ N3, Hid (setF N2 45 11 (g + 1) = N3) ∧ N3 < 72057594037927936 ∧ Hid (bits .xor .u64 (N3 : Int) 1099511627776 = ((bumpN n d : Nat) : Int)) := by
    intro c' hc' hcc
    refine ⟨_, rfl, ?_, ?_, _, rfl, ?_, ?_⟩
    · show setF N1 24 16 c' = _
      rw [HF1.out, F5_24 _ _ _ _ _ _ B1 hdv B3, Nat.mod_eq_of_lt hc']
    · rw [HF1.out, F5_24 _ _ _ _ _ _ B1 hdv B3, Nat.mod_eq_of_lt hc']
      exact F5_lt _ _ _ _ _ B1 hdv hc' B4 B5
    · rw [HF1.out, F5_24 _ _ _ _ _ _ B1 hdv B3, Nat.mod_eq_of_lt hc', F5_45 _ _ _ _ _ _ B1 hdv hc' B4 B5]
      exact F5_lt _ _ _ _ _ B1 hdv hc' B4 (by omega)
    · show bits .xor .u64 ((setF (setF N1 24 16 c') 45 11 (g + 1) : Nat) : Int) 1099511627776 = _
      rw [HF1.out, F5_24 _ _ _ _ _ _ B1 hdv B3, Nat.mod_eq_of_lt hc', F5_45 _ _ _ _ _ _ B1 hdv hc' B4 B5, show (1099511627776 : Int) = ((1099511627776 : Nat) : Int) from rfl, u64_xor_nat _ _ (by have := F5_lt a dv c' e ((g + 1) % 2048) B1 hdv hc' B4 (by omega); omega) (by decide), F5_x _ _ _ _ _ B1 hdv hc' B4, HL.out, ← hcc.out]
  have HFin : Hid _ := fin
  clear fin
  have s2 : ∀ (N2 : Nat), N2 = F5 a dv (N2 / 16777216 % 65536) e g → True := fun _ _ => trivial
  clear s2
  by_cases c9 : c < 65535
  · have c9' : (c : Int) < 65535 := by omega
    have t2 : IntKind.u16.wrap ((c : Int) + 1) = ((c + 1 : Nat) : Int) := by rw [IntKind.wrap_u16]; omega
    have t3 : IntKind.u64.wrap ((c + 1 : Nat) : Int) = ((c + 1 : Nat) : Int) := by rw [IntKind.wrap_u64]; omega
    obtain ⟨N2, HN2, HF2, L2, N3, HN3, L3, HX⟩ := HFin.out (c + 1) (by omega) (by show _ = _; rw [if_pos c9])
    have vlt : c + 1 < 18446744073709551616 := by omega
    have t4 : IntKind.u64.wrap ((N2 : Int) / 35184372088832 + 1) = ((g + 1 : Nat) : Int) := by rw [IntKind.wrap_u64, HF2.out]; unfold F5; omega
    go_wp2_with fail
    refine (lay_24 w1 b o N1 _ _ t X1 (hset _) (by omega) vlt).mono ?_
    rintro e0 w2 ⟨rfl, X2, u2⟩
    rw [HN2.out, Array.setIfInBounds_setIfInBounds] at X2
    have k2 : w2.cell? ⟨b, o, none⟩ = some (W64 N2) := (X2.cell o).trans (hset _)
    clear k1 t1
    go_wp2_with fail
    refine (lay_45 w2 b o N2 (g + 1) _ t X2 (hset _) (by omega) (by omega)).mono ?_
    rintro e0 w3 ⟨rfl, X3, u3⟩
    rw [HN3.out, Array.setIfInBounds_setIfInBounds] at X3
    have k3 : w3.cell? ⟨b, o, none⟩ = some (W64 N3) := (X3.cell o).trans (hset _)
    have f3 := X3.frozen o
    clear k2 t4
    go_wp2
    go_end0
    have X4 := X3.set (i := o) (.int .u64 (bits .xor .u64 (N3 : Int) 1099511627776))
    rw [Array.setIfInBounds_setIfInBounds, HX.out] at X4
    refine ⟨rfl, ?_, ((u1.trans u2).trans u3).setCell (by simp) _⟩
    rw [HX.out]
    exact X4
  · have c9' : ¬ (c : Int) < 65535 := by omega
    have t3 : IntKind.u64.wrap (c : Int) = (c : Int) := by rw [IntKind.wrap_u64]; omega
    obtain ⟨N2, HN2, HF2, L2, N3, HN3, L3, HX⟩ := HFin.out c (by omega) (by show _ = _; rw [if_neg c9])
    have vlt : c < 18446744073709551616 := by omega
    have t4 : IntKind.u64.wrap ((N2 : Int) / 35184372088832 + 1) = ((g + 1 : Nat) : Int) := by rw [IntKind.wrap_u64, HF2.out]; unfold F5; omega
    have c9d : decide ((c : Int) < 65535) = false := decide_eq_false c9'
    clear c9 c9' B3 HFin
    go_wp2_with fail
    refine (lay_24 w1 b o N1 _ _ t X1 (hset _) (by omega) vlt).mono ?_
    rintro e0 w2 ⟨rfl, X2, u2⟩
    rw [HN2.out, Array.setIfInBounds_setIfInBounds] at X2
    have k2 : w2.cell? ⟨b, o, none⟩ = some (W64 N2) := (X2.cell o).trans (hset _)
    clear k1 t1
    go_wp2_with fail
    refine (lay_45 w2 b o N2 (g + 1) _ t X2 (hset _) (by omega) (by omega)).mono ?_
    rintro e0 w3 ⟨rfl, X3, u3⟩
    rw [HN3.out, Array.setIfInBounds_setIfInBounds] at X3
    have k3 : w3.cell? ⟨b, o, none⟩ = some (W64 N3) := (X3.cell o).trans (hset _)
    have f3 := X3.frozen o
    clear k2 t4
    go_wp2
    go_end0
    have X4 := X3.set (i := o) (.int .u64 (bits .xor .u64 (N3 : Int) 1099511627776))
    rw [Array.setIfInBounds_setIfInBounds, HX.out] at X4
    refine ⟨rfl, ?_, ((u1.trans u2).trans u3).setCell (by simp) _⟩
    rw [HX.out]
    exact X4
end Go.Proofs.Qxb6500468a
