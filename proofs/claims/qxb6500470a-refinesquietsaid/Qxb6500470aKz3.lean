import Derived.Test.Qxb6500470aKz2
namespace Go.Proofs.Qxb6500470a
open Go.RowKit
/-- The machine's own errors. -/
def owesT (c : UInt8) (lit : Bool) (d f : Int) : Int :=
  if c = 32 ∨ c = 59 ∨ c = 33 ∨ c = 91 ∨ c = 71 ∨ c = 97 ∨ c = 99 ∨ c = 100 ∨ c = 102 ∨ c = 108 ∨ c = 110 ∨ c = 112 ∨ c = 115 ∨ c = 120 then 0
  else if c = 35 ∨ c = 39 then (if lit then 0 else 11)
  else if c = 83 ∨ c = 68 ∨ c = 77 then (if f ≠ 0 then f else if c ≠ 83 ∧ d = 0 then 10 else 0)
  else if isDg c then 0 else 9
set_option maxRecDepth 100000 in
set_option maxHeartbeats 2000000 in
theorem owes_32 (lit : Bool) (d f : Int) (w : World) : Calls Try.prog 84 #[U 32, .bool lit, I d, I f] w fun e w' => e = .returned (I 0) ∧ w' = w := by
  go_enter Try.func84, Try.ntmps84
  go_wp2
  go_ret
  exact ⟨rfl, rfl⟩
set_option maxRecDepth 100000 in
set_option maxHeartbeats 2000000 in
theorem owes_59 (lit : Bool) (d f : Int) (w : World) : Calls Try.prog 84 #[U 59, .bool lit, I d, I f] w fun e w' => e = .returned (I 0) ∧ w' = w := by
  go_enter Try.func84, Try.ntmps84
  go_wp2
  go_ret
  exact ⟨rfl, rfl⟩
set_option maxRecDepth 100000 in
set_option maxHeartbeats 2000000 in
theorem owes_33 (lit : Bool) (d f : Int) (w : World) : Calls Try.prog 84 #[U 33, .bool lit, I d, I f] w fun e w' => e = .returned (I 0) ∧ w' = w := by
  go_enter Try.func84, Try.ntmps84
  go_wp2
  go_ret
  exact ⟨rfl, rfl⟩
set_option maxRecDepth 100000 in
set_option maxHeartbeats 2000000 in
theorem owes_91 (lit : Bool) (d f : Int) (w : World) : Calls Try.prog 84 #[U 91, .bool lit, I d, I f] w fun e w' => e = .returned (I 0) ∧ w' = w := by
  go_enter Try.func84, Try.ntmps84
  go_wp2
  go_ret
  exact ⟨rfl, rfl⟩
set_option maxRecDepth 100000 in
set_option maxHeartbeats 2000000 in
theorem owes_71 (lit : Bool) (d f : Int) (w : World) : Calls Try.prog 84 #[U 71, .bool lit, I d, I f] w fun e w' => e = .returned (I 0) ∧ w' = w := by
  go_enter Try.func84, Try.ntmps84
  go_wp2
  go_ret
  exact ⟨rfl, rfl⟩
set_option maxRecDepth 100000 in
set_option maxHeartbeats 2000000 in
theorem owes_97 (lit : Bool) (d f : Int) (w : World) : Calls Try.prog 84 #[U 97, .bool lit, I d, I f] w fun e w' => e = .returned (I 0) ∧ w' = w := by
  go_enter Try.func84, Try.ntmps84
  go_wp2
  go_ret
  exact ⟨rfl, rfl⟩
set_option maxRecDepth 100000 in
set_option maxHeartbeats 2000000 in
theorem owes_99 (lit : Bool) (d f : Int) (w : World) : Calls Try.prog 84 #[U 99, .bool lit, I d, I f] w fun e w' => e = .returned (I 0) ∧ w' = w := by
  go_enter Try.func84, Try.ntmps84
  go_wp2
  go_ret
  exact ⟨rfl, rfl⟩
set_option maxRecDepth 100000 in
set_option maxHeartbeats 2000000 in
theorem owes_100 (lit : Bool) (d f : Int) (w : World) : Calls Try.prog 84 #[U 100, .bool lit, I d, I f] w fun e w' => e = .returned (I 0) ∧ w' = w := by
  go_enter Try.func84, Try.ntmps84
  go_wp2
  go_ret
  exact ⟨rfl, rfl⟩
set_option maxRecDepth 100000 in
set_option maxHeartbeats 2000000 in
theorem owes_102 (lit : Bool) (d f : Int) (w : World) : Calls Try.prog 84 #[U 102, .bool lit, I d, I f] w fun e w' => e = .returned (I 0) ∧ w' = w := by
  go_enter Try.func84, Try.ntmps84
  go_wp2
  go_ret
  exact ⟨rfl, rfl⟩
set_option maxRecDepth 100000 in
set_option maxHeartbeats 2000000 in
theorem owes_108 (lit : Bool) (d f : Int) (w : World) : Calls Try.prog 84 #[U 108, .bool lit, I d, I f] w fun e w' => e = .returned (I 0) ∧ w' = w := by
  go_enter Try.func84, Try.ntmps84
  go_wp2
  go_ret
  exact ⟨rfl, rfl⟩
set_option maxRecDepth 100000 in
set_option maxHeartbeats 2000000 in
theorem owes_110 (lit : Bool) (d f : Int) (w : World) : Calls Try.prog 84 #[U 110, .bool lit, I d, I f] w fun e w' => e = .returned (I 0) ∧ w' = w := by
  go_enter Try.func84, Try.ntmps84
  go_wp2
  go_ret
  exact ⟨rfl, rfl⟩
set_option maxRecDepth 100000 in
set_option maxHeartbeats 2000000 in
theorem owes_112 (lit : Bool) (d f : Int) (w : World) : Calls Try.prog 84 #[U 112, .bool lit, I d, I f] w fun e w' => e = .returned (I 0) ∧ w' = w := by
  go_enter Try.func84, Try.ntmps84
  go_wp2
  go_ret
  exact ⟨rfl, rfl⟩
set_option maxRecDepth 100000 in
set_option maxHeartbeats 2000000 in
theorem owes_115 (lit : Bool) (d f : Int) (w : World) : Calls Try.prog 84 #[U 115, .bool lit, I d, I f] w fun e w' => e = .returned (I 0) ∧ w' = w := by
  go_enter Try.func84, Try.ntmps84
  go_wp2
  go_ret
  exact ⟨rfl, rfl⟩
set_option maxRecDepth 100000 in
set_option maxHeartbeats 2000000 in
theorem owes_120 (lit : Bool) (d f : Int) (w : World) : Calls Try.prog 84 #[U 120, .bool lit, I d, I f] w fun e w' => e = .returned (I 0) ∧ w' = w := by
  go_enter Try.func84, Try.ntmps84
  go_wp2
  go_ret
  exact ⟨rfl, rfl⟩
set_option maxRecDepth 100000 in
set_option maxHeartbeats 2000000 in
theorem owes_35t (d f : Int) (w : World) : Calls Try.prog 84 #[U 35, .bool true, I d, I f] w fun e w' => e = .returned (I 0) ∧ w' = w := by
  go_enter Try.func84, Try.ntmps84
  go_wp2
  go_ret
  exact ⟨rfl, rfl⟩
set_option maxRecDepth 100000 in
set_option maxHeartbeats 2000000 in
theorem owes_35f (d f : Int) (w : World) : Calls Try.prog 84 #[U 35, .bool false, I d, I f] w fun e w' => e = .returned (I 11) ∧ w' = w := by
  go_enter Try.func84, Try.ntmps84
  go_wp2
  go_ret
  exact ⟨rfl, rfl⟩
set_option maxRecDepth 100000 in
set_option maxHeartbeats 2000000 in
theorem owes_39t (d f : Int) (w : World) : Calls Try.prog 84 #[U 39, .bool true, I d, I f] w fun e w' => e = .returned (I 0) ∧ w' = w := by
  go_enter Try.func84, Try.ntmps84
  go_wp2
  go_ret
  exact ⟨rfl, rfl⟩
set_option maxRecDepth 100000 in
set_option maxHeartbeats 2000000 in
theorem owes_39f (d f : Int) (w : World) : Calls Try.prog 84 #[U 39, .bool false, I d, I f] w fun e w' => e = .returned (I 11) ∧ w' = w := by
  go_enter Try.func84, Try.ntmps84
  go_wp2
  go_ret
  exact ⟨rfl, rfl⟩
set_option maxRecDepth 100000 in
set_option maxHeartbeats 2000000 in
theorem owes_83b (lit : Bool) (d f : Int) (hf : f ≠ 0) (w : World) : Calls Try.prog 84 #[U 83, .bool lit, I d, I f] w fun e w' => e = .returned (I f) ∧ w' = w := by
  have e0 : (f != 0) = true := by simpa using hf
  go_enter Try.func84, Try.ntmps84
  go_wp2
  go_ret
  exact ⟨rfl, rfl⟩
set_option maxRecDepth 100000 in
set_option maxHeartbeats 2000000 in
theorem owes_83o (lit : Bool) (d : Int) (w : World) : Calls Try.prog 84 #[U 83, .bool lit, I d, I 0] w fun e w' => e = .returned (I 0) ∧ w' = w := by
  go_enter Try.func84, Try.ntmps84
  go_wp2
  go_ret
  exact ⟨rfl, rfl⟩
set_option maxRecDepth 100000 in
set_option maxHeartbeats 2000000 in
theorem owes_68b (lit : Bool) (d f : Int) (hf : f ≠ 0) (w : World) : Calls Try.prog 84 #[U 68, .bool lit, I d, I f] w fun e w' => e = .returned (I f) ∧ w' = w := by
  have e0 : (f != 0) = true := by simpa using hf
  go_enter Try.func84, Try.ntmps84
  go_wp2
  go_ret
  exact ⟨rfl, rfl⟩
set_option maxRecDepth 100000 in
set_option maxHeartbeats 2000000 in
theorem owes_68z (lit : Bool) (w : World) : Calls Try.prog 84 #[U 68, .bool lit, I 0, I 0] w fun e w' => e = .returned (I 10) ∧ w' = w := by
  go_enter Try.func84, Try.ntmps84
  go_wp2
  go_ret
  exact ⟨rfl, rfl⟩
set_option maxRecDepth 100000 in
set_option maxHeartbeats 2000000 in
theorem owes_68o (lit : Bool) (d : Int) (hd : d ≠ 0) (w : World) : Calls Try.prog 84 #[U 68, .bool lit, I d, I 0] w fun e w' => e = .returned (I 0) ∧ w' = w := by
  have e0 : (d == 0) = false := by simpa using hd
  go_enter Try.func84, Try.ntmps84
  go_wp2
  go_ret
  exact ⟨rfl, rfl⟩
set_option maxRecDepth 100000 in
set_option maxHeartbeats 2000000 in
theorem owes_77b (lit : Bool) (d f : Int) (hf : f ≠ 0) (w : World) : Calls Try.prog 84 #[U 77, .bool lit, I d, I f] w fun e w' => e = .returned (I f) ∧ w' = w := by
  have e0 : (f != 0) = true := by simpa using hf
  go_enter Try.func84, Try.ntmps84
  go_wp2
  go_ret
  exact ⟨rfl, rfl⟩
set_option maxRecDepth 100000 in
set_option maxHeartbeats 2000000 in
theorem owes_77z (lit : Bool) (w : World) : Calls Try.prog 84 #[U 77, .bool lit, I 0, I 0] w fun e w' => e = .returned (I 10) ∧ w' = w := by
  go_enter Try.func84, Try.ntmps84
  go_wp2
  go_ret
  exact ⟨rfl, rfl⟩
set_option maxRecDepth 100000 in
set_option maxHeartbeats 2000000 in
theorem owes_77o (lit : Bool) (d : Int) (hd : d ≠ 0) (w : World) : Calls Try.prog 84 #[U 77, .bool lit, I d, I 0] w fun e w' => e = .returned (I 0) ∧ w' = w := by
  have e0 : (d == 0) = false := by simpa using hd
  go_enter Try.func84, Try.ntmps84
  go_wp2
  go_ret
  exact ⟨rfl, rfl⟩
set_option maxRecDepth 100000 in
set_option maxHeartbeats 2000000 in
theorem owes_dg (n : Nat) (lit : Bool) (d f : Int) (b1 : 48 ≤ n) (b2 : n ≤ 57) (w : World) : Calls Try.prog 84 #[.int .u8 (n : Int), .bool lit, I d, I f] w fun e w' => e = .returned (I 0) ∧ w' = w := by
  have q32 : ((n : Int) == 32) = false := by simp; omega
  have q59 : ((n : Int) == 59) = false := by simp; omega
  have q33 : ((n : Int) == 33) = false := by simp; omega
  have q91 : ((n : Int) == 91) = false := by simp; omega
  have q71 : ((n : Int) == 71) = false := by simp; omega
  have q97 : ((n : Int) == 97) = false := by simp; omega
  have q99 : ((n : Int) == 99) = false := by simp; omega
  have q100 : ((n : Int) == 100) = false := by simp; omega
  have q102 : ((n : Int) == 102) = false := by simp; omega
  have q108 : ((n : Int) == 108) = false := by simp; omega
  have q110 : ((n : Int) == 110) = false := by simp; omega
  have q112 : ((n : Int) == 112) = false := by simp; omega
  have q115 : ((n : Int) == 115) = false := by simp; omega
  have q120 : ((n : Int) == 120) = false := by simp; omega
  have q35 : ((n : Int) == 35) = false := by simp; omega
  have q39 : ((n : Int) == 39) = false := by simp; omega
  have q83 : ((n : Int) == 83) = false := by simp; omega
  have q68 : ((n : Int) == 68) = false := by simp; omega
  have q77 : ((n : Int) == 77) = false := by simp; omega
  have u0 : (48 : Int) ≤ (n : Int) := by omega
  have u1 : (n : Int) ≤ 57 := by omega
  go_enter Try.func84, Try.ntmps84
  go_wp2
  go_ret
  exact ⟨rfl, rfl⟩
set_option maxRecDepth 100000 in
set_option maxHeartbeats 2000000 in
theorem owes_lo (n : Nat) (lit : Bool) (d f : Int) (b1 : n < 48) (ne : n ≠ 32 ∧ n ≠ 59 ∧ n ≠ 33 ∧ n ≠ 91 ∧ n ≠ 71 ∧ n ≠ 97 ∧ n ≠ 99 ∧ n ≠ 100 ∧ n ≠ 102 ∧ n ≠ 108 ∧ n ≠ 110 ∧ n ≠ 112 ∧ n ≠ 115 ∧ n ≠ 120 ∧ n ≠ 35 ∧ n ≠ 39 ∧ n ≠ 83 ∧ n ≠ 68 ∧ n ≠ 77) (w : World) : Calls Try.prog 84 #[.int .u8 (n : Int), .bool lit, I d, I f] w fun e w' => e = .returned (I 9) ∧ w' = w := by
  have q32 : ((n : Int) == 32) = false := by simp; omega
  have q59 : ((n : Int) == 59) = false := by simp; omega
  have q33 : ((n : Int) == 33) = false := by simp; omega
  have q91 : ((n : Int) == 91) = false := by simp; omega
  have q71 : ((n : Int) == 71) = false := by simp; omega
  have q97 : ((n : Int) == 97) = false := by simp; omega
  have q99 : ((n : Int) == 99) = false := by simp; omega
  have q100 : ((n : Int) == 100) = false := by simp; omega
  have q102 : ((n : Int) == 102) = false := by simp; omega
  have q108 : ((n : Int) == 108) = false := by simp; omega
  have q110 : ((n : Int) == 110) = false := by simp; omega
  have q112 : ((n : Int) == 112) = false := by simp; omega
  have q115 : ((n : Int) == 115) = false := by simp; omega
  have q120 : ((n : Int) == 120) = false := by simp; omega
  have q35 : ((n : Int) == 35) = false := by simp; omega
  have q39 : ((n : Int) == 39) = false := by simp; omega
  have q83 : ((n : Int) == 83) = false := by simp; omega
  have q68 : ((n : Int) == 68) = false := by simp; omega
  have q77 : ((n : Int) == 77) = false := by simp; omega
  have u0 : ¬ (48 : Int) ≤ (n : Int) := by omega
  go_enter Try.func84, Try.ntmps84
  go_wp2
  go_ret
  exact ⟨rfl, rfl⟩
set_option maxRecDepth 100000 in
set_option maxHeartbeats 2000000 in
theorem owes_hi (n : Nat) (lit : Bool) (d f : Int) (b1 : 57 < n) (ne : n ≠ 32 ∧ n ≠ 59 ∧ n ≠ 33 ∧ n ≠ 91 ∧ n ≠ 71 ∧ n ≠ 97 ∧ n ≠ 99 ∧ n ≠ 100 ∧ n ≠ 102 ∧ n ≠ 108 ∧ n ≠ 110 ∧ n ≠ 112 ∧ n ≠ 115 ∧ n ≠ 120 ∧ n ≠ 35 ∧ n ≠ 39 ∧ n ≠ 83 ∧ n ≠ 68 ∧ n ≠ 77) (w : World) : Calls Try.prog 84 #[.int .u8 (n : Int), .bool lit, I d, I f] w fun e w' => e = .returned (I 9) ∧ w' = w := by
  have q32 : ((n : Int) == 32) = false := by simp; omega
  have q59 : ((n : Int) == 59) = false := by simp; omega
  have q33 : ((n : Int) == 33) = false := by simp; omega
  have q91 : ((n : Int) == 91) = false := by simp; omega
  have q71 : ((n : Int) == 71) = false := by simp; omega
  have q97 : ((n : Int) == 97) = false := by simp; omega
  have q99 : ((n : Int) == 99) = false := by simp; omega
  have q100 : ((n : Int) == 100) = false := by simp; omega
  have q102 : ((n : Int) == 102) = false := by simp; omega
  have q108 : ((n : Int) == 108) = false := by simp; omega
  have q110 : ((n : Int) == 110) = false := by simp; omega
  have q112 : ((n : Int) == 112) = false := by simp; omega
  have q115 : ((n : Int) == 115) = false := by simp; omega
  have q120 : ((n : Int) == 120) = false := by simp; omega
  have q35 : ((n : Int) == 35) = false := by simp; omega
  have q39 : ((n : Int) == 39) = false := by simp; omega
  have q83 : ((n : Int) == 83) = false := by simp; omega
  have q68 : ((n : Int) == 68) = false := by simp; omega
  have q77 : ((n : Int) == 77) = false := by simp; omega
  have u0 : (48 : Int) ≤ (n : Int) := by omega
  have u1 : ¬ (n : Int) ≤ 57 := by omega
  go_enter Try.func84, Try.ntmps84
  go_wp2
  go_ret
  exact ⟨rfl, rfl⟩
theorem owes_w (c : UInt8) (lit : Bool) (d f : Int) (w : World) : Calls Try.prog 84 #[.int .u8 (c.toNat : Int), .bool lit, I d, I f] w fun e w' => e = .returned (I (owesT c lit d f)) ∧ w' = w := by
  by_cases h32 : c = 32
  · subst h32; exact owes_32 lit d f w
  by_cases h59 : c = 59
  · subst h59; exact owes_59 lit d f w
  by_cases h33 : c = 33
  · subst h33; exact owes_33 lit d f w
  by_cases h91 : c = 91
  · subst h91; exact owes_91 lit d f w
  by_cases h71 : c = 71
  · subst h71; exact owes_71 lit d f w
  by_cases h97 : c = 97
  · subst h97; exact owes_97 lit d f w
  by_cases h99 : c = 99
  · subst h99; exact owes_99 lit d f w
  by_cases h100 : c = 100
  · subst h100; exact owes_100 lit d f w
  by_cases h102 : c = 102
  · subst h102; exact owes_102 lit d f w
  by_cases h108 : c = 108
  · subst h108; exact owes_108 lit d f w
  by_cases h110 : c = 110
  · subst h110; exact owes_110 lit d f w
  by_cases h112 : c = 112
  · subst h112; exact owes_112 lit d f w
  by_cases h115 : c = 115
  · subst h115; exact owes_115 lit d f w
  by_cases h120 : c = 120
  · subst h120; exact owes_120 lit d f w
  by_cases h35 : c = 35
  · subst h35
    cases lit
    · exact owes_35f d f w
    · exact owes_35t d f w
  by_cases h39 : c = 39
  · subst h39
    cases lit
    · exact owes_39f d f w
    · exact owes_39t d f w
  by_cases h83 : c = 83
  · subst h83
    by_cases hf : f = 0
    · subst hf
      exact owes_83o lit d w
    · have e : owesT 83 lit d f = f := by simp [owesT, hf]
      rw [e]
      exact owes_83b lit d f hf w
  by_cases h68 : c = 68
  · subst h68
    by_cases hf : f = 0
    · subst hf
      by_cases hd : d = 0
      · subst hd
        exact owes_68z lit w
      · have e : owesT 68 lit d 0 = 0 := by simp [owesT, hd]
        rw [e]
        exact owes_68o lit d hd w
    · have e : owesT 68 lit d f = f := by simp [owesT, hf]
      rw [e]
      exact owes_68b lit d f hf w
  by_cases h77 : c = 77
  · subst h77
    by_cases hf : f = 0
    · subst hf
      by_cases hd : d = 0
      · subst hd
        exact owes_77z lit w
      · have e : owesT 77 lit d 0 = 0 := by simp [owesT, hd]
        rw [e]
        exact owes_77o lit d hd w
    · have e : owesT 77 lit d f = f := by simp [owesT, hf]
      rw [e]
      exact owes_77b lit d f hf w
  have ne : c.toNat ≠ 32 ∧ c.toNat ≠ 59 ∧ c.toNat ≠ 33 ∧ c.toNat ≠ 91 ∧ c.toNat ≠ 71 ∧ c.toNat ≠ 97 ∧ c.toNat ≠ 99 ∧ c.toNat ≠ 100 ∧ c.toNat ≠ 102 ∧ c.toNat ≠ 108 ∧ c.toNat ≠ 110 ∧ c.toNat ≠ 112 ∧ c.toNat ≠ 115 ∧ c.toNat ≠ 120 ∧ c.toNat ≠ 35 ∧ c.toNat ≠ 39 ∧ c.toNat ≠ 83 ∧ c.toNat ≠ 68 ∧ c.toNat ≠ 77 := by
    refine ⟨fun e => h32 (UInt8.toNat_inj.1 e), fun e => h59 (UInt8.toNat_inj.1 e), fun e => h33 (UInt8.toNat_inj.1 e), fun e => h91 (UInt8.toNat_inj.1 e), fun e => h71 (UInt8.toNat_inj.1 e), fun e => h97 (UInt8.toNat_inj.1 e), fun e => h99 (UInt8.toNat_inj.1 e), fun e => h100 (UInt8.toNat_inj.1 e), fun e => h102 (UInt8.toNat_inj.1 e), fun e => h108 (UInt8.toNat_inj.1 e), fun e => h110 (UInt8.toNat_inj.1 e), fun e => h112 (UInt8.toNat_inj.1 e), fun e => h115 (UInt8.toNat_inj.1 e), fun e => h120 (UInt8.toNat_inj.1 e), fun e => h35 (UInt8.toNat_inj.1 e), fun e => h39 (UInt8.toNat_inj.1 e), fun e => h83 (UInt8.toNat_inj.1 e), fun e => h68 (UInt8.toNat_inj.1 e), fun e => h77 (UInt8.toNat_inj.1 e)⟩
  by_cases hd : isDg c = true
  · have e : owesT c lit d f = 0 := by simp [owesT, h32, h59, h33, h91, h71, h97, h99, h100, h102, h108, h110, h112, h115, h120, h35, h39, h83, h68, h77, hd]
    rw [e]
    obtain ⟨d1, d2⟩ : 48 ≤ c.toNat ∧ c.toNat ≤ 57 := by simpa [isDg] using hd
    exact owes_dg _ lit d f d1 d2 w
  · have e : owesT c lit d f = 9 := by simp [owesT, h32, h59, h33, h91, h71, h97, h99, h100, h102, h108, h110, h112, h115, h120, h35, h39, h83, h68, h77, hd]
    rw [e]
    have : ¬ (48 ≤ c.toNat ∧ c.toNat ≤ 57) := by simpa [isDg] using hd
    by_cases h48 : c.toNat < 48
    · exact owes_lo _ lit d f h48 ne w
    · exact owes_hi _ lit d f (by omega) ne w
end Go.Proofs.Qxb6500470a
