import Derived.Test.Qxb6500470aKz5
namespace Go.Proofs.Qxb6500470a
open Go.RowKit
theorem play_any (K : Nat → Prop) (w : World) (p : Nat) (st : List TV) (hf : Fine st) (h : SRep K w p st) (c : UInt8) (v : Int) (s : List UInt8) (lit : Bool) (d f : Int) (hO : owesT c lit d f = 0) (h32 : c ≠ 32) (h59 : c ≠ 59) (h33 : c ≠ 33)
    (v1 : -9223372036854775808 ≤ v) (v2 : v ≤ 9223372036854775807) (hs : c = 39 → s.length ≤ 6) :
    Calls Try.prog 85 #[yv p, .int .u8 (c.toNat : Int), I v, S s] w (Wc K w p (playT c v s st)) := by
  by_cases h97 : c = 97
  · subst h97; exact play_97 K w p st hf h v s
  by_cases h99 : c = 99
  · subst h99; exact play_99 K w p st hf h v s
  by_cases h100 : c = 100
  · subst h100; exact play_100 K w p st hf h v s
  by_cases h102 : c = 102
  · subst h102; exact play_102 K w p st hf h v s
  by_cases h108 : c = 108
  · subst h108; exact play_108 K w p st hf h v s
  by_cases h110 : c = 110
  · subst h110; exact play_110 K w p st hf h v s
  by_cases h112 : c = 112
  · subst h112; exact play_112 K w p st hf h v s
  by_cases h115 : c = 115
  · subst h115; exact play_115 K w p st hf h v s
  by_cases h120 : c = 120
  · subst h120; exact play_120 K w p st hf h v s
  by_cases h83 : c = 83
  · subst h83; exact play_83 K w p st hf h v s
  by_cases h68 : c = 68
  · subst h68; exact play_68 K w p st hf h v s
  by_cases h77 : c = 77
  · subst h77; exact play_77 K w p st hf h v s
  by_cases h91 : c = 91
  · subst h91; exact play_91 K w p st hf h v s
  by_cases h39 : c = 39
  · subst h39; exact play_39 K w p st hf h v s (hs rfl)
  by_cases h35 : c = 35
  · subst h35; exact play_35 K w p st hf h v s v1 v2
  by_cases h71 : c = 71
  · subst h71; exact play_71 K w p st hf h v s v1 v2
  by_cases h48 : c = 48
  · subst h48; exact play_48 K w p st hf h v s
  by_cases h49 : c = 49
  · subst h49; exact play_49 K w p st hf h v s
  by_cases h50 : c = 50
  · subst h50; exact play_50 K w p st hf h v s
  by_cases h51 : c = 51
  · subst h51; exact play_51 K w p st hf h v s
  by_cases h52 : c = 52
  · subst h52; exact play_52 K w p st hf h v s
  by_cases h53 : c = 53
  · subst h53; exact play_53 K w p st hf h v s
  by_cases h54 : c = 54
  · subst h54; exact play_54 K w p st hf h v s
  by_cases h55 : c = 55
  · subst h55; exact play_55 K w p st hf h v s
  by_cases h56 : c = 56
  · subst h56; exact play_56 K w p st hf h v s
  by_cases h57 : c = 57
  · subst h57; exact play_57 K w p st hf h v s
  exfalso
  have hd : isDg c = false := by
    cases hd : isDg c with
    | false => rfl
    | true =>
      obtain ⟨d1, d2⟩ : 48 ≤ c.toNat ∧ c.toNat ≤ 57 := by simpa [isDg] using hd
      have e48 : c.toNat ≠ 48 := fun e => h48 (UInt8.toNat_inj.1 e)
      have e49 : c.toNat ≠ 49 := fun e => h49 (UInt8.toNat_inj.1 e)
      have e50 : c.toNat ≠ 50 := fun e => h50 (UInt8.toNat_inj.1 e)
      have e51 : c.toNat ≠ 51 := fun e => h51 (UInt8.toNat_inj.1 e)
      have e52 : c.toNat ≠ 52 := fun e => h52 (UInt8.toNat_inj.1 e)
      have e53 : c.toNat ≠ 53 := fun e => h53 (UInt8.toNat_inj.1 e)
      have e54 : c.toNat ≠ 54 := fun e => h54 (UInt8.toNat_inj.1 e)
      have e55 : c.toNat ≠ 55 := fun e => h55 (UInt8.toNat_inj.1 e)
      have e56 : c.toNat ≠ 56 := fun e => h56 (UInt8.toNat_inj.1 e)
      have e57 : c.toNat ≠ 57 := fun e => h57 (UInt8.toNat_inj.1 e)
      omega
  have e : owesT c lit d f = 9 := by simp [owesT, h32, h59, h33, h91, h71, h97, h99, h100, h102, h108, h110, h112, h115, h120, h35, h39, h83, h68, h77, hd]
  rw [e] at hO
  cases hO
end Go.Proofs.Qxb6500470a
