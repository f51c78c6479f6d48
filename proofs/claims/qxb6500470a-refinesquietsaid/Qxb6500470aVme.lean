import Derived.Test.Qxb6500470aVmd
namespace Go.Proofs.Qxb6500470a
open Go.RowKit
set_option maxRecDepth 100000 in
set_option maxHeartbeats 16000000 in
theorem plus_EEo (K : Nat → Prop) (w : World) (ks : ∀ k, K k → k < w.heap.size) (tg na nb : Int) (sa sb : List UInt8) (z : TV) (ht : tg = 1 ∨ tg = 2 ∨ tg = 3 ∨ tg = 4) (hh : hasT tg 1 = true) (hsa : sa.length ≤ 100) (hsb : sb.length ≤ 100) (hz : ∀ W, Below w.heap.size w W → MR K W z (I tg) (I (wrap64 (na + nb))) (S (sa ++ sb)) (.slice none 0 0)) (hl : (text z).length ≤ 1000) (h30 : (text z).length ≤ 30) :
    Calls Try.prog 115 #[.agg #[I tg, I na, S sa, (.slice none 0 0)], .agg #[I tg, I nb, S sb, (.slice none 0 0)]] w fun e w' => ∃ (K' : Nat → Prop) (c0 c1 c2 c3 : Value), e = .returned (.tuple #[.agg #[c0, c1, c2, c3], I 0]) ∧ NewK K K' w w' ∧ MR K' w' z c0 c1 c2 c3 ∧ Below w.heap.size w w' := by
  have HH := fun W => has_w tg 1 ht (by decide) W
  rw [hh] at HH
  have hst := str_append sa sb
  have hza := str_size sa
  have hzb := str_size sb
  obtain ⟨i0, hi, hz0, hz1, hz2⟩ := info_parts mInfo
  have B0 : Below w.heap.size w (w.alloc (.cells #[I tg, I na, S sa, (.slice none 0 0)] 137)) := (Below.refl _ _).alloc (Nat.le_refl _) _
  have B1 := B0.alloc B0.size (.cells #[I tg, I nb, S sb, (.slice none 0 0)] 137)
  have B2 := B1.alloc B1.size (.cells Z4 137)
  have B3 := B2.alloc B2.size (.cells #[I tg, I (wrap64 (na + nb)), S (sa ++ sb), .slice none 0 0] 137)
  have XB : Blk ((w.alloc (.cells #[I tg, I na, S sa, (.slice none 0 0)] 137)).alloc (.cells #[I tg, I nb, S sb, (.slice none 0 0)] 137)) (w.heap.size + 1) #[I tg, I nb, S sb, (.slice none 0 0)] 137 := Blk.new (by rw [World.size_alloc])
  have XZ : Blk (((w.alloc (.cells #[I tg, I na, S sa, (.slice none 0 0)] 137)).alloc (.cells #[I tg, I nb, S sb, (.slice none 0 0)] 137)).alloc (.cells Z4 137)) (w.heap.size + 2) Z4 137 := Blk.new (by rw [World.size_alloc, World.size_alloc])
  have YB := (XB.old (.cells Z4 137)).old (.cells #[I tg, I (wrap64 (na + nb)), S (sa ++ sb), .slice none 0 0] 137)
  have YZ := XZ.old (.cells #[I tg, I (wrap64 (na + nb)), S (sa ++ sb), .slice none 0 0] 137)
  have YV : Blk ((((w.alloc (.cells #[I tg, I na, S sa, (.slice none 0 0)] 137)).alloc (.cells #[I tg, I nb, S sb, (.slice none 0 0)] 137)).alloc (.cells Z4 137)).alloc (.cells #[I tg, I (wrap64 (na + nb)), S (sa ++ sb), .slice none 0 0] 137)) (w.heap.size + 3) #[I tg, I (wrap64 (na + nb)), S (sa ++ sb), .slice none 0 0] 137 := Blk.new (by rw [World.size_alloc, World.size_alloc, World.size_alloc])
  have sz3 : ((((w.alloc (.cells #[I tg, I na, S sa, (.slice none 0 0)] 137)).alloc (.cells #[I tg, I nb, S sb, (.slice none 0 0)] 137)).alloc (.cells Z4 137)).alloc (.cells #[I tg, I (wrap64 (na + nb)), S (sa ++ sb), .slice none 0 0] 137)).heap.size = w.heap.size + 4 := by rw [World.size_alloc, World.size_alloc, World.size_alloc, World.size_alloc]
  have HZ : Hid _ := hz
  have HB3 : Hid _ := B3
  have hzt := str_size (text z)
  have q30 : ¬ (30 : Int) < ((text z).length : Int) := by omega
  clear hz hh B0 B1 B2 B3 XB XZ
  go_enter Try.func115, Try.ntmps115
  go_wp2_with fail
  refine (HH _).mono ?_
  rintro e w' ⟨rfl, rfl⟩
  go_wp2_with fail
  have HV6 : Hid _ := YV
  have HZ6 : Hid _ := YZ
  have HB6 := HB3
  refine (text_w K _ z _ _ _ _ (HZ.out _ HB6.out) (fun k hk => Nat.lt_of_lt_of_le (ks k hk) (HB6.out : Below _ _ _).size) hl).mono ?_
  rintro e w7 ⟨rfl, b7⟩
  have V7 := Blk.below HV6.out b7 (Blk.lt HV6.out)
  have Z7 := Blk.below HZ6.out b7 (Blk.lt HZ6.out)
  have v0 : w7.cell? ⟨w.heap.size + 3, 0, none⟩ = some (I tg) := V7.cell 0
  have v1 : w7.cell? ⟨w.heap.size + 3, 1, none⟩ = some (I (wrap64 (na + nb))) := V7.cell 1
  have v2 : w7.cell? ⟨w.heap.size + 3, 2, none⟩ = some (S (sa ++ sb)) := V7.cell 2
  have v3 : w7.cell? ⟨w.heap.size + 3, 3, none⟩ = some (.slice none 0 0) := V7.cell 3
  have z0 := Z7.frozen 0
  have z1 := Z7.frozen 1
  have z2 := Z7.frozen 2
  have z3 := Z7.frozen 3
  have y0 := Z7.cell 0
  have y1 := Z7.cell 1
  have y2 := Z7.cell 2
  have y3 := Z7.cell 3
  have B7 := HB6.out.trans (b7.mono (HB6.out : Below _ _ _).size)
  have hs7 := b7.size
  have Zf := (((Z7.set (i := 0) (.int .i64 tg)).set (i := 1) (.int .i64 (wrap64 (na + nb)))).set (i := 2) (S (sa ++ sb))).set (i := 3) (.slice none 0 0)
  have Bf := (((B7.setCell (p := ⟨w.heap.size + 2, 0, none⟩) (by show w.heap.size ≤ w.heap.size + 2; omega) (.int .i64 tg)).setCell (p := ⟨w.heap.size + 2, 1, none⟩) (by show w.heap.size ≤ w.heap.size + 2; omega) (.int .i64 (wrap64 (na + nb)))).setCell (p := ⟨w.heap.size + 2, 2, none⟩) (by show w.heap.size ≤ w.heap.size + 2; omega) (S (sa ++ sb))).setCell (p := ⟨w.heap.size + 2, 3, none⟩) (by show w.heap.size ≤ w.heap.size + 2; omega) (.slice none 0 0)
  have HZf : Hid _ := Zf
  have HBf : Hid _ := Bf
  clear Zf Bf b7 B7 V7 Z7 hs7
  generalize text z = tx at *
  go_wp2
  exact ret_row2 Try.results115 rfl rfl rfl (cs := #[I tg, I (wrap64 (na + nb)), S (sa ++ sb), (.slice none 0 0)]) HZf.out Try.underlying137 rfl (by kernel_rfl) ⟨K, _, _, _, _, rfl, ⟨fun _ h => h, fun _ h => .inl h⟩, HZ.out _ HBf.out, HBf.out⟩
end Go.Proofs.Qxb6500470a
