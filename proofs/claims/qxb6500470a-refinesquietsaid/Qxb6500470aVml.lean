import Derived.Test.Qxb6500470aVmd
namespace Go.Proofs.Qxb6500470a
open Go.RowKit
set_option maxRecDepth 100000 in
set_option maxHeartbeats 16000000 in
theorem plus_NNb (K : Nat → Prop) (w : World) (ks : ∀ k, K k → k < w.heap.size) (tg na nb : Int) (sa sb : List UInt8) (z : TV) (ht : tg = 1 ∨ tg = 2 ∨ tg = 3 ∨ tg = 4) (hh : hasT tg 1 = true) (hsa : sa.length ≤ 100) (hsb : sb.length ≤ 100) (ga Ma ca : Nat) (csa : List Value) (hga : ga < w.heap.size) (hMa0 : 0 < Ma) (hMa1 : Ma ≤ 100) (hca : csa.length = Ma * 4) (hcella : ∀ j u, csa[j]? = some u → w.cell? ⟨ga, j, none⟩ = some u) (honea : ∀ u ∈ csa, u.oneCell' = true) (gb Mb cb : Nat) (csb : List Value) (hgb : gb < w.heap.size) (hMb0 : 0 < Mb) (hMb1 : Mb ≤ 100) (hcb : csb.length = Mb * 4) (hcellb : ∀ j u, csb[j]? = some u → w.cell? ⟨gb, j, none⟩ = some u) (honeb : ∀ u ∈ csb, u.oneCell' = true) (hz : ∀ g cap W, Below w.heap.size w W → W.ownsRow 0 137 4 (.slice (some ⟨g, 0, none⟩) (Ma + Mb) cap) (Ma + Mb) (csa ++ csb) → MR (fun k => K k ∨ k = g) W z (I tg) (I (wrap64 (na + nb))) (S (sa ++ sb)) (.slice (some ⟨g, 0, none⟩) (Ma + Mb) cap)) (hl : (text z).length ≤ 1000) (h30 : 30 < (text z).length) :
    Calls Try.prog 115 #[.agg #[I tg, I na, S sa, (.slice (some ⟨ga, 0, none⟩) Ma ca)], .agg #[I tg, I nb, S sb, (.slice (some ⟨gb, 0, none⟩) Mb cb)]] w fun e w' => e = .returned (.tuple #[.agg Z4, I 7]) ∧ Below w.heap.size w w' := by
  have HH := fun W => has_w tg 1 ht (by decide) W
  rw [hh] at HH
  have hst := str_append sa sb
  have hza := str_size sa
  have hzb := str_size sb
  obtain ⟨i0, hi, hz0, hz1, hz2⟩ := info_parts mInfo
  have B0 : Below w.heap.size w (w.alloc (.cells #[I tg, I na, S sa, (.slice (some ⟨ga, 0, none⟩) Ma ca)] 137)) := (Below.refl _ _).alloc (Nat.le_refl _) _
  have B1 := B0.alloc B0.size (.cells #[I tg, I nb, S sb, (.slice (some ⟨gb, 0, none⟩) Mb cb)] 137)
  have B2 := B1.alloc B1.size (.cells Z4 137)
  have B3 := B2.alloc B2.size (.cells #[I tg, I (wrap64 (na + nb)), S (sa ++ sb), .slice none 0 0] 137)
  have XB : Blk ((w.alloc (.cells #[I tg, I na, S sa, (.slice (some ⟨ga, 0, none⟩) Ma ca)] 137)).alloc (.cells #[I tg, I nb, S sb, (.slice (some ⟨gb, 0, none⟩) Mb cb)] 137)) (w.heap.size + 1) #[I tg, I nb, S sb, (.slice (some ⟨gb, 0, none⟩) Mb cb)] 137 := Blk.new (by rw [World.size_alloc])
  have XZ : Blk (((w.alloc (.cells #[I tg, I na, S sa, (.slice (some ⟨ga, 0, none⟩) Ma ca)] 137)).alloc (.cells #[I tg, I nb, S sb, (.slice (some ⟨gb, 0, none⟩) Mb cb)] 137)).alloc (.cells Z4 137)) (w.heap.size + 2) Z4 137 := Blk.new (by rw [World.size_alloc, World.size_alloc])
  have YB := (XB.old (.cells Z4 137)).old (.cells #[I tg, I (wrap64 (na + nb)), S (sa ++ sb), .slice none 0 0] 137)
  have YZ := XZ.old (.cells #[I tg, I (wrap64 (na + nb)), S (sa ++ sb), .slice none 0 0] 137)
  have YV : Blk ((((w.alloc (.cells #[I tg, I na, S sa, (.slice (some ⟨ga, 0, none⟩) Ma ca)] 137)).alloc (.cells #[I tg, I nb, S sb, (.slice (some ⟨gb, 0, none⟩) Mb cb)] 137)).alloc (.cells Z4 137)).alloc (.cells #[I tg, I (wrap64 (na + nb)), S (sa ++ sb), .slice none 0 0] 137)) (w.heap.size + 3) #[I tg, I (wrap64 (na + nb)), S (sa ++ sb), .slice none 0 0] 137 := Blk.new (by rw [World.size_alloc, World.size_alloc, World.size_alloc])
  have sz3 : ((((w.alloc (.cells #[I tg, I na, S sa, (.slice (some ⟨ga, 0, none⟩) Ma ca)] 137)).alloc (.cells #[I tg, I nb, S sb, (.slice (some ⟨gb, 0, none⟩) Mb cb)] 137)).alloc (.cells Z4 137)).alloc (.cells #[I tg, I (wrap64 (na + nb)), S (sa ++ sb), .slice none 0 0] 137)).heap.size = w.heap.size + 4 := by rw [World.size_alloc, World.size_alloc, World.size_alloc, World.size_alloc]
  have HNA : Hid _ := news_of hcella hga B3
  have HZ : Hid _ := hz
  have HB3 : Hid _ := B3
  have hzt := str_size (text z)
  have q30 : (30 : Int) < ((text z).length : Int) := by omega
  clear hz hh B0 B1 B2 B3 XB XZ
  go_enter Try.func115, Try.ntmps115
  go_wp2_with fail
  refine (HH _).mono ?_
  rintro e w' ⟨rfl, rfl⟩
  go_wp2_with (first
    | (at_builtin; go_loud (refine wpList_append_lies _ rfl (.tmp 33) (.tmp 35) 124 rfl 0 137 i0 _ 4 56 Try.underlying124 hi hz0 hz1 hz2 rfl (by decide) (.slice none 0 0) 0 [] rfl (World.ownsRow_nil _ _ _ _) ⟨ga, 0, none⟩ Ma ca csa rfl hca HNA.out honea hMa0 (by unfold maxLen; omega) (by omega) (Nat.zero_le _) (w.heap.size + 4) sz3 ?_); intro g1 cap1 w3 hown1 hgrow1 hat1 hlt1; go_loud (have V3 : Blk w3 (w.heap.size + 3) #[I tg, I (wrap64 (na + nb)), S (sa ++ sb), .slice none 0 0] 137 := (hgrow1.block (w.heap.size + 3) (Nat.lt_of_lt_of_eq (show w.heap.size + 3 < w.heap.size + 4 by omega) sz3.symm) (by simp [Value.ownBlock])).trans YV; have Z3 : Blk w3 (w.heap.size + 2) Z4 137 := (hgrow1.block (w.heap.size + 2) (Nat.lt_of_lt_of_eq (show w.heap.size + 2 < w.heap.size + 4 by omega) sz3.symm) (by simp [Value.ownBlock])).trans YZ; have D3 : Blk w3 (w.heap.size + 1) #[I tg, I nb, S sb, (.slice (some ⟨gb, 0, none⟩) Mb cb)] 137 := (hgrow1.block (w.heap.size + 1) (Nat.lt_of_lt_of_eq (show w.heap.size + 1 < w.heap.size + 4 by omega) sz3.symm) (by simp [Value.ownBlock])).trans YB; have v0 := V3.cell 0; have v1 := V3.cell 1; have v2 := V3.cell 2; have v3 := V3.cell 3; have v4 := V3.frozen 3; have dd3 := D3.cell 3; have hle1 : Ma ≤ cap1 := (by have := own_le hown1; omega); have hg1 : w.heap.size + 3 < g1 := (hat1.elim (fun e => by simp [Value.ownBlock] at e) (fun e => by omega)); have hown1' : w3.ownsRow 0 137 4 (.slice (some ⟨g1, 0, none⟩) Ma cap1) Ma csa := (by simpa using hown1); have B4 : Below w.heap.size w w3 := HB3.out.trans ⟨hgrow1.os, hgrow1.tape, hgrow1.output, hgrow1.size, fun k hk => hgrow1.block k (Nat.lt_of_lt_of_eq (show k < w.heap.size + 4 by omega) sz3.symm) (by simp [Value.ownBlock])⟩; have HV4 : Hid _ := V3.set (i := 3) (.slice (some ⟨g1, 0, none⟩) Ma cap1); have HZ4 : Hid _ := Z3.other (a := ⟨w.heap.size + 3, 3, none⟩) (by simp) (.slice (some ⟨g1, 0, none⟩) Ma cap1); have HO4 : Hid _ := own_set (b := w.heap.size + 3) (i := 3) (v := (.slice (some ⟨g1, 0, none⟩) Ma cap1)) hown1' (by omega); have HB4 : Hid _ := B4.setCell (p := ⟨w.heap.size + 3, 3, none⟩) (by show w.heap.size ≤ w.heap.size + 3; omega) (.slice (some ⟨g1, 0, none⟩) Ma cap1); have HNB : Hid _ := news_of hcellb hgb HB4.out; have l3 : Hid (w.heap.size + 3 < (w3.setCell ⟨w.heap.size + 3, 3, none⟩ (.slice (some ⟨g1, 0, none⟩) Ma cap1)).heap.size) := Blk.lt HV4.out))
    | (at_builtin; go_loud (refine wpList_append_lies _ rfl (.tmp 39) (.tmp 41) 124 rfl 0 137 i0 _ 4 56 Try.underlying124 hi hz0 hz1 hz2 rfl (by decide) (.slice (some ⟨g1, 0, none⟩) Ma cap1) Ma csa rfl HO4.out ⟨gb, 0, none⟩ Mb cb csb rfl hcb HNB.out honeb hMb0 (by unfold maxLen; omega) (by omega) (Nat.zero_le _) _ rfl ?_); intro g2 cap2 w5 hown2 hgrow2 hat2 hlt2; go_loud (have V5 : Blk w5 (w.heap.size + 3) #[I tg, I (wrap64 (na + nb)), S (sa ++ sb), (.slice (some ⟨g1, 0, none⟩) Ma cap1)] 137 := (hgrow2.block (w.heap.size + 3) l3.out (by simp [Value.ownBlock]; omega)).trans HV4.out; have Z5 : Blk w5 (w.heap.size + 2) Z4 137 := (hgrow2.block (w.heap.size + 2) (Nat.lt_of_succ_lt l3.out) (by simp [Value.ownBlock]; omega)).trans HZ4.out; have v0 := V5.cell 0; have v1 := V5.cell 1; have v2 := V5.cell 2; have v3 := V5.cell 3; have v4 := V5.frozen 3)))
  have hs3 := l3.out
  have hg2 : g2 ≠ w.heap.size + 3 ∧ w.heap.size + 2 < g2 := by
    rcases hat2 with e | e
    · have : g1 = g2 := by simpa [Value.ownBlock] using e
      omega
    · have e' : g2 = w3.heap.size := by simpa [World.setCell] using e
      have hv3 := V3.lt
      omega
  have B5 : Below w.heap.size w w5 := HB4.out.trans ⟨hgrow2.os, hgrow2.tape, hgrow2.output, hgrow2.size, fun k hk => hgrow2.block k (Nat.lt_of_lt_of_le hk (HB4.out : Below _ _ _).size) (by simp [Value.ownBlock]; omega)⟩
  have hown2' : w5.ownsRow 0 137 4 (.slice (some ⟨g2, 0, none⟩) (Ma + Mb) cap2) (Ma + Mb) (csa ++ csb) := by simpa using hown2
  have HV6 : Hid _ := V5.set (i := 3) (.slice (some ⟨g2, 0, none⟩) (Ma + Mb) cap2)
  have HZ6 : Hid _ := Z5.other (a := ⟨w.heap.size + 3, 3, none⟩) (by simp) (.slice (some ⟨g2, 0, none⟩) (Ma + Mb) cap2)
  have HB6 : Hid _ := B5.setCell (p := ⟨w.heap.size + 3, 3, none⟩) (by show w.heap.size ≤ w.heap.size + 3; omega) (.slice (some ⟨g2, 0, none⟩) (Ma + Mb) cap2)
  have HO6 : Hid _ := own_set (b := w.heap.size + 3) (i := 3) (v := (.slice (some ⟨g2, 0, none⟩) (Ma + Mb) cap2)) hown2' (by omega)
  have hgz : w.heap.size + 2 < g2 ∧ g2 < w5.heap.size := ⟨by omega, hlt2⟩
  clear hown2 hgrow2 hat2 hown2'
  clear hown1 hgrow1 hat1
  refine (text_w (fun k => K k ∨ k = g2) _ z _ _ _ _ (HZ.out g2 cap2 _ HB6.out HO6.out) (fun k hk => hk.elim (fun hk => Nat.lt_of_lt_of_le (ks k hk) (HB6.out : Below _ _ _).size) (fun hk => by subst hk; simpa [World.setCell] using hgz.2)) hl).mono ?_
  rintro e w7 ⟨rfl, b7⟩
  have V7 := Blk.below HV6.out b7 (Blk.lt HV6.out)
  have Z7 := Blk.below HZ6.out b7 (Blk.lt HZ6.out)
  have v0 : w7.cell? ⟨w.heap.size + 3, 0, none⟩ = some (I tg) := V7.cell 0
  have v1 : w7.cell? ⟨w.heap.size + 3, 1, none⟩ = some (I (wrap64 (na + nb))) := V7.cell 1
  have v2 : w7.cell? ⟨w.heap.size + 3, 2, none⟩ = some (S (sa ++ sb)) := V7.cell 2
  have v3 : w7.cell? ⟨w.heap.size + 3, 3, none⟩ = some (.slice (some ⟨g2, 0, none⟩) (Ma + Mb) cap2) := V7.cell 3
  have z0 := Z7.frozen 0
  have z1 := Z7.frozen 1
  have z2 := Z7.frozen 2
  have z3 := Z7.frozen 3
  have y0 := Z7.cell 0
  have y1 := Z7.cell 1
  have y2 := Z7.cell 2
  have y3 := Z7.cell 3
  have B7 := HB6.out.trans (b7.mono (HB6.out : Below _ _ _).size)
  have hs7 := b7.size
  have Zf := (((Z7.set (i := 0) (I 0)).set (i := 1) (I 0)).set (i := 2) (S [])).set (i := 3) (.slice none 0 0)
  have Bf := (((B7.setCell (p := ⟨w.heap.size + 2, 0, none⟩) (by show w.heap.size ≤ w.heap.size + 2; omega) (I 0)).setCell (p := ⟨w.heap.size + 2, 1, none⟩) (by show w.heap.size ≤ w.heap.size + 2; omega) (I 0)).setCell (p := ⟨w.heap.size + 2, 2, none⟩) (by show w.heap.size ≤ w.heap.size + 2; omega) (S [])).setCell (p := ⟨w.heap.size + 2, 3, none⟩) (by show w.heap.size ≤ w.heap.size + 2; omega) (.slice none 0 0)
  have HZf : Hid _ := Zf
  have HBf : Hid _ := Bf
  clear Zf Bf b7 B7 V7 Z7 hs7
  generalize text z = tx at *
  go_wp2
  exact ret_row2 Try.results115 rfl rfl rfl (cs := Z4) HZf.out Try.underlying137 rfl (by kernel_rfl) ⟨rfl, HBf.out⟩
end Go.Proofs.Qxb6500470a
