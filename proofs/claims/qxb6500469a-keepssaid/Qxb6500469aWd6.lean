import Derived.Test.Qxb6500469aWd5a
import Derived.Test.Qxb6500469aWd5b
import Derived.Test.Qxb6500469aWd5c
namespace Go.Proofs.Qxb6500469a
open Go.RowKit

def calcP (r op v a p q : Int) : Int × Int × Int × Int :=
  if r < 0 ∨ 3 ≤ r then (2, a, p, q) else if op < 1 ∨ 8 < op then (4, a, p, q)
  else if r = 0 then (if t8 v = 0 ∧ (op = 5 ∨ op = 6) then (5, a, p, q) else (0, t8 (rawC op a (t8 v) (-128) 127), p, q))
  else if r = 1 then (if t16 v = 0 ∧ (op = 5 ∨ op = 6) then (5, a, p, q) else (0, a, t16 (rawC op p (t16 v) (-32768) 32767), q))
  else (if tU v = 0 ∧ (op = 5 ∨ op = 6) then (5, a, p, q) else (0, a, p, tU (rawC op q (tU v) 0 65535)))
set_option maxHeartbeats 4000000 in
theorem calc_any (w : World) (b u : Nat) (a p q : Int) (h : BdR w b u a p q) (r op v E a' p' q' : Int) (HR : Hid (calcP r op v a p q = (E, a', p', q'))) :
    Calls Try.prog 41 #[ptr b, I r, I op, I v] w fun e w' => e = .returned (I E) ∧ BdR w' b u a' p' q' ∧ Upd [b] w w' := by
  have hr := HR.out
  unfold calcP at hr
  clear HR
  by_cases r1 : r < 0
  · rw [if_pos (.inl r1)] at hr
    obtain ⟨rfl, rfl, rfl, rfl⟩ : 2 = E ∧ a = a' ∧ p = p' ∧ q = q' := by simpa using hr
    clear hr
    go_enter Try.func41, Try.ntmps41
    go_wp2
    go_ret
    exact ⟨rfl, h, Upd.refl _ _⟩
  by_cases r2 : 3 ≤ r
  · rw [if_pos (.inr r2)] at hr
    obtain ⟨rfl, rfl, rfl, rfl⟩ : 2 = E ∧ a = a' ∧ p = p' ∧ q = q' := by simpa using hr
    clear hr
    go_enter Try.func41, Try.ntmps41
    go_wp2
    go_ret
    exact ⟨rfl, h, Upd.refl _ _⟩
  rw [if_neg (by omega)] at hr
  by_cases o1 : op < 1
  · rw [if_pos (.inl o1)] at hr
    obtain ⟨rfl, rfl, rfl, rfl⟩ : 4 = E ∧ a = a' ∧ p = p' ∧ q = q' := by simpa using hr
    clear hr
    go_enter Try.func41, Try.ntmps41
    go_wp2
    go_ret
    exact ⟨rfl, h, Upd.refl _ _⟩
  by_cases o2 : 8 < op
  · rw [if_pos (.inr o2)] at hr
    obtain ⟨rfl, rfl, rfl, rfl⟩ : 4 = E ∧ a = a' ∧ p = p' ∧ q = q' := by simpa using hr
    clear hr
    go_enter Try.func41, Try.ntmps41
    go_wp2
    go_ret
    exact ⟨rfl, h, Upd.refl _ _⟩
  rw [if_neg (by omega)] at hr
  have hop1 : 1 ≤ op := by omega
  have hop8 : op ≤ 8 := by omega
  have hr3 : r = 0 ∨ r = 1 ∨ r = 2 := by omega
  clear r1 r2
  rcases hr3 with rfl | rfl | rfl
  · rw [if_pos rfl] at hr
    have hk := k8 v
    by_cases hz : t8 v = 0 ∧ (op = 5 ∨ op = 6)
    · rw [if_pos hz] at hr
      obtain ⟨rfl, rfl, rfl, rfl⟩ : 5 = E ∧ a = a' ∧ p = p' ∧ q = q' := by simpa using hr
      rw [hz.1] at hk
      have hC := calc8_no w b op hz.2
      clear hr hz
      go_enter Try.func41, Try.ntmps41
      go_wp2_with fail
      refine hC.mono ?_
      rintro e w1 ⟨rfl, rfl⟩
      go_wp2
      go_ret
      exact ⟨rfl, h, Upd.refl _ _⟩
    · rw [if_neg hz] at hr
      obtain ⟨rfl, rfl, rfl, rfl⟩ : 0 = E ∧ t8 (rawC op a (t8 v) (-128) 127) = a' ∧ p = p' ∧ q = q' := by simpa using hr
      have hC := calc8_any w b u a p q h op hop1 hop8 (t8 v) (t8_in v) hz
      clear hr hz
      generalize t8 v = z at *
      generalize t8 (rawC op a z (-128) 127) = y at *
      go_enter Try.func41, Try.ntmps41
      go_wp2_with fail
      refine hC.mono ?_
      rintro e w1 ⟨rfl, hb, hu⟩
      go_wp2
      go_ret
      exact ⟨rfl, hb, hu⟩
  · rw [if_neg (by decide), if_pos rfl] at hr
    have hk := k16 v
    by_cases hz : t16 v = 0 ∧ (op = 5 ∨ op = 6)
    · rw [if_pos hz] at hr
      obtain ⟨rfl, rfl, rfl, rfl⟩ : 5 = E ∧ a = a' ∧ p = p' ∧ q = q' := by simpa using hr
      rw [hz.1] at hk
      have hC := calc16_no w b op hz.2
      clear hr hz
      go_enter Try.func41, Try.ntmps41
      go_wp2_with fail
      refine hC.mono ?_
      rintro e w1 ⟨rfl, rfl⟩
      go_wp2
      go_ret
      exact ⟨rfl, h, Upd.refl _ _⟩
    · rw [if_neg hz] at hr
      obtain ⟨rfl, rfl, rfl, rfl⟩ : 0 = E ∧ a = a' ∧ t16 (rawC op p (t16 v) (-32768) 32767) = p' ∧ q = q' := by simpa using hr
      have hC := calc16_any w b u a p q h op hop1 hop8 (t16 v) (t16_in v) hz
      clear hr hz
      generalize t16 v = z at *
      generalize t16 (rawC op p z (-32768) 32767) = y at *
      go_enter Try.func41, Try.ntmps41
      go_wp2_with fail
      refine hC.mono ?_
      rintro e w1 ⟨rfl, hb, hu⟩
      go_wp2
      go_ret
      exact ⟨rfl, hb, hu⟩
  · rw [if_neg (by decide), if_neg (by decide)] at hr
    have hk := kU v
    by_cases hz : tU v = 0 ∧ (op = 5 ∨ op = 6)
    · rw [if_pos hz] at hr
      obtain ⟨rfl, rfl, rfl, rfl⟩ : 5 = E ∧ a = a' ∧ p = p' ∧ q = q' := by simpa using hr
      rw [hz.1] at hk
      have hC := calcU16_no w b op hz.2
      clear hr hz
      go_enter Try.func41, Try.ntmps41
      go_wp2_with fail
      refine hC.mono ?_
      rintro e w1 ⟨rfl, rfl⟩
      go_wp2
      go_ret
      exact ⟨rfl, h, Upd.refl _ _⟩
    · rw [if_neg hz] at hr
      obtain ⟨rfl, rfl, rfl, rfl⟩ : 0 = E ∧ a = a' ∧ p = p' ∧ tU (rawC op q (tU v) 0 65535) = q' := by simpa using hr
      have hC := calcU16_any w b u a p q h op hop1 hop8 (tU v) (tU_in v) hz
      clear hr hz
      generalize tU v = z at *
      generalize tU (rawC op q z 0 65535) = y at *
      go_enter Try.func41, Try.ntmps41
      go_wp2_with fail
      refine hC.mono ?_
      rintro e w1 ⟨rfl, hb, hu⟩
      go_wp2
      go_ret
      exact ⟨rfl, hb, hu⟩
def moveP (f t a p q : Int) : Int × Int × Int × Int :=
  if f < 0 ∨ 3 ≤ f ∨ t < 0 ∨ 3 ≤ t then (2, a, p, q)
  else (0, (if t = 0 then t8 (regAt f a p q) else a), (if t = 1 then t16 (regAt f a p q) else p), (if t = 2 then tU (regAt f a p q) else q))
set_option maxHeartbeats 4000000 in
theorem move_any (w : World) (b u : Nat) (a p q : Int) (h : BdR w b u a p q) (f t E a' p' q' : Int) (HR : Hid (moveP f t a p q = (E, a', p', q'))) :
    Calls Try.prog 42 #[ptr b, I f, I t] w fun e w' => e = .returned (I E) ∧ BdR w' b u a' p' q' ∧ Upd [b] w w' := by
  have hr := HR.out
  unfold moveP at hr
  clear HR
  obtain ⟨c0, c1, c2, c3⟩ := h.cells
  have fz := h.head.frozen
  have hB := h
  clear h
  by_cases c9 : f < 0
  · rw [if_pos (.inl c9)] at hr
    obtain ⟨rfl, rfl, rfl, rfl⟩ : 2 = E ∧ a = a' ∧ p = p' ∧ q = q' := by simpa using hr
    clear hr
    go_enter Try.func42, Try.ntmps42
    go_wp2
    go_ret
    exact ⟨rfl, hB, Upd.refl _ _⟩
  rename ¬ f < 0 => n1
  by_cases c9 : 3 ≤ f
  · rw [if_pos (.inr (.inl c9))] at hr
    obtain ⟨rfl, rfl, rfl, rfl⟩ : 2 = E ∧ a = a' ∧ p = p' ∧ q = q' := by simpa using hr
    clear hr
    go_enter Try.func42, Try.ntmps42
    go_wp2
    go_ret
    exact ⟨rfl, hB, Upd.refl _ _⟩
  rename ¬ 3 ≤ f => n2
  by_cases c9 : t < 0
  · rw [if_pos (.inr (.inr (.inl c9)))] at hr
    obtain ⟨rfl, rfl, rfl, rfl⟩ : 2 = E ∧ a = a' ∧ p = p' ∧ q = q' := by simpa using hr
    clear hr
    go_enter Try.func42, Try.ntmps42
    go_wp2
    go_ret
    exact ⟨rfl, hB, Upd.refl _ _⟩
  rename ¬ t < 0 => n3
  by_cases c9 : 3 ≤ t
  · rw [if_pos (.inr (.inr (.inr c9)))] at hr
    obtain ⟨rfl, rfl, rfl, rfl⟩ : 2 = E ∧ a = a' ∧ p = p' ∧ q = q' := by simpa using hr
    clear hr
    go_enter Try.func42, Try.ntmps42
    go_wp2
    go_ret
    exact ⟨rfl, hB, Upd.refl _ _⟩
  rw [if_neg (by omega)] at hr
  have hf : f = 0 ∨ f = 1 ∨ f = 2 := by omega
  have ht : t = 0 ∨ t = 1 ∨ t = 2 := by omega
  clear n1 n2 n3 c9
  rcases hf with rfl | rfl | rfl
  · rcases ht with rfl | rfl | rfl
    · obtain ⟨rfl, rfl, rfl, rfl⟩ : 0 = E ∧ t8 a = a' ∧ p = p' ∧ q = q' := by simpa [regAt] using hr
      clear hr
      rw [t8_id _ hB.ha]
      go_enter Try.func42, Try.ntmps42
      go_wp2
      go_ret
      exact ⟨rfl, hB, Upd.refl _ _⟩
    · obtain ⟨rfl, rfl, rfl, rfl⟩ : 0 = E ∧ a = a' ∧ t16 a = p' ∧ q = q' := by simpa [regAt] using hr
      clear hr
      have hk := k16 a
      have HB : Hid (BdR _ b u (a) (t16 a) (q) ∧ Upd [b] w _) := ⟨hB.set2 (t16 a) (t16_in _), (Upd.refl [b] w).setCell (p := ⟨b, 2, none⟩) (by simp) (.int .i16 (t16 a))⟩
      generalize t16 a = y at *
      clear hB
      go_enter Try.func42, Try.ntmps42
      go_wp2
      go_ret
      exact ⟨rfl, HB.out⟩
    · obtain ⟨rfl, rfl, rfl, rfl⟩ : 0 = E ∧ a = a' ∧ p = p' ∧ tU a = q' := by simpa [regAt] using hr
      clear hr
      have hk := kU a
      have HB : Hid (BdR _ b u (a) (p) (tU a) ∧ Upd [b] w _) := ⟨hB.set3 (tU a) (tU_in _), (Upd.refl [b] w).setCell (p := ⟨b, 3, none⟩) (by simp) (.int .u16 (tU a))⟩
      generalize tU a = y at *
      clear hB
      go_enter Try.func42, Try.ntmps42
      go_wp2
      go_ret
      exact ⟨rfl, HB.out⟩
  · rcases ht with rfl | rfl | rfl
    · obtain ⟨rfl, rfl, rfl, rfl⟩ : 0 = E ∧ t8 p = a' ∧ p = p' ∧ q = q' := by simpa [regAt] using hr
      clear hr
      have hk := k8 p
      have HB : Hid (BdR _ b u (t8 p) (p) (q) ∧ Upd [b] w _) := ⟨hB.set1 (t8 p) (t8_in _), (Upd.refl [b] w).setCell (p := ⟨b, 1, none⟩) (by simp) (.int .i8 (t8 p))⟩
      generalize t8 p = y at *
      clear hB
      go_enter Try.func42, Try.ntmps42
      go_wp2
      go_ret
      exact ⟨rfl, HB.out⟩
    · obtain ⟨rfl, rfl, rfl, rfl⟩ : 0 = E ∧ a = a' ∧ t16 p = p' ∧ q = q' := by simpa [regAt] using hr
      clear hr
      rw [t16_id _ hB.hp]
      go_enter Try.func42, Try.ntmps42
      go_wp2
      go_ret
      exact ⟨rfl, hB, Upd.refl _ _⟩
    · obtain ⟨rfl, rfl, rfl, rfl⟩ : 0 = E ∧ a = a' ∧ p = p' ∧ tU p = q' := by simpa [regAt] using hr
      clear hr
      have hk := kU p
      have HB : Hid (BdR _ b u (a) (p) (tU p) ∧ Upd [b] w _) := ⟨hB.set3 (tU p) (tU_in _), (Upd.refl [b] w).setCell (p := ⟨b, 3, none⟩) (by simp) (.int .u16 (tU p))⟩
      generalize tU p = y at *
      clear hB
      go_enter Try.func42, Try.ntmps42
      go_wp2
      go_ret
      exact ⟨rfl, HB.out⟩
  · rcases ht with rfl | rfl | rfl
    · obtain ⟨rfl, rfl, rfl, rfl⟩ : 0 = E ∧ t8 q = a' ∧ p = p' ∧ q = q' := by simpa [regAt] using hr
      clear hr
      have hk := k8 q
      have HB : Hid (BdR _ b u (t8 q) (p) (q) ∧ Upd [b] w _) := ⟨hB.set1 (t8 q) (t8_in _), (Upd.refl [b] w).setCell (p := ⟨b, 1, none⟩) (by simp) (.int .i8 (t8 q))⟩
      generalize t8 q = y at *
      clear hB
      go_enter Try.func42, Try.ntmps42
      go_wp2
      go_ret
      exact ⟨rfl, HB.out⟩
    · obtain ⟨rfl, rfl, rfl, rfl⟩ : 0 = E ∧ a = a' ∧ t16 q = p' ∧ q = q' := by simpa [regAt] using hr
      clear hr
      have hk := k16 q
      have HB : Hid (BdR _ b u (a) (t16 q) (q) ∧ Upd [b] w _) := ⟨hB.set2 (t16 q) (t16_in _), (Upd.refl [b] w).setCell (p := ⟨b, 2, none⟩) (by simp) (.int .i16 (t16 q))⟩
      generalize t16 q = y at *
      clear hB
      go_enter Try.func42, Try.ntmps42
      go_wp2
      go_ret
      exact ⟨rfl, HB.out⟩
    · obtain ⟨rfl, rfl, rfl, rfl⟩ : 0 = E ∧ a = a' ∧ p = p' ∧ tU q = q' := by simpa [regAt] using hr
      clear hr
      rw [tU_id _ hB.hq]
      go_enter Try.func42, Try.ntmps42
      go_wp2
      go_ret
      exact ⟨rfl, hB, Upd.refl _ _⟩
end Go.Proofs.Qxb6500469a
