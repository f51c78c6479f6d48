import Derived.Test.Qxb6500468aPk11
namespace Go.Proofs.Qxb6500468a
open Go.RowKit

theorem do_any (w : World) (x bw ub u : Nat) (ws : List Nat) (h : StoR w x bw ub u ws) (b off : Nat) (k d l f s : Int) (img : List UInt8) (hd : DeskR w b off k d l f s img) (K A B C : Int) (S1 : List UInt8) (t : ByteArray) :
    Calls Try.prog 29 #[ptr x, .pointer (some ⟨b, off, none⟩), OpV K A B C (str S1) t] w fun e w' => e = .returned (AnsV (doP K A B S1 img k d l f s u ws).1.1 (doP K A B S1 img k d l f s u ws).1.2.1 (doP K A B S1 img k d l f s u ws).1.2.2) ∧ StoR w' x bw ub (doP K A B S1 img k d l f s u ws).2.1 (doP K A B S1 img k d l f s u ws).2.2 ∧ Upd [bw, ub] w w' := by
  have low : ∀ (g : Nat) (args : Array Value) (V : Value), (∀ v, StoR v x bw ub u ws → Calls Try.prog g args v fun e w' => e = .returned V ∧ Below v.heap.size v w') → ∀ v, StoR v x bw ub u ws → Calls Try.prog g args v fun e w' => e = .returned V ∧ StoR w' x bw ub u ws ∧ Upd [bw, ub] v w' := by
    intro g args V hg v hv
    refine (hg v hv).mono ?_
    rintro e w' ⟨rfl, b'⟩
    exact ⟨rfl, hv.later b', Upd.of_below b'⟩
  unfold doP
  by_cases k4 : K = 4
  · subst k4
    rw [if_pos rfl]
    exact do_4 w x bw ub u ws h b off k d l f s img hd A B C S1 t _ _ _ _ (fun v hv => by
      obtain ⟨r, hr, hC⟩ := putAll v x bw ub u ws hv k d l f s
      rw [hr] at hC
      exact hC)
  rw [if_neg k4]
  by_cases k5 : K = 5
  · subst k5
    rw [if_pos rfl]
    exact do_5 w x bw ub u ws h b off k d l f s img hd A B C S1 t _ _ _ _ (low _ _ _ (fun v hv => get_any v x bw ub u ws hv A))
  rw [if_neg k5]
  by_cases k6 : K = 6
  · subst k6
    rw [if_pos rfl]
    exact do_6 w x bw ub u ws h b off k d l f s img hd A B C S1 t _ _ _ (fun v hv => drop_any v x bw ub u ws hv A)
  rw [if_neg k6]
  by_cases k7 : K = 7
  · subst k7
    rw [if_pos rfl]
    exact do_7 w x bw ub u ws h b off k d l f s img hd A B C S1 t _ _ _ (fun v hv => sBump_any v x bw ub u ws hv A B)
  rw [if_neg k7]
  by_cases k8 : K = 8
  · subst k8
    rw [if_pos rfl]
    refine do_8 w x bw ub u ws h b off k d l f s img hd A B C S1 t _ _ _ (fun v hv => (len_any v x bw ub u ws hv).mono ?_)
    rintro e w' ⟨rfl, rfl⟩
    exact ⟨rfl, hv, Upd.refl _ _⟩
  rw [if_neg k8]
  by_cases k9 : K = 9
  · subst k9
    rw [if_pos rfl]
    exact do_9 w x bw ub u ws h b off k d l f s img hd A B C S1 t _ _ _ (low _ _ _ (fun v hv => export_any v x bw ub u ws hv))
  rw [if_neg k9]
  by_cases k10 : K = 10
  · subst k10
    rw [if_pos rfl]
    exact do_10 w x bw ub u ws h b off k d l f s img hd A B C S1 t _ _ _ (fun v hv => by
      obtain ⟨r, hr, hC⟩ := importAll v x bw ub u ws hv S1
      rw [hr] at hC
      exact hC)
  rw [if_neg k10]
  by_cases k11 : K = 11
  · subst k11
    rw [if_pos rfl]
    exact do_11 w x bw ub u ws h b off k d l f s img hd A B C S1 t _ _ _ (fun v hv => by
      obtain ⟨r, hr, hC⟩ := importAll v x bw ub u ws hv img
      rw [hr] at hC
      exact hC)
  rw [if_neg k11]
  by_cases k14 : K = 14
  · subst k14
    rw [if_pos rfl]
    exact do_14 w x bw ub u ws h b off k d l f s img hd A B C S1 t _ _ _ (low _ _ _ (fun v hv => show_any v x bw ub u ws hv))
  rw [if_neg k14]
  by_cases k15 : K = 15
  · subst k15
    rw [if_pos rfl]
    exact do_15 w x bw ub u ws h b off k d l f s img hd A B C S1 t _ _ (low _ _ _ (fun v hv => check_any v x bw ub u ws hv))
  rw [if_neg k15]
  exact do_o w x bw ub u ws h b off K A B C S1 t k4 k5 k6 k7 k8 k9 k10 k11 k14 k15

/-! ### the headers' arithmetic, typed anew -/
theorem tmod_cases (v n : Int) : (0 ≤ v ∧ v.tmod n = v % n) ∨ (v < 0 ∧ v.tmod n = -((-v) % n)) := by
  by_cases h : 0 ≤ v
  · exact .inl ⟨h, Int.tmod_eq_emod_of_nonneg h⟩
  · refine .inr ⟨by omega, ?_⟩
    have e : v.tmod n = (-(-v)).tmod n := by rw [Int.neg_neg]
    rw [e, Int.neg_tmod, Int.tmod_eq_emod_of_nonneg (by omega)]
set_option maxHeartbeats 1000000 in
theorem into16 (v : Int) (w : World) : Calls Try.prog 74 #[I v, I (-32768), I 32767] w fun e w' => e = .returned (I (w16 v)) ∧ w' = w := by
  obtain ⟨r, hr⟩ : ∃ r, r = v.tmod 65536 := ⟨_, rfl⟩
  have hc := tmod_cases v 65536
  rw [← hr] at hc
  have hr1 : -65535 ≤ r ∧ r ≤ 65535 := by omega
  have hr2 : w16 v = (if r < -32768 then r + 65536 else if 32767 < r then r - 65536 else r) := by
    unfold w16
    split
    · omega
    · split <;> omega
  rw [hr2]
  have e1 : v.tmod 65536 = r := hr.symm
  by_cases h1 : r < -32768
  · rw [if_pos h1]
    have w1 := wr64 (r + 65536) (by omega) (by omega)
    have h2 : ¬ (32767 : Int) < r + 65536 := by omega
    clear hr hr2 hc
    go_enter Try.func74, Try.ntmps74
    go_wp2
    go_ret
    exact ⟨rfl, rfl⟩
  · rw [if_neg h1]
    by_cases h2 : 32767 < r
    · rw [if_pos h2]
      have w1 := wr64 (r - 65536) (by omega) (by omega)
      clear hr hr2 hc
      go_enter Try.func74, Try.ntmps74
      go_wp2
      go_ret
      exact ⟨rfl, rfl⟩
    · rw [if_neg h2]
      clear hr hr2 hc
      go_enter Try.func74, Try.ntmps74
      go_wp2
      go_ret
      exact ⟨rfl, rfl⟩
theorem bump_un (n : Nat) (d : Int) : UnV (bumpN n d) = HdV (unK n) (w16 (unD n + w16 d)) (if unL n < 65535 then unL n + 1 else unL n) (if unF n % 2 = 0 then unF n + 1 else unF n - 1) (if 2047 < unS n + 1 then 0 else unS n + 1) := by
  obtain ⟨g0, g1, g2, g3, g4, g5, g6, g7, g8, g9⟩ := un_good n
  have hg : goodH (unK n) (w16 (unD n + w16 d)) (if unL n < 65535 then unL n + 1 else unL n) (if unF n % 2 = 0 then unF n + 1 else unF n - 1) ((unS n + 1) % 2048) := by
    generalize unD n + w16 d = z
    generalize unL n = l at *
    generalize unF n = f at *
    generalize unS n = s at *
    refine ⟨g0, g1, ?_, ?_, ?_, ?_, ?_, ?_, ?_, ?_⟩
    · unfold w16; omega
    · unfold w16; omega
    · split <;> omega
    · split <;> omega
    · split <;> omega
    · split <;> omega
    · omega
    · omega
  obtain ⟨u0, u1, u2, u3, u4⟩ := un_pack _ _ _ _ _ hg
  have hs2 : (unS n + 1) % 2048 = if 2047 < unS n + 1 then 0 else unS n + 1 := by
    generalize unS n = s at *
    split <;> omega
  unfold UnV bumpN
  rw [u0, u1, u2, u3, u4, hs2]
end Go.Proofs.Qxb6500468a
