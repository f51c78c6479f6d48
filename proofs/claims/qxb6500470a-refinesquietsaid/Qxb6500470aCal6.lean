import Derived.Test.Qxb6500470aCal5
namespace Go.Proofs.Qxb6500470a
open Go.RowKit

/-- A value of the edges: an Int, a Str, the empty list. -/
abbrev V : Type := Option (Int ⊕ List UInt8)
def vOf : V → Value
  | some (.inl n) => VI n
  | some (.inr s) => VS s
  | none => VL
def okV : V → Prop
  | some (.inl n) => -9223372036854775808 ≤ n ∧ n ≤ 9223372036854775807
  | some (.inr s) => s.length ≤ 6
  | none => True
def vtext : V → List UInt8
  | some (.inl n) => itoa n
  | some (.inr s) => itoa s.length ++ [58] ++ s
  | none => [91, 93]
theorem vtext_len (v : V) (h : okV v) : (vtext v).length ≤ 30 := by
  rcases v with _ | n | s
  · decide
  · have := itoa_len n h.1 h.2
    show (itoa n).length ≤ 30
    omega
  · have h' : s.length ≤ 6 := h
    have := itoa_len (s.length : Nat) (by omega) (by omega)
    show (itoa s.length ++ [58] ++ s).length ≤ 30
    simp only [List.length_append, List.length_singleton]
    omega
def stPre (l : List V) (k : Nat) : List UInt8 := itoa (l.length : Nat) ++ (l.take k).flatMap fun v => 32 :: vtext v
theorem stPre_succ (l : List V) (k : Nat) (h : k < l.length) : stPre l (k + 1) = stPre l k ++ ([32] ++ vtext (l[k])) := by
  unfold stPre
  rw [List.take_succ_eq_append_getElem h, List.flatMap_append]
  simp
theorem flat_len (l : List V) (h : ∀ v ∈ l, okV v) : (l.flatMap fun v => 32 :: vtext v).length ≤ 31 * l.length := by
  induction l with
  | nil => simp
  | cons a l ih =>
    have := vtext_len a (h a (by simp))
    have := ih (fun v hv => h v (by simp [hv]))
    simp only [List.flatMap_cons, List.length_append, List.length_cons]
    omega
theorem stPre_len (l : List V) (k : Nat) (h : ∀ v ∈ l, okV v) (h5 : l.length ≤ 5) : (str (stPre l k)).size ≤ 200 := by
  rw [str_size]
  unfold stPre
  have h1 := itoa_len (l.length : Nat) (by omega) (by omega)
  have h2 := flat_len (l.take k) (fun v hv => h v (List.mem_of_mem_take hv))
  have h3 : (l.take k).length ≤ 5 := by rw [List.length_take]; omega
  simp only [List.length_append]
  omega

set_option maxRecDepth 100000 in
set_option maxHeartbeats 2000000 in
theorem stShow (K : Nat → Prop) (w : World) (p : Nat) (l : List V) (ok : ∀ v ∈ l, okV v) (h : StR K w p (l.map vOf)) :
    Calls Try.prog 47 #[ptr p] w fun e w' => e = .returned (S (stPre l l.length)) ∧ Below w.heap.size w w' := by
  obtain ⟨a, cap, hA⟩ := h
  have h5 := hA.le
  obtain ⟨c0, c1, f0, f1, lp⟩ := hA.at0
  rw [List.length_map] at c0 h5
  have HA : Hid _ := hA
  clear hA
  have hit := itoa_any (l.length : Nat) (by omega) (by omega) w
  go_enter Try.func47, Try.ntmps47
  go_wp2_with fail
  refine hit.mono ?_
  rintro e w1 ⟨rfl, b1⟩
  have d0 := (b1.cell (p := ⟨p, 0, none⟩) lp).trans c0
  clear c0 c1 f0 f1 hit
  go_wp2
  go_loopw [3, 18] (fun t i wr => ∃ k : Nat, k ≤ l.length ∧ t = S (stPre l k) ∧ i = I (k : Int) ∧ Below w.heap.size w wr) (fun _ i _ => (l.length - intOf i).toNat)
  case atStart => exact ⟨0, by omega, by simp [stPre], rfl, b1⟩
  case round =>
    clear d0 b1
    obtain ⟨k, hk, rfl, rfl, br⟩ := hrel
    have hpl := stPre_len l k ok h5
    by_cases hlt : k < l.length
    · have hkl : (k : Int) < (l.length : Int) := by omega
      obtain ⟨g, rfl, hg, hle, -, lg⟩ := HA.out.form (by rw [List.length_map]; omega)
      have cg := (br.cell (p := ⟨g, k, none⟩) lg).trans (hg k (by rw [List.length_map]; exact hlt))
      have e0 : (l.map vOf).getD k .nilIface = vOf l[k] := by rw [List.getD_eq_getElem?_getD, List.getElem?_map, List.getElem?_eq_getElem hlt]; rfl
      rw [e0] at cg
      clear hg e0
      have okk := ok l[k] (List.getElem_mem hlt)
      have hs := stPre_succ l k hlt
      have HS : Hid _ := hs
      clear hs
      have hvl := vtext_len _ okk
      rw [← str_size] at hvl
      generalize l[k] = v at *
      rcases v with _ | n | s
      · have hm := mShowL none
        rw [show vOf none = VL from rfl] at cg
        rw [show vtext none = [91, 93] from rfl] at hvl HS
        go_wp2_with fail
        refine (nilShow wr).mono ?_
        rintro e w2 ⟨rfl, rfl⟩
        clear cg
        go_wp2
        go_roundw
        case rel =>
          refine ⟨k + 1, by omega, ?_, by go_num, br⟩
          show Value.string (str (stPre l k) ++ (str [32] ++ str [91, 93])) = _
          rw [str_append, str_append, HS.out]
        case measure => simp [intOf]; omega
      · have hm := mShowI n
        rw [show vOf (some (.inl n)) = VI n from rfl] at cg
        rw [show vtext (some (.inl n)) = itoa n from rfl] at hvl HS
        go_wp2_with fail
        refine (intShow n okk.1 okk.2 wr).mono ?_
        rintro e w2 ⟨rfl, b2⟩
        clear cg
        go_wp2
        go_roundw
        case rel =>
          refine ⟨k + 1, by omega, ?_, by go_num, br.trans (b2.mono br.size)⟩
          show Value.string (str (stPre l k) ++ (str [32] ++ str (itoa n))) = _
          rw [str_append, str_append, HS.out]
        case measure => simp [intOf]; omega
      · have hm := mShowS (str s)
        have ok6 : s.length ≤ 6 := okk
        rw [show vOf (some (.inr s)) = VS s from rfl] at cg
        rw [show vtext (some (.inr s)) = itoa s.length ++ [58] ++ s from rfl] at hvl HS
        have hSh := strShow s (by omega) wr
        generalize itoa s.length ++ [58] ++ s = x at *
        go_wp2_with fail
        refine hSh.mono ?_
        rintro e w2 ⟨rfl, b2⟩
        clear cg
        go_wp2
        go_roundw
        case rel =>
          refine ⟨k + 1, by omega, ?_, by go_num, br.trans (b2.mono br.size)⟩
          show Value.string (str (stPre l k) ++ (str [32] ++ str x)) = _
          rw [str_append, str_append, HS.out]
        case measure => simp [intOf]; omega
    · obtain rfl : k = l.length := by omega
      go_wp2
      go_ret
      exact ⟨rfl, br⟩
end Go.Proofs.Qxb6500470a
