import Derived.Test.Qxb6500470aKzb
import Derived.Deep.RegionHeld3
namespace Go.Proofs.Qxb6500470a
open Go.RowKit
theorem str_cut (p : List UInt8) (i : Nat) (c : UInt8) (r : List UInt8) (h : p.drop i = c :: r) : ∀ W, (Instr.slice 9 (S p) (some (.int .i64 (i : Int))) (some (.int .i64 ((i : Int) + (wdT c r : Nat)))) none).run Try.prog W = .ok (S (c :: tlT c r)) W := by
  intro W
  have h1 := wdT_pos c r
  have h2 := wdT_le c r
  obtain ⟨-, -, h3⟩ := dropG h
  have hz := str_size p
  rw [run_slice_string (P := Try.prog) W 9 (str p) .i64 .i64 (i : Int) ((i : Int) + (wdT c r : Nat)) Try.underlying9 (by omega) (by omega) (by omega)]
  rw [show ((i : Int)).toNat = i from by omega, show ((i : Int) + (wdT c r : Nat)).toNat = i + wdT c r from by omega]
  have e : (str p).extract i (i + wdT c r) = str (c :: tlT c r) := by
    apply ByteArray.ext
    rw [ByteArray.data_extract]
    show p.toArray.extract i (i + wdT c r) = (c :: tlT c r).toArray
    rw [List.extract_toArray, List.extract_eq_take_drop, h, show i + wdT c r - i = (wdT c r - 1) + 1 from by omega, List.take_succ_cons]
    rfl
  rw [e]
set_option maxRecDepth 100000 in
set_option maxHeartbeats 8000000 in
theorem kept_longt {L : Nat → Prop} {w : World} {m1 p1 m2 p2 p3 : Nat} {acc : Int} {st : List TV} (h : XYZ L w m1 p1 m2 p2 p3 acc st acc st st) (p : List UInt8) (hp : 24 < p.length) (hp63 : p.length < 9223372036854775808) :
    Calls Try.prog 49 #[ptr m1, ptr m2, yv p2, yv p3, I acc, S p, .bool true] w (KP L w m1 p1 m2 p2 p3 acc st) := by
  obtain ⟨L', H⟩ := HX.start h
  have hz := str_size p
  have hR : runAllT p acc st = (0, 1, acc, st) := by unfold runAllT; rw [if_pos hp]
  have q1 : (24 : Int) < (p.length : Int) := by omega
  have q2 : (24 : Int) < ((str p).size : Int) := by omega
  unfold yv
  go_enter Try.func49, Try.ntmps49
  go_wp2_with fail
  refine (hx_run H p hp63 _ hR).mono ?_
  rintro e w1 ⟨rfl, H1⟩
  go_wp2
  go_ret2
  exact ⟨rfl, H1.done.1, H1.done.2⟩
set_option maxRecDepth 100000 in
set_option maxHeartbeats 8000000 in
theorem kept_longf {L : Nat → Prop} {w : World} {m1 p1 m2 p2 p3 : Nat} {acc : Int} {st : List TV} (h : XYZ L w m1 p1 m2 p2 p3 acc st acc st st) (p : List UInt8) (hp : 24 < p.length) (hp63 : p.length < 9223372036854775808) :
    Calls Try.prog 49 #[ptr m1, ptr m2, yv p2, yv p3, I acc, S p, .bool false] w (KP L w m1 p1 m2 p2 p3 acc st) := by
  obtain ⟨L', H⟩ := HX.start h
  have hz := str_size p
  have hR : runAllT p acc st = (0, 1, acc, st) := by unfold runAllT; rw [if_pos hp]
  have q1 : (24 : Int) < (p.length : Int) := by omega
  have q2 : (24 : Int) < ((str p).size : Int) := by omega
  unfold yv
  go_enter Try.func49, Try.ntmps49
  go_wp2_with fail
  refine (hx_run H p hp63 _ hR).mono ?_
  rintro e w1 ⟨rfl, H1⟩
  go_wp2_with fail
  refine (hx_showX H1).mono ?_
  rintro e w2 ⟨rfl, H2⟩
  go_wp2_with fail
  refine (hx_showY H2).mono ?_
  rintro e w3 ⟨rfl, H3⟩
  go_wp2
  go_ret2
  exact ⟨rfl, H3.done.1, H3.done.2⟩
end Go.Proofs.Qxb6500470a
