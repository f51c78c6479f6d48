import Derived.Test.Qxb6500470aVm6
import Derived.Deep.RegionWith
namespace Go.Proofs.Qxb6500470a
open Go.RowKit
/-- A new row of values. -/
theorem RowK.new {K : Nat → Prop} {W : World} {g n : Nat} {cur : Array Value} (hb : Blk W g cur 137) (hs : cur.size = n * 4) (hn : n ≤ 1000) (kg : K g) : RowK K W (.slice (some ⟨g, 0, none⟩) n n) n cur.toList := by
  refine ⟨⟨by simpa using hs, .inr ⟨g, n, cur, rfl, Nat.zero_le _, hb, Nat.le_refl _, by unfold maxLen; omega, hs, ?_⟩⟩, fun g' hg' => ?_⟩
  · exact List.take_of_length_le (by simp [hs])
  · obtain rfl : g = g' := by simpa [Value.ownBlock] using hg'
    exact kg
theorem mPair {K : Nat → Prop} {W : World} {g : Nat} {a b : TV} {a0 a1 a2 a3 b0 b1 b2 b3 : Value} (ha : MR K W a a0 a1 a2 a3) (hb : MR K W b b0 b1 b2 b3) (hB : Blk W g #[a0, a1, a2, a3, b0, b1, b2, b3] 137) (kg : K g) :
    MR K W (.pair a b) (I 4) (I 0) (S []) (.slice (some ⟨g, 0, none⟩) 2 2) :=
  ⟨rfl, rfl, rfl, a0, a1, a2, a3, b0, b1, b2, b3, ha, hb, RowK.new (n := 2) hB rfl (by decide) kg⟩
theorem pair_len (a b : TV) (ha : (text a).length ≤ 30) (hb : (text b).length ≤ 30) : (text (.pair a b)).length ≤ 1000 := by rw [text_pair]; simp; omega
/-- put of a new pair whose halves lie in block g. -/
theorem put_pair (K : Nat → Prop) (w W : World) (p d g : Nat) (st : List TV) (h : MT K w p st) (hd : d ≤ st.length) (a b : TV) (a0 a1 a2 a3 b0 b1 b2 b3 : Value) (ha : MR K w a a0 a1 a2 a3) (hb : MR K w b b0 b1 b2 b3) (la : (text a).length ≤ 30) (lb : (text b).length ≤ 30) (B : Below w.heap.size w W) (hg : w.heap.size ≤ g) (hB : Blk W g #[a0, a1, a2, a3, b0, b1, b2, b3] 137) :
    Calls Try.prog 114 #[ptr p, I d, .agg #[I 4, I 0, S [], .slice (some ⟨g, 0, none⟩) 2 2]] W (fun e w' => e = .returned (I (wPutM d (.pair a b) st).2) ∧ TurnM K w p (wPutM d (.pair a b) st).1 w') := by
  have h' := h.grow B hg hB.lt
  have kk := Kept.of_below B h.ks
  refine (put_w _ W p d st h' hd (.pair a b) _ _ _ _ (mPair ((ha.kept kk).mono (fun _ e => .inl e)) ((hb.kept kk).mono (fun _ e => .inl e)) hB (.inr rfl)) (pair_len a b la lb)).mono ?_
  rintro e w' ⟨rfl, tn⟩
  exact ⟨rfl, .trans (fun _ e => .inl e) (fun k e => e.imp id (fun e => by omega)) kk tn⟩
end Go.Proofs.Qxb6500470a
