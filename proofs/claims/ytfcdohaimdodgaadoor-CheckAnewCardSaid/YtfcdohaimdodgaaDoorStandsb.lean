/-
  CheckStands: what the third loop stores, and why the answer stays.
-/
import Derived.Test.YtfcdohaimdodgaaDoorNamed
import Derived.Test.YtfcdohaimdodgaaDoorSim
namespace Go.Proofs.YtfcdohaimdodgaaDoor
open Go.RowKit
theorem own_store' {W : World} {base g n cap : Nat} {ys : List GN} {k j : Nat} {x x' : GN} {u : Value} (hk : k < ys.length) (ho : W.ownsRow base 50 16 (.slice (some ⟨g, 0, none⟩) n cap) n ((ys.set k x).flatMap GN.cells)) (hj : j < 16) (hc : x.cells.set j u = x'.cells) :
    (W.setCell ⟨g, k * 16 + j, none⟩ u).ownsRow base 50 16 (.slice (some ⟨g, 0, none⟩) n cap) n ((ys.set k x').flatMap GN.cells) := by
  have := own_store (k := k) (x := x) (x' := x') ho (by rw [List.getElem?_set, if_pos rfl]; simp [hk]) hj hc
  rw [List.set_set] at this
  exact this
/-- what a node reads as behind the third loop's stores -/
def stood (x : GN) (a b c d : Int) : GN := { x with st := a, vk := 0, vn := b, vs := ⟨#[]⟩, vl := ⟨none, 0, 0⟩, fa := c, tk := d }
theorem own_stand {W : World} {base g n cap : Nat} {ys : List GN} {k : Nat} {x : GN} (ho : W.ownsRow base 50 16 (.slice (some ⟨g, 0, none⟩) n cap) n (ys.flatMap GN.cells)) (hx : ys[k]? = some x) (a b c d : Int) :
    (((((((W.setCell ⟨g, k * 16 + 9, none⟩ (.int .u8 a)).setCell ⟨g, k * 16 + 12, none⟩ (.int .u8 0)).setCell ⟨g, k * 16 + 13, none⟩ (.int .i64 b)).setCell ⟨g, k * 16 + 14, none⟩ (.string ⟨#[]⟩)).setCell ⟨g, k * 16 + 15, none⟩ (.slice none 0 0)).setCell ⟨g, k * 16 + 10, none⟩ (.int .i64 c)).setCell ⟨g, k * 16 + 11, none⟩ (.int .i64 d)).ownsRow
      base 50 16 (.slice (some ⟨g, 0, none⟩) n cap) n ((ys.set k (stood x a b c d)).flatMap GN.cells) := by
  have hk : k < ys.length := (List.getElem?_eq_some_iff.1 hx).1
  have h1 := own_store (j := 9) (u := .int .u8 a) (x' := { x with st := a }) ho hx (by decide) rfl
  have h2 := own_store' (j := 12) (u := .int .u8 0) (x' := { x with st := a, vk := 0 }) hk h1 (by decide) rfl
  have h3 := own_store' (j := 13) (u := .int .i64 b) (x' := { x with st := a, vk := 0, vn := b }) hk h2 (by decide) rfl
  have h4 := own_store' (j := 14) (u := .string ⟨#[]⟩) (x' := { x with st := a, vk := 0, vn := b, vs := ⟨#[]⟩ }) hk h3 (by decide) rfl
  have h5 := own_store' (j := 15) (u := .slice none 0 0) (x' := { x with st := a, vk := 0, vn := b, vs := ⟨#[]⟩, vl := ⟨none, 0, 0⟩ }) hk h4 (by decide) rfl
  have h6 := own_store' (j := 10) (u := .int .i64 c) (x' := { x with st := a, vk := 0, vn := b, vs := ⟨#[]⟩, vl := ⟨none, 0, 0⟩, fa := c }) hk h5 (by decide) rfl
  exact own_store' (j := 11) (u := .int .i64 d) (x' := stood x a b c d) hk h6 (by decide) rfl
theorem own_standn {W : World} {base g n cap : Nat} {ys : List GN} {k : Nat} {x : GN} (hk : k < ys.length) (s : ByteArray) (a b c d : Int) (ho : W.ownsRow base 50 16 (.slice (some ⟨g, 0, none⟩) n cap) n ((ys.set k (stood x a b c d)).flatMap GN.cells)) :
    (W.setCell ⟨g, k * 16 + 1, none⟩ (.string s)).ownsRow base 50 16 (.slice (some ⟨g, 0, none⟩) n cap) n ((ys.set k { stood x a b c d with nm := s }).flatMap GN.cells) := own_store' (x := stood x a b c d) hk ho (by decide) rfl
/-- like another's nodes, but for the names of those who do not stand in a list -/
structure SimS (xs ys : List GN) (S : List Int) : Prop where
  len : ys.length = xs.length
  at_ : ∀ (k : Nat) (x y : GN), xs[k]? = some x → ys[k]? = some y → y.fl = x.fl ∧ y.ow = x.ow ∧ y.k = x.k ∧ y.wd = x.wd ∧ ((k : Int) ∈ S → y.nm = x.nm)
theorem SimS.refl (xs : List GN) (S : List Int) : SimS xs xs S := ⟨rfl, fun k x y hx hy => by rw [hx] at hy; cases hy; exact ⟨rfl, rfl, rfl, rfl, fun _ => rfl⟩⟩
theorem SimS.set {xs ys : List GN} {S : List Int} {k : Nat} {y y' : GN} (h : SimS xs ys S) (hy : ys[k]? = some y) (h1 : y'.fl = y.fl) (h2 : y'.ow = y.ow) (h3 : y'.k = y.k) (h4 : y'.wd = y.wd) (h5 : (k : Int) ∈ S → y'.nm = y.nm) : SimS xs (ys.set k y') S := by
  refine ⟨by rw [List.length_set]; exact h.len, fun i x z hx hz => ?_⟩
  rw [List.getElem?_set] at hz
  split at hz
  · rename_i he
    subst he
    split at hz
    · cases hz
      obtain ⟨a, b, c, d, e⟩ := h.at_ k x y hx hy
      exact ⟨h1.trans a, h2.trans b, h3.trans c, h4.trans d, fun hs => (h5 hs).trans (e hs)⟩
    · cases hz
  · exact h.at_ i x z hx hz
end Go.Proofs.YtfcdohaimdodgaaDoor
