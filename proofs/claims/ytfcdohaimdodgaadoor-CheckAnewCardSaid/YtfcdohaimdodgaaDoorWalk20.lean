/-
  Words for the walks of layer 20's laws: the nodes of the call's own, the configuration's box.
-/
import Derived.Test.YtfcdohaimdodgaaDoorOwned
import Derived.Test.YtfcdohaimdodgaaDoorRefs
namespace Go.Proofs.YtfcdohaimdodgaaDoor
open Go.RowKit Go.Shelf
set_option linter.unusedVariables false
theorem owns_below {w W : World} {base : Nat} {e : TypeId} {sz : Nat} {v : Value} {n : Nat} {xs : List Value} (h : w.ownsRow base e sz v n xs) (hb : Ext w W) : W.ownsRow base e sz v n xs := by
  obtain ⟨h1, h2 | ⟨g, cap, cur, hv, hg, hh, r⟩⟩ := h
  · exact ⟨h1, .inl h2⟩
  · exact ⟨h1, .inr ⟨g, cap, cur, hv, hg, (hb.block g (lt_of_block hh)).trans hh, r⟩⟩
theorem own_nodes {W : World} {base : Nat} {v : Value} {xs : List GN} {i : Int} (h : W.ownsRow base 50 16 v xs.length (xs.flatMap GN.cells)) (hl : xs.length ≤ 60) (hi : -1 ≤ i ∧ i < xs.length) :
    ∃ (sp : Option Addr) (sn sc : Nat), v = .slice sp sn sc ∧ Hid (sn = xs.length) ∧ Hid (W.ownsRow base 50 16 (.slice sp sn sc) sn (xs.flatMap GN.cells)) ∧ sn ≤ 60 ∧ -1 ≤ i ∧ i < sn := by
  obtain ⟨⟨sp, sn, sc⟩, rfl, hrow⟩ := own_rows rfl h
  have hn : sn = xs.length := hrow.out.len
  subst hn
  exact ⟨sp, _, sc, rfl, hide rfl, hide h, hl, hi.1, hi.2⟩
theorem askAt_of {W w1 w : World} {base : Nat} {cf : Cfg} {sp q : Option Addr} {sn sc m1 k : Nat} {i qu : Int} {xs : List GN} {its : List It} (ho : Hid (w1.ownsRow base 50 16 (.slice sp sn sc) sn (xs.flatMap GN.cells))) (hL : Hid (sn = xs.length)) (hr : Hid (RightN xs))
    (h1 : -1 ≤ i) (h2 : i < sn) (h60 : sn ≤ 60) (hi : Hid (ItemsAt w ⟨q, m1, k⟩ its)) (hb : Ext w1 W) (hb' : Ext w W) : AskAt W ⟨cf, ⟨sp, sn, sc⟩, i, qu, ⟨q, m1, k⟩⟩ xs its := by
  obtain ⟨s, hv, hrow⟩ := own_rows hL.out ho.out
  cases hv
  have := hL.out
  exact ⟨hrow.out.below hb, hr.out, ⟨by show i < _; omega, h1⟩, hi.out.below hb', by omega⟩
theorem box_cells (w : World) (a b c d e : Int) : ∃ w0, w0 = w.alloc (.cells #[.int .i64 a, .int .i64 b, .int .i64 c, .int .i64 d, .int .i64 e] 32) ∧ Ext w w0 ∧ w.heap.size < w0.heap.size ∧ w0.cell? ⟨w.heap.size, 0, none⟩ = some (.int .i64 a) ∧ w0.cell? ⟨w.heap.size, 1, none⟩ = some (.int .i64 b) ∧
    w0.cell? ⟨w.heap.size, 2, none⟩ = some (.int .i64 c) ∧ w0.cell? ⟨w.heap.size, 3, none⟩ = some (.int .i64 d) ∧ w0.cell? ⟨w.heap.size, 4, none⟩ = some (.int .i64 e) := by
  refine ⟨_, rfl, Ext.alloc (Ext.refl w) _, by simp, ?_, ?_, ?_, ?_, ?_⟩ <;> simp [go_sem]
theorem box_at {w0 W : World} {B : Nat} {a b c d e : Value} (h : Ext w0 W) (hz : B < w0.heap.size) (h0 : w0.cell? ⟨B, 0, none⟩ = some a) (h1 : w0.cell? ⟨B, 1, none⟩ = some b) (h2 : w0.cell? ⟨B, 2, none⟩ = some c) (h3 : w0.cell? ⟨B, 3, none⟩ = some d) (h4 : w0.cell? ⟨B, 4, none⟩ = some e) :
    B < W.heap.size ∧ W.cell? ⟨B, 0, none⟩ = some a ∧ W.cell? ⟨B, 1, none⟩ = some b ∧ W.cell? ⟨B, 2, none⟩ = some c ∧ W.cell? ⟨B, 3, none⟩ = some d ∧ W.cell? ⟨B, 4, none⟩ = some e :=
  ⟨Nat.lt_of_lt_of_le hz h.size, (h.cell (p := ⟨B, 0, none⟩) hz).trans h0, (h.cell (p := ⟨B, 1, none⟩) hz).trans h1, (h.cell (p := ⟨B, 2, none⟩) hz).trans h2, (h.cell (p := ⟨B, 3, none⟩) hz).trans h3, (h.cell (p := ⟨B, 4, none⟩) hz).trans h4⟩
end Go.Proofs.YtfcdohaimdodgaaDoor
