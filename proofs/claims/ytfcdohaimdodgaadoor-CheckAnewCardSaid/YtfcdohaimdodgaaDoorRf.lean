/-
  Small words for ranges over functions: what a body may turn, and what stays.
-/
import Derived.Test.YtfcdohaimdodgaaDoorBase
import Derived.RangeFuncNested
import Derived.RangeFuncBound
import Derived.RangeFuncCalls
import Derived.RangeFuncLeaves
namespace Go.Proofs.YtfcdohaimdodgaaDoor
open Go.RowKit

theorem cell_new_l (W : World) (v : Value) (t : TypeId) : (W.alloc (.cells #[v] t)).cell? ⟨W.heap.size, 0, none⟩ = some v ∧ (W.alloc (.cells #[v] t)).frozen? ⟨W.heap.size, 0, none⟩ = false := by
  have h := World.alloc_heap_new W (.cells #[v] t)
  exact ⟨cell_of_one h, free_of_one h⟩
theorem cell_alloc_l {W : World} {a : Addr} {v : Value} (o : Obj) (h : W.cell? a = some v) : (W.alloc o).cell? a = some v := cell_kept h (World.grownBy_alloc W o none) (fun r e => by cases e)
theorem frozen_alloc_l {W : World} {a : Addr} {v : Value} (o : Obj) (h : W.cell? a = some v) (hf : W.frozen? a = false) : (W.alloc o).frozen? a = false := (frozen_kept h (World.grownBy_alloc W o none) (fun r e => by cases e)).trans hf

/-- Of the blocks below N only those from lo to hi may have turned. -/
structure Keeps (lo hi N : Nat) (w w' : World) : Prop where
  size : w.heap.size ≤ w'.heap.size
  block : ∀ k, k < N → (k < lo ∨ hi ≤ k) → w'.heap[k]? = w.heap[k]?
theorem Keeps.of_below {lo hi N : Nat} {w w' : World} (h : Below N w w') : Keeps lo hi N w w' := ⟨h.size, fun k hk _ => h.block k hk⟩
theorem Keeps.trans {lo hi N : Nat} {a b c : World} (h : Keeps lo hi N a b) (k : Keeps lo hi N b c) : Keeps lo hi N a c :=
  ⟨Nat.le_trans h.size k.size, fun i hi' ho => (k.block i hi' ho).trans (h.block i hi' ho)⟩
theorem Keeps.cell {lo hi N : Nat} {w w' : World} (h : Keeps lo hi N w w') {b o : Nat} (hN : b < N) (hb : b < lo ∨ hi ≤ b) : w'.cell? ⟨b, o, none⟩ = w.cell? ⟨b, o, none⟩ :=
  World.cell?_of_block (w := w) (a := ⟨b, o, none⟩) (h.block b hN hb)
theorem Keeps.setCell {lo hi N : Nat} (W : World) (b o : Nat) (v : Value) (h1 : lo ≤ b) (h2 : b < hi) : Keeps lo hi N W (W.setCell ⟨b, o, none⟩ v) :=
  ⟨by simp [World.setCell], fun k _ hk => Below.heap_setCell _ _ _ _ (by simp; omega)⟩
theorem keeps_t {lo hi N : Nat} {A B C : World} (h : Keeps lo hi N A B) (k : Keeps lo hi N B C) : Keeps lo hi N A C := h.trans k
theorem keeps_b {lo hi N : Nat} {w : World} (hn : N ≤ w.heap.size) (W : World) (l : Nat) (o o' : Obj) (hl : w.heap.size ≤ l) (h : W.heap[l]? = some o) (h1 : o.isCells = false) (h2 : o.isWalk = false) : Keeps lo hi N W (W.putObj l o') :=
  .of_below (belowK_b hn W l o o' hl h h1 h2)
theorem RowsAt.keeps {α : Type} {sz : Nat} {cells : α → List Value} {w w' : World} {s : Sl} {xs : List α} {lo hi N : Nat} (h : RowsAt sz cells w s xs) (hb : Keeps lo hi N w w') (hs : ∀ b o, s.p = some ⟨b, o, none⟩ → b < N ∧ (b < lo ∨ hi ≤ b)) : RowsAt sz cells w' s xs :=
  ⟨h.len, h.cap, h.big, fun k x hx => by
    obtain ⟨b, o, hp, hlt, hc⟩ := h.at_ k x hx
    have := hs b o hp
    exact ⟨b, o, hp, Nat.lt_of_lt_of_le hlt hb.size, fun j v hv => (hb.cell this.1 this.2).trans (hc j v hv)⟩⟩
end Go.Proofs.YtfcdohaimdodgaaDoor
