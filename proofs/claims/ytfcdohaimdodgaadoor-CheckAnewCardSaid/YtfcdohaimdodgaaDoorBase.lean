/-
  General words of this seat's proofs: what a slice in memory reads as, and how that stays while memory grows. No program in sight.
-/
import Derived.Test.YtfcdohaimdodgaaDoorRows
import Derived.WalkKit
import Derived.ProofKit
import Derived.Deep.LoopGhost
import Derived.Deep.Light
import Derived.Shelf.Abstract
namespace Go.Proofs.YtfcdohaimdodgaaDoor
open Go.RowKit

/-- kept from the walk's simp -/
theorem hide {p : Prop} (h : p) : Hid p := h
theorem ret_int {k : IntKind} {a b : Int} (h : a = b) : Ending.returned (.int k a) = .returned (.int k b) := by rw [h]
theorem ret_bool {a b : Bool} (h : a = b) : Ending.returned (.bool a) = .returned (.bool b) := by rw [h]

/-- All that was there is as it was. -/
abbrev Ext (w w' : World) : Prop := Below w.heap.size w w'
theorem Ext.refl (w : World) : Ext w w := Below.refl _ _
theorem Ext.trans {a b c : World} (h : Ext a b) (k : Ext b c) : Ext a c := Below.trans h (Below.mono k h.size)
theorem Ext.alloc {a b : World} (h : Ext a b) (o : Obj) : Ext a (b.alloc o) := Below.alloc h h.size o
theorem Ext.drew {a b : World} (h : Ext a b) : Ext a b.drew := Below.drew h
theorem Ext.setCell {a b : World} (h : Ext a b) {p : Addr} (hp : a.heap.size ≤ p.block) (u : Value) : Ext a (b.setCell p u) := Below.setCell h hp u
/-- what the walk reads off a call that left all as it was -/
theorem bcell {W w1 : World} (hb : Ext W w1) : (∀ b o, b < W.heap.size → w1.cell? ⟨b, o, none⟩ = W.cell? ⟨b, o, none⟩) ∧ (∀ b o, b < W.heap.size → w1.frozen? ⟨b, o, none⟩ = W.frozen? ⟨b, o, none⟩) ∧ (∀ j, j < W.heap.size → j < w1.heap.size) :=
  ⟨fun b o h => hb.cell (p := ⟨b, o, none⟩) h, fun b o h => hb.frozen (p := ⟨b, o, none⟩) h, fun _ h => Nat.lt_of_lt_of_le h hb.size⟩

theorem lt_of_cell {w : World} {b o : Nat} {v : Value} (h : w.cell? ⟨b, o, none⟩ = some v) : b < w.heap.size := by
  rcases Nat.lt_or_ge b w.heap.size with h' | h'
  · exact h'
  · simp [World.cell?, Array.getElem?_eq_none h'] at h

theorem ba_list (s : ByteArray) : s.toList = s.data.toList := ByteArray.toList_eq s
theorem ba_nil (s : ByteArray) : s.toList = [] ↔ s.size = 0 := by
  rw [ba_list]
  constructor
  · intro h
    have : s.data.toList.length = 0 := by rw [h]; rfl
    simpa using this
  · intro h
    have h2 : s.data.toList.length = 0 := by rw [Array.length_toList]; exact h
    exact List.length_eq_zero_iff.1 h2
theorem ba_inj (a b : ByteArray) : a.toList = b.toList ↔ a = b := by
  rw [ba_list, ba_list]
  constructor
  · intro h
    cases a; cases b
    simp_all
  · rintro rfl; rfl

/-- the head of a slice -/
structure Sl where
  p : Option Addr
  n : Nat
  c : Nat

/-- The elements that a slice reads as, each of sz cells. -/
structure RowsAt {α : Type} (sz : Nat) (cells : α → List Value) (w : World) (s : Sl) (xs : List α) : Prop where
  len : s.n = xs.length
  cap : s.n ≤ s.c
  big : s.c ≤ 9223372036854775807
  at_ : ∀ k x, xs[k]? = some x → ∃ b o, s.p = some ⟨b, o, none⟩ ∧ b < w.heap.size ∧ ∀ j v, (cells x)[j]? = some v → w.cell? ⟨b, o + k * sz + j, none⟩ = some v

theorem RowsAt.below {α : Type} {sz : Nat} {cells : α → List Value} {w w' : World} {s : Sl} {xs : List α} (h : RowsAt sz cells w s xs) (hb : Ext w w') : RowsAt sz cells w' s xs :=
  ⟨h.len, h.cap, h.big, fun k x hx => by
    obtain ⟨b, o, hp, hlt, hc⟩ := h.at_ k x hx
    exact ⟨b, o, hp, Nat.lt_of_lt_of_le hlt hb.size, fun j v hv => (hb.cell (p := ⟨b, o + k * sz + j, none⟩) hlt).trans (hc j v hv)⟩⟩

theorem RowsAt.nil {α : Type} (sz : Nat) (cells : α → List Value) (w : World) : RowsAt sz cells w ⟨none, 0, 0⟩ [] :=
  ⟨rfl, Nat.le_refl _, Nat.zero_le _, fun k x hx => by simp at hx⟩

theorem RowsAt.take {α : Type} {sz : Nat} {cells : α → List Value} {w : World} {s : Sl} {xs : List α} (h : RowsAt sz cells w s xs) (m : Nat) (hm : m ≤ s.n) : RowsAt sz cells w ⟨s.p, m, s.c⟩ (xs.take m) :=
  ⟨by have := h.len; simp; omega, Nat.le_trans hm h.cap, h.big, fun k x hx => by
    rw [List.getElem?_take] at hx
    split at hx
    · exact h.at_ k x hx
    · cases hx⟩

/-- One element: its address, and its cells, as a load of the whole reads them. -/
theorem RowsAt.load {α : Type} {sz : Nat} {cells : α → List Value} {w : World} {s : Sl} {xs : List α} (h : RowsAt sz cells w s xs) (hsz : ∀ x, (cells x).length = sz) {k : Nat} {x : α} (hx : xs[k]? = some x) (P : Program) :
    ∃ b o, s.p = some ⟨b, o, none⟩ ∧ b < w.heap.size ∧ (∀ j v, (cells x)[j]? = some v → w.cell? ⟨b, o + k * sz + j, none⟩ = some v) ∧ Sem.run P (loadCellsFrom ⟨b, o + k * sz, none⟩ 0 sz #[]) w = .ok (cells x).toArray w := by
  obtain ⟨b, o, hp, hlt, hc⟩ := h.at_ k x hx
  refine ⟨b, o, hp, hlt, hc, ?_⟩
  have := run_loadCells_list (P := P) (w := w) ⟨b, o + k * sz, none⟩ (cells x) (fun j v hv => by rw [Addr.add_lit]; exact hc j v hv)
  rw [hsz] at this
  simpa [loadCells] using this

theorem RowsAt.block_lt {α : Type} {sz : Nat} {cells : α → List Value} {w : World} {s : Sl} {xs : List α} (h : RowsAt sz cells w s xs) (h0 : 0 < s.n) : ∀ b o, s.p = some ⟨b, o, none⟩ → b < w.heap.size := by
  intro b o hp
  have hl := h.len
  obtain ⟨b', o', hp', hlt, -⟩ := h.at_ 0 (xs[0]'(by omega)) (by simp)
  rw [hp] at hp'
  cases hp'
  exact hlt
theorem getElem?_of_lt {α : Type} {xs : List α} {k : Nat} (h : k < xs.length) : ∃ x, xs[k]? = some x := ⟨xs[k], by simp [h]⟩
theorem take_snoc {α : Type} {xs : List α} {k : Nat} {x : α} (h : xs[k]? = some x) : xs.take (k + 1) = xs.take k ++ [x] := by
  rw [List.take_add_one, h]; rfl

/-- What is asked of a function value that answers a bool of elements, and leaves all that was there as it was. -/
def PredOn {α : Type} (P : Program) (g : Nat) (fst cap : Array Value) (enc : α → Value) (xs : List α) (p : α → Bool) (w : World) : Prop :=
  ∀ x ∈ xs, ∀ W, Ext w W → Calls P g (fst ++ #[enc x] ++ cap) W fun e w' => e = .returned (.bool (p x)) ∧ Ext W w'

theorem owns_mono {w : World} {base base' : Nat} {e : TypeId} {sz : Nat} {v : Value} {n : Nat} {xs : List Value} (h : w.ownsRow base e sz v n xs) (hb : base' ≤ base) : w.ownsRow base' e sz v n xs := by
  obtain ⟨h1, h2 | ⟨g, cap, cur, hv, hg, r⟩⟩ := h
  · exact ⟨h1, .inl h2⟩
  · exact ⟨h1, .inr ⟨g, cap, cur, hv, Nat.le_trans hb hg, r⟩⟩
/-- What a row of the call's own reads as. -/
theorem RowsAt.of_owns {α : Type} {cells : α → List Value} {w : World} {base : Nat} {e : TypeId} {sz : Nat} {v : Value} {xs : List α} (hsz : ∀ x, (cells x).length = sz) (h : w.ownsRow base e sz v xs.length (xs.flatMap cells)) :
    ∃ s : Sl, v = .slice s.p s.n s.c ∧ RowsAt sz cells w s xs ∧ (∀ b o, s.p = some ⟨b, o, none⟩ → base ≤ b) := by
  obtain ⟨-, ⟨rfl, hn⟩ | ⟨g, cap, cur, rfl, hg, hh, h1, h2, h3, h4⟩⟩ := h
  · obtain rfl : xs = [] := List.length_eq_zero_iff.1 hn
    exact ⟨⟨none, 0, 0⟩, rfl, RowsAt.nil _ _ _, fun b o hp => by cases hp⟩
  · refine ⟨⟨some ⟨g, 0, none⟩, xs.length, cap⟩, rfl, ⟨rfl, h1, by simpa [maxLen] using h2, fun k x hx => ⟨g, 0, rfl, lt_of_block hh, fun j u hu => ?_⟩⟩, fun b o hp => by cases hp; exact hg⟩
    have hk : k < xs.length := by
      rcases Nat.lt_or_ge k xs.length with h | h
      · exact h
      · rw [List.getElem?_eq_none h] at hx; cases hx
    have hj : j < sz := by
      rcases Nat.lt_or_ge j (cells x).length with h | h
      · rwa [hsz] at h
      · rw [List.getElem?_eq_none h] at hu; cases hu
    have key : ∀ (ys : List α) (k : Nat), ys[k]? = some x → (ys.flatMap cells)[k * sz + j]? = some u := by
      intro ys
      induction ys with
      | nil => intro k hk; simp at hk
      | cons y r ih =>
        intro k hk
        cases k with
        | zero =>
          simp only [List.getElem?_cons_zero, Option.some.injEq] at hk
          subst hk
          rw [List.flatMap_cons, Nat.zero_mul, Nat.zero_add, List.getElem?_append_left (by rw [hsz]; exact hj)]
          exact hu
        | succ k =>
          rw [List.flatMap_cons, List.getElem?_append_right (by rw [hsz, Nat.succ_mul]; omega), hsz]
          have := ih k (by simpa using hk)
          rw [show (k + 1) * sz + j - sz = k * sz + j by rw [Nat.succ_mul]; omega]
          exact this
    have hu2 := key xs k hx
    rw [← h4, List.getElem?_take] at hu2
    split at hu2
    · simp only [World.cell?, hh]
      simpa using hu2
    · cases hu2
end Go.Proofs.YtfcdohaimdodgaaDoor
