/-
  CheckTells answers true for every input: check.Frag, check.Refs, check.Total are as foremanref20 has them. Conditions: those of the row. (part 1 of 2)
-/
import Derived.Test.YtfcdohaimdodgaaDoorRows
import Derived.WalkKit
import Derived.ProofKit
import Derived.Deep.LoopGhost
import Derived.Deep.Light
import Derived.Shelf.Abstract
import Derived.Ground.NamesProg
import Derived.Shelf.Strings.SlTrimAscii
import Derived.Test.YtfcdohaimdodgaaDoorProg
import Derived.RangeFuncNested
import Derived.RangeFuncBound
import Derived.RangeFuncCalls
import Derived.RangeFuncLeaves
import Derived.Shelf.RegionOpen
import Derived.OwnWalkIn
import Derived.TacticsInMore
import Derived.LoopNIn
import Derived.LoopIn
import Derived.Maps.AppendAt
import Derived.Maps.OwnOps
import Derived.Maps.OwnSet
import Derived.Laws.StructEq
import Derived.Deep.QuietTactic
import Derived.BigQuiet
import Derived.Laws.EntriesVeiled
import Derived.Shelf.AbstractIn
import Derived.Test.YtfcdohaimdodgaaDoorPFragx
/-
  General words of this seat's proofs: what a slice in memory reads as, and how that stays while memory grows. No program in sight.
-/
namespace Go.Proofs.YtfcdohaimdodgaaDoor
open Go.RowKit

/-- kept from the walk's simp -/
theorem hide {p : Prop} (h : p) : Hid p := h
theorem ret_int {k : IntKind} {a b : Int} (h : a = b) : Ending.returned (.int k a) = .returned (.int k b) := by rw [h]
theorem ret_bool {a b : Bool} (h : a = b) : Ending.returned (.bool a) = .returned (.bool b) := by rw [h]

/-- All that was there is as it was. -/
abbrev Ext (w w' : World) : Prop := Below w.heap.size w w'
theorem Ext.refl (w : World) : Ext w w := Below.refl _ _
theorem Ext.trans {a b c : World} (h : Ext a b) (k : Ext b c) : Ext a c := Below.trans h (Below.mono k h.size)
theorem Ext.alloc {a b : World} (h : Ext a b) (o : Obj) : Ext a (b.alloc o) := Below.alloc h h.size o
theorem Ext.drew {a b : World} (h : Ext a b) : Ext a b.drew := Below.drew h
theorem Ext.setCell {a b : World} (h : Ext a b) {p : Addr} (hp : a.heap.size ≤ p.block) (u : Value) : Ext a (b.setCell p u) := Below.setCell h hp u
/-- what the walk reads off a call that left all as it was -/
theorem bcell {W w1 : World} (hb : Ext W w1) : (∀ b o, b < W.heap.size → w1.cell? ⟨b, o, none⟩ = W.cell? ⟨b, o, none⟩) ∧ (∀ b o, b < W.heap.size → w1.frozen? ⟨b, o, none⟩ = W.frozen? ⟨b, o, none⟩) ∧ (∀ j, j < W.heap.size → j < w1.heap.size) :=
  ⟨fun b o h => hb.cell (p := ⟨b, o, none⟩) h, fun b o h => hb.frozen (p := ⟨b, o, none⟩) h, fun _ h => Nat.lt_of_lt_of_le h hb.size⟩

theorem lt_of_cell {w : World} {b o : Nat} {v : Value} (h : w.cell? ⟨b, o, none⟩ = some v) : b < w.heap.size := by
  rcases Nat.lt_or_ge b w.heap.size with h' | h'
  · exact h'
  · simp [World.cell?, Array.getElem?_eq_none h'] at h

theorem ba_list (s : ByteArray) : s.toList = s.data.toList := ByteArray.toList_eq s
theorem ba_nil (s : ByteArray) : s.toList = [] ↔ s.size = 0 := by
  rw [ba_list]
  constructor
  · intro h
    have : s.data.toList.length = 0 := by rw [h]; rfl
    simpa using this
  · intro h
    have h2 : s.data.toList.length = 0 := by rw [Array.length_toList]; exact h
    exact List.length_eq_zero_iff.1 h2
theorem ba_inj (a b : ByteArray) : a.toList = b.toList ↔ a = b := by
  rw [ba_list, ba_list]
  constructor
  · intro h
    cases a; cases b
    simp_all
  · rintro rfl; rfl

/-- the head of a slice -/
structure Sl where
  p : Option Addr
  n : Nat
  c : Nat

/-- The elements that a slice reads as, each of sz cells. -/
structure RowsAt {α : Type} (sz : Nat) (cells : α → List Value) (w : World) (s : Sl) (xs : List α) : Prop where
  len : s.n = xs.length
  cap : s.n ≤ s.c
  big : s.c ≤ 9223372036854775807
  at_ : ∀ k x, xs[k]? = some x → ∃ b o, s.p = some ⟨b, o, none⟩ ∧ b < w.heap.size ∧ ∀ j v, (cells x)[j]? = some v → w.cell? ⟨b, o + k * sz + j, none⟩ = some v

theorem RowsAt.below {α : Type} {sz : Nat} {cells : α → List Value} {w w' : World} {s : Sl} {xs : List α} (h : RowsAt sz cells w s xs) (hb : Ext w w') : RowsAt sz cells w' s xs :=
  ⟨h.len, h.cap, h.big, fun k x hx => by
    obtain ⟨b, o, hp, hlt, hc⟩ := h.at_ k x hx
    exact ⟨b, o, hp, Nat.lt_of_lt_of_le hlt hb.size, fun j v hv => (hb.cell (p := ⟨b, o + k * sz + j, none⟩) hlt).trans (hc j v hv)⟩⟩

theorem RowsAt.nil {α : Type} (sz : Nat) (cells : α → List Value) (w : World) : RowsAt sz cells w ⟨none, 0, 0⟩ [] :=
  ⟨rfl, Nat.le_refl _, Nat.zero_le _, fun k x hx => by simp at hx⟩

theorem RowsAt.take {α : Type} {sz : Nat} {cells : α → List Value} {w : World} {s : Sl} {xs : List α} (h : RowsAt sz cells w s xs) (m : Nat) (hm : m ≤ s.n) : RowsAt sz cells w ⟨s.p, m, s.c⟩ (xs.take m) :=
  ⟨by have := h.len; simp; omega, Nat.le_trans hm h.cap, h.big, fun k x hx => by
    rw [List.getElem?_take] at hx
    split at hx
    · exact h.at_ k x hx
    · cases hx⟩

/-- One element: its address, and its cells, as a load of the whole reads them. -/
theorem RowsAt.load {α : Type} {sz : Nat} {cells : α → List Value} {w : World} {s : Sl} {xs : List α} (h : RowsAt sz cells w s xs) (hsz : ∀ x, (cells x).length = sz) {k : Nat} {x : α} (hx : xs[k]? = some x) (P : Program) :
    ∃ b o, s.p = some ⟨b, o, none⟩ ∧ b < w.heap.size ∧ (∀ j v, (cells x)[j]? = some v → w.cell? ⟨b, o + k * sz + j, none⟩ = some v) ∧ Sem.run P (loadCellsFrom ⟨b, o + k * sz, none⟩ 0 sz #[]) w = .ok (cells x).toArray w := by
  obtain ⟨b, o, hp, hlt, hc⟩ := h.at_ k x hx
  refine ⟨b, o, hp, hlt, hc, ?_⟩
  have := run_loadCells_list (P := P) (w := w) ⟨b, o + k * sz, none⟩ (cells x) (fun j v hv => by rw [Addr.add_lit]; exact hc j v hv)
  rw [hsz] at this
  simpa [loadCells] using this

theorem RowsAt.block_lt {α : Type} {sz : Nat} {cells : α → List Value} {w : World} {s : Sl} {xs : List α} (h : RowsAt sz cells w s xs) (h0 : 0 < s.n) : ∀ b o, s.p = some ⟨b, o, none⟩ → b < w.heap.size := by
  intro b o hp
  have hl := h.len
  obtain ⟨b', o', hp', hlt, -⟩ := h.at_ 0 (xs[0]'(by omega)) (by simp)
  rw [hp] at hp'
  cases hp'
  exact hlt
theorem getElem?_of_lt {α : Type} {xs : List α} {k : Nat} (h : k < xs.length) : ∃ x, xs[k]? = some x := ⟨xs[k], by simp [h]⟩
theorem take_snoc {α : Type} {xs : List α} {k : Nat} {x : α} (h : xs[k]? = some x) : xs.take (k + 1) = xs.take k ++ [x] := by
  rw [List.take_add_one, h]; rfl

/-- What is asked of a function value that answers a bool of elements, and leaves all that was there as it was. -/
def PredOn {α : Type} (P : Program) (g : Nat) (fst cap : Array Value) (enc : α → Value) (xs : List α) (p : α → Bool) (w : World) : Prop :=
  ∀ x ∈ xs, ∀ W, Ext w W → Calls P g (fst ++ #[enc x] ++ cap) W fun e w' => e = .returned (.bool (p x)) ∧ Ext W w'

theorem owns_mono {w : World} {base base' : Nat} {e : TypeId} {sz : Nat} {v : Value} {n : Nat} {xs : List Value} (h : w.ownsRow base e sz v n xs) (hb : base' ≤ base) : w.ownsRow base' e sz v n xs := by
  obtain ⟨h1, h2 | ⟨g, cap, cur, hv, hg, r⟩⟩ := h
  · exact ⟨h1, .inl h2⟩
  · exact ⟨h1, .inr ⟨g, cap, cur, hv, Nat.le_trans hb hg, r⟩⟩
/-- What a row of the call's own reads as. -/
theorem RowsAt.of_owns {α : Type} {cells : α → List Value} {w : World} {base : Nat} {e : TypeId} {sz : Nat} {v : Value} {xs : List α} (hsz : ∀ x, (cells x).length = sz) (h : w.ownsRow base e sz v xs.length (xs.flatMap cells)) :
    ∃ s : Sl, v = .slice s.p s.n s.c ∧ RowsAt sz cells w s xs ∧ (∀ b o, s.p = some ⟨b, o, none⟩ → base ≤ b) := by
  obtain ⟨-, ⟨rfl, hn⟩ | ⟨g, cap, cur, rfl, hg, hh, h1, h2, h3, h4⟩⟩ := h
  · obtain rfl : xs = [] := List.length_eq_zero_iff.1 hn
    exact ⟨⟨none, 0, 0⟩, rfl, RowsAt.nil _ _ _, fun b o hp => by cases hp⟩
  · refine ⟨⟨some ⟨g, 0, none⟩, xs.length, cap⟩, rfl, ⟨rfl, h1, by simpa [maxLen] using h2, fun k x hx => ⟨g, 0, rfl, lt_of_block hh, fun j u hu => ?_⟩⟩, fun b o hp => by cases hp; exact hg⟩
    have hk : k < xs.length := by
      rcases Nat.lt_or_ge k xs.length with h | h
      · exact h
      · rw [List.getElem?_eq_none h] at hx; cases hx
    have hj : j < sz := by
      rcases Nat.lt_or_ge j (cells x).length with h | h
      · rwa [hsz] at h
      · rw [List.getElem?_eq_none h] at hu; cases hu
    have key : ∀ (ys : List α) (k : Nat), ys[k]? = some x → (ys.flatMap cells)[k * sz + j]? = some u := by
      intro ys
      induction ys with
      | nil => intro k hk; simp at hk
      | cons y r ih =>
        intro k hk
        cases k with
        | zero =>
          simp only [List.getElem?_cons_zero, Option.some.injEq] at hk
          subst hk
          rw [List.flatMap_cons, Nat.zero_mul, Nat.zero_add, List.getElem?_append_left (by rw [hsz]; exact hj)]
          exact hu
        | succ k =>
          rw [List.flatMap_cons, List.getElem?_append_right (by rw [hsz, Nat.succ_mul]; omega), hsz]
          have := ih k (by simpa using hk)
          rw [show (k + 1) * sz + j - sz = k * sz + j by rw [Nat.succ_mul]; omega]
          exact this
    have hu2 := key xs k hx
    rw [← h4, List.getElem?_take] at hu2
    split at hu2
    · simp only [World.cell?, hh]
      simpa using hu2
    · cases hu2
end Go.Proofs.YtfcdohaimdodgaaDoor

/-
  The plain data of fragments and nodes, how they stand in memory, and what the document says of them (layers 9, 16, 17, 20). No program in sight.
-/
namespace Go.Proofs.YtfcdohaimdodgaaDoor
open Go.RowKit

structure Item where
  nm : ByteArray
  k : Int
  names : List ByteArray
  ov : ByteArray
  wd : Int
  q : Int
/-- an item as it stands in memory: what it says, and the head of its After -/
structure It where
  d : Item
  af : Sl
def It.cells (x : It) : List Value := [.string x.d.nm, .int .u8 x.d.k, .slice x.af.p x.af.n x.af.c, .string x.d.ov, .int .i64 x.d.wd, .int .i64 x.d.q]
def It.enc (x : It) : Value := .agg x.cells.toArray
theorem It.cells_len (x : It) : x.cells.length = 6 := rfl
def strCells (s : ByteArray) : List Value := [.string s]
theorem strCells_len (s : ByteArray) : (strCells s).length = 1 := rfl
def intCells (n : Int) : List Value := [.int .i64 n]
theorem intCells_len (n : Int) : (intCells n).length = 1 := rfl
/-- an item's After reads as it says -/
def It.ok (w : World) (x : It) : Prop := RowsAt 1 strCells w x.af x.d.names
structure ItemsAt (w : World) (s : Sl) (xs : List It) : Prop where
  rows : RowsAt 6 It.cells w s xs
  ok : ∀ x ∈ xs, x.ok w
theorem It.ok.below {w w' : World} {x : It} (h : x.ok w) (hb : Ext w w') : x.ok w' := RowsAt.below h hb
theorem ItemsAt.below {w w' : World} {s : Sl} {xs : List It} (h : ItemsAt w s xs) (hb : Ext w w') : ItemsAt w' s xs := ⟨h.rows.below hb, fun x hx => (h.ok x hx).below hb⟩
theorem ItemsAt.take {w : World} {s : Sl} {xs : List It} (h : ItemsAt w s xs) (m : Nat) (hm : m ≤ s.n) : ItemsAt w ⟨s.p, m, s.c⟩ (xs.take m) :=
  ⟨h.rows.take m hm, fun x hx => h.ok x (List.mem_of_mem_take hx)⟩

/-- the six cells of one item -/
theorem ItemsAt.cells' {w : World} {p : Option Addr} {n c : Nat} {xs : List It} (h : RowsAt 6 It.cells w ⟨p, n, c⟩ xs) {k : Nat} {x : It} (hx : xs[k]? = some x) :
    ∃ b o, p = some ⟨b, o, none⟩ ∧ b < w.heap.size ∧ w.cell? ⟨b, o + k * 6, none⟩ = some (.string x.d.nm) ∧ w.cell? ⟨b, o + k * 6 + 1, none⟩ = some (.int .u8 x.d.k) ∧ w.cell? ⟨b, o + k * 6 + 2, none⟩ = some (.slice x.af.p x.af.n x.af.c) ∧
      w.cell? ⟨b, o + k * 6 + 3, none⟩ = some (.string x.d.ov) ∧ w.cell? ⟨b, o + k * 6 + 4, none⟩ = some (.int .i64 x.d.wd) ∧ w.cell? ⟨b, o + k * 6 + 5, none⟩ = some (.int .i64 x.d.q) := by
  obtain ⟨b, o, hp, hlt, hc⟩ := h.at_ k x hx
  exact ⟨b, o, hp, hlt, hc 0 _ rfl, hc 1 _ rfl, hc 2 _ rfl, hc 3 _ rfl, hc 4 _ rfl, hc 5 _ rfl⟩
theorem strAt {w : World} {p : Option Addr} {n c : Nat} {xs : List ByteArray} (h : RowsAt 1 strCells w ⟨p, n, c⟩ xs) {k : Nat} {x : ByteArray} (hx : xs[k]? = some x) :
    ∃ b o, p = some ⟨b, o, none⟩ ∧ b < w.heap.size ∧ w.cell? ⟨b, o + k, none⟩ = some (.string x) := by
  obtain ⟨b, o, hp, hlt, hc⟩ := h.at_ k x hx
  exact ⟨b, o, hp, hlt, by have := hc 0 _ rfl; rwa [Nat.mul_one, Nat.add_zero] at this⟩
theorem intAt {w : World} {p : Option Addr} {n c : Nat} {xs : List Int} (h : RowsAt 1 intCells w ⟨p, n, c⟩ xs) {k : Nat} {x : Int} (hx : xs[k]? = some x) :
    ∃ b o, p = some ⟨b, o, none⟩ ∧ b < w.heap.size ∧ w.cell? ⟨b, o + k, none⟩ = some (.int .i64 x) := by
  obtain ⟨b, o, hp, hlt, hc⟩ := h.at_ k x hx
  exact ⟨b, o, hp, hlt, by have := hc 0 _ rfl; rwa [Nat.mul_one, Nat.add_zero] at this⟩

/-! ### what the document says (9, 20) -/
def letter (b : UInt8) : Bool := (97 ≤ b && b ≤ 122) || (48 ≤ b && b ≤ 57) || b == 95
def nameOk (s : ByteArray) : Bool := decide (1 ≤ s.size) && decide (s.size ≤ 20) && s.data.toList.all letter
def withinB (n h : Int) : Bool := decide (0 ≤ n) && decide (n ≤ h)
def fitsB (x : Item) : Bool := nameOk x.nm && decide (x.names.length ≤ 20) && withinB x.q 400 && x.names.all nameOk && ((x.k == 0 && x.ov.size == 0 && x.wd == 0) || (x.k == 1 && nameOk x.ov && withinB x.wd 40))
def rightB (l : List Item) : Bool := decide (l.length ≤ 40) && l.all fitsB
def costZ (x : Item) : Int := if x.k = 1 then x.wd * (1 + x.q) + 1 else 1 + x.q
def totalZ (l : List Item) : Int := (l.map costZ).sum
def itemOf (l : List It) : List Item := l.map It.d

theorem fits_bd {x : Item} (h : fitsB x = true) : (0 ≤ x.q ∧ x.q ≤ 400) ∧ (0 ≤ x.wd ∧ x.wd ≤ 40) ∧ (x.k = 0 ∨ x.k = 1) := by
  simp [fitsB, withinB] at h
  omega
theorem cost_bd {x : Item} (hw : 0 ≤ x.wd ∧ x.wd ≤ 40) (hq : 0 ≤ x.q ∧ x.q ≤ 400) : 1 ≤ costZ x ∧ costZ x ≤ 17000 := by
  unfold costZ
  have h1 : 0 ≤ x.wd * (1 + x.q) := Int.mul_nonneg (by omega) (by omega)
  have h2 : x.wd * (1 + x.q) ≤ 40 * (1 + x.q) := Int.mul_le_mul_of_nonneg_right (by omega) (by omega)
  split <;> omega
theorem totalZ_append (l m : List Item) : totalZ (l ++ m) = totalZ l + totalZ m := by simp [totalZ]
theorem total_bd {l : List Item} (h : ∀ x ∈ l, fitsB x = true) : 0 ≤ totalZ l ∧ totalZ l ≤ 17000 * l.length := by
  induction l with
  | nil => simp [totalZ]
  | cons x l ih =>
    have hx := fits_bd (h x (by simp))
    have := cost_bd (x := x) ⟨hx.2.1.1, hx.2.1.2⟩ hx.1
    have := ih (fun y hy => h y (by simp [hy]))
    simp only [totalZ, List.map_cons, List.sum_cons, List.length_cons] at *
    omega
end Go.Proofs.YtfcdohaimdodgaaDoor

/-
  Nodes as they stand in memory; owners, chains, scopes, names as the document has them (layers 16, 17). No program in sight.
-/
namespace Go.Proofs.YtfcdohaimdodgaaDoor
open Go.RowKit

structure GN where
  id : ByteArray
  nm : ByteArray
  k : Int
  fl : Int
  ow : Int
  at_ : Int
  af : Sl
  wd : Int
  q : Int
  st : Int
  fa : Int
  tk : Int
  vk : Int
  vn : Int
  vs : ByteArray
  vl : Sl
def GN.cells (x : GN) : List Value := [.string x.id, .string x.nm, .int .u8 x.k, .int .i64 x.fl, .int .i64 x.ow, .int .i64 x.at_, .slice x.af.p x.af.n x.af.c, .int .i64 x.wd, .int .i64 x.q, .int .u8 x.st, .int .i64 x.fa, .int .i64 x.tk, .int .u8 x.vk, .int .i64 x.vn, .string x.vs, .slice x.vl.p x.vl.n x.vl.c]
abbrev NodesAt (w : World) (s : Sl) (xs : List GN) : Prop := RowsAt 16 GN.cells w s xs
theorem GN.cells_len (x : GN) : x.cells.length = 16 := rfl

theorem nodeAt {w : World} {p : Option Addr} {n c : Nat} {xs : List GN} (h : NodesAt w ⟨p, n, c⟩ xs) {k : Nat} {x : GN} (hx : xs[k]? = some x) :
    ∃ b o, p = some ⟨b, o, none⟩ ∧ b < w.heap.size ∧ w.cell? ⟨b, o + k * 16, none⟩ = some (.string x.id) ∧ w.cell? ⟨b, o + k * 16 + 1, none⟩ = some (.string x.nm) ∧ w.cell? ⟨b, o + k * 16 + 2, none⟩ = some (.int .u8 x.k) ∧
      w.cell? ⟨b, o + k * 16 + 3, none⟩ = some (.int .i64 x.fl) ∧ w.cell? ⟨b, o + k * 16 + 4, none⟩ = some (.int .i64 x.ow) ∧ w.cell? ⟨b, o + k * 16 + 5, none⟩ = some (.int .i64 x.at_) ∧ w.cell? ⟨b, o + k * 16 + 6, none⟩ = some (.slice x.af.p x.af.n x.af.c) ∧
      w.cell? ⟨b, o + k * 16 + 7, none⟩ = some (.int .i64 x.wd) ∧ w.cell? ⟨b, o + k * 16 + 8, none⟩ = some (.int .i64 x.q) ∧ w.cell? ⟨b, o + k * 16 + 9, none⟩ = some (.int .u8 x.st) ∧ w.cell? ⟨b, o + k * 16 + 10, none⟩ = some (.int .i64 x.fa) ∧
      w.cell? ⟨b, o + k * 16 + 11, none⟩ = some (.int .i64 x.tk) ∧ w.cell? ⟨b, o + k * 16 + 12, none⟩ = some (.int .u8 x.vk) ∧ w.cell? ⟨b, o + k * 16 + 13, none⟩ = some (.int .i64 x.vn) ∧ w.cell? ⟨b, o + k * 16 + 14, none⟩ = some (.string x.vs) ∧
      w.cell? ⟨b, o + k * 16 + 15, none⟩ = some (.slice x.vl.p x.vl.n x.vl.c) := by
  obtain ⟨b, o, hp, hlt, hc⟩ := h.at_ k x hx
  exact ⟨b, o, hp, hlt, hc 0 _ rfl, hc 1 _ rfl, hc 2 _ rfl, hc 3 _ rfl, hc 4 _ rfl, hc 5 _ rfl, hc 6 _ rfl, hc 7 _ rfl, hc 8 _ rfl, hc 9 _ rfl, hc 10 _ rfl, hc 11 _ rfl, hc 12 _ rfl, hc 13 _ rfl, hc 14 _ rfl, hc 15 _ rfl⟩
/-- the owner alone -/
theorem ownAt {w : World} {p : Option Addr} {n c : Nat} {xs : List GN} (h : NodesAt w ⟨p, n, c⟩ xs) {k : Nat} {x : GN} (hx : xs[k]? = some x) :
    ∃ b o, p = some ⟨b, o, none⟩ ∧ b < w.heap.size ∧ w.cell? ⟨b, o + k * 16 + 4, none⟩ = some (.int .i64 x.ow) := by
  obtain ⟨b, o, hp, hlt, hc⟩ := h.at_ k x hx
  exact ⟨b, o, hp, hlt, hc 4 _ rfl⟩

/-- P16.1: whose owners are right -/
def RightN (xs : List GN) : Prop := ∀ (k : Nat) (x : GN), xs[k]? = some x → -1 ≤ x.ow ∧ x.ow < k ∧ (0 ≤ x.ow → ∀ (y : GN), xs[x.ow.toNat]? = some y → y.fl = x.fl)

/-- owners, the nearest one first -/
def chainF (xs : List GN) : Nat → Nat → List Int
  | 0, _ => []
  | f + 1, i => match xs[i]? with
    | some x => if 0 ≤ x.ow then x.ow :: chainF xs f x.ow.toNat else []
    | none => []
def chain (xs : List GN) (i : Nat) : List Int := chainF xs (i + 1) i
theorem chainF_eq {xs : List GN} (hr : RightN xs) : ∀ (f i : Nat), i < f → chainF xs f i = chain xs i := by
  intro f
  induction f using Nat.strongRecOn with
  | _ f ih =>
    intro i hi
    cases f with
    | zero => omega
    | succ f =>
      unfold chain
      unfold chainF
      cases hx : xs[i]? with
      | none => rfl
      | some x =>
        dsimp only
        split
        · rename_i h0
          have h := hr i x hx
          congr 1
          rw [ih f (by omega) x.ow.toNat (by omega)]
          cases Nat.lt_or_ge i f with
          | inl hlt => rw [ih i (by omega) x.ow.toNat (by omega)]
          | inr hge =>
            have : i = f := by omega
            subst this
            rw [ih i (by omega) x.ow.toNat (by omega)]
        · rfl
theorem chain_eq {xs : List GN} (hr : RightN xs) {i : Nat} {x : GN} (hx : xs[i]? = some x) : chain xs i = if 0 ≤ x.ow then x.ow :: chain xs x.ow.toNat else [] := by
  conv => lhs; unfold chain chainF
  rw [hx]
  dsimp only
  split
  · have h := hr i x hx
    rw [chainF_eq hr _ _ (by omega)]
  · rfl
theorem chain_mem {xs : List GN} (hr : RightN xs) : ∀ (i : Nat), ∀ o ∈ chain xs i, 0 ≤ o ∧ o < i ∧ (i < xs.length → o < xs.length) := by
  intro i
  induction i using Nat.strongRecOn with
  | _ i ih =>
    intro o ho
    cases hx : xs[i]? with
    | none => simp [chain, chainF, hx] at ho
    | some x =>
      rw [chain_eq hr hx] at ho
      have h := hr i x hx
      split at ho
      · rcases List.mem_cons.1 ho with rfl | ho
        · refine ⟨by omega, by omega, fun hl => by omega⟩
        · have := ih x.ow.toNat (by omega) o ho
          refine ⟨this.1, by omega, fun hl => by omega⟩
      · simp at ho
theorem chain_len {xs : List GN} (hr : RightN xs) : ∀ (i : Nat), (chain xs i).length ≤ i := by
  intro i
  induction i using Nat.strongRecOn with
  | _ i ih =>
    cases hx : xs[i]? with
    | none => simp [chain, chainF, hx]
    | some x =>
      rw [chain_eq hr hx]
      have h := hr i x hx
      split
      · have := ih x.ow.toNat (by omega)
        simp only [List.length_cons]; omega
      · simp
/-- P16.1: how deep a place is -/
def deepN (xs : List GN) (i : Int) : Int := if 0 ≤ i ∧ i < xs.length then 1 + (chain xs i.toNat).length else 0
end Go.Proofs.YtfcdohaimdodgaaDoor

/-
  slices.IndexFunc and ContainsFunc at items and at strings, for every function value that answers a bool and leaves what was there as it was.
-/
namespace Go.Proofs.YtfcdohaimdodgaaDoor
open Go.RowKit Go.Shelf
set_option linter.unusedVariables false

/-- the first place at which p holds, or -1 -/
def idx {α : Type} (p : α → Bool) : List α → Int
  | [] => -1
  | x :: r => if p x then 0 else (let i := idx p r; if i < 0 then -1 else i + 1)
theorem idx_ge {α : Type} (p : α → Bool) (l : List α) : -1 ≤ idx p l := by
  induction l with
  | nil => simp [idx]
  | cons x r ih => unfold idx; dsimp only; split; · omega
                   split <;> omega
theorem idx_hit {α : Type} {p : α → Bool} {l : List α} {k : Nat} {x : α} (hk : l[k]? = some x) (hx : p x = true) (hb : ∀ y ∈ l.take k, p y = false) : idx p l = k := by
  induction l generalizing k with
  | nil => simp at hk
  | cons y r ih =>
    cases k with
    | zero => simp at hk; subst hk; simp [idx, hx]
    | succ k =>
      have hy : p y = false := hb y (by simp)
      have := ih (k := k) (by simpa using hk) (fun z hz => hb z (by simp [hz]))
      unfold idx; dsimp only; rw [this, hy]; simp
      omega
theorem idx_miss {α : Type} {p : α → Bool} {l : List α} (hb : ∀ y ∈ l, p y = false) : idx p l = -1 := by
  induction l with
  | nil => rfl
  | cons y r ih => unfold idx; dsimp only; rw [hb y (by simp), ih (fun z hz => hb z (by simp [hz]))]; rfl
theorem idx_nonneg {α : Type} (p : α → Bool) (l : List α) : decide (0 ≤ idx p l) = l.any p := by
  induction l with
  | nil => rfl
  | cons y r ih =>
    have := idx_ge p r
    unfold idx; dsimp only; rw [List.any_cons]
    cases h : p y
    · rw [← ih]; simp; split <;> omega
    · simp

set_option maxHeartbeats 400000 in
theorem idxIt_any (sp : Option Addr) (sn sc : Nat) (xs : List It) (p : It → Bool) (g : Nat) (fst cap : Array Value) (w : World) (eg : ∀ args w, (callFunc g args).run Tryd.prog w = .ok (.enter g args) w)
    (hs : RowsAt 6 It.cells w ⟨sp, sn, sc⟩ xs) (hp : PredOn Tryd.prog g fst cap It.enc xs p w) :
    Calls Tryd.prog 47 #[.slice sp sn sc, .func (.func g) fst cap] w fun e w' => e = .returned (.int .i64 (idx p xs)) ∧ Ext w w' := by
  have hlen := hs.len
  have hbig := hs.big
  have hcap := hs.cap
  dsimp only at hlen hbig hcap
  have HL := hide hlen; clear hlen
  go_enter Tryd.func47, Tryd.ntmps47
  go_wp2
  go_loopg [5, 8] sn (fun gg _ s8 wr => ∃ k : Nat, k ≤ sn ∧ sn - k ≤ gg ∧ s8 = .int .i64 k ∧ Aside (Ext w wr) ∧ Aside (∀ y ∈ xs.take k, p y = false))
  case atStart => exact ⟨0, Nat.zero_le _, by omega, rfl, Below.refl _ w, fun y hy => by simp at hy⟩
  case round =>
    obtain ⟨k, hk, hg, rfl, BW, A⟩ := hrel
    by_cases hlt : k < sn
    · obtain ⟨x, hx⟩ := getElem?_of_lt (xs := xs) (k := k) (by have := HL.out; omega)
      obtain ⟨b, o, hsp, hblt, c0, c1, c2, c3, c4, c5⟩ := ItemsAt.cells' (hs.below BW.out) hx
      have hcall := hp x (List.mem_of_getElem? hx) wr BW.out
      have hltz : (k : Int) < (sn : Int) := by omega
      have HX := hide hx; clear hx
      clear hs hp
      subst hsp
      simp only [It.enc, It.cells] at hcall
      cases hq : p x with
      | true =>
        rw [hq] at hcall
        have HQ := hide hq; clear hq
        go_wp2_with (go_at_fn g; refine hcall.mono ?_; rintro e w' ⟨rfl, hb'⟩)
        go_ret
        exact ⟨ret_int (idx_hit HX.out HQ.out A.out).symm, BW.out.trans hb'⟩
      | false =>
        rw [hq] at hcall
        have HQ := hide hq; clear hq
        go_wp2_with (go_at_fn g; refine hcall.mono ?_; rintro e w' ⟨rfl, hb'⟩)
        go_roundg (sn - (k + 1))
        case measure => omega
        case rel =>
          refine ⟨k + 1, by omega, by omega, by go_num, BW.out.trans hb', (show Aside _ from fun y hy => ?_)⟩
          rw [take_snoc HX.out] at hy
          rcases List.mem_append.1 hy with h | h
          · exact A.out y h
          · obtain rfl := List.mem_singleton.1 h; exact HQ.out
    · have hltz : ¬ (k : Int) < (sn : Int) := by omega
      have hkn : k = sn := by omega
      have HK := hide hkn; clear hkn
      go_wp2
      go_ret
      refine ⟨ret_int (idx_miss fun y hy => A.out y ?_).symm, BW.out⟩
      rw [List.take_of_length_le (by have := HL.out; have := HK.out; omega)]; exact hy
set_option maxHeartbeats 400000 in
theorem idxStr_any (sp : Option Addr) (sn sc : Nat) (xs : List ByteArray) (p : ByteArray → Bool) (g : Nat) (fst cap : Array Value) (w : World) (eg : ∀ args w, (callFunc g args).run Tryd.prog w = .ok (.enter g args) w)
    (hs : RowsAt 1 strCells w ⟨sp, sn, sc⟩ xs) (hp : PredOn Tryd.prog g fst cap Value.string xs p w) :
    Calls Tryd.prog 71 #[.slice sp sn sc, .func (.func g) fst cap] w fun e w' => e = .returned (.int .i64 (idx p xs)) ∧ Ext w w' := by
  have hlen := hs.len
  have hbig := hs.big
  have hcap := hs.cap
  dsimp only at hlen hbig hcap
  have HL := hide hlen; clear hlen
  go_enter Tryd.func71, Tryd.ntmps71
  go_wp2
  go_loopg [5, 8] sn (fun gg _ s8 wr => ∃ k : Nat, k ≤ sn ∧ sn - k ≤ gg ∧ s8 = .int .i64 k ∧ Aside (Ext w wr) ∧ Aside (∀ y ∈ xs.take k, p y = false))
  case atStart => exact ⟨0, Nat.zero_le _, by omega, rfl, Below.refl _ w, fun y hy => by simp at hy⟩
  case round =>
    obtain ⟨k, hk, hg, rfl, BW, A⟩ := hrel
    by_cases hlt : k < sn
    · obtain ⟨x, hx⟩ := getElem?_of_lt (xs := xs) (k := k) (by have := HL.out; omega)
      obtain ⟨b, o, hsp, hblt, c0⟩ := strAt (hs.below BW.out) hx
      have hcall := hp x (List.mem_of_getElem? hx) wr BW.out
      have hltz : (k : Int) < (sn : Int) := by omega
      have HX := hide hx; clear hx
      clear hs hp
      subst hsp
      cases hq : p x with
      | true =>
        rw [hq] at hcall
        have HQ := hide hq; clear hq
        go_wp2_with (go_at_fn g; refine hcall.mono ?_; rintro e w' ⟨rfl, hb'⟩)
        go_ret
        exact ⟨ret_int (idx_hit HX.out HQ.out A.out).symm, BW.out.trans hb'⟩
      | false =>
        rw [hq] at hcall
        have HQ := hide hq; clear hq
        go_wp2_with (go_at_fn g; refine hcall.mono ?_; rintro e w' ⟨rfl, hb'⟩)
        go_roundg (sn - (k + 1))
        case measure => omega
        case rel =>
          refine ⟨k + 1, by omega, by omega, by go_num, BW.out.trans hb', (show Aside _ from fun y hy => ?_)⟩
          rw [take_snoc HX.out] at hy
          rcases List.mem_append.1 hy with h | h
          · exact A.out y h
          · obtain rfl := List.mem_singleton.1 h; exact HQ.out
    · have hltz : ¬ (k : Int) < (sn : Int) := by omega
      have hkn : k = sn := by omega
      have HK := hide hkn; clear hkn
      go_wp2
      go_ret
      refine ⟨ret_int (idx_miss fun y hy => A.out y ?_).symm, BW.out⟩
      rw [List.take_of_length_le (by have := HL.out; have := HK.out; omega)]; exact hy
set_option maxHeartbeats 400000 in
theorem contIt_any (sp : Option Addr) (sn sc : Nat) (xs : List It) (p : It → Bool) (g : Nat) (fst cap : Array Value) (w : World) (eg : ∀ args w, (callFunc g args).run Tryd.prog w = .ok (.enter g args) w)
    (hs : RowsAt 6 It.cells w ⟨sp, sn, sc⟩ xs) (hp : PredOn Tryd.prog g fst cap It.enc xs p w) :
    Calls Tryd.prog 25 #[.slice sp sn sc, .func (.func g) fst cap] w fun e w' => e = .returned (.bool (xs.any p)) ∧ Ext w w' := by
  have hcall := idxIt_any sp sn sc xs p g fst cap w eg hs hp
  rw [← idx_nonneg]
  generalize idx p xs = r at *
  clear hs hp
  go_enter Tryd.func25, Tryd.ntmps25
  go_wp2_with (go_at_call 47; refine hcall.mono ?_; rintro e w' ⟨rfl, hb'⟩)
  go_ret
  exact ⟨rfl, hb'⟩
set_option maxHeartbeats 400000 in
theorem contStr_any (sp : Option Addr) (sn sc : Nat) (xs : List ByteArray) (p : ByteArray → Bool) (g : Nat) (fst cap : Array Value) (w : World) (eg : ∀ args w, (callFunc g args).run Tryd.prog w = .ok (.enter g args) w)
    (hs : RowsAt 1 strCells w ⟨sp, sn, sc⟩ xs) (hp : PredOn Tryd.prog g fst cap Value.string xs p w) :
    Calls Tryd.prog 50 #[.slice sp sn sc, .func (.func g) fst cap] w fun e w' => e = .returned (.bool (xs.any p)) ∧ Ext w w' := by
  have hcall := idxStr_any sp sn sc xs p g fst cap w eg hs hp
  rw [← idx_nonneg]
  generalize idx p xs = r at *
  clear hs hp
  go_enter Tryd.func50, Tryd.ntmps50
  go_wp2_with (go_at_call 71; refine hcall.mono ?_; rintro e w' ⟨rfl, hb'⟩)
  go_ret
  exact ⟨rfl, hb'⟩
end Go.Proofs.YtfcdohaimdodgaaDoor

/-
  DERIVED: THE SHELF's CONTRACTS AT THIS DUMP, IN PLAIN WORDS (tools/lay-plain.mjs out of 'TrydShelf.lean', which tools/lay-shelf.mjs wrote): THE SAME DECLARATIONS UNDER THE SAME NAMES: 'import', 'namespace', 'open', 'def', 'theorem' AND NOTHING ELSE: no command of the shelf's: FOR A HAND-IN. Each laying: the table of numbers ('.._ren') and one theorem, a field a fact of the dump's own or the kernel's comparison; each contract: ONE APPLICATION.
-/
namespace Go.Proofs
open Go.Shelf
def Tryd.lays160_ren : Go.Shelf.Ren := ⟨fun | 160 => 70 | 232 => 85 | 231 => 84 | 227 => 86 | 234 => 88 | 233 => 87 | 236 => 90 | 235 => 89 | 228 => 91 | 271 => 94 | 151 => 93 | 197 => 92 | 120 => 97 | 152 => 96 | 260 => 95 | 137 => 98 | 119 => 99 | 224 => 100 | 225 => 101 | 217 => 102 | 266 => 103 | n => n, fun | 9 => 9 | 4 => 4 | 3 => 3 | 5 => 5 | 117 => 104 | 116 => 103 | 0 => 0 | 124 => 107 | 21 => 21 | 105 => 109 | 46 => 63 | 119 => 113 | 139 => 116 | 138 => 115 | n => n, fun | 3 => 0 | 4 => 1 | n => n⟩
theorem Tryd.lays160 : Go.Proofs.Lays.n160 Tryd.prog Tryd.lays160_ren := {
  mixed := by kernel_rfl
  f119 := Tryd.func99.trans (congrArg some (by kernel_rfl))
  f120 := Tryd.func97.trans (congrArg some (by kernel_rfl))
  f137 := Tryd.func98.trans (congrArg some (by kernel_rfl))
  f151 := Tryd.func93.trans (congrArg some (by kernel_rfl))
  f152 := Tryd.func96.trans (congrArg some (by kernel_rfl))
  f160 := Tryd.func70.trans (congrArg some (by kernel_rfl))
  f197 := Tryd.func92.trans (congrArg some (by kernel_rfl))
  f217 := Tryd.func102.trans (congrArg some (by kernel_rfl))
  f224 := Tryd.func100.trans (congrArg some (by kernel_rfl))
  f225 := Tryd.func101.trans (congrArg some (by kernel_rfl))
  f227 := Tryd.func86.trans (congrArg some (by kernel_rfl))
  f228 := Tryd.func91.trans (congrArg some (by kernel_rfl))
  f231 := Tryd.func84.trans (congrArg some (by kernel_rfl))
  f232 := Tryd.func85.trans (congrArg some (by kernel_rfl))
  f233 := Tryd.func87.trans (congrArg some (by kernel_rfl))
  f234 := Tryd.func88.trans (congrArg some (by kernel_rfl))
  f235 := Tryd.func89.trans (congrArg some (by kernel_rfl))
  f236 := Tryd.func90.trans (congrArg some (by kernel_rfl))
  f260 := Tryd.func95.trans (congrArg some (by kernel_rfl))
  f266 := Tryd.func103.trans (congrArg some (by kernel_rfl))
  f271 := Tryd.func94.trans (congrArg some (by kernel_rfl))
  t0 := Tryd.underlying0
  a0 := Tryd.isAgg0
  z0 := Tryd.sizeOf0
  v0 := Tryd.zeroValue0
  t3 := Tryd.underlying3
  a3 := Tryd.isAgg3
  z3 := Tryd.sizeOf3
  v3 := Tryd.zeroValue3
  t4 := Tryd.underlying4
  a4 := Tryd.isAgg4
  z4 := Tryd.sizeOf4
  v4 := Tryd.zeroValue4
  t5 := Tryd.underlying5
  a5 := Tryd.isAgg5
  z5 := Tryd.sizeOf5
  v5 := Tryd.zeroValue5
  t9 := Tryd.underlying9
  a9 := Tryd.isAgg9
  z9 := Tryd.sizeOf9
  v9 := Tryd.zeroValue9
  t21 := Tryd.underlying21
  a21 := Tryd.isAgg21
  z21 := Tryd.sizeOf21
  v21 := Tryd.zeroValue21
  t46 := Tryd.underlying63
  a46 := Tryd.isAgg63
  z46 := Tryd.sizeOf63
  v46 := Tryd.zeroValue63
  t105 := Tryd.underlying109
  a105 := Tryd.isAgg109
  z105 := Tryd.sizeOf109
  v105 := Tryd.zeroValue109
  t116 := Tryd.underlying103
  a116 := Tryd.isAgg103
  z116 := Tryd.sizeOf103
  t117 := Tryd.underlying104
  a117 := Tryd.isAgg104
  z117 := Tryd.sizeOf104
  v117 := Tryd.zeroValue104
  t119 := Tryd.underlying113
  a119 := Tryd.isAgg113
  z119 := Tryd.sizeOf113
  t124 := Tryd.underlying107
  a124 := Tryd.isAgg107
  z124 := Tryd.sizeOf107
  v124 := Tryd.zeroValue107
  t138 := Tryd.underlying115
  a138 := Tryd.isAgg115
  z138 := Tryd.sizeOf115
  v138 := Tryd.zeroValue115
  t139 := Tryd.underlying116
  a139 := Tryd.isAgg116
  z139 := Tryd.sizeOf116
  v139 := Tryd.zeroValue116
  g3 := by kernel_rfl
  g4 := by kernel_rfl }
end Go.Proofs

/-
  frag: Name, within, fits, Right, by what the document says.
-/
namespace Go.Proofs.YtfcdohaimdodgaaDoor
open Go.RowKit Go.Shelf Go.Lib
set_option linter.unusedVariables false

theorem within_any (n h : Int) (w : World) : Calls Tryd.prog 49 #[.int .i64 n, .int .i64 h] w fun e w' => e = .returned (.bool (withinB n h)) ∧ w = w' := by
  unfold withinB
  go_enter Tryd.func49, Tryd.ntmps49
  go_wp2
  all_goals go_ret
  all_goals (refine ⟨ret_bool ?_, rfl⟩; simp; try omega)
theorem isMap_any (x : It) (w : World) : Calls Tryd.prog 74 #[.agg #[.string x.d.nm, .int .u8 x.d.k, .slice x.af.p x.af.n x.af.c, .string x.d.ov, .int .i64 x.d.wd, .int .i64 x.d.q]] w fun e w' => e = .returned (.bool (x.d.k == 1)) ∧ Ext w w' := by
  go_enter Tryd.func74, Tryd.ntmps74
  go_wp2
  go_ret
  exact ⟨rfl, (Below.refl _ _).alloc (Nat.le_refl _) _⟩
theorem sPlace_any (p : Option Addr) (n c : Nat) (i : Int) (w : World) : Calls Tryd.prog 39 #[.slice p n c, .int .i64 i] w fun e w' => e = .returned (.bool (decide (0 ≤ i) && decide (i < n))) ∧ w = w' := by
  go_enter Tryd.func39, Tryd.ntmps39
  go_wp2
  all_goals go_ret
  all_goals (refine ⟨ret_bool ?_, rfl⟩; simp; try omega)
def cs37 : List UInt8 := [97, 98, 99, 100, 101, 102, 103, 104, 105, 106, 107, 108, 109, 110, 111, 112, 113, 114, 115, 116, 117, 118, 119, 120, 121, 122, 48, 49, 50, 51, 52, 53, 54, 55, 56, 57, 95]
theorem letter_eq (b : UInt8) : cs37.contains b = letter b := by
  have h : ∀ n : Fin 256, cs37.contains (UInt8.ofFin n) = letter (UInt8.ofFin n) := by decide +kernel
  exact h b.toFin
theorem dropWhile_nil {α : Type} (p : α → Bool) (l : List α) : l.dropWhile p = [] ↔ l.all p = true := by
  induction l with
  | nil => simp
  | cons x r ih => simp only [List.dropWhile_cons, List.all_cons]; cases h : p x <;> simp_all
theorem lettersAll (l : List UInt8) : (Lib.trimS l cs37 = []) ↔ l.all letter = true := by
  have e : (fun b => cs37.contains b) = letter := funext letter_eq
  unfold Lib.trimS Lib.trimRightS Lib.trimLeftS
  rw [e, dropWhile_nil, List.all_reverse]
  have key : ∀ m : List UInt8, (m.dropWhile letter).all letter = m.all letter := by
    intro m
    induction m with
    | nil => rfl
    | cons x r ih =>
      rw [List.dropWhile_cons]
      cases hx : letter x
      · simp
      · simpa [hx] using ih
  rw [key, List.all_reverse]
theorem name_any (s : ByteArray) (w : World) : Calls Tryd.prog 48 #[.string s] w fun e w' => e = .returned (.bool (nameOk s)) ∧ Ext w w' := by
  have hcon := fun (hs : s.size ≤ 9223372036854775807) (W : World) => Any.strings_Trim_laid Tryd.lays160 (by kernel_rfl) s ⟨#[97, 98, 99, 100, 101, 102, 103, 104, 105, 106, 107, 108, 109, 110, 111, 112, 113, 114, 115, 116, 117, 118, 119, 120, 121, 122, 48, 49, 50, 51, 52, 53, 54, 55, 56, 57, 95]⟩ W hs (by decide) (ascii_of_all (by decide))
  have hl := lettersAll s.data.toList
  unfold cs37 at hl
  dsimp only [List.toList_toArray] at hcon
  generalize Lib.trimS s.data.toList [97, 98, 99, 100, 101, 102, 103, 104, 105, 106, 107, 108, 109, 110, 111, 112, 113, 114, 115, 116, 117, 118, 119, 120, 121, 122, 48, 49, 50, 51, 52, 53, 54, 55, 56, 57, 95] = r at hl hcon
  have HL := hide hl; clear hl
  go_enter Tryd.func48, Tryd.ntmps48
  go_wp2_with (go_at_call 70; refine (hcon (by omega) _).mono ?_; rintro e w' ⟨rfl, hb⟩)
  all_goals go_ret
  · refine ⟨ret_bool ?_, hb⟩
    unfold nameOk
    have := HL.out
    have h1 : 1 ≤ s.size ∧ s.size ≤ 20 := by omega
    cases r with
    | nil => simp [h1, this.1 rfl]
    | cons a b =>
      have h2 : s.data.toList.all letter = false := by
        cases h3 : s.data.toList.all letter
        · rfl
        · exact absurd (this.2 h3) (by simp)
      simp [h2]
  · refine ⟨ret_bool ?_, Below.refl _ _⟩
    unfold nameOk
    simp; omega
  · refine ⟨ret_bool ?_, Below.refl _ _⟩
    unfold nameOk
    simp; omega
theorem fits1_any (s : ByteArray) (w : World) : Calls Tryd.prog 51 #[.string s] w fun e w' => e = .returned (.bool (!nameOk s)) ∧ Ext w w' := by
  have h := name_any s w
  generalize nameOk s = r at h ⊢
  go_enter Tryd.func51, Tryd.ntmps51
  go_wp2_with (go_at_call 48; refine h.mono ?_; rintro e w' ⟨rfl, hb⟩)
  go_ret
  exact ⟨rfl, hb⟩
theorem enters_fits1 : ∀ args w, (callFunc 51 args).run Tryd.prog w = .ok (.enter 51 args) w := enters_of Tryd.func51 (by kernel_rfl) rfl
theorem enters_fRight1 : ∀ args w, (callFunc 26 args).run Tryd.prog w = .ok (.enter 26 args) w := enters_of Tryd.func26 (by kernel_rfl) rfl
set_option maxHeartbeats 400000 in
theorem fits_any (x : It) (w : World) (hx : x.ok w) : Calls Tryd.prog 27 #[.agg #[.string x.d.nm, .int .u8 x.d.k, .slice x.af.p x.af.n x.af.c, .string x.d.ov, .int .i64 x.d.wd, .int .i64 x.d.q]] w fun e w' => e = .returned (.bool (fitsB x.d)) ∧ Ext w w' := by
  obtain ⟨⟨nm, k, names, ov, wd, q⟩, ⟨sp, sn, sc⟩⟩ := x
  have hlen := hx.len
  dsimp only at hlen ⊢
  have hco := fun (W : World) (hb : Ext w W) => contStr_any sp sn sc names (fun s => !nameOk s) 51 #[] #[] W enters_fits1 (RowsAt.below hx hb) (fun s _ W' _ => fits1_any s W')
  have HE : Hid (fitsB ⟨nm, k, names, ov, wd, q⟩ = (nameOk nm && decide (sn ≤ 20) && withinB q 400 && !(names.any fun s => !nameOk s) && ((k == 0 && ov.size == 0 && wd == 0) || (k == 1 && nameOk ov && withinB wd 40)))) := by
    apply hide
    have e : names.all nameOk = !(names.any fun s => !nameOk s) := by rw [List.all_eq_not_any_not]
    simp only [fitsB, hlen, e]
  generalize fitsB ⟨nm, k, names, ov, wd, q⟩ = R at *
  generalize (names.any fun s => !nameOk s) = r5 at *
  clear hx hlen
  go_enter Tryd.func27, Tryd.ntmps27
  go_wp2_with (first | (go_at_call 48; refine (name_any _ _).mono ?_; rintro e w' ⟨rfl, hb⟩; obtain ⟨hc, hf, hz⟩ := bcell hb; (try have zw0 := hz (w.heap.size) (by first | (simp; omega) | omega | (simp; done) | assumption)); (try have zw1 := hz (w.heap.size + 1) (by first | (simp; omega) | omega | (simp; done) | assumption)); (try have zw2 := hz (w.heap.size + 2) (by first | (simp; omega) | omega | (simp; done) | assumption)); (try have zr0 := hz (wr.heap.size) (by first | (simp; omega) | omega | (simp; done) | assumption)); (try have zr1 := hz (wr.heap.size + 1) (by first | (simp; omega) | omega | (simp; done) | assumption)); (try have zr2 := hz (wr.heap.size + 2) (by first | (simp; omega) | omega | (simp; done) | assumption)); (try have zB0 := hz (B) (by first | (simp; omega) | omega | (simp; done) | assumption)); clear hz) | (go_at_call 49; refine (within_any _ _ _).mono ?_; rintro e w' ⟨rfl, rfl⟩) | (go_at_call 50; refine (hco _ (by (repeat' (first | exact Below.refl _ _ | assumption | refine Ext.alloc ?_ _ | refine Ext.drew ?_ | refine Ext.trans ?_ (by assumption))))).mono ?_; rintro e w' ⟨rfl, hb⟩; obtain ⟨hc, hf, hz⟩ := bcell hb; (try have zw0 := hz (w.heap.size) (by first | (simp; omega) | omega | (simp; done) | assumption)); (try have zw1 := hz (w.heap.size + 1) (by first | (simp; omega) | omega | (simp; done) | assumption)); (try have zw2 := hz (w.heap.size + 2) (by first | (simp; omega) | omega | (simp; done) | assumption)); (try have zr0 := hz (wr.heap.size) (by first | (simp; omega) | omega | (simp; done) | assumption)); (try have zr1 := hz (wr.heap.size + 1) (by first | (simp; omega) | omega | (simp; done) | assumption)); (try have zr2 := hz (wr.heap.size + 2) (by first | (simp; omega) | omega | (simp; done) | assumption)); (try have zB0 := hz (B) (by first | (simp; omega) | omega | (simp; done) | assumption)); clear hz))
  all_goals go_ret
  all_goals refine ⟨ret_bool ?_, by (repeat' (first | exact Below.refl _ _ | assumption | refine Ext.alloc ?_ _ | refine Ext.drew ?_ | refine Ext.trans ?_ (by assumption)))⟩
  all_goals (have he := HE.out; clear HE; subst he)
  all_goals (go_light; grind [ba_nil])
theorem right1_any (x : It) (w : World) (hx : x.ok w) : Calls Tryd.prog 26 #[.agg #[.string x.d.nm, .int .u8 x.d.k, .slice x.af.p x.af.n x.af.c, .string x.d.ov, .int .i64 x.d.wd, .int .i64 x.d.q]] w fun e w' => e = .returned (.bool (!fitsB x.d)) ∧ Ext w w' := by
  have h := fun (W : World) (hb : Ext w W) => fits_any x W (hx.below hb)
  generalize fitsB x.d = R at *
  clear hx
  go_enter Tryd.func26, Tryd.ntmps26
  go_wp2_with (go_at_call 27; refine (h _ (by (repeat' (first | exact Below.refl _ _ | assumption | refine Ext.alloc ?_ _ | refine Ext.drew ?_ | refine Ext.trans ?_ (by assumption))))).mono ?_; rintro e w' ⟨rfl, hb⟩; obtain ⟨hc, hf, hz⟩ := bcell hb; (try have zw0 := hz (w.heap.size) (by first | (simp; omega) | omega | (simp; done) | assumption)); (try have zw1 := hz (w.heap.size + 1) (by first | (simp; omega) | omega | (simp; done) | assumption)); (try have zw2 := hz (w.heap.size + 2) (by first | (simp; omega) | omega | (simp; done) | assumption)); (try have zr0 := hz (wr.heap.size) (by first | (simp; omega) | omega | (simp; done) | assumption)); (try have zr1 := hz (wr.heap.size + 1) (by first | (simp; omega) | omega | (simp; done) | assumption)); (try have zr2 := hz (wr.heap.size + 2) (by first | (simp; omega) | omega | (simp; done) | assumption)); (try have zB0 := hz (B) (by first | (simp; omega) | omega | (simp; done) | assumption)); clear hz)
  go_ret
  exact ⟨rfl, by (repeat' (first | exact Below.refl _ _ | assumption | refine Ext.alloc ?_ _ | refine Ext.drew ?_ | refine Ext.trans ?_ (by assumption)))⟩
theorem right_any (p : Option Addr) (n c : Nat) (xs : List It) (w : World) (hs : ItemsAt w ⟨p, n, c⟩ xs) : Calls Tryd.prog 8 #[.slice p n c] w fun e w' => e = .returned (.bool (rightB (itemOf xs))) ∧ Ext w w' := by
  have hlen := hs.rows.len
  dsimp only at hlen
  have hco := contIt_any p n c xs (fun x => !fitsB x.d) 26 #[] #[] w enters_fRight1 hs.rows (fun x hx W hb => right1_any x W ((hs.ok x hx).below hb))
  have HE : Hid (rightB (itemOf xs) = (decide (n ≤ 40) && !(xs.any fun x => !fitsB x.d))) := by
    apply hide
    simp only [rightB, itemOf, hlen, List.length_map, List.all_eq_not_any_not, List.any_map]
    rfl
  generalize rightB (itemOf xs) = R at *
  generalize (xs.any fun x => !fitsB x.d) = r5 at *
  clear hs hlen
  go_enter Tryd.func8, Tryd.ntmps8
  go_wp2_with (go_at_call 25; refine (hco).mono ?_; rintro e w' ⟨rfl, hb⟩; obtain ⟨hc, hf, hz⟩ := bcell hb; (try have zw0 := hz (w.heap.size) (by first | (simp; omega) | omega | (simp; done) | assumption)); (try have zw1 := hz (w.heap.size + 1) (by first | (simp; omega) | omega | (simp; done) | assumption)); (try have zw2 := hz (w.heap.size + 2) (by first | (simp; omega) | omega | (simp; done) | assumption)); (try have zr0 := hz (wr.heap.size) (by first | (simp; omega) | omega | (simp; done) | assumption)); (try have zr1 := hz (wr.heap.size + 1) (by first | (simp; omega) | omega | (simp; done) | assumption)); (try have zr2 := hz (wr.heap.size + 2) (by first | (simp; omega) | omega | (simp; done) | assumption)); (try have zB0 := hz (B) (by first | (simp; omega) | omega | (simp; done) | assumption)); clear hz)
  all_goals go_ret
  all_goals refine ⟨ret_bool ?_, by (repeat' (first | exact Below.refl _ _ | assumption | refine Ext.alloc ?_ _ | refine Ext.drew ?_ | refine Ext.trans ?_ (by assumption)))⟩
  all_goals (have he := HE.out; clear HE; subst he)
  all_goals (go_light; grind)
theorem cost_any (x : It) (w : World) (hx : fitsB x.d = true ∨ ((0 ≤ x.d.wd ∧ x.d.wd ≤ 40) ∧ (0 ≤ x.d.q ∧ x.d.q ≤ 400))) : Calls Tryd.prog 10 #[.agg #[.string x.d.nm, .int .u8 x.d.k, .slice x.af.p x.af.n x.af.c, .string x.d.ov, .int .i64 x.d.wd, .int .i64 x.d.q]] w fun e w' => e = .returned (.int .i64 (costZ x.d)) ∧ Ext w w' := by
  obtain ⟨⟨nm, k, names, ov, wd, q⟩, ⟨sp, sn, sc⟩⟩ := x
  have hb : (0 ≤ wd ∧ wd ≤ 40) ∧ (0 ≤ q ∧ q ≤ 400) := by
    rcases hx with h | h
    · have := fits_bd h; exact ⟨this.2.1, this.1⟩
    · exact h
  obtain ⟨hw, hq⟩ := hb
  clear hx
  have h1 : 0 ≤ wd * (1 + q) := Int.mul_nonneg (by omega) (by omega)
  have h2 : wd * (1 + q) ≤ 40 * (1 + q) := Int.mul_le_mul_of_nonneg_right (by omega) (by omega)
  go_enter Tryd.func10, Tryd.ntmps10
  go_wp2
  all_goals go_ret
  all_goals refine ⟨ret_int ?_, by (repeat' (first | exact Below.refl _ _ | assumption | refine Ext.alloc ?_ _ | refine Ext.drew ?_ | refine Ext.trans ?_ (by assumption)))⟩
  all_goals (unfold costZ; go_light; simp_all)
set_option maxHeartbeats 400000 in
theorem total_any (p : Option Addr) (n c : Nat) (xs : List It) (w : World) (hs : RowsAt 6 It.cells w ⟨p, n, c⟩ xs) (hx : ∀ x ∈ xs, fitsB x.d = true) (hl : xs.length ≤ 1000) : Calls Tryd.prog 11 #[.slice p n c] w fun e w' => e = .returned (.int .i64 (totalZ (itemOf xs))) ∧ Ext w w' := by
  have hlen := hs.len
  dsimp only at hlen
  have hn : n ≤ 1000 := by omega
  have HL := hide hlen; clear hlen
  have HX := hide hx; clear hx
  go_enter Tryd.func11, Tryd.ntmps11
  go_wp2
  go_loopg [3, 8] n (fun gg s3 s8 wr => ∃ k : Nat, k ≤ n ∧ n - k ≤ gg ∧ s8 = .int .i64 k ∧ s3 = .int .i64 (totalZ (itemOf (xs.take k))) ∧ Aside (Ext w wr))
  case atStart => exact ⟨0, Nat.zero_le _, by omega, rfl, rfl, Ext.refl _⟩
  case round =>
    obtain ⟨k, hk, hg, rfl, rfl, BW⟩ := hrel
    by_cases hlt : k < n
    · obtain ⟨x, hx⟩ := getElem?_of_lt (xs := xs) (k := k) (by have := HL.out; omega)
      obtain ⟨b, o, hsp, hblt, c0, c1, c2, c3, c4, c5⟩ := ItemsAt.cells' (hs.below BW.out) hx
      have hfx := HX.out x (List.mem_of_getElem? hx)
      have hcost := fun W => cost_any x W (.inl hfx)
      have hcb := cost_bd (x := x.d) (fits_bd hfx).2.1 (fits_bd hfx).1
      have htb := total_bd (l := itemOf (xs.take k)) (fun y hy => by
        obtain ⟨z, hz, rfl⟩ := List.mem_map.1 hy
        exact HX.out z (List.mem_of_mem_take hz))
      have htl : (itemOf (xs.take k)).length ≤ k := by simp [itemOf]; omega
      have htb2 : totalZ (itemOf (xs.take k)) ≤ 17000000 := by omega
      have htb1 := htb.1
      clear htb htl
      have HS : Hid (totalZ (itemOf (xs.take (k + 1))) = totalZ (itemOf (xs.take k)) + costZ x.d) := by
        apply hide
        rw [take_snoc hx, itemOf, List.map_append, totalZ_append]
        simp [totalZ, itemOf]
      generalize totalZ (itemOf (xs.take k)) = T at *
      generalize costZ x.d = C at *
      have hltz : (k : Int) < (n : Int) := by omega
      clear hs hx hfx
      subst hsp
      go_wp2_with (go_at_call 10; refine (hcost _).mono ?_; rintro e w' ⟨rfl, hb⟩; obtain ⟨hc, hf, hz⟩ := bcell hb; (try have zw0 := hz (w.heap.size) (by first | (simp; omega) | omega | (simp; done) | assumption)); (try have zw1 := hz (w.heap.size + 1) (by first | (simp; omega) | omega | (simp; done) | assumption)); (try have zw2 := hz (w.heap.size + 2) (by first | (simp; omega) | omega | (simp; done) | assumption)); (try have zr0 := hz (wr.heap.size) (by first | (simp; omega) | omega | (simp; done) | assumption)); (try have zr1 := hz (wr.heap.size + 1) (by first | (simp; omega) | omega | (simp; done) | assumption)); (try have zr2 := hz (wr.heap.size + 2) (by first | (simp; omega) | omega | (simp; done) | assumption)); (try have zB0 := hz (B) (by first | (simp; omega) | omega | (simp; done) | assumption)); clear hz)
      go_roundg (n - (k + 1))
      case measure => omega
      case rel => exact ⟨k + 1, by omega, by omega, by go_num, by rw [HS.out], BW.out.trans (by (repeat' (first | exact Below.refl _ _ | assumption | refine Ext.alloc ?_ _ | refine Ext.drew ?_ | refine Ext.trans ?_ (by assumption))))⟩
    · have hltz : ¬ (k : Int) < (n : Int) := by omega
      have hkn : k = n := by omega
      have HK := hide hkn; clear hkn
      go_wp2
      go_ret
      refine ⟨ret_int ?_, BW.out⟩
      rw [List.take_of_length_le (by have := HL.out; have := HK.out; omega)]
end Go.Proofs.YtfcdohaimdodgaaDoor

/-
  Small words for ranges over functions: what a body may turn, and what stays.
-/
namespace Go.Proofs.YtfcdohaimdodgaaDoor
open Go.RowKit

theorem cell_new_l (W : World) (v : Value) (t : TypeId) : (W.alloc (.cells #[v] t)).cell? ⟨W.heap.size, 0, none⟩ = some v ∧ (W.alloc (.cells #[v] t)).frozen? ⟨W.heap.size, 0, none⟩ = false := by
  have h := World.alloc_heap_new W (.cells #[v] t)
  exact ⟨cell_of_one h, free_of_one h⟩
theorem cell_alloc_l {W : World} {a : Addr} {v : Value} (o : Obj) (h : W.cell? a = some v) : (W.alloc o).cell? a = some v := cell_kept h (World.grownBy_alloc W o none) (fun r e => by cases e)
theorem frozen_alloc_l {W : World} {a : Addr} {v : Value} (o : Obj) (h : W.cell? a = some v) (hf : W.frozen? a = false) : (W.alloc o).frozen? a = false := (frozen_kept h (World.grownBy_alloc W o none) (fun r e => by cases e)).trans hf

/-- Of the blocks below N only those from lo to hi may have turned. -/
structure Keeps (lo hi N : Nat) (w w' : World) : Prop where
  size : w.heap.size ≤ w'.heap.size
  block : ∀ k, k < N → (k < lo ∨ hi ≤ k) → w'.heap[k]? = w.heap[k]?
theorem Keeps.of_below {lo hi N : Nat} {w w' : World} (h : Below N w w') : Keeps lo hi N w w' := ⟨h.size, fun k hk _ => h.block k hk⟩
theorem Keeps.trans {lo hi N : Nat} {a b c : World} (h : Keeps lo hi N a b) (k : Keeps lo hi N b c) : Keeps lo hi N a c :=
  ⟨Nat.le_trans h.size k.size, fun i hi' ho => (k.block i hi' ho).trans (h.block i hi' ho)⟩
theorem Keeps.cell {lo hi N : Nat} {w w' : World} (h : Keeps lo hi N w w') {b o : Nat} (hN : b < N) (hb : b < lo ∨ hi ≤ b) : w'.cell? ⟨b, o, none⟩ = w.cell? ⟨b, o, none⟩ :=
  World.cell?_of_block (w := w) (a := ⟨b, o, none⟩) (h.block b hN hb)
theorem Keeps.setCell {lo hi N : Nat} (W : World) (b o : Nat) (v : Value) (h1 : lo ≤ b) (h2 : b < hi) : Keeps lo hi N W (W.setCell ⟨b, o, none⟩ v) :=
  ⟨by simp [World.setCell], fun k _ hk => Below.heap_setCell _ _ _ _ (by simp; omega)⟩
theorem keeps_t {lo hi N : Nat} {A B C : World} (h : Keeps lo hi N A B) (k : Keeps lo hi N B C) : Keeps lo hi N A C := h.trans k
theorem keeps_b {lo hi N : Nat} {w : World} (hn : N ≤ w.heap.size) (W : World) (l : Nat) (o o' : Obj) (hl : w.heap.size ≤ l) (h : W.heap[l]? = some o) (h1 : o.isCells = false) (h2 : o.isWalk = false) : Keeps lo hi N W (W.putObj l o') :=
  .of_below (belowK_b hn W l o o' hl h h1 h2)
theorem RowsAt.keeps {α : Type} {sz : Nat} {cells : α → List Value} {w w' : World} {s : Sl} {xs : List α} {lo hi N : Nat} (h : RowsAt sz cells w s xs) (hb : Keeps lo hi N w w') (hs : ∀ b o, s.p = some ⟨b, o, none⟩ → b < N ∧ (b < lo ∨ hi ≤ b)) : RowsAt sz cells w' s xs :=
  ⟨h.len, h.cap, h.big, fun k x hx => by
    obtain ⟨b, o, hp, hlt, hc⟩ := h.at_ k x hx
    have := hs b o hp
    exact ⟨b, o, hp, Nat.lt_of_lt_of_le hlt hb.size, fun j v hv => (hb.cell this.1 this.2).trans (hc j v hv)⟩⟩
end Go.Proofs.YtfcdohaimdodgaaDoor

/-
  scope: up as an iterator over owners; Deep, Chain, Own by what the document says.
-/
namespace Go.Proofs.YtfcdohaimdodgaaDoor
open Go.RowKit Go.Shelf
attribute [local go_sem] Oper.semAt_some
set_option linter.unusedVariables false

def chainO (xs : List GN) (o : Int) : List Int := if 0 ≤ o then o :: chain xs o.toNat else []

theorem up_any (p : Option Addr) (n c : Nat) (i : Int) (w : World) : Calls Tryd.prog 40 #[.slice p n c, .int .i64 i] w fun e w' =>
    e = .returned (.func (.func 68) #[] #[.pointer (some ⟨w.heap.size, 0, none⟩), .pointer (some ⟨w.heap.size + 1, 0, none⟩)]) ∧ w' = (w.alloc (.cells #[.slice p n c] 34)).alloc (.cells #[.int .i64 i] 3) := by
  go_enter Tryd.func40, Tryd.ntmps40
  go_wp2
  go_ret
  exact ⟨rfl, rfl⟩

set_option maxHeartbeats 1000000 in
/-- the iterator over the owners of a place, for every body that keeps what lay ahead of the loop -/
theorem up1_stops (m lo hi B1 B2 : Nat) (p : Option Addr) (n c : Nat) (i : Nat) (xs : List GN) (w : World) (hs : NodesAt w ⟨p, n, c⟩ xs) (hr : RightN xs) (hil0 : i < xs.length)
    (hlo : ∀ b o, p = some ⟨b, o, none⟩ → b < lo) (hhi : B1 < lo ∨ hi ≤ B1) (hB1 : w.cell? ⟨B1, 0, none⟩ = some (.slice p n c)) (hB2 : w.cell? ⟨B2, 0, none⟩ = some (.int .i64 i)) (hm : 1 ≤ m) :
    SeqStopsK Fence.wide m Tryd.prog 68 #[.pointer (some ⟨B1, 0, none⟩), .pointer (some ⟨B2, 0, none⟩)] (fun x : Int => #[.int .i64 x]) (Keeps lo hi w.heap.size) (fun ys => ys = chain xs i) (fun ys => ys <+: chain xs i) (chain xs i).length w := by
  intro l J Jx W hW hJ hJx hY h0
  have hlen := hs.len
  dsimp only at hlen
  obtain ⟨x0, hx0⟩ := getElem?_of_lt hil0
  have hb1 := lt_of_cell hB1
  have hb2 := lt_of_cell hB2
  have kB1 : ∀ W', Keeps lo hi w.heap.size w W' → W'.cell? ⟨B1, 0, none⟩ = some (.slice p n c) := fun W' h => (h.cell hb1 hhi).trans hB1
  obtain ⟨b, o, hp, hblt, -⟩ := ownAt hs hx0
  subst hp
  have hblo := hlo b o rfl
  have kO : ∀ (W' : World) (k : Nat) (x : GN), Keeps lo hi w.heap.size w W' → xs[k]? = some x → W'.cell? ⟨b, o + k * 16 + 4, none⟩ = some (.int .i64 x.ow) := fun W' k x h hx => by
    obtain ⟨b', o', hp', hlt', hc'⟩ := ownAt hs hx
    obtain ⟨rfl, rfl⟩ : b = b' ∧ o = o' := by simpa using hp'
    exact (h.cell hblt (.inl hblo)).trans hc'
  have hx0o := kO W i x0 (.of_below hW) hx0
  have c1 := kB1 W (.of_below hW)
  have c2 := (hW.cell (p := ⟨B2, 0, none⟩) hb2).trans hB2
  have hin : i < n := by omega
  have hpl := fun W => callsIn_wide (n := m - 1).2 (sPlace_any (some ⟨b, o, none⟩) n c i W)
  rw [show (decide ((0 : Int) ≤ i) && decide ((i : Int) < n)) = true by simp; omega] at hpl
  have HC : Hid (chain xs i = chainO xs x0.ow) := hide (chain_eq hr hx0)
  have HN := hide hlen; clear hlen
  have hrx := hr i x0 hx0
  have hn62 := hs.big
  have hcap := hs.cap
  dsimp only at hn62 hcap
  have hil : (i : Int) < (n : Int) := by omega
  have hF1 : Fence.wide.fn 39 := trivial
  have KO := hide kO; clear kO
  have KB := hide kB1; clear kB1
  have HX0 := hide hx0; clear hx0
  refine callsIn_of_wp Tryd.func68 rfl trivial ?_ rfl
  simp only [Tryd.ntmps68, List.size_toArray, List.length_cons, List.length_nil, Nat.reduceAdd, Nat.reduceSub, Array.replicate_succ, Array.replicate_zero, List.push_toArray, List.append_toArray, List.nil_append, List.cons_append]
  gi_wp2_with (gi_at_call 39; refine (hpl _).mono ?_; rintro e w' ⟨rfl, rfl⟩)
  gi_loopw [4] (fun s4 wr => ∃ (pre : List Int) (o' : Int), s4 = .int .i64 o' ∧ Aside (chain xs i = pre ++ chainO xs o') ∧ -1 ≤ o' ∧ o' < n ∧ J pre wr ∧ Aside (Keeps lo hi w.heap.size w wr)) (fun s4 _ => (intOf s4 + 1).toNat)
  case atStart => exact ⟨[], x0.ow, rfl, HC.out, by omega, by omega, h0, (Keeps.of_below hW : Keeps lo hi w.heap.size w W)⟩
  case round =>
    obtain ⟨pre, o', rfl, HE, hlo', hhi', hJs, HB⟩ := hrel
    by_cases h : 0 ≤ o'
    · obtain ⟨x, hx⟩ := getElem?_of_lt (xs := xs) (k := o'.toNat) (by have := HN.out; omega)
      have hcO : chainO xs o' = o' :: chainO xs x.ow := by unfold chainO; rw [if_pos h, chain_eq hr hx]
      have hE := HE.out
      have hpl : pre.length < (chain xs i).length := by rw [hE, hcO]; simp
      obtain ⟨fn, tmps, assign, body, hy, hR⟩ := hY pre o' wr hJs hpl
      have hrx' := hr o'.toNat x hx
      have HE2 : Aside (chain xs i = (pre ++ [o']) ++ chainO xs x.ow) := by show _ = _; rw [hE, hcO]; simp [List.append_assoc]
      have HPre : Hid (pre ++ [o'] <+: chain xs i) := hide ⟨chainO xs x.ow, by rw [HE2]⟩
      have HX := hide hx
      clear hcO hE hpl hx
      gi_wp2
      refine hR.mono ?_
      rintro e W3 (⟨rfl, hJ3, hk3⟩ | ⟨rfl, hJx3⟩)
      · have hB3 := HB.out.trans hk3
        have c1' := KB.out W3 hB3
        have c3' := KO.out W3 o'.toNat x hB3 HX.out
        have hlt : o' < (n : Int) := hhi'
        gi_wp2
        go_roundw
        case rel => exact ⟨pre ++ [o'], x.ow, rfl, HE2, by omega, by omega, hJ3, hB3⟩
        case measure => simp [intOf]; omega
      · gi_wp2
        refine bodyPost_ret (results_none rfl _ _ _) rfl ?_
        exact ⟨⟨_, rfl⟩, .inr ⟨pre ++ [o'], HPre.out, hJx3⟩⟩
    · have hc : chainO xs o' = [] := by unfold chainO; rw [if_neg h]
      have HE2 : Hid (chain xs i = pre) := hide (by have := HE.out; rw [this, hc]; simp)
      clear hc
      gi_wp2
      go_end0
      exact ⟨⟨_, rfl⟩, .inl (by rw [HE2.out]; exact hJs)⟩
end Go.Proofs.YtfcdohaimdodgaaDoor

/-
  scope.Deep by what the document says.
-/
namespace Go.Proofs.YtfcdohaimdodgaaDoor
open Go.RowKit Go.Shelf
attribute [local go_sem] Oper.semAt_some
set_option linter.unusedVariables false

theorem enters_up1 : ∀ args w, (callFunc 68 args).run Tryd.prog w = .ok (.enter 68 args) w := enters_of Tryd.func68 (by kernel_rfl) rfl

theorem deep_no (p : Option Addr) (n c : Nat) (i : Int) (w : World) (h : ¬ (0 ≤ i ∧ i < n)) : Calls Tryd.prog 19 #[.slice p n c, .int .i64 i] w fun e w' => e = .returned (.int .i64 0) ∧ Ext w w' := by
  have hp := fun W => sPlace_any p n c i W
  rw [show (decide (0 ≤ i) && decide (i < (n : Int))) = false by simp; omega] at hp
  clear h
  go_enter Tryd.func19, Tryd.ntmps19
  go_wp2_with (go_at_call 39; refine (hp _).mono ?_; rintro e w' ⟨rfl, rfl⟩)
  go_ret
  exact ⟨rfl, Ext.refl _⟩
set_option maxRecDepth 100000 in
set_option maxHeartbeats 400000 in
theorem deep_yes (p : Option Addr) (n c : Nat) (i : Nat) (xs : List GN) (w : World) (hs : NodesAt w ⟨p, n, c⟩ xs) (hr : RightN xs) (hi : i < n) : Calls Tryd.prog 19 #[.slice p n c, .int .i64 i] w fun e w' => e = .returned (.int .i64 (1 + (chain xs i).length)) ∧ Ext w w' := by
  have hlen := hs.len
  have hbig := hs.big
  have hcap := hs.cap
  dsimp only at hlen hbig hcap
  have hcl := chain_len hr i
  obtain ⟨m, hm⟩ : ∃ m : Nat, 3 ≤ m := ⟨3, Nat.le_refl _⟩
  have h1 : 1 ≤ m := by omega
  have hpl := fun W => callsIn_wide (n := m - 1).2 (sPlace_any p n c i W)
  rw [show (decide ((0 : Int) ≤ i) && decide ((i : Int) < n)) = true by simp; omega] at hpl
  have hup := fun W => callsIn_wide (n := m - 1).2 (up_any p n c i W)
  have hF1 : Fence.wide.fn 39 := trivial
  have hF2 : Fence.wide.fn 40 := trivial
  have hil : i < xs.length := by omega
  have HS := hide hs; clear hs
  have HL := hide hlen; clear hlen
  have HU := hide hup; clear hup
  have HP := hide hpl; clear hpl
  refine (callsIn_wide (n := m)).1 ?_
  refine callsIn_of_wp_marks Tryd.func19 rfl trivial ?_ rfl
  simp only [Tryd.ntmps19, List.size_toArray, List.length_cons, List.length_nil, Nat.reduceAdd, Nat.reduceSub, Array.replicate_succ, Array.replicate_zero, List.push_toArray, List.append_toArray, List.nil_append, List.cons_append]
  gi_wp2_with (first | (gi_at_call 39; refine (HP.out _).mono ?_; rintro e w' ⟨rfl, rfl⟩) | (gi_at_call 40; refine (HU.out _).mono ?_; rintro e w' ⟨rfl, rfl⟩))
  have hs0 := cell_new_l w (.int .i64 1) 3
  have hb0 := cell_new_l (w.alloc (.cells #[.int .i64 1] 3)) (.slice p n c) 34
  have hb1 := cell_new_l ((w.alloc (.cells #[.int .i64 1] 3)).alloc (.cells #[.slice p n c] 34)) (.int .i64 i) 3
  simp only [World.size_alloc] at hb0 hb1
  have hB0 : Ext w (((w.alloc (.cells #[.int .i64 1] 3)).alloc (.cells #[.slice p n c] 34)).alloc (.cells #[.int .i64 i] 3)) := by (repeat' (first | exact Below.refl _ _ | assumption | refine Ext.alloc ?_ _ | refine Ext.drew ?_ | refine Ext.trans ?_ (by assumption)))
  have hblk : ∀ b o, p = some ⟨b, o, none⟩ → b < w.heap.size := HS.out.block_lt (show 0 < n by omega)
  refine wpIn_rangeFunc_ownF rfl h1 (gf := 68) (lb := #[.pointer (some ⟨w.heap.size + 1, 0, none⟩), .pointer (some ⟨w.heap.size + 1 + 1, 0, none⟩)]) rfl trivial enters_up1
    (up1_stops (m - 1) w.heap.size (w.heap.size + 1) (w.heap.size + 1) (w.heap.size + 1 + 1) p n c i xs _ (HS.out.below hB0) hr hil hblk (.inr (Nat.le_refl _)) (cell_alloc_l _ hb0.1) hb1.1 (by omega)) keeps_t (keeps_b (Nat.le_refl _)) (Below.refl _ _) (fun _ => rfl)
    (fun pre W => (W.cell? ⟨w.heap.size, 0, none⟩ = some (.int .i64 (1 + pre.length)) ∧ W.frozen? ⟨w.heap.size, 0, none⟩ = false) ∧ Ext w W)
    (fun _ _ _ => False)
    (OwnFrom.and (Own.from (fun s A B row hs hg hr => ⟨cell_kept hs.1 hg hr, (frozen_kept hs.1 hg hr).trans hs.2⟩) _) (ownFrom_below (Nat.le_refl _) (by simp; omega)))
    (fun _ _ _ _ _ hs _ _ => hs)
    ⟨⟨by simpa using cell_alloc_l _ (cell_alloc_l _ hs0.1), frozen_alloc_l _ (cell_alloc_l _ hs0.1) (frozen_alloc_l _ hs0.1 hs0.2)⟩, hB0⟩
    ?a1 ?assign ?body ?done ?stop
  case assign =>
    intro l x W K hK
    gi_wp2
    exact hK
  case body =>
    rintro l pre x W ⟨⟨hc, hf⟩, hB⟩ hlt
    have hlt2 : (pre.length : Int) + 2 ≤ n := by omega
    gi_wp2
    exact ⟨KeepsOthers.setCell _ _ _, Keeps.setCell _ _ _ _ (Nat.le_refl _) (Nat.lt_succ_self _), ⟨by rw [show (1 + (((pre ++ [x]).length : Nat) : Int)) = 1 + (pre.length : Int) + 1 by simp; omega]; exact World.cell?_setCell_same' _ _ _ (by rw [hc]; rfl), by rw [World.frozen?_setCell]; exact hf⟩, hB.setCell (p := ⟨w.heap.size, 0, none⟩) (Nat.le_refl _) _⟩
  case done =>
    rintro D ys W hD rfl ⟨⟨hc, _⟩, hB⟩ hK
    gi_wp2
    refine ⟨by simp, .inl ⟨_, _, rfl, run_takeDeferred hK, ?_⟩⟩
    exact ⟨_, results_tmp rfl _ _ _, rfl, Below.trans hB (belowK_b (w := w) (Nat.le_refl _) W D _ _ (by simp at hD; omega) hK rfl rfl)⟩
  case stop =>
    rintro D c pre W _ _ h _
    exact h.elim
theorem deep_any (p : Option Addr) (n c : Nat) (i : Int) (xs : List GN) (w : World) (hs : NodesAt w ⟨p, n, c⟩ xs) (hr : RightN xs) : Calls Tryd.prog 19 #[.slice p n c, .int .i64 i] w fun e w' => e = .returned (.int .i64 (deepN xs i)) ∧ Ext w w' := by
  have hl : n = xs.length := hs.len
  by_cases h : 0 ≤ i ∧ i < n
  · obtain ⟨k, rfl⟩ := Int.eq_ofNat_of_zero_le h.1
    refine (deep_yes p n c k xs w hs hr (by omega)).mono ?_
    rintro e w' ⟨rfl, hb⟩
    refine ⟨ret_int ?_, hb⟩
    unfold deepN
    rw [if_pos (by omega)]
    simp
  · refine (deep_no p n c i w h).mono ?_
    rintro e w' ⟨rfl, hb⟩
    refine ⟨ret_int ?_, hb⟩
    unfold deepN
    rw [if_neg (by omega)]
end Go.Proofs.YtfcdohaimdodgaaDoor

/-
  slices.AppendSeq, slices.Collect over scope.up: scope.Chain by what the document says.
-/
namespace Go.Proofs.YtfcdohaimdodgaaDoor
open Go.RowKit Go.Shelf
attribute [local go_sem] Oper.semAt_some
set_option linter.unusedVariables false

theorem infoInt : (Tryd.prog.info? 3).map (fun i => (i.zero, i.size, i.bytes)) = some (some (.int .i64 0), 1, 8) := by kernel_rfl
set_option maxRecDepth 100000 in
set_option maxHeartbeats 2000000 in
theorem appendSeq_up (B1 B2 : Nat) (p : Option Addr) (n c : Nat) (i : Nat) (xs : List GN) (w : World) (hs : NodesAt w ⟨p, n, c⟩ xs) (hr : RightN xs) (hil0 : i < xs.length) (hxl : xs.length ≤ 1000000)
    (hB1 : w.cell? ⟨B1, 0, none⟩ = some (.slice p n c)) (hB2 : w.cell? ⟨B2, 0, none⟩ = some (.int .i64 i)) :
    Calls Tryd.prog 69 #[.slice none 0 0, .func (.func 68) #[] #[.pointer (some ⟨B1, 0, none⟩), .pointer (some ⟨B2, 0, none⟩)]] w fun e w' => ∃ v, e = .returned v ∧ w'.ownsRow w.heap.size 3 1 v (chain xs i).length ((chain xs i).flatMap intCells) ∧ Ext w w' := by
  obtain ⟨m, hm⟩ : ∃ m : Nat, 3 ≤ m := ⟨3, Nat.le_refl _⟩
  have h1 : 1 ≤ m := by omega
  obtain ⟨i0, hi, hz0, hz1, hz2⟩ := info_parts infoInt
  have hcl := chain_len hr i
  have hb1 := lt_of_cell hB1
  have hlo : ∀ b o, p = some ⟨b, o, none⟩ → b < w.heap.size := hs.block_lt (by have := hs.len; omega)
  refine (callsIn_wide (n := m)).1 ?_
  refine callsIn_of_wp_marks Tryd.func69 rfl trivial ?_ rfl
  have hst2 : SeqStopsK Fence.wide (m - 1) Tryd.prog 68 #[.pointer (some ⟨B1, 0, none⟩), .pointer (some ⟨B2, 0, none⟩)] (fun x : Int => #[.int .i64 x]) (Below w.heap.size) (fun ys => ys = chain xs i) (fun ys => ys <+: chain xs i) (chain xs i).length w := by
    intro l J Jx W hW hJ hJx hY h0
    refine up1_stops (m - 1) w.heap.size w.heap.size B1 B2 p n c i xs w hs hr hil0 hlo (.inl hb1) hB1 hB2 (by omega) l J Jx W hW hJ hJx ?_ h0
    intro pre x W1 hj hl
    obtain ⟨fn, tmps, assign, body, hy, hR⟩ := hY pre x W1 hj hl
    exact ⟨fn, tmps, assign, body, hy, hR.mono fun e w' h => h.imp (fun ⟨a, b, c⟩ => ⟨a, b, .of_below c⟩) id⟩
  have HT := hide hst2; clear hst2
  clear hs hB1 hB2
  simp only [Tryd.ntmps69, List.size_toArray, List.length_cons, List.length_nil, Nat.reduceAdd, Nat.reduceSub, Array.replicate_succ, Array.replicate_zero, List.push_toArray, List.append_toArray, List.nil_append, List.cons_append]
  gi_wp2
  have bO := Boxed.new w 33 (.slice none 0 0)
  have hB0 : Ext w (w.alloc (.cells #[.slice none 0 0] 33)) := by (repeat' (first | exact Below.refl _ _ | assumption | refine Ext.alloc ?_ _ | refine Ext.drew ?_ | refine Ext.trans ?_ (by assumption)))
  refine wpIn_rangeFunc_ownG rfl h1 (gf := 68) (lb := #[.pointer (some ⟨B1, 0, none⟩), .pointer (some ⟨B2, 0, none⟩)]) rfl trivial enters_up1 HT.out belowK_t (belowK_b (by simp)) hB0 (fun _ => rfl)
    (fun pre W => (∃ v, Boxed W w.heap.size 33 v ∧ W.ownsRow w.heap.size 3 1 v pre.length (pre.flatMap intCells) ∧ True) ∧ Ext w W)
    (fun _ _ _ => False)
    (OwnFrom.and (Own.from (holdsRow_own w.heap.size w.heap.size 33 3 1 (fun pre : List Int => pre.length) (fun pre => pre.flatMap intCells) (fun pre v => True)) _) (ownFrom_below (Nat.le_refl _) (by simp)))
    (fun _ _ _ _ _ hs _ _ => hs)
    ⟨⟨_, bO, World.ownsRow_nil _ _ _ _, trivial⟩, hB0⟩
    ?a1 ?assign ?body ?done ?stop
  case assign =>
    intro l x W K hK
    gi_wp2
    exact hK
  case body =>
    rintro l pre x W ⟨⟨v, hv, hrow, -⟩, hB⟩ hlt
    have hc := hv.cell
    gi_wp2_with (gi_at_builtin; refine wpListIn_append_own _ rfl _ _ 33 rfl w.heap.size 3 i0 (.int .i64 0) 1 8 Tryd.underlying33 hi hz0 hz1 hz2 rfl (by decide) _ _ _ rfl (hrow.alloc _) ⟨W.heap.size, 0, none⟩ 1 1 [.int .i64 x] rfl rfl (cell_one_new _ _ _) (by simp [Value.oneCell']) (by unfold maxLen; omega) (by omega) (by have := hB.size; simp; omega) ?_; intro v' w1 hown' hgrow _; obtain ⟨g', cap', rfl⟩ := ownsRow_succ hown'; obtain ⟨hv1, hv2, hr2, hk2, hb2⟩ := hv.appended (by decide) hrow hB.size (Nat.le_refl _) hown' hgrow; have hc1 := hv1.cell; have hf1 := hv1.frozen)
    exact ⟨hk2.from _, hb2, ⟨_, hv2, by simpa [intCells] using hr2, trivial⟩, Below.trans hB hb2⟩
  case done =>
    rintro D ys W hD rfl ⟨⟨v, hv, hrow, -⟩, hB⟩ hK
    have hc := hv.cell
    gi_wp2
    refine ⟨by simp, .inl ⟨_, _, rfl, run_takeDeferred hK, ?_⟩⟩
    exact ⟨_, results_tmp rfl _ _ _, v, rfl, ownsRow_putObj hrow _ hK rfl, Below.trans hB (belowK_b (w := w) (Nat.le_refl _) W D _ _ (by simp at hD; omega) hK rfl rfl)⟩
  case stop =>
    rintro D c pre W _ _ h _
    exact h.elim
theorem collect_up (B1 B2 : Nat) (p : Option Addr) (n c : Nat) (i : Nat) (xs : List GN) (w : World) (hs : NodesAt w ⟨p, n, c⟩ xs) (hr : RightN xs) (hil0 : i < xs.length) (hxl : xs.length ≤ 1000000)
    (hB1 : w.cell? ⟨B1, 0, none⟩ = some (.slice p n c)) (hB2 : w.cell? ⟨B2, 0, none⟩ = some (.int .i64 i)) :
    Calls Tryd.prog 41 #[.func (.func 68) #[] #[.pointer (some ⟨B1, 0, none⟩), .pointer (some ⟨B2, 0, none⟩)]] w fun e w' => ∃ v, e = .returned v ∧ w'.ownsRow w.heap.size 3 1 v (chain xs i).length ((chain xs i).flatMap intCells) ∧ Ext w w' := by
  have H := hide (appendSeq_up B1 B2 p n c i xs w hs hr hil0 hxl hB1 hB2)
  clear hs hB1 hB2
  go_enter Tryd.func41, Tryd.ntmps41
  go_wp2_with (go_at_call 69; refine H.out.mono ?_; rintro e w' ⟨v, rfl, ho, hb⟩)
  go_ret
  exact ⟨v, rfl, ho, hb⟩
theorem chain_yes (p : Option Addr) (n c : Nat) (i : Nat) (xs : List GN) (w : World) (hs : NodesAt w ⟨p, n, c⟩ xs) (hr : RightN xs) (hil0 : i < xs.length) (hxl : xs.length ≤ 1000000) :
    Calls Tryd.prog 20 #[.slice p n c, .int .i64 i] w fun e w' => ∃ v, e = .returned v ∧ w'.ownsRow w.heap.size 3 1 v (chain xs i).length ((chain xs i).flatMap intCells) ∧ Ext w w' := by
  have hb0 := cell_new_l w (.slice p n c) 34
  have hb1 := cell_new_l (w.alloc (.cells #[.slice p n c] 34)) (.int .i64 i) 3
  simp only [World.size_alloc] at hb1
  have hB0 : Ext w ((w.alloc (.cells #[.slice p n c] 34)).alloc (.cells #[.int .i64 i] 3)) := by (repeat' (first | exact Below.refl _ _ | assumption | refine Ext.alloc ?_ _ | refine Ext.drew ?_ | refine Ext.trans ?_ (by assumption)))
  have H := hide (collect_up w.heap.size (w.heap.size + 1) p n c i xs _ (hs.below hB0) hr hil0 hxl (cell_alloc_l _ hb0.1) hb1.1)
  have HU := hide (up_any p n c i w)
  clear hs hb0 hb1 hB0
  go_enter Tryd.func20, Tryd.ntmps20
  go_wp2_with (first | (go_at_call 40; refine HU.out.mono ?_; rintro e w' ⟨rfl, rfl⟩) | (go_at_call 41; refine H.out.mono ?_; rintro e w' ⟨v, rfl, ho, hb⟩))
  go_ret
  exact ⟨v, rfl, owns_mono ho (by simp; omega), by (repeat' (first | exact Below.refl _ _ | assumption | refine Ext.alloc ?_ _ | refine Ext.drew ?_ | refine Ext.trans ?_ (by assumption)))⟩
end Go.Proofs.YtfcdohaimdodgaaDoor

/-
  Maps in memory as lists of pairs: look-up, and putting, over any program and any kind of key.
-/
namespace Go.Proofs.YtfcdohaimdodgaaDoor
set_option linter.unusedSectionVars false
set_option linter.unusedSimpArgs false
open Go.RowKit

section
variable {κ β : Type} [DecidableEq κ]

def mget (k : κ) : List (κ × β) → Option β
  | [] => none
  | x :: r => if x.1 = k then some x.2 else mget k r
def mput (k : κ) (v : β) : List (κ × β) → List (κ × β)
  | [] => [(k, v)]
  | x :: r => if x.1 = k then (x.1, v) :: r else x :: mput k v r
theorem mget_mput (k k' : κ) (v : β) (l : List (κ × β)) : mget k' (mput k v l) = if k = k' then some v else mget k' l := by
  induction l with
  | nil => simp [mput, mget]
  | cons x r ih =>
    unfold mput
    by_cases h : x.1 = k
    · rw [if_pos h]; unfold mget; dsimp only; subst h
      by_cases h2 : x.1 = k' <;> simp [h2]
    · rw [if_neg h]; unfold mget; rw [ih]
      by_cases h2 : x.1 = k'
      · simp [h2]; intro h3; exact absurd (h2.trans h3.symm) h
      · simp [h2]

/-- where a key lies, and its value -/
def mfind (k : κ) : List (κ × Value) → Nat → Option (Nat × Value)
  | [], _ => none
  | x :: r, i => if x.1 = k then some (i, x.2) else mfind k r (i + 1)

structure KeyLaw (P : Program) (T : TypeId) (kenc : κ → Value) : Prop where
  chk : ∀ em k w, (Instr.checkKey em 10000 T (kenc k)).run P w = .ok () w
  find : ∀ (k : κ) (l : List (κ × Value)) (es : List MapEntry) w, es.map (fun e => (e.key, e.val)) = l.map (fun x => (kenc x.1, x.2)) → (Instr.findKey T (kenc k) es).run P w = .ok (mfind k l 0) w
  stay : ∀ k, Instr.sameBits 10000 (kenc k) (kenc k) = true

def MapAt (kenc : κ → Value) (venc : β → Value) (w : World) (r : Nat) (l : List (κ × β)) : Prop :=
  ∃ es clock, w.heap[r]? = some (.map es clock) ∧ es.toList.map (fun e => (e.key, e.val)) = l.map (fun x => (kenc x.1, venc x.2))

theorem MapAt.new (kenc : κ → Value) (venc : β → Value) (w : World) : MapAt kenc venc (w.alloc (.map #[] 0)) w.heap.size [] :=
  ⟨#[], 0, World.alloc_heap_new w _, rfl⟩
theorem MapAt.lt {kenc : κ → Value} {venc : β → Value} {w : World} {r : Nat} {l : List (κ × β)} (h : MapAt kenc venc w r l) : r < w.heap.size := by
  obtain ⟨es, clock, h, -⟩ := h; exact lt_of_block h
theorem MapAt.of_block {kenc : κ → Value} {venc : β → Value} {w w' : World} {r : Nat} {l : List (κ × β)} (h : MapAt kenc venc w r l) (hb : w'.heap[r]? = w.heap[r]?) : MapAt kenc venc w' r l := by
  obtain ⟨es, clock, h1, h2⟩ := h; exact ⟨es, clock, hb.trans h1, h2⟩
theorem MapAt.below {kenc : κ → Value} {venc : β → Value} {w w' : World} {r : Nat} {l : List (κ × β)} (h : MapAt kenc venc w r l) (hb : Ext w w') : MapAt kenc venc w' r l := h.of_block (hb.block r h.lt)

theorem mfind_of (k : κ) (venc : β → Value) (l : List (κ × β)) : ∀ i, mfind k (l.map fun x => (x.1, venc x.2)) i = match mget k l with | some b => some (i + l.findIdx (fun x => x.1 = k), venc b) | none => none := by
  induction l with
  | nil => intro i; rfl
  | cons x r ih =>
    intro i
    simp only [List.map_cons, mfind, mget]
    by_cases h : x.1 = k
    · simp [h, List.findIdx_cons]
    · simp only [if_neg h, ih]
      cases mget k r with
      | none => rfl
      | some b => simp [List.findIdx_cons, h]; omega

variable {P : Program} {w : World} {ops : Array Oper} {rest : List Oper} {o : Oper} {a : Act} {Q : Exit → Act → World → Prop}

theorem run_lookup_at {k e t : TypeId} {kenc : κ → Value} {venc : β → Value} (K : KeyLaw P k kenc) (ht : P.underlying t = some (.map k e)) (z : β) (hz : (zeroValue e).run P w = .ok (venc z) w) {r : Nat} {l : List (κ × β)} (hat : MapAt kenc venc w r l) (kk : κ) (ok : Bool) :
    (Instr.lookup t (.map (some r)) (kenc kk) ok).run P w = .ok (if ok then .tuple #[venc ((mget kk l).getD z), .bool (mget kk l).isSome] else venc ((mget kk l).getD z)) w := by
  obtain ⟨es, clock, h1, h2⟩ := hat
  have hf := K.find kk (l.map fun x => (x.1, venc x.2)) es.toList w (by rw [h2]; simp)
  rw [mfind_of] at hf
  have hc := K.chk es.isEmpty kk w
  simp only [Instr.lookup]
  cases hm : mget kk l with
  | none =>
    rw [hm] at hf
    simp [run_underlying ht, Sem.run_bind, Result.andThen, getObj, Sem.run, h1, hc, hf, hz]
  | some b =>
    rw [hm] at hf
    simp [run_underlying ht, Sem.run_bind, Result.andThen, getObj, Sem.run, h1, hc, hf, hz]

theorem map_modify_toList (es : Array MapEntry) (i : Nat) (f : MapEntry → MapEntry) : (es.modify i f).toList = es.toList.modify i f := by simp
theorem mput_map (kenc : κ → Value) (venc : β → Value) (k : κ) (v : β) (l : List (κ × β)) (b : β) (hm : mget k l = some b) : ∀ es : List MapEntry, es.map (fun e => (e.key, e.val)) = l.map (fun x => (kenc x.1, venc x.2)) →
    (es.modify (l.findIdx (fun x => x.1 = k)) fun e => { e with key := kenc k, val := venc v }).map (fun e => (e.key, e.val)) = (mput k v l).map (fun x => (kenc x.1, venc x.2)) := by
  induction l with
  | nil => simp [mget] at hm
  | cons x r ih =>
    intro es hes
    cases es with
    | nil => simp at hes
    | cons e es =>
      simp only [List.map_cons, List.cons.injEq] at hes
      unfold mput
      by_cases h : x.1 = k
      · subst h
        simp [List.findIdx_cons, List.modify_cons, hes.2]
      · rw [if_neg h]
        have := ih (by simpa [mget, h] using hm) es hes.2
        simp [List.findIdx_cons, h, List.modify_cons, hes.1, this]
theorem mput_none (k : κ) (v : β) (l : List (κ × β)) (hm : mget k l = none) : mput k v l = l ++ [(k, v)] := by
  induction l with
  | nil => rfl
  | cons x r ih =>
    by_cases h : x.1 = k
    · simp [mget, h] at hm
    · simp [mput, h, ih (by simpa [mget, h] using hm)]
theorem findIdx_key (kenc : κ → Value) (venc : β → Value) (k : κ) (l : List (κ × β)) (b : β) (hm : mget k l = some b) : ∀ es : List MapEntry, es.map (fun e => (e.key, e.val)) = l.map (fun x => (kenc x.1, venc x.2)) → (es[l.findIdx (fun x => x.1 = k)]?).map (·.key) = some (kenc k) := by
  induction l with
  | nil => simp [mget] at hm
  | cons x r ih =>
    intro es hes
    cases es with
    | nil => simp at hes
    | cons e es =>
      simp only [List.map_cons, List.cons.injEq, Prod.mk.injEq] at hes
      by_cases h : x.1 = k
      · simp [List.findIdx_cons, h, hes.1.1]
      · have := ih (by simpa [mget, h] using hm) es hes.2
        simp [List.findIdx_cons, h, this]

theorem run_mapUpdate_at {k e t : TypeId} {kenc : κ → Value} {venc : β → Value} (K : KeyLaw P k kenc) (ht : P.underlying t = some (.map k e)) {r : Nat} {l : List (κ × β)} (hat : MapAt kenc venc w r l) (kk : κ) (v : β) :
    ∃ w', (Instr.mapUpdate t (.map (some r)) (kenc kk) (venc v)).run P w = .ok () w' ∧ MapAt kenc venc w' r (mput kk v l) ∧ w.grownBy w' (some r) ∧ w'.heap.size = w.heap.size := by
  obtain ⟨es, clock, h1, h2⟩ := hat
  have hlt := lt_of_block h1
  have hf := K.find kk (l.map fun x => (x.1, venc x.2)) es.toList w (by rw [h2]; simp)
  rw [mfind_of] at hf
  have hc := K.chk false kk w
  have hput : ∀ es' c', MapAt kenc venc (w.putObj r (.map es' c')) r (mput kk v l) ↔ es'.toList.map (fun e => (e.key, e.val)) = (mput kk v l).map (fun x => (kenc x.1, venc x.2)) := by
    intro es' c'
    constructor
    · rintro ⟨es2, c2, h3, h4⟩
      rw [World.putObj_heap_same hlt] at h3
      cases h3; exact h4
    · intro h; exact ⟨es', c', World.putObj_heap_same hlt, h⟩
  simp only [Instr.mapUpdate]
  cases hm : mget kk l with
  | none =>
    rw [hm] at hf
    refine ⟨w.putObj r (.map (es.push { key := kenc kk, val := venc v, born := clock }) (clock + 1)), ?_, ?_, grownBy_putObj' _ _ _, by simp [World.putObj]⟩
    · simp [run_underlying ht, Sem.run_bind, Result.andThen, getObj, setObj, Sem.run, h1, hc, hf, World.putObj]
    · rw [hput, mput_none kk v l hm]
      simp [h2]
  | some b =>
    rw [hm] at hf
    have hk := findIdx_key kenc venc kk l b hm es.toList h2
    refine ⟨w.putObj r (.map (es.modify (l.findIdx fun x => x.1 = kk) fun e => { e with key := kenc kk, val := venc v }) clock), ?_, ?_, grownBy_putObj' _ _ _, by simp [World.putObj]⟩
    · have hk2 : (es[l.findIdx fun x => x.1 = kk]?).map (·.key) = some (kenc kk) := by simpa using hk
      have hk3 : ((es[l.findIdx fun x => decide (x.1 = kk)]?).map (·.key)).getD (kenc kk) = kenc kk := by rw [hk2]; rfl
      simp only [Nat.zero_add] at hf
      simp [run_underlying ht, Sem.run_bind, Result.andThen, getObj, setObj, Sem.run, h1, hc, hf, hk3, Instr.keyThatStays, K.stay, World.putObj]
    · rw [hput, map_modify_toList]
      exact mput_map kenc venc kk v l b hm es.toList h2

theorem wpList_lookup_at (hg : o.guard = none) (m x : Operand) (t : TypeId) (ok : Bool) (hop : o.op = Op.lookup t m x ok) {k e : TypeId} {kenc : κ → Value} {venc : β → Value} (K : KeyLaw P k kenc) (ht : P.underlying t = some (.map k e))
    (z : β) (hz : (zeroValue e).run P w = .ok (venc z) w) (r : Nat) (l : List (κ × β)) (hm : a.eval m = .map (some r)) (hat : MapAt kenc venc w r l) (kk : κ) (hx : a.eval x = kenc kk)
    (hK : wpList P ops Q rest (a.put o.dst (if ok then .tuple #[venc ((mget kk l).getD z), .bool (mget kk l).isSome] else venc ((mget kk l).getD z))) w) : wpList P ops Q (o :: rest) a w := by
  refine wpList_plain hg fun K' hK' => ?_
  have hrun := run_lookup_at (P := P) (w := w) K ht z hz hat kk ok
  unfold Oper.wp
  simp [execOp, hop, hm, hx, hrun, Result.andThen]
  exact hK' _ _ hK
theorem wpList_mapUpdate_at (hg : o.guard = none) (m x v : Operand) (t : TypeId) (hop : o.op = Op.mapUpdate t m x v) {k e : TypeId} {kenc : κ → Value} {venc : β → Value} (K : KeyLaw P k kenc) (ht : P.underlying t = some (.map k e))
    (r : Nat) (l : List (κ × β)) (hm : a.eval m = .map (some r)) (hat : MapAt kenc venc w r l) (kk : κ) (hx : a.eval x = kenc kk) (vv : β) (hv : a.eval v = venc vv)
    (hK : ∀ w', MapAt kenc venc w' r (mput kk vv l) → w.grownBy w' (some r) → w'.heap.size = w.heap.size → wpList P ops Q rest (a.put o.dst undef) w') : wpList P ops Q (o :: rest) a w := by
  refine wpList_plain hg fun K' hK' => ?_
  obtain ⟨w', hrun, r1, r2, r3⟩ := run_mapUpdate_at (P := P) (w := w) K ht hat kk vv
  unfold Oper.wp
  simp [execOp, hop, hm, hx, hv, hrun, Result.andThen]
  exact hK' _ _ (hK w' r1 r2 r3)
end
end Go.Proofs.YtfcdohaimdodgaaDoor

/-
  The kinds of keys: strings, integers, and names.key (a flow, an owner, a name).
-/
namespace Go.Proofs.YtfcdohaimdodgaaDoor
open Go.RowKit
set_option linter.unusedSimpArgs false

theorem ba_beq (a b : ByteArray) : (a == b) = decide (a = b) := by
  rw [beq_toListBytes, Bool.eq_iff_iff]
  simp [ba_inj]
theorem findNow_string (k : ByteArray) : ∀ (l : List (ByteArray × Value)) (es : List MapEntry) (i : Nat), es.map (fun e => (e.key, e.val)) = l.map (fun x => (Value.string x.1, x.2)) → Instr.findNow .string (.string k) es i = some (mfind k l i) := by
  intro l
  induction l with
  | nil => intro es i h; have : es = [] := by simpa using h
           subst this; rfl
  | cons x r ih =>
    intro es i h
    cases es with
    | nil => simp at h
    | cons e es =>
      simp only [List.map_cons, List.cons.injEq, Prod.mk.injEq] at h
      simp only [Instr.findNow, h.1.1, Instr.sameNow, mfind, ba_beq]
      by_cases hk : x.1 = k
      · rw [if_pos hk, decide_eq_true hk.symm, h.1.2]
      · rw [if_neg hk, decide_eq_false (fun h => hk h.symm)]
        exact ih es (i + 1) h.2
theorem keyString {P : Program} {T : TypeId} (hT : P.underlying T = some .string) : KeyLaw P T Value.string where
  chk := fun em k w => by
    rw [show (10000 : Nat) = 9999 + 1 from rfl]
    unfold Instr.checkKey
    simp only [Sem.run_bind, run_underlying hT, Result.andThen]
    rfl
  find := fun k l es w h => by simp [Instr.findKey, run_underlying hT, Sem.run_bind, Result.andThen, findNow_string k l es 0 h]
  stay := fun k => by simp [Instr.sameBits, ba_beq]
theorem findNow_int (q q' : IntKind) (k : Int) : ∀ (l : List (Int × Value)) (es : List MapEntry) (i : Nat), es.map (fun e => (e.key, e.val)) = l.map (fun x => (Value.int q x.1, x.2)) → Instr.findNow (.int q') (.int q k) es i = some (mfind k l i) := by
  intro l
  induction l with
  | nil => intro es i h; have : es = [] := by simpa using h
           subst this; rfl
  | cons x r ih =>
    intro es i h
    cases es with
    | nil => simp at h
    | cons e es =>
      simp only [List.map_cons, List.cons.injEq, Prod.mk.injEq] at h
      simp only [Instr.findNow, h.1.1, Instr.sameNow, mfind, if_true]
      by_cases hk : x.1 = k
      · rw [if_pos hk, hk, h.1.2]; simp
      · rw [if_neg hk, show (k == x.1) = false by simpa using fun h => hk (Eq.symm h)]
        exact ih es (i + 1) h.2
theorem keyInt {P : Program} {T : TypeId} {q : IntKind} (hT : P.underlying T = some (.int q)) : KeyLaw P T (Value.int q) where
  chk := fun em k w => by
    rw [show (10000 : Nat) = 9999 + 1 from rfl]
    unfold Instr.checkKey
    simp only [Sem.run_bind, run_underlying hT, Result.andThen]
    rfl
  find := fun k l es w h => by simp [Instr.findKey, run_underlying hT, Sem.run_bind, Result.andThen, findNow_int q q k l es 0 h]
  stay := fun k => by simp [Instr.sameBits]

/-- a key of a struct's type: what is asked of it -/
theorem keyStruct {P : Program} {T : TypeId} {fs : Array Field} {κ : Type} [DecidableEq κ] {kenc : κ → Value} (hT : P.underlying T = some (.struct fs))
    (chk : ∀ em k w, (Instr.checkKey em 10000 T (kenc k)).run P w = .ok () w) (eq : ∀ a b w, (Op.equal T (kenc a) (kenc b)).run P w = .ok (decide (a = b)) w) (stay : ∀ k, Instr.sameBits 10000 (kenc k) (kenc k) = true) : KeyLaw P T kenc where
  chk := chk
  stay := stay
  find := by
    intro k l es w h
    have ask : ∀ (l : List (κ × Value)) (es : List MapEntry) (i : Nat), es.map (fun e => (e.key, e.val)) = l.map (fun x => (kenc x.1, x.2)) → (Instr.findAsking T (kenc k) es i).run P w = .ok (mfind k l i) w := by
      intro l
      induction l with
      | nil => intro es i h; have : es = [] := by simpa using h
               subst this; rfl
      | cons x r ih =>
        intro es i h
        cases es with
        | nil => simp at h
        | cons e es =>
          simp only [List.map_cons, List.cons.injEq, Prod.mk.injEq] at h
          simp only [Instr.findAsking, h.1.1, mfind]
          have he := eq k x.1 w
          by_cases hk : x.1 = k
          · subst hk; simp [he, Sem.run_bind, Result.andThen, h.1.2]
          · have hk' : ¬ k = x.1 := fun h => hk (Eq.symm h)
            rw [if_neg hk]
            simp [he, Sem.run_bind, Result.andThen, hk', ih es (i + 1) h.2]
    cases l with
    | nil =>
      have : es = [] := by simpa using h
      subst this
      simp [Instr.findKey, run_underlying hT, Sem.run_bind, Result.andThen, Instr.findNow, mfind]
    | cons x r =>
      cases es with
      | nil => simp at h
      | cons e es =>
        have hn : Instr.findNow (.struct fs) (kenc k) (e :: es) 0 = none := by
          simp only [Instr.findNow]
          cases kenc k <;> cases e.key <;> rfl
        have := ask (x :: r) (e :: es) 0 h
        simp [Instr.findKey, run_underlying hT, Sem.run_bind, Result.andThen, hn, this]

/-- names.key -/
abbrev NK := Int × Int × ByteArray
def nkEnc (k : NK) : Value := .agg #[.int .i64 k.1, .int .i64 k.2.1, .string k.2.2]
theorem nkEq (a b : NK) (w : World) : (Op.equal 100 (nkEnc a) (nkEnc b)).run Tryd.prog w = .ok (decide (a = b)) w := by
  obtain ⟨a1, a2, a3⟩ := a
  obtain ⟨b1, b2, b3⟩ := b
  have u3 := Tryd.underlying3
  have g3 := Tryd.isAgg3
  have z3 := Tryd.sizeOf3
  have u9 := Tryd.underlying9
  have g9 := Tryd.isAgg9
  have z9 := Tryd.sizeOf9
  have hS : Tryd.prog.underlying 100 = some (.struct (Tryd.prog.fieldsOf 100)) := by kernel_rfl
  have hp : Tryd.prog.stoodInHeld 100 = false := by kernel_rfl
  unfold nkEnc Op.equal Op.maxDepth
  rw [show (10000 : Nat) = 9999 + 1 from rfl, run_equalIn_agg w 9999 100 _ _ hS hp]
  simp only [Program.fieldsOf, Tryd.underlying100]
  go_simp
  by_cases h1 : a1 = b1 <;> by_cases h2 : a2 = b2 <;> by_cases h3 : a3 = b3 <;> simp [h1, h2, h3, ba_inj]
theorem ckInt {P : Program} {T : TypeId} {q : IntKind} (hT : P.underlying T = some (.int q)) (em : Bool) (m : Nat) (v : Int) (w : World) : (Instr.checkKey em (m + 1) T (.int q v)).run P w = .ok () w := by
  unfold Instr.checkKey
  simp only [Sem.run_bind, run_underlying hT, Result.andThen]
  rfl
theorem ckString {P : Program} {T : TypeId} (hT : P.underlying T = some .string) (em : Bool) (m : Nat) (v : ByteArray) (w : World) : (Instr.checkKey em (m + 1) T (.string v)).run P w = .ok () w := by
  unfold Instr.checkKey
  simp only [Sem.run_bind, run_underlying hT, Result.andThen]
  rfl
theorem nkChk0 (em : Bool) (m : Nat) (k : NK) (w : World) : (Instr.checkKey em (m + 2) 100 (nkEnc k)).run Tryd.prog w = .ok () w := by
  obtain ⟨a1, a2, a3⟩ := k
  have c1 := fun v w => ckInt Tryd.underlying3 em m v w
  have c2 := fun v w => ckString Tryd.underlying9 em m v w
  have g3 := Tryd.isAgg3
  have z3 := Tryd.sizeOf3
  have g9 := Tryd.isAgg9
  have z9 := Tryd.sizeOf9
  unfold nkEnc
  unfold Instr.checkKey
  simp only [Sem.run_bind, run_underlying Tryd.underlying100, Result.andThen]
  go_simp
theorem nkChk (em : Bool) (k : NK) (w : World) : (Instr.checkKey em 10000 100 (nkEnc k)).run Tryd.prog w = .ok () w := nkChk0 em 9998 k w
theorem nkStay (k : NK) : Instr.sameBits 10000 (nkEnc k) (nkEnc k) = true := by
  unfold nkEnc
  simp [Instr.sameBits, ba_beq]
theorem keyNK : KeyLaw Tryd.prog 100 nkEnc := keyStruct Tryd.underlying100 nkChk nkEq nkStay
end Go.Proofs.YtfcdohaimdodgaaDoor

/-
  names: table, owners, Seen by what the document says.
-/
namespace Go.Proofs.YtfcdohaimdodgaaDoor
open Go.RowKit Go.Shelf
set_option linter.unusedVariables false

abbrev Tab := List (NK × Int) × Bool
def tabStep (s : Tab) (i : Nat) (x : GN) : Tab :=
  if (mget (x.fl, x.ow, x.nm) s.1).isSome || x.nm.size == 0 then (s.1, s.2 || !(x.nm.size == 0)) else (mput (x.fl, x.ow, x.nm) (i : Int) s.1, s.2)
def tabUpTo (xs : List GN) : Nat → Tab
  | 0 => ([], false)
  | k + 1 => match xs[k]? with
    | some x => tabStep (tabUpTo xs k) k x
    | none => tabUpTo xs k
theorem tab_succ {xs : List GN} {k : Nat} {x : GN} (hx : xs[k]? = some x) : tabUpTo xs (k + 1) = tabStep (tabUpTo xs k) k x := by
  conv => lhs; unfold tabUpTo
  rw [hx]
theorem ba_isEmpty (s : ByteArray) : s.toList.isEmpty = (s.size == 0) := by
  rw [Bool.eq_iff_iff, List.isEmpty_iff, beq_iff_eq]; exact ba_nil s
theorem ts1 {tl : List (NK × Int)} {tb : Bool} {i : Nat} {x : GN} (h : mget (x.fl, x.ow, x.nm) tl = none) (he : x.nm.toList.isEmpty = true) : tabStep (tl, tb) i x = (tl, tb) := by
  rw [ba_isEmpty] at he; simp [tabStep, h, he]
theorem ts2 {tl : List (NK × Int)} {tb : Bool} {i : Nat} {x : GN} (h : mget (x.fl, x.ow, x.nm) tl = none) (he : x.nm.toList.isEmpty = false) : tabStep (tl, tb) i x = (mput (x.fl, x.ow, x.nm) (i : Int) tl, tb) := by
  rw [ba_isEmpty] at he; simp [tabStep, h, he]
theorem ts3 {tl : List (NK × Int)} {tb : Bool} {i : Nat} {x : GN} {v : Int} (h : mget (x.fl, x.ow, x.nm) tl = some v) : tabStep (tl, tb) i x = (tl, tb || !x.nm.toList.isEmpty) := by
  simp [tabStep, h, ba_isEmpty]
theorem zeroI (w : World) : (zeroValue 3).run Tryd.prog w = .ok (.int .i64 0) w := by kernel_rfl
theorem undKM : Tryd.prog.underlying 96 = some (.map 100 3) := by kernel_rfl

set_option maxRecDepth 100000 in
set_option maxHeartbeats 1000000 in
theorem table_any (p : Option Addr) (n c : Nat) (xs : List GN) (w : World) (hs : NodesAt w ⟨p, n, c⟩ xs) :
    Calls Tryd.prog 81 #[.slice p n c] w fun e w' => e = .returned (.tuple #[.map (some w.heap.size), .bool (tabUpTo xs n).2]) ∧ MapAt nkEnc (Value.int .i64) w' w.heap.size (tabUpTo xs n).1 ∧ Ext w w' := by
  have hlen := hs.len
  have hbig := hs.big
  have hcap := hs.cap
  dsimp only at hlen hbig hcap
  have HL := hide hlen; clear hlen
  have HS := hide hs; clear hs
  have hmm := @run_makeMap Tryd.prog
  go_enter Tryd.func81, Tryd.ntmps81
  go_wp2
  go_loopg [5, 14] n (fun gg s5 s14 wr => ∃ k : Nat, k ≤ n ∧ n - k ≤ gg ∧ s14 = .int .i64 k ∧ s5 = .bool (tabUpTo xs k).2 ∧ Aside (MapAt nkEnc (Value.int .i64) wr w.heap.size (tabUpTo xs k).1) ∧ Aside (Ext w wr))
  case atStart => exact ⟨0, Nat.zero_le _, by omega, rfl, rfl, MapAt.new _ _ _, (by (repeat' (first | exact Below.refl _ _ | assumption | refine Ext.alloc ?_ _ | refine Ext.drew ?_ | refine Ext.trans ?_ (by assumption))) : Ext w _)⟩
  case round =>
    obtain ⟨k, hk, hg, rfl, rfl, HM, BW⟩ := hrel
    by_cases hlt : k < n
    · obtain ⟨x, hx⟩ := getElem?_of_lt (xs := xs) (k := k) (by have := HL.out; omega)
      obtain ⟨b, o, hsp, hblt, c0, c1, c2, c3, c4, c5, c6, c7, c8, c9, c10, c11, c12, c13, c14, c15⟩ := nodeAt (HS.out.below BW.out) hx
      have HT := hide (tab_succ hx)
      clear hx
      have hltz : (k : Int) < (n : Int) := by omega
      subst hsp
      generalize tabUpTo xs k = T at *
      obtain ⟨tl, tb⟩ := T
      cases hm : mget (x.fl, x.ow, x.nm) tl with
      | none =>
        have HG := hide hm; clear hm
        go_wp2_with (first | (at_lookup; refine wpList_lookup_at rfl (.tmp 27) (.tmp 28) 96 true rfl keyNK undKM (0 : Int) (zeroI _) w.heap.size tl rfl ((HM.out.below (Ext.alloc (Ext.alloc (Ext.refl _) _) _))) (x.fl, x.ow, x.nm) rfl ?_; rw [HG.out]; simp only [Option.getD_none, Option.isSome_none, if_true]) | (at_mapUpdate; refine wpList_mapUpdate_at rfl (.tmp 44) (.tmp 45) (.tmp 46) 96 rfl keyNK undKM w.heap.size tl rfl ((HM.out.below (Ext.alloc (Ext.alloc (Ext.refl _) _) _))) (x.fl, x.ow, x.nm) rfl (k : Int) rfl ?_; intro w2 hM2 hg2 hs2))
        · have he : x.nm.toList.isEmpty = true := by assumption
          go_roundg (n - (k + 1))
          case measure => omega
          case rel =>
            have ht := HT.out.trans (ts1 HG.out he)
            refine ⟨k + 1, by omega, by omega, by go_num, ?_, ?_, BW.out.trans (by (repeat' (first | exact Below.refl _ _ | assumption | refine Ext.alloc ?_ _ | refine Ext.drew ?_ | refine Ext.trans ?_ (by assumption))))⟩
            · go_light; rw [ht]; simp_all
            · show MapAt _ _ _ _ _; rw [ht]; exact HM.out.below (by (repeat' (first | exact Below.refl _ _ | assumption | refine Ext.alloc ?_ _ | refine Ext.drew ?_ | refine Ext.trans ?_ (by assumption))))
        · have he : x.nm.toList.isEmpty = true := by assumption
          go_roundg (n - (k + 1))
          case measure => omega
          case rel =>
            have ht := HT.out.trans (ts1 HG.out he)
            refine ⟨k + 1, by omega, by omega, by go_num, ?_, ?_, BW.out.trans (by (repeat' (first | exact Below.refl _ _ | assumption | refine Ext.alloc ?_ _ | refine Ext.drew ?_ | refine Ext.trans ?_ (by assumption))))⟩
            · go_light; rw [ht]; simp_all
            · show MapAt _ _ _ _ _; rw [ht]; exact HM.out.below (by (repeat' (first | exact Below.refl _ _ | assumption | refine Ext.alloc ?_ _ | refine Ext.drew ?_ | refine Ext.trans ?_ (by assumption))))
        · have he : x.nm.toList.isEmpty = false := by assumption
          go_roundg (n - (k + 1))
          case measure => omega
          case rel =>
            have ht := HT.out.trans (ts2 HG.out he)
            refine ⟨k + 1, by omega, by omega, by go_num, ?_, ?_, ?_⟩
            · rw [ht]
            · show MapAt _ _ _ _ _; rw [ht]; exact hM2
            · exact Below.grown (BW.out.trans (by (repeat' (first | exact Below.refl _ _ | assumption | refine Ext.alloc ?_ _ | refine Ext.drew ?_ | refine Ext.trans ?_ (by assumption))))) hg2 (Nat.le_trans BW.out.size (by simp; omega)) (fun k e => by cases e; exact Nat.le_refl _)
      | some v =>
        have HG := hide hm; clear hm
        go_wp2_with (first | (at_lookup; refine wpList_lookup_at rfl (.tmp 27) (.tmp 28) 96 true rfl keyNK undKM (0 : Int) (zeroI _) w.heap.size tl rfl ((HM.out.below (Ext.alloc (Ext.alloc (Ext.refl _) _) _))) (x.fl, x.ow, x.nm) rfl ?_; rw [HG.out]; simp only [Option.getD_some, Option.isSome_some, if_true]))
        all_goals (go_roundg (n - (k + 1)))
        case measure => omega
        case measure => omega
        all_goals (have ht := HT.out.trans (ts3 HG.out); refine ⟨k + 1, by omega, by omega, by go_num, ?_, ?_, BW.out.trans (by (repeat' (first | exact Below.refl _ _ | assumption | refine Ext.alloc ?_ _ | refine Ext.drew ?_ | refine Ext.trans ?_ (by assumption))))⟩)
        · go_light; rw [ht]; simp_all
        · show MapAt _ _ _ _ _; rw [ht]; exact HM.out.below (by (repeat' (first | exact Below.refl _ _ | assumption | refine Ext.alloc ?_ _ | refine Ext.drew ?_ | refine Ext.trans ?_ (by assumption))))
        · go_light; rw [ht]; simp_all
        · show MapAt _ _ _ _ _; rw [ht]; exact HM.out.below (by (repeat' (first | exact Below.refl _ _ | assumption | refine Ext.alloc ?_ _ | refine Ext.drew ?_ | refine Ext.trans ?_ (by assumption))))
    · have hltz : ¬ (k : Int) < (n : Int) := by omega
      have hkn : k = n := by omega
      subst hkn
      go_wp2
      go_ret2
      exact ⟨rfl, HM.out, BW.out⟩
end Go.Proofs.YtfcdohaimdodgaaDoor

/-
  names: owners, Seen by what the document says.
-/
namespace Go.Proofs.YtfcdohaimdodgaaDoor
open Go.RowKit Go.Shelf
set_option linter.unusedVariables false
set_option linter.unusedSimpArgs false

theorem nPlace_any (p : Option Addr) (n c : Nat) (i : Int) (w : World) : Calls Tryd.prog 42 #[.slice p n c, .int .i64 i] w fun e w' => e = .returned (.bool (decide (0 ≤ i) && decide (i < n))) ∧ w = w' := by
  go_enter Tryd.func42, Tryd.ntmps42
  go_wp2
  all_goals go_ret
  all_goals (refine ⟨ret_bool ?_, rfl⟩; simp; try omega)
set_option maxHeartbeats 400000 in
theorem owners_any (p : Option Addr) (n c : Nat) (i : Nat) (xs : List GN) (w : World) (hs : NodesAt w ⟨p, n, c⟩ xs) (hr : RightN xs) (hil0 : i < xs.length) (hxl : xs.length ≤ 1000000) :
    Calls Tryd.prog 82 #[.slice p n c, .int .i64 i] w fun e w' => ∃ s : Sl, e = .returned (.slice s.p s.n s.c) ∧ RowsAt 1 intCells w' s (chain xs i ++ [-1]) ∧ Ext w w' := by
  have H := hide (chain_yes p n c i xs w hs hr hil0 hxl)
  have hcl := chain_len hr i
  obtain ⟨i0, hi, hz0, hz1, hz2⟩ := info_parts infoInt
  clear hs
  go_enter Tryd.func82, Tryd.ntmps82
  go_wp2_with (first | (go_at_call 20; refine H.out.mono ?_; rintro e w1 ⟨v, rfl, ho, hb⟩) | (at_builtin; refine wpList_append_own _ rfl _ _ 33 rfl w.heap.size 3 i0 (.int .i64 0) 1 8 Tryd.underlying33 hi hz0 hz1 hz2 rfl (by decide) _ _ _ rfl (ho.alloc _) ⟨w1.heap.size, 0, none⟩ 1 1 [.int .i64 (-1)] rfl rfl (cell_one_new _ _ _) (by simp [Value.oneCell']) (by unfold maxLen; omega) (by omega) (by have := hb.size; simp; omega) ?_; intro v' w2 hown' hgrow _))
  go_ret
  have ho2 : w2.ownsRow w.heap.size 3 1 v' (chain xs i ++ [-1]).length ((chain xs i ++ [-1]).flatMap intCells) := by simpa [intCells] using hown'
  obtain ⟨s, rfl, hr2, -⟩ := RowsAt.of_owns intCells_len ho2
  refine ⟨s, rfl, hr2, Below.grown (hb.alloc _) hgrow (by have := hb.size; simp; omega) ?_⟩
  intro k hk
  obtain ⟨-, ⟨rfl, -⟩ | ⟨g, cap, cur, rfl, hg, -⟩⟩ := ho
  · cases hk
  · cases hk; exact hg

/-- the first place of a name in a scope -/
def firstOf (xs : List GN) (fl ow : Int) (nm : ByteArray) : Option Nat := if nm.size = 0 then none else xs.findIdx? (fun x => decide (x.fl = fl) && decide (x.ow = ow) && decide (x.nm = nm))
/-- the first one of a name in some scopes, or -1 -/
def seenL (xs : List GN) (fl : Int) (nm : ByteArray) : List Int → Int
  | [] => -1
  | o :: r => match firstOf xs fl o nm with
    | some k => k
    | none => seenL xs fl nm r
/-- P17.1: who is seen, or -1 -/
def seenN (xs : List GN) (i : Int) (nm : ByteArray) : Int := if 0 ≤ i then (match xs[i.toNat]? with | some x => seenL xs x.fl nm (chain xs i.toNat ++ [-1]) | none => -1) else -1
theorem firstOf_snoc (l : List GN) (x : GN) (fl ow : Int) (nm : ByteArray) : firstOf (l ++ [x]) fl ow nm = if nm.size = 0 then none else match firstOf l fl ow nm with
    | some j => some j
    | none => if (x.fl = fl ∧ x.ow = ow ∧ x.nm = nm) then some l.length else none := by
  unfold firstOf
  split
  · rfl
  · rw [List.findIdx?_append]
    cases List.findIdx? (fun x : GN => decide (x.fl = fl) && decide (x.ow = ow) && decide (x.nm = nm)) l with
    | some j => rfl
    | none =>
      by_cases h : x.fl = fl ∧ x.ow = ow ∧ x.nm = nm
      · simp [h.1, h.2.1, h.2.2]
      · rw [if_neg h]
        have : (decide (x.fl = fl) && decide (x.ow = ow) && decide (x.nm = nm)) = false := by
          simp; intro h1 h2 h3; exact h ⟨h1, h2, h3⟩
        simp [List.findIdx?_cons, this]
theorem tab_first (xs : List GN) : ∀ k, k ≤ xs.length → ∀ (fl ow : Int) (nm : ByteArray), mget (fl, ow, nm) (tabUpTo xs k).1 = (firstOf (xs.take k) fl ow nm).map (fun j => (j : Int)) := by
  intro k
  induction k with
  | zero => intro _ fl ow nm; simp [tabUpTo, mget, firstOf]
  | succ k ih =>
    intro hk fl ow nm
    obtain ⟨x, hx⟩ := getElem?_of_lt (xs := xs) (k := k) (by omega)
    have ih := ih (by omega)
    have hlen : (xs.take k).length = k := by simp; omega
    rw [tab_succ hx, take_snoc hx, firstOf_snoc, hlen]
    have h0 := ih fl ow nm
    have hx0 := ih x.fl x.ow x.nm
    generalize tabUpTo xs k = T at *
    by_cases hn : nm.size = 0
    · have hf : firstOf (xs.take k) fl ow nm = none := by simp [firstOf, hn]
      rw [hf] at h0
      rw [if_pos hn]
      unfold tabStep
      split
      · exact h0
      · rename_i hc
        dsimp only
        rw [mget_mput, h0]
        split
        · rename_i he
          cases he
          simp [hn] at hc
        · rfl
    · rw [if_neg hn]
      by_cases hkey : x.fl = fl ∧ x.ow = ow ∧ x.nm = nm
      · obtain ⟨rfl, rfl, rfl⟩ := hkey
        cases hf : firstOf (xs.take k) x.fl x.ow x.nm with
        | some j =>
          rw [hf] at h0
          simp [tabStep, h0]
        | none =>
          rw [hf] at h0
          simp [tabStep, h0, hn, mget_mput]
      · rw [if_neg hkey]
        have : mget (fl, ow, nm) (tabStep T k x).1 = mget (fl, ow, nm) T.1 := by
          unfold tabStep
          split
          · rfl
          · dsimp only
            rw [mget_mput, if_neg]
            intro he
            cases he
            exact hkey ⟨rfl, rfl, rfl⟩
        rw [this, h0]
        cases firstOf (xs.take k) fl ow nm <;> rfl
theorem seenL_ge (xs : List GN) (fl : Int) (nm : ByteArray) (l : List Int) : -1 ≤ seenL xs fl nm l := by
  induction l with
  | nil => simp [seenL]
  | cons o r ih => unfold seenL; split <;> omega
/-- what Seen answers -/
def seenR (s : Int) : Value := .tuple #[.int .i64 (if 0 ≤ s then s else 0), .bool (decide (0 ≤ s))]
set_option maxRecDepth 100000 in
set_option maxHeartbeats 1000000 in
theorem seen_yes (p : Option Addr) (n c : Nat) (i : Nat) (nm : ByteArray) (xs : List GN) (w : World) (hs : NodesAt w ⟨p, n, c⟩ xs) (hr : RightN xs) (hil0 : i < xs.length) (hxl : xs.length ≤ 1000000) :
    Calls Tryd.prog 65 #[.slice p n c, .int .i64 i, .string nm] w fun e w' => e = .returned (seenR (seenN xs i nm)) ∧ Ext w w' := by
  obtain ⟨x0, hx0⟩ := getElem?_of_lt hil0
  have hlen := hs.len
  have hbig := hs.big
  have hcap := hs.cap
  dsimp only at hlen hbig hcap
  have hpl := fun W => nPlace_any p n c i W
  rw [show (decide ((0 : Int) ≤ i) && decide ((i : Int) < n)) = true by simp; omega] at hpl
  have HP := hide hpl; clear hpl
  have HT := hide (fun (W : World) (hb : Ext w W) => table_any p n c xs W (hs.below hb))
  have HO := hide (fun (W : World) (hb : Ext w W) => owners_any p n c i xs W (hs.below hb) hr hil0 hxl)
  have HE : Hid (seenN xs i nm = seenL xs x0.fl nm (chain xs i ++ [-1])) := by
    apply hide; unfold seenN; rw [if_pos (by omega)]; simp [hx0]
  have hTF := tab_first xs xs.length (Nat.le_refl _)
  rw [List.take_length, ← hlen] at hTF
  have HF := hide hTF; clear hTF
  have HL := hide hlen
  have hin : (i : Int) < (n : Int) := by omega
  have hnl : n ≤ 1000000 := by omega
  have hcl := chain_len hr i
  clear hlen
  have HS := hide hs; clear hs
  obtain ⟨b, o, hsp, hblt, -⟩ := nodeAt HS.out hx0
  subst hsp
  have HX := hide hx0; clear hx0
  generalize seenN xs i nm = S at *
  go_enter Tryd.func65, Tryd.ntmps65
  go_wp2_with (first | (go_at_call 42; refine (HP.out _).mono ?_; rintro e w' ⟨rfl, rfl⟩) | (go_at_call 81; refine (HT.out _ (by (repeat' (first | exact Below.refl _ _ | assumption | refine Ext.alloc ?_ _ | refine Ext.drew ?_ | refine Ext.trans ?_ (by assumption))))).mono ?_; rintro e w1 ⟨rfl, hm1, hb1⟩) | (go_at_call 82; refine (HO.out _ (by (repeat' (first | exact Below.refl _ _ | assumption | refine Ext.alloc ?_ _ | refine Ext.drew ?_ | refine Ext.trans ?_ (by assumption))))).mono ?_; rintro e w2 ⟨⟨sp, sn, sc⟩, rfl, hr2, hb2⟩))
  have hsl := hr2.len
  have hsb := hr2.big
  have hsc := hr2.cap
  dsimp only at hsl hsb hsc
  have HSL := hide hsl; clear hsl
  have hB2 : Ext w w2 := by (repeat' (first | exact Below.refl _ _ | assumption | refine Ext.alloc ?_ _ | refine Ext.drew ?_ | refine Ext.trans ?_ (by assumption)))
  have hM2 := hide (hm1.below hb2)
  obtain ⟨b', o', hsp', hblt', d0, d1, d2, d3, d4, d5, d6, d7, d8, d9, d10, d11, d12, d13, d14, d15⟩ := nodeAt (HS.out.below hB2) HX.out
  obtain ⟨rfl, rfl⟩ : b = b' ∧ o = o' := by simpa using hsp'
  clear hsp' d0 d1 d2 d4 d5 d6 d7 d8 d9 d10 d11 d12 d13 d14 d15 hm1
  have HR := hide hr2; clear hr2
  go_loop [27] (fun s27 => ∃ k : Nat, k ≤ sn ∧ s27 = .int .i64 k ∧ Aside (S = seenL xs x0.fl nm ((chain xs i ++ [-1]).drop k))) (fun s27 => sn - (intOf s27).toNat)
  case atStart => exact ⟨0, Nat.zero_le _, rfl, HE.out⟩
  case round =>
    obtain ⟨k, hk, rfl, HS2⟩ := hrel
    by_cases hlt : k < sn
    · obtain ⟨y, hy⟩ := getElem?_of_lt (xs := chain xs i ++ [-1]) (k := k) (by have := HSL.out; omega)
      obtain ⟨b3, o3, hsp3, hblt3, e0⟩ := intAt HR.out hy
      have hdrop : (chain xs i ++ [-1]).drop k = y :: (chain xs i ++ [-1]).drop (k + 1) := by
        rw [List.drop_eq_getElem_cons (by have := HSL.out; omega)]
        congr 1
        rw [List.getElem?_eq_getElem (by have := HSL.out; omega)] at hy
        exact Option.some.inj hy
      have hkz : (k : Int) < (sn : Int) := by omega
      clear hy
      subst hsp3
      have hg := HF.out x0.fl y nm
      have h2 := HS2.out
      rw [hdrop] at h2
      unfold seenL at h2
      clear hdrop
      cases hfo : firstOf xs x0.fl y nm with
      | none =>
        rw [hfo] at hg h2
        have HG := hide hg; clear hg
        have H2 := hide h2; clear h2 hfo
        go_wp2_with (at_lookup; refine wpList_lookup_at rfl (.tmp 32) (.tmp 40) 96 true rfl keyNK undKM (0 : Int) (zeroI _) w.heap.size _ rfl hM2.out (x0.fl, y, nm) rfl ?_; rw [HG.out]; simp only [Option.map_none, Option.getD_none, Option.isSome_none, if_true])
        go_round
        case rel => exact ⟨k + 1, by omega, by go_num, H2.out⟩
        case measure => simp [intOf]; omega
      | some j =>
        rw [hfo] at hg h2
        have HG := hide hg; clear hg
        have H2 := hide h2; clear h2 hfo
        go_wp2_with (at_lookup; refine wpList_lookup_at rfl (.tmp 32) (.tmp 40) 96 true rfl keyNK undKM (0 : Int) (zeroI _) w.heap.size _ rfl hM2.out (x0.fl, y, nm) rfl ?_; rw [HG.out]; simp only [Option.map_some, Option.getD_some, Option.isSome_some, if_true])
        go_ret2
        have := H2.out
        refine ⟨?_, hB2⟩
        rw [this]
        simp [seenR]
    · have hkz : ¬ (k : Int) < (sn : Int) := by omega
      have H2 : Hid (S = -1) := by
        apply hide
        rw [HS2.out, List.drop_of_length_le (by have := HSL.out; omega)]; rfl
      go_wp2
      go_ret2
      refine ⟨?_, hB2⟩
      rw [H2.out]
      rfl
theorem seen_any (p : Option Addr) (n c : Nat) (i : Int) (nm : ByteArray) (xs : List GN) (w : World) (hs : NodesAt w ⟨p, n, c⟩ xs) (hr : RightN xs) (hi : 0 ≤ i ∧ i < n) (hxl : xs.length ≤ 1000000) :
    Calls Tryd.prog 65 #[.slice p n c, .int .i64 i, .string nm] w fun e w' => e = .returned (seenR (seenN xs i nm)) ∧ Ext w w' := by
  have hl : n = xs.length := hs.len
  obtain ⟨k, rfl⟩ := Int.eq_ofNat_of_zero_le hi.1
  exact seen_yes p n c k nm xs w hs hr (by omega) hxl
theorem seen_hit (p : Option Addr) (n c : Nat) (i : Int) (nm : ByteArray) (xs : List GN) (w : World) (hs : NodesAt w ⟨p, n, c⟩ xs) (hr : RightN xs) (hi : 0 ≤ i ∧ i < n) (hxl : xs.length ≤ 1000000) (h : 0 ≤ seenN xs i nm) :
    Calls Tryd.prog 65 #[.slice p n c, .int .i64 i, .string nm] w fun e w' => e = .returned (.tuple #[.int .i64 (seenN xs i nm), .bool true]) ∧ Ext w w' := by
  refine (seen_any p n c i nm xs w hs hr hi hxl).mono ?_
  rintro e w' ⟨rfl, hb⟩
  exact ⟨by simp [seenR, h], hb⟩
theorem seen_miss (p : Option Addr) (n c : Nat) (i : Int) (nm : ByteArray) (xs : List GN) (w : World) (hs : NodesAt w ⟨p, n, c⟩ xs) (hr : RightN xs) (hi : 0 ≤ i ∧ i < n) (hxl : xs.length ≤ 1000000) (h : seenN xs i nm < 0) :
    Calls Tryd.prog 65 #[.slice p n c, .int .i64 i, .string nm] w fun e w' => e = .returned (.tuple #[.int .i64 0, .bool false]) ∧ Ext w w' := by
  refine (seen_any p n c i nm xs w hs hr hi hxl).mono ?_
  rintro e w' ⟨rfl, hb⟩
  have h2 : ¬ 0 ≤ seenN xs i nm := by omega
  exact ⟨by simp [seenR, h2], hb⟩
end Go.Proofs.YtfcdohaimdodgaaDoor

/-
  What the document says of whether a fragment may be (P20.2, P20.3), as plain functions.
-/
namespace Go.Proofs.YtfcdohaimdodgaaDoor
open Go.RowKit

structure Cfg where
  quota : Int
  depth : Int
  width : Int
  retry : Int
  flows : Int
/-- P20.2 -/
def refsN (xs : List GN) (owner : Int) (items : List Item) (nm : ByteArray) : Int × Int :=
  if 0 ≤ idx (fun x : Item => decide (x.nm = nm)) items ∧ nm.size ≠ 0 then (idx (fun x : Item => decide (x.nm = nm)) items, -1)
  else if 0 ≤ owner ∧ 0 ≤ seenN xs owner nm then (-1, seenN xs owner nm) else (-1, -1)
def lostN (xs : List GN) (owner : Int) (items : List Item) (nm : ByteArray) : Bool := decide ((refsN xs owner items nm).1 < 0) && decide ((refsN xs owner items nm).2 < 0)
def isMapN (x : Item) : Bool := x.k == 1
def wideN (c : Cfg) (items : List Item) : Bool := decide (c.width < items.length) || items.any (fun x => isMapN x && decide (c.width < x.wd))
def twiceF : List ByteArray → List Item → Bool
  | _, [] => false
  | seen, x :: r => seen.any (fun s => decide (s = x.nm)) || twiceF (x.nm :: seen) r
def twiceN (items : List Item) : Bool := twiceF [] items
def deepB (c : Cfg) (xs : List GN) (owner : Int) (items : List Item) : Bool :=
  (decide (0 < items.length) && decide (c.depth < deepN xs owner + 1)) || (items.any isMapN && decide (c.depth ≤ deepN xs owner + 1))
def refersN (xs : List GN) (owner : Int) (items : List Item) : Bool := items.any (fun x => x.names.any (lostN xs owner items) || (isMapN x && lostN xs owner items x.ov))
def overItem (xs : List GN) (owner : Int) (items : List Item) (x : Item) : Bool :=
  isMapN x && (if 0 ≤ (refsN xs owner items x.ov).1 then (match items[(refsN xs owner items x.ov).1.toNat]? with | some y => isMapN y && decide (x.wd < y.wd) | none => false)
    else if 0 ≤ (refsN xs owner items x.ov).2 then (match xs[(refsN xs owner items x.ov).2.toNat]? with | some y => y.k == 1 && decide (x.wd < y.wd) | none => false) else false)
def overN (xs : List GN) (owner : Int) (items : List Item) : Bool := items.any (overItem xs owner items)
/-- P20.3 -/
def fragE (c : Cfg) (xs : List GN) (owner quota : Int) (items : List Item) : Int :=
  if rightB items = false then 2 else if wideN c items then 24 else if twiceN items then 20 else if deepB c xs owner items then 23 else if refersN xs owner items then 21
  else if quota < totalZ items then 22 else if overN xs owner items then 24 else 0

theorem idx_map {α β : Type} (f : α → β) (p : β → Bool) (l : List α) : idx p (l.map f) = idx (fun x => p (f x)) l := by
  induction l with
  | nil => rfl
  | cons x r ih => simp [idx, ih]
theorem idx_lt {α : Type} (p : α → Bool) (l : List α) : idx p l < l.length := by
  induction l with
  | nil => simp [idx]
  | cons x r ih =>
    unfold idx; dsimp only; simp only [List.length_cons]
    split
    · omega
    · split <;> omega
theorem seenL_lt (xs : List GN) (fl : Int) (nm : ByteArray) (l : List Int) : seenL xs fl nm l < xs.length := by
  induction l with
  | nil => simp [seenL]; omega
  | cons o r ih =>
    unfold seenL
    split
    · rename_i k hk
      unfold firstOf at hk
      split at hk
      · cases hk
      · have := (List.findIdx?_eq_some_iff_getElem.1 hk).1
        omega
    · exact ih
theorem seenN_lt (xs : List GN) (i : Int) (nm : ByteArray) : seenN xs i nm < xs.length := by
  unfold seenN
  split
  · split
    · exact seenL_lt _ _ _ _
    · omega
  · omega
theorem seenN_ge (xs : List GN) (i : Int) (nm : ByteArray) : -1 ≤ seenN xs i nm := by
  unfold seenN
  split
  · split
    · exact seenL_ge _ _ _ _
    · omega
  · omega
theorem refsN_bd (xs : List GN) (owner : Int) (items : List Item) (nm : ByteArray) : -1 ≤ (refsN xs owner items nm).1 ∧ (refsN xs owner items nm).1 < items.length ∧ -1 ≤ (refsN xs owner items nm).2 ∧ (refsN xs owner items nm).2 < xs.length := by
  have h1 := idx_ge (fun x : Item => decide (x.nm = nm)) items
  have h2 := idx_lt (fun x : Item => decide (x.nm = nm)) items
  have h3 := seenN_lt xs owner nm
  have h4 := seenN_ge xs owner nm
  unfold refsN
  split
  · dsimp only; omega
  · split
    · dsimp only; omega
    · dsimp only; omega
end Go.Proofs.YtfcdohaimdodgaaDoor

/-
  check: who is meant (refs, Refs, lost).
-/
namespace Go.Proofs.YtfcdohaimdodgaaDoor
open Go.RowKit Go.Shelf
set_option linter.unusedVariables false

/-- what is asked, as it stands in memory -/
structure Ask where
  c : Cfg
  ns : Sl
  owner : Int
  quota : Int
  is : Sl
def Ask.cells (a : Ask) : List Value := [.int .i64 a.c.quota, .int .i64 a.c.depth, .int .i64 a.c.width, .int .i64 a.c.retry, .int .i64 a.c.flows, .slice a.ns.p a.ns.n a.ns.c, .int .i64 a.owner, .int .i64 a.quota, .slice a.is.p a.is.n a.is.c]
/-- the nodes and the items that are asked of stand in memory -/
structure AskAt (w : World) (a : Ask) (xs : List GN) (its : List It) : Prop where
  nodes : NodesAt w a.ns xs
  right : RightN xs
  own : a.owner < xs.length ∧ -1 ≤ a.owner
  items : ItemsAt w a.is its
  few : xs.length ≤ 1000000
theorem AskAt.below {w w' : World} {a : Ask} {xs : List GN} {its : List It} (h : AskAt w a xs its) (hb : Ext w w') : AskAt w' a xs its := ⟨h.nodes.below hb, h.right, h.own, h.items.below hb, h.few⟩

theorem enters_aRefs1 : ∀ args w, (callFunc 64 args).run Tryd.prog w = .ok (.enter 64 args) w := enters_of Tryd.func64 (by kernel_rfl) rfl
theorem refs1_any (x : It) (nm : ByteArray) (B : Nat) (w : World) (hB : w.cell? ⟨B, 0, none⟩ = some (.string nm)) :
    Calls Tryd.prog 64 #[.agg #[.string x.d.nm, .int .u8 x.d.k, .slice x.af.p x.af.n x.af.c, .string x.d.ov, .int .i64 x.d.wd, .int .i64 x.d.q], .pointer (some ⟨B, 0, none⟩)] w fun e w' => e = .returned (.bool (decide (x.d.nm = nm))) ∧ Ext w w' := by
  have hlt := lt_of_cell hB
  have hne : B ≠ w.heap.size := by omega
  go_enter Tryd.func64, Tryd.ntmps64
  go_wp2
  go_ret
  exact ⟨ret_bool (by rw [Bool.eq_iff_iff]; simp [ba_inj]), by (repeat' (first | exact Below.refl _ _ | assumption | refine Ext.alloc ?_ _ | refine Ext.drew ?_ | refine Ext.trans ?_ (by assumption)))⟩

/-- what refs answers -/
def refsR (r : Int × Int) : Value := .tuple #[.int .i64 r.1, .int .i64 r.2, .bool (!(decide (r.1 < 0) && decide (r.2 < 0)))]
set_option maxHeartbeats 1000000 in
theorem refs_any (a : Ask) (xs : List GN) (its : List It) (nm : ByteArray) (w : World) (ha : AskAt w a xs its) :
    Calls Tryd.prog 36 #[.agg a.cells.toArray, .string nm] w fun e w' => e = .returned (refsR (refsN xs a.owner (itemOf its) nm)) ∧ Ext w w' := by
  obtain ⟨⟨cq, cd, cw, cr, cf⟩, ⟨np, nn, nc⟩, owner, quota, ⟨ip, iN, ic⟩⟩ := a
  have HI := hide (fun (W : World) (hb : Ext w W) (hB : W.cell? ⟨w.heap.size + 1, 0, none⟩ = some (.string nm)) => idxIt_any ip iN ic its (fun x => decide (x.d.nm = nm)) 64 #[] #[.pointer (some ⟨w.heap.size + 1, 0, none⟩)] W enters_aRefs1 (ha.items.rows.below hb)
    (fun x _ W' hb' => refs1_any x nm (w.heap.size + 1) W' ((hb'.cell (p := ⟨w.heap.size + 1, 0, none⟩) (lt_of_cell hB)).trans hB)))
  have hN := ha.nodes.len
  dsimp only at hN
  have hown := ha.own
  dsimp only at hown
  have hown1 := hown.1
  have hown2 := hown.2
  clear hown
  have HR : Hid (refsN xs owner (itemOf its) nm = if 0 ≤ idx (fun x : It => decide (x.d.nm = nm)) its ∧ nm.size ≠ 0 then (idx (fun x : It => decide (x.d.nm = nm)) its, -1) else if 0 ≤ owner ∧ 0 ≤ seenN xs owner nm then (-1, seenN xs owner nm) else (-1, -1)) := by
    apply hide; unfold refsN itemOf; rw [idx_map]
  have hge := idx_ge (fun x : It => decide (x.d.nm = nm)) its
  dsimp only at *
  generalize refsN xs owner (itemOf its) nm = RR at *
  generalize idx (fun x : It => decide (x.d.nm = nm)) its = R at *
  have hsn := hN
  have HN := hide hN; clear hN
  by_cases ho : 0 ≤ owner
  · by_cases hse : 0 ≤ seenN xs owner nm
    · have HS := hide (fun (W : World) (hb : Ext w W) => seen_hit np nn nc owner nm xs W (ha.nodes.below hb) ha.right ⟨ho, by omega⟩ ha.few hse)
      generalize seenN xs owner nm = S at *
      clear ha hsn
      simp only [Ask.cells]
      go_enter Tryd.func36, Tryd.ntmps36
      go_wp2_with (first | (go_at_call 47; refine (HI.out _ (by (repeat' (first | exact Below.refl _ _ | assumption | refine Ext.alloc ?_ _ | refine Ext.drew ?_ | refine Ext.trans ?_ (by assumption)))) (by simp)).mono ?_; rintro e w' ⟨rfl, hb⟩; obtain ⟨hc, hf, hz⟩ := bcell hb; (try have zw0 := hz (w.heap.size) (by first | (simp; omega) | omega | (simp; done) | assumption)); (try have zw1 := hz (w.heap.size + 1) (by first | (simp; omega) | omega | (simp; done) | assumption)); (try have zw2 := hz (w.heap.size + 2) (by first | (simp; omega) | omega | (simp; done) | assumption)); (try have zr0 := hz (wr.heap.size) (by first | (simp; omega) | omega | (simp; done) | assumption)); (try have zr1 := hz (wr.heap.size + 1) (by first | (simp; omega) | omega | (simp; done) | assumption)); (try have zr2 := hz (wr.heap.size + 2) (by first | (simp; omega) | omega | (simp; done) | assumption)); (try have zB0 := hz (B) (by first | (simp; omega) | omega | (simp; done) | assumption)); clear hz) | (go_at_call 65; refine (HS.out _ (by (repeat' (first | exact Below.refl _ _ | assumption | refine Ext.alloc ?_ _ | refine Ext.drew ?_ | refine Ext.trans ?_ (by assumption))))).mono ?_; rintro e w' ⟨rfl, hb⟩; obtain ⟨hc, hf, hz⟩ := bcell hb; (try have zw0 := hz (w.heap.size) (by first | (simp; omega) | omega | (simp; done) | assumption)); (try have zw1 := hz (w.heap.size + 1) (by first | (simp; omega) | omega | (simp; done) | assumption)); (try have zw2 := hz (w.heap.size + 2) (by first | (simp; omega) | omega | (simp; done) | assumption)); (try have zr0 := hz (wr.heap.size) (by first | (simp; omega) | omega | (simp; done) | assumption)); (try have zr1 := hz (wr.heap.size + 1) (by first | (simp; omega) | omega | (simp; done) | assumption)); (try have zr2 := hz (wr.heap.size + 2) (by first | (simp; omega) | omega | (simp; done) | assumption)); (try have zB0 := hz (B) (by first | (simp; omega) | omega | (simp; done) | assumption)); clear hz))
      all_goals go_ret3
      all_goals refine ⟨?_, by (repeat' (first | exact Below.refl _ _ | assumption | refine Ext.alloc ?_ _ | refine Ext.drew ?_ | refine Ext.trans ?_ (by assumption)))⟩
      all_goals (have hr := HR.out; clear HI HR; go_light)
      all_goals (try clear HS)
      all_goals (congr 1; rw [hr]; clear hr; unfold refsR; (repeat' split) <;> (first | (exfalso; omega) | (simp_all [ba_isEmpty]; done) | (simp_all [ba_isEmpty]; omega)))
    · have HS := hide (fun (W : World) (hb : Ext w W) => seen_miss np nn nc owner nm xs W (ha.nodes.below hb) ha.right ⟨ho, by omega⟩ ha.few (by omega))
      generalize seenN xs owner nm = S at *
      clear ha hsn
      simp only [Ask.cells]
      go_enter Tryd.func36, Tryd.ntmps36
      go_wp2_with (first | (go_at_call 47; refine (HI.out _ (by (repeat' (first | exact Below.refl _ _ | assumption | refine Ext.alloc ?_ _ | refine Ext.drew ?_ | refine Ext.trans ?_ (by assumption)))) (by simp)).mono ?_; rintro e w' ⟨rfl, hb⟩; obtain ⟨hc, hf, hz⟩ := bcell hb; (try have zw0 := hz (w.heap.size) (by first | (simp; omega) | omega | (simp; done) | assumption)); (try have zw1 := hz (w.heap.size + 1) (by first | (simp; omega) | omega | (simp; done) | assumption)); (try have zw2 := hz (w.heap.size + 2) (by first | (simp; omega) | omega | (simp; done) | assumption)); (try have zr0 := hz (wr.heap.size) (by first | (simp; omega) | omega | (simp; done) | assumption)); (try have zr1 := hz (wr.heap.size + 1) (by first | (simp; omega) | omega | (simp; done) | assumption)); (try have zr2 := hz (wr.heap.size + 2) (by first | (simp; omega) | omega | (simp; done) | assumption)); (try have zB0 := hz (B) (by first | (simp; omega) | omega | (simp; done) | assumption)); clear hz) | (go_at_call 65; refine (HS.out _ (by (repeat' (first | exact Below.refl _ _ | assumption | refine Ext.alloc ?_ _ | refine Ext.drew ?_ | refine Ext.trans ?_ (by assumption))))).mono ?_; rintro e w' ⟨rfl, hb⟩; obtain ⟨hc, hf, hz⟩ := bcell hb; (try have zw0 := hz (w.heap.size) (by first | (simp; omega) | omega | (simp; done) | assumption)); (try have zw1 := hz (w.heap.size + 1) (by first | (simp; omega) | omega | (simp; done) | assumption)); (try have zw2 := hz (w.heap.size + 2) (by first | (simp; omega) | omega | (simp; done) | assumption)); (try have zr0 := hz (wr.heap.size) (by first | (simp; omega) | omega | (simp; done) | assumption)); (try have zr1 := hz (wr.heap.size + 1) (by first | (simp; omega) | omega | (simp; done) | assumption)); (try have zr2 := hz (wr.heap.size + 2) (by first | (simp; omega) | omega | (simp; done) | assumption)); (try have zB0 := hz (B) (by first | (simp; omega) | omega | (simp; done) | assumption)); clear hz))
      all_goals go_ret3
      all_goals refine ⟨?_, by (repeat' (first | exact Below.refl _ _ | assumption | refine Ext.alloc ?_ _ | refine Ext.drew ?_ | refine Ext.trans ?_ (by assumption)))⟩
      all_goals (have hr := HR.out; clear HI HR; go_light)
      all_goals (try clear HS)
      all_goals (congr 1; rw [hr]; clear hr; unfold refsR; (repeat' split) <;> (first | (exfalso; omega) | (simp_all [ba_isEmpty]; done) | (simp_all [ba_isEmpty]; omega)))
  · generalize seenN xs owner nm = S at *
    clear ha hsn
    have HS := hide trivial
    simp only [Ask.cells]
    go_enter Tryd.func36, Tryd.ntmps36
    go_wp2_with (first | (go_at_call 47; refine (HI.out _ (by (repeat' (first | exact Below.refl _ _ | assumption | refine Ext.alloc ?_ _ | refine Ext.drew ?_ | refine Ext.trans ?_ (by assumption)))) (by simp)).mono ?_; rintro e w' ⟨rfl, hb⟩; obtain ⟨hc, hf, hz⟩ := bcell hb; (try have zw0 := hz (w.heap.size) (by first | (simp; omega) | omega | (simp; done) | assumption)); (try have zw1 := hz (w.heap.size + 1) (by first | (simp; omega) | omega | (simp; done) | assumption)); (try have zw2 := hz (w.heap.size + 2) (by first | (simp; omega) | omega | (simp; done) | assumption)); (try have zr0 := hz (wr.heap.size) (by first | (simp; omega) | omega | (simp; done) | assumption)); (try have zr1 := hz (wr.heap.size + 1) (by first | (simp; omega) | omega | (simp; done) | assumption)); (try have zr2 := hz (wr.heap.size + 2) (by first | (simp; omega) | omega | (simp; done) | assumption)); (try have zB0 := hz (B) (by first | (simp; omega) | omega | (simp; done) | assumption)); clear hz))
    all_goals go_ret3
    all_goals refine ⟨?_, by (repeat' (first | exact Below.refl _ _ | assumption | refine Ext.alloc ?_ _ | refine Ext.drew ?_ | refine Ext.trans ?_ (by assumption)))⟩
    all_goals (have hr := HR.out; clear HI HR; go_light)
    all_goals (try clear HS)
    all_goals (congr 1; rw [hr]; clear hr; unfold refsR; (repeat' split) <;> (first | (exfalso; omega) | (simp_all [ba_isEmpty]; done) | (simp_all [ba_isEmpty]; omega)))
theorem refs_tup (a : Ask) (xs : List GN) (its : List It) (nm : ByteArray) (w : World) (ha : AskAt w a xs its) :
    Calls Tryd.prog 36 #[.agg a.cells.toArray, .string nm] w fun e w' => e = .returned (.tuple #[.int .i64 (refsN xs a.owner (itemOf its) nm).1, .int .i64 (refsN xs a.owner (itemOf its) nm).2, .bool (!lostN xs a.owner (itemOf its) nm)]) ∧ Ext w w' := refs_any a xs its nm w ha
theorem lost_any (a : Ask) (xs : List GN) (its : List It) (nm : ByteArray) (w : World) (ha : AskAt w a xs its) :
    Calls Tryd.prog 77 #[.agg a.cells.toArray, .string nm] w fun e w' => e = .returned (.bool (lostN xs a.owner (itemOf its) nm)) ∧ Ext w w' := by
  have H := hide (fun (W : World) (hb : Ext w W) => refs_tup a xs its nm W (ha.below hb))
  clear ha
  generalize (refsN xs a.owner (itemOf its) nm).1 = R1 at *
  generalize (refsN xs a.owner (itemOf its) nm).2 = R2 at *
  generalize lostN xs a.owner (itemOf its) nm = L at *
  simp only [Ask.cells] at *
  go_enter Tryd.func77, Tryd.ntmps77
  go_wp2_with (go_at_call 36; refine (H.out _ (by (repeat' (first | exact Below.refl _ _ | assumption | refine Ext.alloc ?_ _ | refine Ext.drew ?_ | refine Ext.trans ?_ (by assumption))))).mono ?_; rintro e w' ⟨rfl, hb⟩; obtain ⟨hc, hf, hz⟩ := bcell hb; (try have zw0 := hz (w.heap.size) (by first | (simp; omega) | omega | (simp; done) | assumption)); (try have zw1 := hz (w.heap.size + 1) (by first | (simp; omega) | omega | (simp; done) | assumption)); (try have zw2 := hz (w.heap.size + 2) (by first | (simp; omega) | omega | (simp; done) | assumption)); (try have zr0 := hz (wr.heap.size) (by first | (simp; omega) | omega | (simp; done) | assumption)); (try have zr1 := hz (wr.heap.size + 1) (by first | (simp; omega) | omega | (simp; done) | assumption)); (try have zr2 := hz (wr.heap.size + 2) (by first | (simp; omega) | omega | (simp; done) | assumption)); (try have zB0 := hz (B) (by first | (simp; omega) | omega | (simp; done) | assumption)); clear hz)
  go_ret
  exact ⟨ret_bool (by simp), by (repeat' (first | exact Below.refl _ _ | assumption | refine Ext.alloc ?_ _ | refine Ext.drew ?_ | refine Ext.trans ?_ (by assumption)))⟩
theorem cRefs_any (p : Option Addr) (n c : Nat) (owner : Int) (ip : Option Addr) (iN ic : Nat) (xs : List GN) (its : List It) (nm : ByteArray) (w : World) (hn : NodesAt w ⟨p, n, c⟩ xs) (hr : RightN xs) (ho : owner < xs.length ∧ -1 ≤ owner) (hi : ItemsAt w ⟨ip, iN, ic⟩ its) (hx : xs.length ≤ 1000000) :
    Calls Tryd.prog 16 #[.slice p n c, .int .i64 owner, .slice ip iN ic, .string nm] w fun e w' => e = .returned (.tuple #[.int .i64 (refsN xs owner (itemOf its) nm).1, .int .i64 (refsN xs owner (itemOf its) nm).2, .bool (!lostN xs owner (itemOf its) nm)]) ∧ Ext w w' := by
  have H := hide (fun (W : World) (hb : Ext w W) => refs_tup ⟨⟨0, 0, 0, 0, 0⟩, ⟨p, n, c⟩, owner, 0, ⟨ip, iN, ic⟩⟩ xs its nm W (AskAt.below (a := ⟨⟨0, 0, 0, 0, 0⟩, ⟨p, n, c⟩, owner, 0, ⟨ip, iN, ic⟩⟩) ⟨hn, hr, ho, hi, hx⟩ hb))
  clear hn hi ho
  dsimp only [Ask.cells] at H
  generalize (refsN xs owner (itemOf its) nm).1 = R1 at *
  generalize (refsN xs owner (itemOf its) nm).2 = R2 at *
  generalize lostN xs owner (itemOf its) nm = L at *
  go_enter Tryd.func16, Tryd.ntmps16
  go_wp2_with (go_at_call 36; refine (H.out _ (by (repeat' (first | exact Below.refl _ _ | assumption | refine Ext.alloc ?_ _ | refine Ext.drew ?_ | refine Ext.trans ?_ (by assumption))))).mono ?_; rintro e w' ⟨rfl, hb⟩; obtain ⟨hc, hf, hz⟩ := bcell hb; (try have zw0 := hz (w.heap.size) (by first | (simp; omega) | omega | (simp; done) | assumption)); (try have zw1 := hz (w.heap.size + 1) (by first | (simp; omega) | omega | (simp; done) | assumption)); (try have zw2 := hz (w.heap.size + 2) (by first | (simp; omega) | omega | (simp; done) | assumption)); (try have zr0 := hz (wr.heap.size) (by first | (simp; omega) | omega | (simp; done) | assumption)); (try have zr1 := hz (wr.heap.size + 1) (by first | (simp; omega) | omega | (simp; done) | assumption)); (try have zr2 := hz (wr.heap.size + 2) (by first | (simp; omega) | omega | (simp; done) | assumption)); (try have zB0 := hz (B) (by first | (simp; omega) | omega | (simp; done) | assumption)); clear hz)
  go_ret3
  exact ⟨rfl, by (repeat' (first | exact Below.refl _ _ | assumption | refine Ext.alloc ?_ _ | refine Ext.drew ?_ | refine Ext.trans ?_ (by assumption)))⟩
end Go.Proofs.YtfcdohaimdodgaaDoor

/-
  check: has, wide, deep, refers, over by what the document says.
-/
namespace Go.Proofs.YtfcdohaimdodgaaDoor
open Go.RowKit Go.Shelf
set_option linter.unusedVariables false

theorem PredOn.below {α : Type} {P : Program} {g : Nat} {fst cap : Array Value} {enc : α → Value} {xs : List α} {p : α → Bool} {w w' : World} (h : PredOn P g fst cap enc xs p w) (hb : Ext w w') : PredOn P g fst cap enc xs p w' :=
  fun x hx W hW => h x hx W (hb.trans hW)
theorem has_any (a : Ask) (its : List It) (p : It → Bool) (g : Nat) (fst cap : Array Value) (w : World) (eg : ∀ args w, (callFunc g args).run Tryd.prog w = .ok (.enter g args) w)
    (hi : ItemsAt w a.is its) (hp : PredOn Tryd.prog g fst cap It.enc its p w) :
    Calls Tryd.prog 72 #[.agg a.cells.toArray, .func (.func g) fst cap] w fun e w' => e = .returned (.bool (its.any p)) ∧ Ext w w' := by
  have H := hide (fun (W : World) (hb : Ext w W) => contIt_any a.is.p a.is.n a.is.c its p g fst cap W eg (hi.below hb).rows (hp.below hb))
  clear hi hp eg
  generalize its.any p = R at *
  simp only [Ask.cells] at *
  go_enter Tryd.func72, Tryd.ntmps72
  go_wp2_with (go_at_call 25; refine (H.out _ (by (repeat' (first | exact Below.refl _ _ | assumption | refine Ext.alloc ?_ _ | refine Ext.drew ?_ | refine Ext.trans ?_ (by assumption))))).mono ?_; rintro e w' ⟨rfl, hb⟩; obtain ⟨hc, hf, hz⟩ := bcell hb; (try have zw0 := hz (w.heap.size) (by first | (simp; omega) | omega | (simp; done) | assumption)); (try have zw1 := hz (w.heap.size + 1) (by first | (simp; omega) | omega | (simp; done) | assumption)); (try have zw2 := hz (w.heap.size + 2) (by first | (simp; omega) | omega | (simp; done) | assumption)); (try have zr0 := hz (wr.heap.size) (by first | (simp; omega) | omega | (simp; done) | assumption)); (try have zr1 := hz (wr.heap.size + 1) (by first | (simp; omega) | omega | (simp; done) | assumption)); (try have zr2 := hz (wr.heap.size + 2) (by first | (simp; omega) | omega | (simp; done) | assumption)); (try have zB0 := hz (B) (by first | (simp; omega) | omega | (simp; done) | assumption)); clear hz)
  go_ret
  exact ⟨rfl, by (repeat' (first | exact Below.refl _ _ | assumption | refine Ext.alloc ?_ _ | refine Ext.drew ?_ | refine Ext.trans ?_ (by assumption)))⟩

/-- what is asked lies in a block of one's own -/
def AskBox (w : World) (B : Nat) (a : Ask) : Prop := ∀ j v, a.cells[j]? = some v → w.cell? ⟨B, j, none⟩ = some v
theorem AskBox.lt {w : World} {B : Nat} {a : Ask} (h : AskBox w B a) : B < w.heap.size := lt_of_cell (h 0 _ rfl)
theorem AskBox.below {w w' : World} {B : Nat} {a : Ask} (h : AskBox w B a) (hb : Ext w w') : AskBox w' B a := fun j v hv => (hb.cell (p := ⟨B, j, none⟩) h.lt).trans (h j v hv)
theorem AskBox.new (w : World) (a : Ask) (t : TypeId) : AskBox (w.alloc (.cells a.cells.toArray t)) w.heap.size a := fun j v hv => by
  simp only [World.cell?, World.alloc_heap_new w _]
  simpa using hv
theorem AskBox.all {w : World} {B : Nat} {a : Ask} (h : AskBox w B a) : w.cell? ⟨B, 0, none⟩ = some (.int .i64 a.c.quota) ∧ w.cell? ⟨B, 1, none⟩ = some (.int .i64 a.c.depth) ∧ w.cell? ⟨B, 2, none⟩ = some (.int .i64 a.c.width) ∧ w.cell? ⟨B, 3, none⟩ = some (.int .i64 a.c.retry) ∧
    w.cell? ⟨B, 4, none⟩ = some (.int .i64 a.c.flows) ∧ w.cell? ⟨B, 5, none⟩ = some (.slice a.ns.p a.ns.n a.ns.c) ∧ w.cell? ⟨B, 6, none⟩ = some (.int .i64 a.owner) ∧ w.cell? ⟨B, 7, none⟩ = some (.int .i64 a.quota) ∧ w.cell? ⟨B, 8, none⟩ = some (.slice a.is.p a.is.n a.is.c) :=
  ⟨h 0 _ rfl, h 1 _ rfl, h 2 _ rfl, h 3 _ rfl, h 4 _ rfl, h 5 _ rfl, h 6 _ rfl, h 7 _ rfl, h 8 _ rfl⟩

theorem enters_aWide1 : ∀ args w, (callFunc 73 args).run Tryd.prog w = .ok (.enter 73 args) w := enters_of Tryd.func73 (by kernel_rfl) rfl
theorem wide1_any (a : Ask) (x : It) (B : Nat) (w : World) (hB : AskBox w B a) :
    Calls Tryd.prog 73 #[.agg #[.string x.d.nm, .int .u8 x.d.k, .slice x.af.p x.af.n x.af.c, .string x.d.ov, .int .i64 x.d.wd, .int .i64 x.d.q], .pointer (some ⟨B, 0, none⟩)] w fun e w' => e = .returned (.bool (isMapN x.d && decide (a.c.width < x.d.wd))) ∧ Ext w w' := by
  obtain ⟨-, -, b2, -⟩ := hB.all
  have hlt := hB.lt
  have hne : B ≠ w.heap.size := by omega
  have hm := fun W => isMap_any x W
  change ∀ W, Calls _ _ _ _ (fun e w' => e = .returned (.bool (isMapN x.d)) ∧ Ext W w') at hm
  have HM := hide hm; clear hm hB
  generalize isMapN x.d = M at *
  go_enter Tryd.func73, Tryd.ntmps73
  go_wp2_with (go_at_call 74; refine (HM.out _).mono ?_; rintro e w' ⟨rfl, hb⟩; obtain ⟨hc, hf, hz⟩ := bcell hb; have zB := hz B (by simp; omega); (try have zw0 := hz (w.heap.size) (by first | (simp; omega) | omega | (simp; done) | assumption)); (try have zw1 := hz (w.heap.size + 1) (by first | (simp; omega) | omega | (simp; done) | assumption)); (try have zw2 := hz (w.heap.size + 2) (by first | (simp; omega) | omega | (simp; done) | assumption)); (try have zr0 := hz (wr.heap.size) (by first | (simp; omega) | omega | (simp; done) | assumption)); (try have zr1 := hz (wr.heap.size + 1) (by first | (simp; omega) | omega | (simp; done) | assumption)); (try have zr2 := hz (wr.heap.size + 2) (by first | (simp; omega) | omega | (simp; done) | assumption)); (try have zB0 := hz (B) (by first | (simp; omega) | omega | (simp; done) | assumption)); clear hz)
  all_goals go_ret
  all_goals refine ⟨ret_bool ?_, by (repeat' (first | exact Below.refl _ _ | assumption | refine Ext.alloc ?_ _ | refine Ext.drew ?_ | refine Ext.trans ?_ (by assumption)))⟩
  all_goals (go_light; grind)
theorem wide_any (a : Ask) (its : List It) (w : World) (hi : ItemsAt w a.is its) :
    Calls Tryd.prog 54 #[.agg a.cells.toArray] w fun e w' => e = .returned (.bool (wideN a.c (itemOf its))) ∧ Ext w w' := by
  have hl := hi.rows.len
  have HW : Hid (wideN a.c (itemOf its) = (decide (a.c.width < (a.is.n : Int)) || its.any fun x => isMapN x.d && decide (a.c.width < x.d.wd))) := by
    apply hide; unfold wideN itemOf; rw [List.any_map, List.length_map, hl]; rfl
  have H := hide (fun (W : World) (hb : Ext w W) (hB : AskBox W w.heap.size a) => has_any a its (fun x => isMapN x.d && decide (a.c.width < x.d.wd)) 73 #[] #[.pointer (some ⟨w.heap.size, 0, none⟩)] W enters_aWide1 (hi.below hb) (fun x _ W' hb' => wide1_any a x w.heap.size W' (hB.below hb')))
  have hB := AskBox.new w a 67
  clear hl hi
  obtain ⟨⟨cq, cd, cw, cr, cf⟩, ⟨np, nn, nc⟩, owner, quota, ⟨ip, iN, ic⟩⟩ := a
  dsimp only [Ask.cells] at *
  generalize wideN _ (itemOf its) = R at *
  generalize (its.any fun x => isMapN x.d && decide (cw < x.d.wd)) = A at *
  have HB := hide hB; clear hB
  go_enter Tryd.func54, Tryd.ntmps54
  go_wp2_with (go_at_call 72; refine (H.out _ (by (repeat' (first | exact Below.refl _ _ | assumption | refine Ext.alloc ?_ _ | refine Ext.drew ?_ | refine Ext.trans ?_ (by assumption)))) HB.out).mono ?_; rintro e w' ⟨rfl, hb⟩; obtain ⟨hc, hf, hz⟩ := bcell hb; (try have zw0 := hz (w.heap.size) (by first | (simp; omega) | omega | (simp; done) | assumption)); (try have zw1 := hz (w.heap.size + 1) (by first | (simp; omega) | omega | (simp; done) | assumption)); (try have zw2 := hz (w.heap.size + 2) (by first | (simp; omega) | omega | (simp; done) | assumption)); (try have zr0 := hz (wr.heap.size) (by first | (simp; omega) | omega | (simp; done) | assumption)); (try have zr1 := hz (wr.heap.size + 1) (by first | (simp; omega) | omega | (simp; done) | assumption)); (try have zr2 := hz (wr.heap.size + 2) (by first | (simp; omega) | omega | (simp; done) | assumption)); (try have zB0 := hz (B) (by first | (simp; omega) | omega | (simp; done) | assumption)); clear hz)
  all_goals go_ret
  all_goals refine ⟨ret_bool ?_, by (repeat' (first | exact Below.refl _ _ | assumption | refine Ext.alloc ?_ _ | refine Ext.drew ?_ | refine Ext.trans ?_ (by assumption)))⟩
  all_goals (have hw := HW.out; clear HW H; subst hw; go_light; grind)
end Go.Proofs.YtfcdohaimdodgaaDoor

/-
  slices.IndexFunc and ContainsFunc at items, for a function value that keeps an account of its own.
-/
namespace Go.Proofs.YtfcdohaimdodgaaDoor
open Go.RowKit Go.Shelf
set_option linter.unusedVariables false

set_option maxHeartbeats 400000 in
theorem idxIt_st (sp : Option Addr) (sn sc : Nat) (xs : List It) (p : Nat → It → Bool) (I : Nat → World → Prop) (g : Nat) (fst cap : Array Value) (w : World) (eg : ∀ args w, (callFunc g args).run Tryd.prog w = .ok (.enter g args) w)
    (hs : ∀ k W, I k W → RowsAt 6 It.cells W ⟨sp, sn, sc⟩ xs) (hp : ∀ k x W, xs[k]? = some x → I k W → Calls Tryd.prog g (fst ++ #[x.enc] ++ cap) W fun e w' => e = .returned (.bool (p k x)) ∧ I (k + 1) w') (h0 : I 0 w) :
    Calls Tryd.prog 47 #[.slice sp sn sc, .func (.func g) fst cap] w fun e w' => e = .returned (.int .i64 (idx (fun y : It × Nat => p y.2 y.1) xs.zipIdx)) ∧ ∃ k, I k w' := by
  have hlen := (hs 0 w h0).len
  have hbig := (hs 0 w h0).big
  have hcap := (hs 0 w h0).cap
  dsimp only at hlen hbig hcap
  have HL := hide hlen; clear hlen
  go_enter Tryd.func47, Tryd.ntmps47
  go_wp2
  go_loopg [5, 8] sn (fun gg _ s8 wr => ∃ k : Nat, k ≤ sn ∧ sn - k ≤ gg ∧ s8 = .int .i64 k ∧ Aside (I k wr) ∧ Aside (∀ y ∈ xs.zipIdx.take k, p y.2 y.1 = false))
  case atStart => exact ⟨0, Nat.zero_le _, by omega, rfl, h0, fun y hy => by simp at hy⟩
  case round =>
    obtain ⟨k, hk, hg, rfl, BW, A⟩ := hrel
    by_cases hlt : k < sn
    · obtain ⟨x, hx⟩ := getElem?_of_lt (xs := xs) (k := k) (by have := HL.out; omega)
      obtain ⟨b, o, hsp, hblt, c0, c1, c2, c3, c4, c5⟩ := ItemsAt.cells' (hs k wr BW.out) hx
      have hcall := hp k x wr hx BW.out
      have hltz : (k : Int) < (sn : Int) := by omega
      have HX := hide (show xs.zipIdx[k]? = some (x, k) by simp [hx]); clear hx
      clear hs hp
      subst hsp
      simp only [It.enc, It.cells] at hcall
      cases hq : p k x with
      | true =>
        rw [hq] at hcall
        have HQ := hide hq; clear hq
        go_wp2_with (go_at_fn g; refine hcall.mono ?_; rintro e w' ⟨rfl, hb'⟩)
        go_ret
        exact ⟨ret_int (idx_hit (p := fun y : It × Nat => p y.2 y.1) HX.out HQ.out A.out).symm, ⟨_, hb'⟩⟩
      | false =>
        rw [hq] at hcall
        have HQ := hide hq; clear hq
        go_wp2_with (go_at_fn g; refine hcall.mono ?_; rintro e w' ⟨rfl, hb'⟩)
        go_roundg (sn - (k + 1))
        case measure => omega
        case rel =>
          refine ⟨k + 1, by omega, by omega, by go_num, hb', (show Aside _ from fun y hy => ?_)⟩
          rw [take_snoc HX.out] at hy
          rcases List.mem_append.1 hy with h | h
          · exact A.out y h
          · obtain rfl := List.mem_singleton.1 h; exact HQ.out
    · have hltz : ¬ (k : Int) < (sn : Int) := by omega
      have hkn : k = sn := by omega
      have HK := hide hkn; clear hkn
      go_wp2
      go_ret
      refine ⟨ret_int (idx_miss fun y hy => A.out y ?_).symm, ⟨_, BW.out⟩⟩
      rw [List.take_of_length_le (by rw [List.length_zipIdx]; have := HL.out; have := HK.out; omega)]; exact hy
set_option maxHeartbeats 400000 in
theorem contIt_st (sp : Option Addr) (sn sc : Nat) (xs : List It) (p : Nat → It → Bool) (I : Nat → World → Prop) (g : Nat) (fst cap : Array Value) (w : World) (eg : ∀ args w, (callFunc g args).run Tryd.prog w = .ok (.enter g args) w)
    (hs : ∀ k W, I k W → RowsAt 6 It.cells W ⟨sp, sn, sc⟩ xs) (hp : ∀ k x W, xs[k]? = some x → I k W → Calls Tryd.prog g (fst ++ #[x.enc] ++ cap) W fun e w' => e = .returned (.bool (p k x)) ∧ I (k + 1) w') (h0 : I 0 w) :
    Calls Tryd.prog 25 #[.slice sp sn sc, .func (.func g) fst cap] w fun e w' => e = .returned (.bool (xs.zipIdx.any (fun y : It × Nat => p y.2 y.1))) ∧ Aside (∃ k, I k w') := by
  have hcall := hide (idxIt_st sp sn sc xs p I g fst cap w eg hs hp h0)
  rw [← idx_nonneg]
  generalize idx (fun y : It × Nat => p y.2 y.1) xs.zipIdx = r at *
  clear hs hp
  go_enter Tryd.func25, Tryd.ntmps25
  go_wp2_with (go_at_call 47; refine hcall.out.mono ?_; rintro e w' ⟨rfl, k, hb'⟩)
  go_ret
  exact ⟨rfl, ⟨k, hb'⟩⟩
end Go.Proofs.YtfcdohaimdodgaaDoor

/-
  check: twice, by an account of names.
-/
namespace Go.Proofs.YtfcdohaimdodgaaDoor
open Go.RowKit Go.Shelf
set_option linter.unusedVariables false

theorem gb_of_ext {a b : World} (h : Ext a b) : a.grownBy b none := ⟨h.os, h.tape, h.output, h.size, fun k hk _ => h.block k hk⟩
theorem ext_of_gb {a b : World} (h : a.grownBy b none) : Ext a b := ⟨h.os, h.tape, h.output, h.size, fun k hk => h.block k hk (by simp)⟩
theorem gb_some {a b : World} (h : a.grownBy b none) (r : Option Nat) : a.grownBy b r := ⟨h.os, h.tape, h.output, h.size, fun k hk _ => h.block k hk (by simp)⟩
theorem gb_trans {a b c : World} {r : Option Nat} (h : a.grownBy b r) (k : b.grownBy c r) : a.grownBy c r :=
  ⟨k.os.trans h.os, k.tape.trans h.tape, k.output.trans h.output, Nat.le_trans h.size k.size, fun i hi hne => (k.block i (Nat.lt_of_lt_of_le hi h.size) hne).trans (h.block i hi hne)⟩
theorem RowsAt.grown {α : Type} {sz : Nat} {cells : α → List Value} {w w' : World} {s : Sl} {xs : List α} {r : Nat} (h : RowsAt sz cells w s xs) (hg : w.grownBy w' (some r)) (hs : ∀ b o, s.p = some ⟨b, o, none⟩ → b ≠ r) : RowsAt sz cells w' s xs :=
  ⟨h.len, h.cap, h.big, fun k x hx => by
    obtain ⟨b, o, hp, hlt, hc⟩ := h.at_ k x hx
    refine ⟨b, o, hp, Nat.lt_of_lt_of_le hlt hg.size, fun j v hv => ?_⟩
    rw [World.cell?_of_block (w := w) (a := ⟨b, o + k * sz + j, none⟩) (hg.block b hlt (by have := hs b o hp; simpa using this))]
    exact hc j v hv⟩
theorem gb_cell {w w' : World} {r b o : Nat} {v : Value} (hg : w.grownBy w' (some r)) (h : w.cell? ⟨b, o, none⟩ = some v) (hne : b ≠ r) : w'.cell? ⟨b, o, none⟩ = some v := by
  rw [World.cell?_of_block (w := w) (a := ⟨b, o, none⟩) (hg.block b (lt_of_cell h) (by simpa using hne))]
  exact h

theorem zeroS (w : World) : (zeroValue 3).run Tryd.prog w = .ok (.int .i64 0) w := by kernel_rfl
theorem undSI : Tryd.prog.underlying 45 = some (.map 9 3) := by kernel_rfl
theorem keyS : KeyLaw Tryd.prog 9 Value.string := keyString Tryd.underlying9
abbrev SMap (w : World) (r : Nat) (l : List (ByteArray × Int)) : Prop := MapAt Value.string (Value.int .i64) w r l

theorem enters_aTwice1 : ∀ args w, (callFunc 75 args).run Tryd.prog w = .ok (.enter 75 args) w := enters_of Tryd.func75 (by kernel_rfl) rfl
set_option maxHeartbeats 1000000 in
theorem twice1_any (x : It) (B r : Nat) (l : List (ByteArray × Int)) (w : World) (hB : w.cell? ⟨B, 0, none⟩ = some (.map (some r))) (hM : SMap w r l) (hne : B ≠ r) (hbd : 0 ≤ (mget x.d.nm l).getD 0 ∧ (mget x.d.nm l).getD 0 < 9223372036854775807) :
    Calls Tryd.prog 75 #[.agg #[.string x.d.nm, .int .u8 x.d.k, .slice x.af.p x.af.n x.af.c, .string x.d.ov, .int .i64 x.d.wd, .int .i64 x.d.q], .pointer (some ⟨B, 0, none⟩)] w fun e w' =>
      e = .returned (.bool (decide (0 < (mget x.d.nm l).getD 0))) ∧ SMap w' r (mput x.d.nm ((mget x.d.nm l).getD 0 + 1) l) ∧ w.grownBy w' (some r) := by
  have hlt := lt_of_cell hB
  have hrl := hM.lt
  have hne2 : B ≠ w.heap.size := by omega
  have hMa := hide (hM.below (Ext.alloc (Ext.refl w) (.cells #[.string x.d.nm, .int .u8 x.d.k, .slice x.af.p x.af.n x.af.c, .string x.d.ov, .int .i64 x.d.wd, .int .i64 x.d.q] 27)))
  have HG : Hid (mget x.d.nm (mput x.d.nm ((mget x.d.nm l).getD 0 + 1) l) = some ((mget x.d.nm l).getD 0 + 1)) := hide (by rw [mget_mput]; simp)
  obtain ⟨hb0, hb1⟩ := hbd
  have HBX := hide (show (w.alloc (.cells #[.string x.d.nm, .int .u8 x.d.k, .slice x.af.p x.af.n x.af.c, .string x.d.ov, .int .i64 x.d.wd, .int .i64 x.d.q] 27)).cell? ⟨w.heap.size, 0, none⟩ = some (.string x.d.nm) by
    simp only [World.cell?, World.alloc_heap_new w _]; rfl)
  clear hM
  generalize hc : (mget x.d.nm l).getD 0 = c at *
  have HC := hide hc; clear hc
  go_enter Tryd.func75, Tryd.ntmps75
  go_wp2_with (first | (at_lookup; refine wpList_lookup_at rfl (.tmp 4) (.tmp 6) 45 false rfl keyS undSI (0 : Int) (zeroS _) r l rfl hMa.out x.d.nm rfl ?_; rw [HC.out]; simp only [if_false, Bool.false_eq_true]) | (at_mapUpdate; refine wpList_mapUpdate_at rfl (.tmp 4) (.tmp 6) (.tmp 8) 45 rfl keyS undSI r l rfl hMa.out x.d.nm rfl (c + 1) rfl ?_; intro w2 hM2 hg2 hs2; have hB2 := gb_cell hg2 (cell_alloc_l _ hB) hne; have hN2 := gb_cell hg2 HBX.out (by omega)) | (at_lookup; refine wpList_lookup_at rfl (.tmp 9) (.tmp 11) 45 false rfl keyS undSI (0 : Int) (zeroS _) r _ rfl hM2 x.d.nm rfl ?_; rw [HG.out]; simp only [if_false, Bool.false_eq_true, Option.getD_some]))
  go_ret
  refine ⟨ret_bool (by go_light; simp; omega), hM2, gb_trans (gb_some (World.grownBy_alloc w _ none) _) hg2⟩

/-- the account of names -/
def cntUpTo (l : List ByteArray) : Nat → List (ByteArray × Int)
  | 0 => []
  | k + 1 => match l[k]? with
    | some s => mput s ((mget s (cntUpTo l k)).getD 0 + 1) (cntUpTo l k)
    | none => cntUpTo l k
theorem cnt_get (l : List ByteArray) : ∀ k s, (mget s (cntUpTo l k)).getD 0 = ((l.take k).countP (fun t => decide (t = s)) : Int) := by
  intro k
  induction k with
  | zero => intro s; simp [cntUpTo, mget]
  | succ k ih =>
    intro s
    cases hx : l[k]? with
    | none =>
      have hk : l.length ≤ k := List.getElem?_eq_none_iff.1 hx
      unfold cntUpTo; rw [hx]; dsimp only
      rw [ih s, List.take_of_length_le hk, List.take_of_length_le (by omega)]
    | some u =>
      unfold cntUpTo; rw [hx]; dsimp only
      rw [mget_mput, take_snoc hx, List.countP_append]
      by_cases h : u = s
      · subst h; simp [ih u]
      · simp [h, ih s]
theorem cnt_le (l : List ByteArray) (k : Nat) (s : ByteArray) : 0 ≤ (mget s (cntUpTo l k)).getD 0 ∧ (mget s (cntUpTo l k)).getD 0 ≤ k := by
  rw [cnt_get]
  have h1 := List.countP_le_length (p := fun t => decide (t = s)) (l := l.take k)
  have h2 : (l.take k).length ≤ k := List.length_take_le _ _
  omega
theorem twiceF_eq (all : List ByteArray) : ∀ (rest : List Item) (n : Nat) (seen : List ByteArray), all.drop n = rest.map Item.nm → (∀ s, seen.any (fun t => decide (t = s)) = decide (0 < (mget s (cntUpTo all n)).getD 0)) →
    twiceF seen rest = (rest.zipIdx n).any (fun y : Item × Nat => decide (0 < (mget y.1.nm (cntUpTo all y.2)).getD 0)) := by
  intro rest
  induction rest with
  | nil => intro n seen _ _; rfl
  | cons x r ih =>
    intro n seen hd hs
    have hx : all[n]? = some x.nm := by
      have := congrArg (fun l => l[0]?) hd
      simpa using this
    have hd2 : all.drop (n + 1) = r.map Item.nm := by
      have := congrArg (fun l => l.drop 1) hd
      simpa [List.drop_drop, Nat.add_comm] using this
    unfold twiceF
    rw [List.zipIdx_cons, List.any_cons, hs]
    dsimp only
    congr 1
    apply ih (n + 1) (x.nm :: seen) hd2
    intro s
    rw [List.any_cons, hs, cnt_get, cnt_get, take_snoc hx, List.countP_append]
    by_cases h : x.nm = s
    · simp [h]
    · simp [h]
theorem twice_eq (its : List It) : twiceN (itemOf its) = its.zipIdx.any (fun y : It × Nat => decide (0 < (mget y.1.d.nm (cntUpTo ((itemOf its).map Item.nm) y.2)).getD 0)) := by
  unfold twiceN
  rw [twiceF_eq ((itemOf its).map Item.nm) (itemOf its) 0 [] (by simp) (fun s => by simp [cntUpTo, mget])]
  unfold itemOf
  rw [List.zipIdx_map, List.any_map]
  rfl
theorem has_st (a : Ask) (its : List It) (p : Nat → It → Bool) (I : Nat → World → Prop) (g : Nat) (fst cap : Array Value) (w : World) (eg : ∀ args w, (callFunc g args).run Tryd.prog w = .ok (.enter g args) w)
    (hs : ∀ k W, I k W → RowsAt 6 It.cells W a.is its) (hp : ∀ k x W, its[k]? = some x → I k W → Calls Tryd.prog g (fst ++ #[x.enc] ++ cap) W fun e w' => e = .returned (.bool (p k x)) ∧ I (k + 1) w') (hIa : ∀ k W o, I k W → I k (W.alloc o)) (h0 : I 0 w) :
    Calls Tryd.prog 72 #[.agg a.cells.toArray, .func (.func g) fst cap] w fun e w' => e = .returned (.bool (its.zipIdx.any (fun y : It × Nat => p y.2 y.1))) ∧ Aside (∃ k, I k w') := by
  have H := hide (fun (W : World) (h0 : I 0 W) => contIt_st a.is.p a.is.n a.is.c its p I g fst cap W eg hs hp h0)
  have HI := hide (fun o => hIa 0 w o h0)
  clear hs hp eg hIa h0
  generalize its.zipIdx.any (fun y : It × Nat => p y.2 y.1) = R at *
  simp only [Ask.cells] at *
  go_enter Tryd.func72, Tryd.ntmps72
  go_wp2_with (go_at_call 25; refine (H.out _ (HI.out _)).mono ?_; rintro e w' ⟨rfl, hb⟩)
  go_ret
  exact ⟨rfl, hb⟩
theorem twice_any (a : Ask) (its : List It) (w : World) (hi : ItemsAt w a.is its) :
    Calls Tryd.prog 55 #[.agg a.cells.toArray] w fun e w' => e = .returned (.bool (twiceN (itemOf its))) ∧ Ext w w' := by
  have hl := hi.rows.len
  have hbig := hi.rows.big
  have hcap := hi.rows.cap
  have HR := hide (twice_eq its)
  have hE : Ext w (((w.alloc (.cells a.cells.toArray 67)).alloc (.map #[] 0)).alloc (.cells #[.map (some (w.heap.size + 1))] 45)) := by (repeat' (first | exact Below.refl _ _ | assumption | refine Ext.alloc ?_ _ | refine Ext.drew ?_ | refine Ext.trans ?_ (by assumption)))
  have hm0 := MapAt.new Value.string (Value.int .i64) (w.alloc (.cells a.cells.toArray 67))
  rw [World.size_alloc] at hm0
  have hb0 := cell_new_l ((w.alloc (.cells a.cells.toArray 67)).alloc (.map #[] 0)) (.map (some (w.heap.size + 1))) 45
  simp only [World.size_alloc] at hb0
  have hm1 := hm0.below (Ext.alloc (Ext.refl _) (.cells #[.map (some (w.heap.size + 1))] 45))
  have hblt : ∀ b o, a.is.p = some ⟨b, o, none⟩ → its ≠ [] → b < w.heap.size := fun b o hp hne => hi.rows.block_lt (by rw [hl]; exact List.length_pos_iff.2 hne) b o hp
  generalize hW : ((w.alloc (.cells a.cells.toArray 67)).alloc (.map #[] 0)).alloc (.cells #[.map (some (w.heap.size + 1))] 45) = W0 at *
  have H := hide (has_st a its (fun k x => decide (0 < (mget x.d.nm (cntUpTo ((itemOf its).map Item.nm) k)).getD 0))
    (fun k W => W.cell? ⟨w.heap.size + 2, 0, none⟩ = some (.map (some (w.heap.size + 1))) ∧ SMap W (w.heap.size + 1) (cntUpTo ((itemOf its).map Item.nm) k) ∧ W0.grownBy W (some (w.heap.size + 1)))
    75 #[] #[.pointer (some ⟨w.heap.size + 2, 0, none⟩)] W0 enters_aTwice1
    (fun k W hI => by
      by_cases hne : its = []
      · subst hne
        exact ⟨hl, hcap, hbig, fun k x hx => by simp at hx⟩
      · exact (hi.rows.below hE).grown hI.2.2 (fun b o hp => by have := hblt b o hp hne; omega))
    (fun k x W hx hI => by
      have hk : k < its.length := by
        rcases Nat.lt_or_ge k its.length with h | h
        · exact h
        · rw [List.getElem?_eq_none h] at hx; cases hx
      have hc := cnt_le ((itemOf its).map Item.nm) k x.d.nm
      refine (twice1_any x (w.heap.size + 2) (w.heap.size + 1) _ W hI.1 hI.2.1 (by omega) ⟨hc.1, by omega⟩).mono ?_
      rintro e w' ⟨rfl, h2, h3⟩
      refine ⟨rfl, gb_cell h3 hI.1 (by omega), ?_, gb_trans hI.2.2 h3⟩
      have : cntUpTo ((itemOf its).map Item.nm) (k + 1) = mput x.d.nm ((mget x.d.nm (cntUpTo ((itemOf its).map Item.nm) k)).getD 0 + 1) (cntUpTo ((itemOf its).map Item.nm) k) := by
        conv => lhs; unfold cntUpTo
        rw [show ((itemOf its).map Item.nm)[k]? = some x.d.nm by simp [itemOf, hx]]
      rw [this]; exact h2)
    (fun k W o hI => ⟨cell_alloc_l _ hI.1, hI.2.1.below (Ext.alloc (Ext.refl _) _), gb_trans hI.2.2 (gb_some (World.grownBy_alloc W o none) _)⟩)
    ⟨hb0.1, hm1, gb_some (gb_of_ext (Ext.refl _)) _⟩)
  subst hW
  rw [← HR.out] at H
  clear hi hl hbig hcap hm0 hm1 hb0 HR hblt
  have HE := hide hE; clear hE
  generalize twiceN (itemOf its) = R at *
  simp only [Ask.cells] at *
  have hmm := @run_makeMap Tryd.prog
  go_enter Tryd.func55, Tryd.ntmps55
  go_wp2_with (go_at_call 72; refine H.out.mono ?_; rintro e w' ⟨rfl, hb⟩)
  go_ret
  refine ⟨rfl, ?_⟩
  obtain ⟨k, -, -, hg⟩ := hb
  exact Below.grown HE.out hg HE.out.size (fun k e => by cases e; omega)
end Go.Proofs.YtfcdohaimdodgaaDoor

/-
  check: deep, refers, over by what the document says.
-/
namespace Go.Proofs.YtfcdohaimdodgaaDoor
open Go.RowKit Go.Shelf
set_option linter.unusedVariables false

theorem enters_isMap : ∀ args w, (callFunc 74 args).run Tryd.prog w = .ok (.enter 74 args) w := enters_of Tryd.func74 (by kernel_rfl) rfl
theorem deepN_bd (xs : List GN) (hr : RightN xs) (i : Int) : 0 ≤ deepN xs i ∧ deepN xs i ≤ xs.length := by
  unfold deepN
  split
  · rename_i h
    have := chain_len hr i.toNat
    omega
  · omega
set_option maxHeartbeats 1000000 in
theorem deep20_any (a : Ask) (xs : List GN) (its : List It) (w : World) (ha : AskAt w a xs its) :
    Calls Tryd.prog 56 #[.agg a.cells.toArray] w fun e w' => e = .returned (.bool (deepB a.c xs a.owner (itemOf its))) ∧ Ext w w' := by
  have hl := ha.items.rows.len
  have hD := hide (fun (W : World) (hb : Ext w W) => deep_any a.ns.p a.ns.n a.ns.c a.owner xs W (ha.nodes.below hb) ha.right)
  have hH := hide (fun (W : World) (hb : Ext w W) => has_any a its (fun x => isMapN x.d) 74 #[] #[] W enters_isMap (ha.items.below hb) (fun x _ W' _ => isMap_any x W'))
  have hdb := deepN_bd xs ha.right a.owner
  have hfew := ha.few
  have HR : Hid (deepB a.c xs a.owner (itemOf its) = ((decide (0 < a.is.n) && decide (a.c.depth < deepN xs a.owner + 1)) || ((its.any fun x => isMapN x.d) && decide (a.c.depth ≤ deepN xs a.owner + 1)))) := by
    apply hide; unfold deepB itemOf; rw [List.any_map, List.length_map, hl]; rfl
  clear ha hl
  obtain ⟨hdb0, hdb1⟩ := hdb
  have hdb2 : deepN xs a.owner ≤ 1000000 := by omega
  obtain ⟨⟨cq, cd, cw, cr, cf⟩, ⟨np, nn, nc⟩, owner, quota, ⟨ip, iN, ic⟩⟩ := a
  dsimp only [Ask.cells] at *
  generalize deepB _ xs owner (itemOf its) = R at *
  generalize (its.any fun x => isMapN x.d) = M at *
  generalize deepN xs owner = D at *
  go_enter Tryd.func56, Tryd.ntmps56
  go_wp2_with (first | (go_at_call 19; refine (hD.out _ (by (repeat' (first | exact Below.refl _ _ | assumption | refine Ext.alloc ?_ _ | refine Ext.drew ?_ | refine Ext.trans ?_ (by assumption))))).mono ?_; rintro e w' ⟨rfl, hb⟩; obtain ⟨hc, hf, hz⟩ := bcell hb; (try have zw0 := hz (w.heap.size) (by first | (simp; omega) | omega | (simp; done) | assumption)); (try have zw1 := hz (w.heap.size + 1) (by first | (simp; omega) | omega | (simp; done) | assumption)); (try have zw2 := hz (w.heap.size + 2) (by first | (simp; omega) | omega | (simp; done) | assumption)); (try have zr0 := hz (wr.heap.size) (by first | (simp; omega) | omega | (simp; done) | assumption)); (try have zr1 := hz (wr.heap.size + 1) (by first | (simp; omega) | omega | (simp; done) | assumption)); (try have zr2 := hz (wr.heap.size + 2) (by first | (simp; omega) | omega | (simp; done) | assumption)); (try have zB0 := hz (B) (by first | (simp; omega) | omega | (simp; done) | assumption)); clear hz) | (go_at_call 72; refine (hH.out _ (by (repeat' (first | exact Below.refl _ _ | assumption | refine Ext.alloc ?_ _ | refine Ext.drew ?_ | refine Ext.trans ?_ (by assumption))))).mono ?_; rintro e w' ⟨rfl, hb⟩; obtain ⟨hc, hf, hz⟩ := bcell hb; (try have zw0 := hz (w.heap.size) (by first | (simp; omega) | omega | (simp; done) | assumption)); (try have zw1 := hz (w.heap.size + 1) (by first | (simp; omega) | omega | (simp; done) | assumption)); (try have zw2 := hz (w.heap.size + 2) (by first | (simp; omega) | omega | (simp; done) | assumption)); (try have zr0 := hz (wr.heap.size) (by first | (simp; omega) | omega | (simp; done) | assumption)); (try have zr1 := hz (wr.heap.size + 1) (by first | (simp; omega) | omega | (simp; done) | assumption)); (try have zr2 := hz (wr.heap.size + 2) (by first | (simp; omega) | omega | (simp; done) | assumption)); (try have zB0 := hz (B) (by first | (simp; omega) | omega | (simp; done) | assumption)); clear hz))
  all_goals go_ret
  all_goals refine ⟨ret_bool ?_, by (repeat' (first | exact Below.refl _ _ | assumption | refine Ext.alloc ?_ _ | refine Ext.drew ?_ | refine Ext.trans ?_ (by assumption)))⟩
  all_goals (have hw := HR.out; clear HR hH hD; subst hw; go_light; grind)
end Go.Proofs.YtfcdohaimdodgaaDoor

/-
  check: refers, over by what the document says.
-/
namespace Go.Proofs.YtfcdohaimdodgaaDoor
open Go.RowKit Go.Shelf
set_option linter.unusedVariables false

theorem enters_aLost : ∀ args w, (callFunc 77 args).run Tryd.prog w = .ok (.enter 77 args) w := enters_of Tryd.func77 (by kernel_rfl) rfl
theorem enters_aRefers1 : ∀ args w, (callFunc 76 args).run Tryd.prog w = .ok (.enter 76 args) w := enters_of Tryd.func76 (by kernel_rfl) rfl
def refersItem (xs : List GN) (owner : Int) (items : List Item) (x : Item) : Bool := x.names.any (lostN xs owner items) || (isMapN x && lostN xs owner items x.ov)
set_option maxHeartbeats 1000000 in
theorem refers1_any (a : Ask) (xs : List GN) (its : List It) (x : It) (B : Nat) (w : World) (ha : AskAt w a xs its) (hx : x.ok w) (hB : AskBox w B a) :
    Calls Tryd.prog 76 #[.agg #[.string x.d.nm, .int .u8 x.d.k, .slice x.af.p x.af.n x.af.c, .string x.d.ov, .int .i64 x.d.wd, .int .i64 x.d.q], .pointer (some ⟨B, 0, none⟩)] w fun e w' =>
      e = .returned (.bool (refersItem xs a.owner (itemOf its) x.d)) ∧ Ext w w' := by
  have hlt := hB.lt
  have hne : B ≠ w.heap.size := by omega
  have hC := hide (fun (W : World) (hb : Ext w W) => contStr_any x.af.p x.af.n x.af.c x.d.names (lostN xs a.owner (itemOf its)) 77 #[.agg a.cells.toArray] #[] W enters_aLost (RowsAt.below hx hb) (fun s _ W' hb' => lost_any a xs its s W' (ha.below (hb.trans hb'))))
  have hL := hide (fun (W : World) (hb : Ext w W) => lost_any a xs its x.d.ov W (ha.below hb))
  have hm := fun W => isMap_any x W
  change ∀ W, Calls _ _ _ _ (fun e w' => e = .returned (.bool (isMapN x.d)) ∧ Ext W w') at hm
  have HM := hide hm; clear hm
  have HR : Hid (refersItem xs a.owner (itemOf its) x.d = (x.d.names.any (lostN xs a.owner (itemOf its)) || (isMapN x.d && lostN xs a.owner (itemOf its) x.d.ov))) := hide rfl
  clear ha hx
  obtain ⟨b0, b1, b2, b3, b4, b5, b6, b7, b8⟩ := hB.all
  clear hB
  obtain ⟨⟨cq, cd, cw, cr, cf⟩, ⟨np, nn, nc⟩, owner, quota, ⟨ip, iN, ic⟩⟩ := a
  dsimp only [Ask.cells] at *
  generalize refersItem xs owner (itemOf its) x.d = R at *
  generalize x.d.names.any (lostN xs owner (itemOf its)) = R1 at *
  generalize lostN xs owner (itemOf its) x.d.ov = R2 at *
  generalize isMapN x.d = M at *
  go_enter Tryd.func76, Tryd.ntmps76
  go_wp2_with (first | (go_at_call 50; refine (hC.out _ (by (repeat' (first | exact Below.refl _ _ | assumption | refine Ext.alloc ?_ _ | refine Ext.drew ?_ | refine Ext.trans ?_ (by assumption))))).mono ?_; rintro e w' ⟨rfl, hb⟩; obtain ⟨hc, hf, hz⟩ := bcell hb; (try have zw0 := hz (w.heap.size) (by first | (simp; omega) | omega | (simp; done) | assumption)); (try have zw1 := hz (w.heap.size + 1) (by first | (simp; omega) | omega | (simp; done) | assumption)); (try have zw2 := hz (w.heap.size + 2) (by first | (simp; omega) | omega | (simp; done) | assumption)); (try have zr0 := hz (wr.heap.size) (by first | (simp; omega) | omega | (simp; done) | assumption)); (try have zr1 := hz (wr.heap.size + 1) (by first | (simp; omega) | omega | (simp; done) | assumption)); (try have zr2 := hz (wr.heap.size + 2) (by first | (simp; omega) | omega | (simp; done) | assumption)); (try have zB0 := hz (B) (by first | (simp; omega) | omega | (simp; done) | assumption)); clear hz) | (go_at_call 74; refine (HM.out _).mono ?_; rintro e w' ⟨rfl, hb⟩; obtain ⟨hc, hf, hz⟩ := bcell hb; (try have zw0 := hz (w.heap.size) (by first | (simp; omega) | omega | (simp; done) | assumption)); (try have zw1 := hz (w.heap.size + 1) (by first | (simp; omega) | omega | (simp; done) | assumption)); (try have zw2 := hz (w.heap.size + 2) (by first | (simp; omega) | omega | (simp; done) | assumption)); (try have zr0 := hz (wr.heap.size) (by first | (simp; omega) | omega | (simp; done) | assumption)); (try have zr1 := hz (wr.heap.size + 1) (by first | (simp; omega) | omega | (simp; done) | assumption)); (try have zr2 := hz (wr.heap.size + 2) (by first | (simp; omega) | omega | (simp; done) | assumption)); (try have zB0 := hz (B) (by first | (simp; omega) | omega | (simp; done) | assumption)); clear hz) | (go_at_call 77; refine (hL.out _ (by (repeat' (first | exact Below.refl _ _ | assumption | refine Ext.alloc ?_ _ | refine Ext.drew ?_ | refine Ext.trans ?_ (by assumption))))).mono ?_; rintro e w' ⟨rfl, hb⟩; obtain ⟨hc, hf, hz⟩ := bcell hb; (try have zw0 := hz (w.heap.size) (by first | (simp; omega) | omega | (simp; done) | assumption)); (try have zw1 := hz (w.heap.size + 1) (by first | (simp; omega) | omega | (simp; done) | assumption)); (try have zw2 := hz (w.heap.size + 2) (by first | (simp; omega) | omega | (simp; done) | assumption)); (try have zr0 := hz (wr.heap.size) (by first | (simp; omega) | omega | (simp; done) | assumption)); (try have zr1 := hz (wr.heap.size + 1) (by first | (simp; omega) | omega | (simp; done) | assumption)); (try have zr2 := hz (wr.heap.size + 2) (by first | (simp; omega) | omega | (simp; done) | assumption)); (try have zB0 := hz (B) (by first | (simp; omega) | omega | (simp; done) | assumption)); clear hz))
  all_goals go_ret
  all_goals refine ⟨ret_bool ?_, by (repeat' (first | exact Below.refl _ _ | assumption | refine Ext.alloc ?_ _ | refine Ext.drew ?_ | refine Ext.trans ?_ (by assumption)))⟩
  all_goals (have hw := HR.out; clear HR hC hL HM; subst hw; go_light; grind)
theorem refers_any (a : Ask) (xs : List GN) (its : List It) (w : World) (ha : AskAt w a xs its) :
    Calls Tryd.prog 57 #[.agg a.cells.toArray] w fun e w' => e = .returned (.bool (refersN xs a.owner (itemOf its))) ∧ Ext w w' := by
  have HR : Hid (refersN xs a.owner (itemOf its) = its.any fun x => refersItem xs a.owner (itemOf its) x.d) := by
    apply hide; unfold refersN
    conv => lhs; arg 1; unfold itemOf
    rw [List.any_map]; rfl
  have H := hide (fun (W : World) (hb : Ext w W) (hB : AskBox W w.heap.size a) => has_any a its (fun x => refersItem xs a.owner (itemOf its) x.d) 76 #[] #[.pointer (some ⟨w.heap.size, 0, none⟩)] W enters_aRefers1 (ha.items.below hb) (fun x hx W' hb' => refers1_any a xs its x w.heap.size W' (ha.below (hb.trans hb')) ((ha.items.ok x hx).below (hb.trans hb')) (hB.below hb')))
  have hB := hide (AskBox.new w a 67)
  clear ha
  obtain ⟨⟨cq, cd, cw, cr, cf⟩, ⟨np, nn, nc⟩, owner, quota, ⟨ip, iN, ic⟩⟩ := a
  dsimp only [Ask.cells] at *
  rw [HR.out]; clear HR
  generalize (its.any fun x => refersItem xs owner (itemOf its) x.d) = A at *
  go_enter Tryd.func57, Tryd.ntmps57
  go_wp2_with (go_at_call 72; refine (H.out _ (by (repeat' (first | exact Below.refl _ _ | assumption | refine Ext.alloc ?_ _ | refine Ext.drew ?_ | refine Ext.trans ?_ (by assumption)))) hB.out).mono ?_; rintro e w' ⟨rfl, hb⟩; obtain ⟨hc, hf, hz⟩ := bcell hb; (try have zw0 := hz (w.heap.size) (by first | (simp; omega) | omega | (simp; done) | assumption)); (try have zw1 := hz (w.heap.size + 1) (by first | (simp; omega) | omega | (simp; done) | assumption)); (try have zw2 := hz (w.heap.size + 2) (by first | (simp; omega) | omega | (simp; done) | assumption)); (try have zr0 := hz (wr.heap.size) (by first | (simp; omega) | omega | (simp; done) | assumption)); (try have zr1 := hz (wr.heap.size + 1) (by first | (simp; omega) | omega | (simp; done) | assumption)); (try have zr2 := hz (wr.heap.size + 2) (by first | (simp; omega) | omega | (simp; done) | assumption)); (try have zB0 := hz (B) (by first | (simp; omega) | omega | (simp; done) | assumption)); clear hz)
  go_ret
  exact ⟨rfl, by (repeat' (first | exact Below.refl _ _ | assumption | refine Ext.alloc ?_ _ | refine Ext.drew ?_ | refine Ext.trans ?_ (by assumption)))⟩
end Go.Proofs.YtfcdohaimdodgaaDoor

/-
  check: over by what the document says.
-/
namespace Go.Proofs.YtfcdohaimdodgaaDoor
open Go.RowKit Go.Shelf
set_option linter.unusedVariables false
set_option linter.unusedSimpArgs false

/-- A region that draws its order, whose operations read and whose callees leave all as it was: one walk in the order of the text. -/
theorem wp_region_ext_lit {P : Program} {id : Nat} {Q : Exit → Act → World → Prop} {a : Act} {w : World} {l : List Oper} (hm : P.follows .mixedOrders = true) (hB : Region.lexB .any l.toArray = true)
    (h : wpQuiet P l.toArray (fun w' => Ext w w') (fun a' => ∀ w', Ext w w' → Q .normal a' w') l a) : (Code.region id l.toArray true).wp P Q a w :=
  wp_region_quiet (C := fun w' => Ext w w') hm hB (Ext.drew (Ext.refl w)) (by simpa using h)
theorem enters_aOver1 : ∀ args w, (callFunc 78 args).run Tryd.prog w = .ok (.enter 78 args) w := enters_of Tryd.func78 (by kernel_rfl) rfl
theorem isMapN_any (x : It) (w : World) : Calls Tryd.prog 74 #[.agg #[.string x.d.nm, .int .u8 x.d.k, .slice x.af.p x.af.n x.af.c, .string x.d.ov, .int .i64 x.d.wd, .int .i64 x.d.q]] w fun e w' => e = .returned (.bool (isMapN x.d)) ∧ Ext w w' := isMap_any x w
theorem over1_no (a : Ask) (x : It) (B : Nat) (w : World) (hx : isMapN x.d = false) :
    Calls Tryd.prog 78 #[.agg #[.string x.d.nm, .int .u8 x.d.k, .slice x.af.p x.af.n x.af.c, .string x.d.ov, .int .i64 x.d.wd, .int .i64 x.d.q], .pointer (some ⟨B, 0, none⟩)] w fun e w' =>
      e = .returned (.bool false) ∧ Ext w w' := by
  have HM := hide (fun W => isMapN_any x W)
  rw [hx] at HM
  clear hx
  go_enter Tryd.func78, Tryd.ntmps78
  go_wp2_with (go_at_call 74; refine (HM.out _).mono ?_; rintro e w' ⟨rfl, hb⟩; obtain ⟨hc, hf, hz⟩ := bcell hb; (try have zw0 := hz (w.heap.size) (by first | (simp; omega) | omega | (simp; done) | assumption)); (try have zw1 := hz (w.heap.size + 1) (by first | (simp; omega) | omega | (simp; done) | assumption)); (try have zw2 := hz (w.heap.size + 2) (by first | (simp; omega) | omega | (simp; done) | assumption)); (try have zr0 := hz (wr.heap.size) (by first | (simp; omega) | omega | (simp; done) | assumption)); (try have zr1 := hz (wr.heap.size + 1) (by first | (simp; omega) | omega | (simp; done) | assumption)); (try have zr2 := hz (wr.heap.size + 2) (by first | (simp; omega) | omega | (simp; done) | assumption)); (try have zB0 := hz (B) (by first | (simp; omega) | omega | (simp; done) | assumption)); clear hz)
  go_ret
  exact ⟨rfl, by (repeat' (first | exact Below.refl _ _ | assumption | refine Ext.alloc ?_ _ | refine Ext.drew ?_ | refine Ext.trans ?_ (by assumption)))⟩
set_option maxHeartbeats 1000000 in
theorem over1_item (a : Ask) (xs : List GN) (its : List It) (x y : It) (i : Nat) (B : Nat) (w : World) (ha : AskAt w a xs its) (hB : AskBox w B a) (hx : isMapN x.d = true) (hi : (refsN xs a.owner (itemOf its) x.d.ov).1 = i) (hy : its[i]? = some y) :
    Calls Tryd.prog 78 #[.agg #[.string x.d.nm, .int .u8 x.d.k, .slice x.af.p x.af.n x.af.c, .string x.d.ov, .int .i64 x.d.wd, .int .i64 x.d.q], .pointer (some ⟨B, 0, none⟩)] w fun e w' =>
      e = .returned (.bool (isMapN y.d && decide (x.d.wd < y.d.wd))) ∧ Ext w w' := by
  have HM := hide (fun W => isMapN_any x W)
  rw [hx] at HM
  clear hx
  have HMy := hide (fun W => isMapN_any y W)
  have HT := hide (fun (W : World) (hb : Ext w W) => refs_tup a xs its x.d.ov W (ha.below hb))
  rw [hi] at HT
  clear hi
  generalize (refsN xs a.owner (itemOf its) x.d.ov).2 = k2 at *
  generalize lostN xs a.owner (itemOf its) x.d.ov = L at *
  have hrow := ha.items.rows
  have hlen := hrow.len
  have hin : i < a.is.n := by
    rcases Nat.lt_or_ge i its.length with h | h
    · omega
    · rw [List.getElem?_eq_none h] at hy; cases hy
  have hnb := hrow.big
  have hcap := hrow.cap
  have hlt := hB.lt
  have hne : B ≠ w.heap.size := by omega
  have HB := hide (fun (W : World) (hb : Ext w W) => (hB.below hb).all)
  obtain ⟨b0, b1, b2, b3, b4, b5, b6, b7, b8⟩ := hB.all
  clear hB
  obtain ⟨⟨cq, cd, cw, cr, cf⟩, ⟨np, nn, nc⟩, owner, quota, ⟨ip, iN, ic⟩⟩ := a
  dsimp only [Ask.cells] at *
  obtain ⟨b, o, hp, hblt, -⟩ := ItemsAt.cells' hrow hy
  have HY := hide (fun (W : World) (hb : Ext w W) => ItemsAt.cells' (hrow.below hb) hy)
  clear ha hrow hlen
  subst hp
  have hiz : (i : Int) < (iN : Int) := by omega
  have hiN : (iN : Int) ≤ 9223372036854775807 := by omega
  generalize isMapN y.d = M at *
  go_enter Tryd.func78, Tryd.ntmps78
  go_wp2_with (first | (go_at_call 74; refine (HM.out _).mono ?_; rintro e w' ⟨rfl, hb⟩; obtain ⟨hc, hf, hz⟩ := bcell hb; (try have zw0 := hz (w.heap.size) (by first | (simp; omega) | omega | (simp; done) | assumption)); (try have zw1 := hz (w.heap.size + 1) (by first | (simp; omega) | omega | (simp; done) | assumption)); (try have zw2 := hz (w.heap.size + 2) (by first | (simp; omega) | omega | (simp; done) | assumption)); (try have zr0 := hz (wr.heap.size) (by first | (simp; omega) | omega | (simp; done) | assumption)); (try have zr1 := hz (wr.heap.size + 1) (by first | (simp; omega) | omega | (simp; done) | assumption)); (try have zr2 := hz (wr.heap.size + 2) (by first | (simp; omega) | omega | (simp; done) | assumption)); (try have zB0 := hz (B) (by first | (simp; omega) | omega | (simp; done) | assumption)); clear hz) | (go_at_call 36; refine (HT.out _ (by (repeat' (first | exact Below.refl _ _ | assumption | refine Ext.alloc ?_ _ | refine Ext.drew ?_ | refine Ext.trans ?_ (by assumption))))).mono ?_; rintro e w' ⟨rfl, hb⟩; obtain ⟨hc, hf, hz⟩ := bcell hb; (try have zw0 := hz (w.heap.size) (by first | (simp; omega) | omega | (simp; done) | assumption)); (try have zw1 := hz (w.heap.size + 1) (by first | (simp; omega) | omega | (simp; done) | assumption)); (try have zw2 := hz (w.heap.size + 2) (by first | (simp; omega) | omega | (simp; done) | assumption)); (try have zr0 := hz (wr.heap.size) (by first | (simp; omega) | omega | (simp; done) | assumption)); (try have zr1 := hz (wr.heap.size + 1) (by first | (simp; omega) | omega | (simp; done) | assumption)); (try have zr2 := hz (wr.heap.size + 2) (by first | (simp; omega) | omega | (simp; done) | assumption)); (try have zB0 := hz (B) (by first | (simp; omega) | omega | (simp; done) | assumption)); clear hz))
  have hB2 : Ext w w' := by (repeat' (first | exact Below.refl _ _ | assumption | refine Ext.alloc ?_ _ | refine Ext.drew ?_ | refine Ext.trans ?_ (by assumption)))
  obtain ⟨p0, p1, p2, p3, p4, p5, p6, p7, p8⟩ := HB.out w' hB2
  obtain ⟨b', o', hp', hblt', d0, d1, d2, d3, d4, d5⟩ := HY.out w' hB2
  obtain ⟨rfl, rfl⟩ : b = b' ∧ o = o' := by simpa using hp'
  clear hp'
  have hxw : w'.cell? ⟨w.heap.size, 4, none⟩ = some (.int .i64 x.d.wd) := by go_simp
  have hzz : w.heap.size < w'.heap.size := by assumption
  clear hc hf HM HT
  have hcE : ∀ W b o, Ext w' W → b < w'.heap.size → W.cell? ⟨b, o, none⟩ = w'.cell? ⟨b, o, none⟩ := fun W b o h hb => h.cell (p := ⟨b, o, none⟩) hb
  have hBz : B < w'.heap.size := Nat.lt_of_lt_of_le hlt hB2.size
  have hbz : b < w'.heap.size := Nat.lt_of_lt_of_le hblt hB2.size
  cases M
  all_goals
    refine wp_region_ext_lit (by kernel_rfl) (by kernel_rfl) ?_
    (repeat (first | (go_big_quiet_skip; (try simp only [Act.put, List.setIfInBounds_toArray, List.set_cons_succ, List.set_cons_zero])) | (go_big_quiet_want; apply Exists.intro; refine ⟨fun W hW => ?_, ?_⟩; (focus (unfold Oper.quietAt; go_simp; (first | done | exact rfl | exact ⟨rfl, rfl⟩ | (go_at_call 74; refine (HMy.out _).mono ?_; rintro e w3 ⟨rfl, hb3⟩; exact ⟨rfl, Ext.trans hW hb3⟩)))); go_big_quiet_on; (try simp only [Act.put, List.setIfInBounds_toArray, List.set_cons_succ, List.set_cons_zero]))))
    refine wpQuiet_nil ?_
    intro w3 hw3
    go_wp2
    go_ret
    exact ⟨ret_bool (by simp), hB2.trans hw3⟩
set_option maxHeartbeats 1000000 in
theorem over1_node (a : Ask) (xs : List GN) (its : List It) (x : It) (y : GN) (i : Int) (j : Nat) (B : Nat) (w : World) (ha : AskAt w a xs its) (hB : AskBox w B a) (hx : isMapN x.d = true) (hi : (refsN xs a.owner (itemOf its) x.d.ov).1 = i) (hi0 : i < 0) (hj : (refsN xs a.owner (itemOf its) x.d.ov).2 = j) (hy : xs[j]? = some y) :
    Calls Tryd.prog 78 #[.agg #[.string x.d.nm, .int .u8 x.d.k, .slice x.af.p x.af.n x.af.c, .string x.d.ov, .int .i64 x.d.wd, .int .i64 x.d.q], .pointer (some ⟨B, 0, none⟩)] w fun e w' =>
      e = .returned (.bool (y.k == 1 && decide (x.d.wd < y.wd))) ∧ Ext w w' := by
  have HM := hide (fun W => isMapN_any x W)
  rw [hx] at HM
  clear hx
  have HT := hide (fun (W : World) (hb : Ext w W) => refs_tup a xs its x.d.ov W (ha.below hb))
  rw [hi, hj] at HT
  clear hi hj
  generalize lostN xs a.owner (itemOf its) x.d.ov = L at *
  have hrow := ha.nodes
  have hlen := hrow.len
  have hjn : j < a.ns.n := by
    rcases Nat.lt_or_ge j xs.length with h | h
    · omega
    · rw [List.getElem?_eq_none h] at hy; cases hy
  have hnb := hrow.big
  have hcap := hrow.cap
  have hlt := hB.lt
  have hne : B ≠ w.heap.size := by omega
  have HB := hide (fun (W : World) (hb : Ext w W) => (hB.below hb).all)
  obtain ⟨b0, b1, b2, b3, b4, b5, b6, b7, b8⟩ := hB.all
  clear hB
  obtain ⟨⟨cq, cd, cw, cr, cf⟩, ⟨np, nn, nc⟩, owner, quota, ⟨ip, iN, ic⟩⟩ := a
  dsimp only [Ask.cells] at *
  obtain ⟨b, o, hp, hblt, -⟩ := nodeAt hrow hy
  have HY := hide (fun (W : World) (hb : Ext w W) => nodeAt (hrow.below hb) hy)
  clear ha hrow hlen
  subst hp
  have hjz : (j : Int) < (nn : Int) := by omega
  have hjN : (nn : Int) ≤ 9223372036854775807 := by omega
  have HK : (y.k == 1) = true ∨ (y.k == 1) = false := by cases (y.k == 1) <;> simp
  go_enter Tryd.func78, Tryd.ntmps78
  go_wp2_with (first | (go_at_call 74; refine (HM.out _).mono ?_; rintro e w' ⟨rfl, hb⟩; obtain ⟨hc, hf, hz⟩ := bcell hb; (try have zw0 := hz (w.heap.size) (by first | (simp; omega) | omega | (simp; done) | assumption)); (try have zw1 := hz (w.heap.size + 1) (by first | (simp; omega) | omega | (simp; done) | assumption)); (try have zw2 := hz (w.heap.size + 2) (by first | (simp; omega) | omega | (simp; done) | assumption)); (try have zr0 := hz (wr.heap.size) (by first | (simp; omega) | omega | (simp; done) | assumption)); (try have zr1 := hz (wr.heap.size + 1) (by first | (simp; omega) | omega | (simp; done) | assumption)); (try have zr2 := hz (wr.heap.size + 2) (by first | (simp; omega) | omega | (simp; done) | assumption)); (try have zB0 := hz (B) (by first | (simp; omega) | omega | (simp; done) | assumption)); clear hz) | (go_at_call 36; refine (HT.out _ (by (repeat' (first | exact Below.refl _ _ | assumption | refine Ext.alloc ?_ _ | refine Ext.drew ?_ | refine Ext.trans ?_ (by assumption))))).mono ?_; rintro e w' ⟨rfl, hb⟩; obtain ⟨hc, hf, hz⟩ := bcell hb; (try have zw0 := hz (w.heap.size) (by first | (simp; omega) | omega | (simp; done) | assumption)); (try have zw1 := hz (w.heap.size + 1) (by first | (simp; omega) | omega | (simp; done) | assumption)); (try have zw2 := hz (w.heap.size + 2) (by first | (simp; omega) | omega | (simp; done) | assumption)); (try have zr0 := hz (wr.heap.size) (by first | (simp; omega) | omega | (simp; done) | assumption)); (try have zr1 := hz (wr.heap.size + 1) (by first | (simp; omega) | omega | (simp; done) | assumption)); (try have zr2 := hz (wr.heap.size + 2) (by first | (simp; omega) | omega | (simp; done) | assumption)); (try have zB0 := hz (B) (by first | (simp; omega) | omega | (simp; done) | assumption)); clear hz))
  have hB2 : Ext w w' := by (repeat' (first | exact Below.refl _ _ | assumption | refine Ext.alloc ?_ _ | refine Ext.drew ?_ | refine Ext.trans ?_ (by assumption)))
  obtain ⟨p0, p1, p2, p3, p4, p5, p6, p7, p8⟩ := HB.out w' hB2
  obtain ⟨b', o', hp', hblt', d0, d1, d2, d3, d4, d5, d6, d7, -⟩ := HY.out w' hB2
  obtain ⟨rfl, rfl⟩ : b = b' ∧ o = o' := by simpa using hp'
  clear hp'
  have hxw : w'.cell? ⟨w.heap.size, 4, none⟩ = some (.int .i64 x.d.wd) := by go_simp
  have hzz : w.heap.size < w'.heap.size := by assumption
  clear hc hf HM HT
  have hcE : ∀ W b o, Ext w' W → b < w'.heap.size → W.cell? ⟨b, o, none⟩ = w'.cell? ⟨b, o, none⟩ := fun W b o h hb => h.cell (p := ⟨b, o, none⟩) hb
  have hBz : B < w'.heap.size := Nat.lt_of_lt_of_le hlt hB2.size
  have hbz : b < w'.heap.size := Nat.lt_of_lt_of_le hblt hB2.size
  rcases HK with hk | hk
  all_goals
    refine wp_region_ext_lit (by kernel_rfl) (by kernel_rfl) ?_
    (repeat (first | (go_big_quiet_skip; (try simp only [Act.put, List.setIfInBounds_toArray, List.set_cons_succ, List.set_cons_zero])) | (go_big_quiet_want; apply Exists.intro; refine ⟨fun W hW => ?_, ?_⟩; (focus (unfold Oper.quietAt; go_simp; (first | done | exact rfl | exact ⟨rfl, rfl⟩ | (fail)))); go_big_quiet_on; (try simp only [Act.put, List.setIfInBounds_toArray, List.set_cons_succ, List.set_cons_zero]))))
    refine wpQuiet_nil ?_
    intro w3 hw3
    go_wp2
    go_ret
    exact ⟨ret_bool (by simp [hk]), hB2.trans hw3⟩
theorem over1_none (a : Ask) (xs : List GN) (its : List It) (x : It) (i j : Int) (B : Nat) (w : World) (ha : AskAt w a xs its) (hB : AskBox w B a) (hx : isMapN x.d = true) (hi : (refsN xs a.owner (itemOf its) x.d.ov).1 = i) (hi0 : i < 0) (hj : (refsN xs a.owner (itemOf its) x.d.ov).2 = j) (hj0 : j < 0) :
    Calls Tryd.prog 78 #[.agg #[.string x.d.nm, .int .u8 x.d.k, .slice x.af.p x.af.n x.af.c, .string x.d.ov, .int .i64 x.d.wd, .int .i64 x.d.q], .pointer (some ⟨B, 0, none⟩)] w fun e w' =>
      e = .returned (.bool false) ∧ Ext w w' := by
  have HM := hide (fun W => isMapN_any x W)
  rw [hx] at HM
  clear hx
  have HT := hide (fun (W : World) (hb : Ext w W) => refs_tup a xs its x.d.ov W (ha.below hb))
  rw [hi, hj] at HT
  clear hi hj
  generalize lostN xs a.owner (itemOf its) x.d.ov = L at *
  have hlt := hB.lt
  have hne : B ≠ w.heap.size := by omega
  obtain ⟨b0, b1, b2, b3, b4, b5, b6, b7, b8⟩ := hB.all
  clear hB ha
  obtain ⟨⟨cq, cd, cw, cr, cf⟩, ⟨np, nn, nc⟩, owner, quota, ⟨ip, iN, ic⟩⟩ := a
  dsimp only [Ask.cells] at *
  go_enter Tryd.func78, Tryd.ntmps78
  go_wp2_with (first | (go_at_call 74; refine (HM.out _).mono ?_; rintro e w' ⟨rfl, hb⟩; obtain ⟨hc, hf, hz⟩ := bcell hb; (try have zw0 := hz (w.heap.size) (by first | (simp; omega) | omega | (simp; done) | assumption)); (try have zw1 := hz (w.heap.size + 1) (by first | (simp; omega) | omega | (simp; done) | assumption)); (try have zw2 := hz (w.heap.size + 2) (by first | (simp; omega) | omega | (simp; done) | assumption)); (try have zr0 := hz (wr.heap.size) (by first | (simp; omega) | omega | (simp; done) | assumption)); (try have zr1 := hz (wr.heap.size + 1) (by first | (simp; omega) | omega | (simp; done) | assumption)); (try have zr2 := hz (wr.heap.size + 2) (by first | (simp; omega) | omega | (simp; done) | assumption)); (try have zB0 := hz (B) (by first | (simp; omega) | omega | (simp; done) | assumption)); clear hz) | (go_at_call 36; refine (HT.out _ (by (repeat' (first | exact Below.refl _ _ | assumption | refine Ext.alloc ?_ _ | refine Ext.drew ?_ | refine Ext.trans ?_ (by assumption))))).mono ?_; rintro e w' ⟨rfl, hb⟩; obtain ⟨hc, hf, hz⟩ := bcell hb; (try have zw0 := hz (w.heap.size) (by first | (simp; omega) | omega | (simp; done) | assumption)); (try have zw1 := hz (w.heap.size + 1) (by first | (simp; omega) | omega | (simp; done) | assumption)); (try have zw2 := hz (w.heap.size + 2) (by first | (simp; omega) | omega | (simp; done) | assumption)); (try have zr0 := hz (wr.heap.size) (by first | (simp; omega) | omega | (simp; done) | assumption)); (try have zr1 := hz (wr.heap.size + 1) (by first | (simp; omega) | omega | (simp; done) | assumption)); (try have zr2 := hz (wr.heap.size + 2) (by first | (simp; omega) | omega | (simp; done) | assumption)); (try have zB0 := hz (B) (by first | (simp; omega) | omega | (simp; done) | assumption)); clear hz))
  go_ret
  exact ⟨rfl, by (repeat' (first | exact Below.refl _ _ | assumption | refine Ext.alloc ?_ _ | refine Ext.drew ?_ | refine Ext.trans ?_ (by assumption)))⟩
theorem over1_any (a : Ask) (xs : List GN) (its : List It) (x : It) (B : Nat) (w : World) (ha : AskAt w a xs its) (hB : AskBox w B a) :
    Calls Tryd.prog 78 #[.agg #[.string x.d.nm, .int .u8 x.d.k, .slice x.af.p x.af.n x.af.c, .string x.d.ov, .int .i64 x.d.wd, .int .i64 x.d.q], .pointer (some ⟨B, 0, none⟩)] w fun e w' =>
      e = .returned (.bool (overItem xs a.owner (itemOf its) x.d)) ∧ Ext w w' := by
  cases hx : isMapN x.d with
  | false =>
    have : overItem xs a.owner (itemOf its) x.d = false := by simp [overItem, hx]
    rw [this]; exact over1_no a x B w hx
  | true =>
    have hbd := refsN_bd xs a.owner (itemOf its) x.d.ov
    by_cases hi : 0 ≤ (refsN xs a.owner (itemOf its) x.d.ov).1
    · obtain ⟨i, hi2⟩ := Int.eq_ofNat_of_zero_le hi
      have hlt : i < its.length := by have : (itemOf its).length = its.length := by simp [itemOf]
                                      omega
      obtain ⟨y, hy⟩ := getElem?_of_lt hlt
      have : overItem xs a.owner (itemOf its) x.d = (isMapN y.d && decide (x.d.wd < y.d.wd)) := by
        simp only [overItem, hx, Bool.true_and, if_pos hi, hi2]
        simp [itemOf, hy]
      rw [this]; exact over1_item a xs its x y i B w ha hB hx hi2 hy
    · by_cases hj : 0 ≤ (refsN xs a.owner (itemOf its) x.d.ov).2
      · obtain ⟨j, hj2⟩ := Int.eq_ofNat_of_zero_le hj
        have hlt : j < xs.length := by omega
        obtain ⟨y, hy⟩ := getElem?_of_lt hlt
        have : overItem xs a.owner (itemOf its) x.d = (y.k == 1 && decide (x.d.wd < y.wd)) := by
          simp only [overItem, hx, Bool.true_and, if_neg hi, if_pos hj, hj2]
          simp [hy]
        rw [this]; exact over1_node a xs its x y _ j B w ha hB hx rfl (by omega) hj2 hy
      · have : overItem xs a.owner (itemOf its) x.d = false := by
          simp only [overItem, hx, Bool.true_and, if_neg hi, if_neg hj]
        rw [this]; exact over1_none a xs its x _ _ B w ha hB hx rfl (by omega) rfl (by omega)
theorem over_any (a : Ask) (xs : List GN) (its : List It) (w : World) (ha : AskAt w a xs its) :
    Calls Tryd.prog 59 #[.agg a.cells.toArray] w fun e w' => e = .returned (.bool (overN xs a.owner (itemOf its))) ∧ Ext w w' := by
  have HR : Hid (overN xs a.owner (itemOf its) = its.any fun x => overItem xs a.owner (itemOf its) x.d) := by
    apply hide; unfold overN
    conv => lhs; arg 1; unfold itemOf
    rw [List.any_map]; rfl
  have H := hide (fun (W : World) (hb : Ext w W) (hB : AskBox W w.heap.size a) => has_any a its (fun x => overItem xs a.owner (itemOf its) x.d) 78 #[] #[.pointer (some ⟨w.heap.size, 0, none⟩)] W enters_aOver1 (ha.items.below hb) (fun x hx W' hb' => over1_any a xs its x w.heap.size W' (ha.below (hb.trans hb')) (hB.below hb')))
  have hB := hide (AskBox.new w a 67)
  clear ha
  obtain ⟨⟨cq, cd, cw, cr, cf⟩, ⟨np, nn, nc⟩, owner, quota, ⟨ip, iN, ic⟩⟩ := a
  dsimp only [Ask.cells] at *
  rw [HR.out]; clear HR
  generalize (its.any fun x => overItem xs owner (itemOf its) x.d) = A at *
  go_enter Tryd.func59, Tryd.ntmps59
  go_wp2_with (go_at_call 72; refine (H.out _ (by (repeat' (first | exact Below.refl _ _ | assumption | refine Ext.alloc ?_ _ | refine Ext.drew ?_ | refine Ext.trans ?_ (by assumption)))) hB.out).mono ?_; rintro e w' ⟨rfl, hb⟩; obtain ⟨hc, hf, hz⟩ := bcell hb; (try have zw0 := hz (w.heap.size) (by first | (simp; omega) | omega | (simp; done) | assumption)); (try have zw1 := hz (w.heap.size + 1) (by first | (simp; omega) | omega | (simp; done) | assumption)); (try have zw2 := hz (w.heap.size + 2) (by first | (simp; omega) | omega | (simp; done) | assumption)); (try have zr0 := hz (wr.heap.size) (by first | (simp; omega) | omega | (simp; done) | assumption)); (try have zr1 := hz (wr.heap.size + 1) (by first | (simp; omega) | omega | (simp; done) | assumption)); (try have zr2 := hz (wr.heap.size + 2) (by first | (simp; omega) | omega | (simp; done) | assumption)); (try have zB0 := hz (B) (by first | (simp; omega) | omega | (simp; done) | assumption)); clear hz)
  go_ret
  exact ⟨rfl, by (repeat' (first | exact Below.refl _ _ | assumption | refine Ext.alloc ?_ _ | refine Ext.drew ?_ | refine Ext.trans ?_ (by assumption)))⟩
end Go.Proofs.YtfcdohaimdodgaaDoor

/-
  check: what is asked of a fragment, one by one.
-/
namespace Go.Proofs.YtfcdohaimdodgaaDoor
open Go.RowKit Go.Shelf
set_option linter.unusedVariables false

theorem all1_any (a : Ask) (its : List It) (B : Nat) (w : World) (hi : ItemsAt w a.is its) (hB : AskBox w B a) :
    Calls Tryd.prog 53 #[.pointer (some ⟨B, 0, none⟩)] w fun e w' => e = .returned (.bool (!rightB (itemOf its))) ∧ Ext w w' := by
  have H := hide (fun (W : World) (hb : Ext w W) => right_any a.is.p a.is.n a.is.c its W (hi.below hb))
  obtain ⟨b0, b1, b2, b3, b4, b5, b6, b7, b8⟩ := hB.all
  clear hB hi
  generalize rightB (itemOf its) = R at *
  go_enter Tryd.func53, Tryd.ntmps53
  go_wp2_with (go_at_call 8; refine (H.out _ (by (repeat' (first | exact Below.refl _ _ | assumption | refine Ext.alloc ?_ _ | refine Ext.drew ?_ | refine Ext.trans ?_ (by assumption))))).mono ?_; rintro e w' ⟨rfl, hb⟩; obtain ⟨hc, hf, hz⟩ := bcell hb; (try have zw0 := hz (w.heap.size) (by first | (simp; omega) | omega | (simp; done) | assumption)); (try have zw1 := hz (w.heap.size + 1) (by first | (simp; omega) | omega | (simp; done) | assumption)); (try have zw2 := hz (w.heap.size + 2) (by first | (simp; omega) | omega | (simp; done) | assumption)); (try have zr0 := hz (wr.heap.size) (by first | (simp; omega) | omega | (simp; done) | assumption)); (try have zr1 := hz (wr.heap.size + 1) (by first | (simp; omega) | omega | (simp; done) | assumption)); (try have zr2 := hz (wr.heap.size + 2) (by first | (simp; omega) | omega | (simp; done) | assumption)); (try have zB0 := hz (B) (by first | (simp; omega) | omega | (simp; done) | assumption)); clear hz)
  go_ret
  exact ⟨rfl, by (repeat' (first | exact Below.refl _ _ | assumption | refine Ext.alloc ?_ _ | refine Ext.drew ?_ | refine Ext.trans ?_ (by assumption)))⟩
/-- what Cost and Total answer of anything, right or not -/
def costW (x : Item) : Int := if x.k = 1 then wrap64 (wrap64 (x.wd * wrap64 (1 + x.q)) + 1) else wrap64 (wrap64 (1 + x.q))
def totalW (l : List Item) : Int := l.foldl (fun s x => wrap64 (s + costW x)) 0
theorem totalW_snoc (l : List Item) (x : Item) : totalW (l ++ [x]) = wrap64 (totalW l + costW x) := by simp [totalW]
theorem costW_any (x : It) (w : World) : Calls Tryd.prog 10 #[.agg #[.string x.d.nm, .int .u8 x.d.k, .slice x.af.p x.af.n x.af.c, .string x.d.ov, .int .i64 x.d.wd, .int .i64 x.d.q]] w fun e w' => (e = .returned (.int .i64 (costW x.d))) ∧ Ext w w' := by
  obtain ⟨⟨nm, k, names, ov, wd, q⟩, ⟨sp, sn, sc⟩⟩ := x
  go_enter Tryd.func10, Tryd.ntmps10
  go_wp2
  all_goals go_ret
  all_goals refine ⟨ret_int ?_, by (repeat' (first | exact Below.refl _ _ | assumption | refine Ext.alloc ?_ _ | refine Ext.drew ?_ | refine Ext.trans ?_ (by assumption)))⟩
  all_goals (unfold costW; go_light; simp_all)
set_option maxHeartbeats 400000 in
theorem totalW_any (p : Option Addr) (n c : Nat) (xs : List It) (w : World) (hs : RowsAt 6 It.cells w ⟨p, n, c⟩ xs) : Calls Tryd.prog 11 #[.slice p n c] w fun e w' => e = .returned (.int .i64 (totalW (itemOf xs))) ∧ Ext w w' := by
  have hlen := hs.len
  have hbig := hs.big
  have hcap := hs.cap
  dsimp only at hlen hbig hcap
  have HL := hide hlen; clear hlen
  go_enter Tryd.func11, Tryd.ntmps11
  go_wp2
  go_loopg [3, 8] n (fun gg s3 s8 wr => ∃ (k : Nat), k ≤ n ∧ n - k ≤ gg ∧ s8 = .int .i64 k ∧ s3 = .int .i64 (totalW (itemOf (xs.take k))) ∧ Aside (Ext w wr))
  case atStart => exact ⟨0, Nat.zero_le _, by omega, rfl, rfl, Ext.refl _⟩
  case round =>
    obtain ⟨k, hk, hg, rfl, rfl, BW⟩ := hrel
    by_cases hlt : k < n
    · obtain ⟨x, hx⟩ := getElem?_of_lt (xs := xs) (k := k) (by have := HL.out; omega)
      obtain ⟨b, o, hsp, hblt, c0, c1, c2, c3, c4, c5⟩ := ItemsAt.cells' (hs.below BW.out) hx
      have hcost := hide (fun W => costW_any x W)
      have HS : Hid (totalW (itemOf (xs.take (k + 1))) = wrap64 (totalW (itemOf (xs.take k)) + costW x.d)) := by
        apply hide
        rw [take_snoc hx, itemOf, List.map_append]
        exact totalW_snoc _ _
      have hltz : (k : Int) < (n : Int) := by omega
      generalize totalW (itemOf (xs.take k)) = T at *
      generalize costW x.d = C at *
      clear hs hx
      subst hsp
      go_wp2_with (go_at_call 10; refine (hcost.out _).mono ?_; rintro e w' ⟨rfl, hb⟩; obtain ⟨hc, hf, hz⟩ := bcell hb; (try have zw0 := hz (w.heap.size) (by first | (simp; omega) | omega | (simp; done) | assumption)); (try have zw1 := hz (w.heap.size + 1) (by first | (simp; omega) | omega | (simp; done) | assumption)); (try have zw2 := hz (w.heap.size + 2) (by first | (simp; omega) | omega | (simp; done) | assumption)); (try have zr0 := hz (wr.heap.size) (by first | (simp; omega) | omega | (simp; done) | assumption)); (try have zr1 := hz (wr.heap.size + 1) (by first | (simp; omega) | omega | (simp; done) | assumption)); (try have zr2 := hz (wr.heap.size + 2) (by first | (simp; omega) | omega | (simp; done) | assumption)); (try have zB0 := hz (B) (by first | (simp; omega) | omega | (simp; done) | assumption)); clear hz)
      go_roundg (n - (k + 1))
      case measure => omega
      case rel => exact ⟨k + 1, by omega, by omega, by go_num, by rw [HS.out], BW.out.trans (by (repeat' (first | exact Below.refl _ _ | assumption | refine Ext.alloc ?_ _ | refine Ext.drew ?_ | refine Ext.trans ?_ (by assumption))))⟩
    · have hltz : ¬ (k : Int) < (n : Int) := by omega
      have hkn : k = n := by omega
      have HK := hide hkn; clear hkn
      go_wp2
      go_ret
      refine ⟨ret_int ?_, BW.out⟩
      rw [List.take_of_length_le (by have := HL.out; have := HK.out; omega)]
theorem all2_any (a : Ask) (its : List It) (B : Nat) (w : World) (hi : ItemsAt w a.is its) (hB : AskBox w B a) (hr : rightB (itemOf its) = true) :
    Calls Tryd.prog 58 #[.pointer (some ⟨B, 0, none⟩)] w fun e w' => e = .returned (.bool (decide (a.quota < totalZ (itemOf its)))) ∧ Ext w w' := by
  have hall : ∀ x ∈ its, fitsB x.d = true := by
    intro x hx
    simp only [rightB, Bool.and_eq_true, List.all_eq_true] at hr
    exact hr.2 x.d (List.mem_map_of_mem hx)
  have hl : its.length ≤ 1000 := by
    simp only [rightB, Bool.and_eq_true, decide_eq_true_eq, itemOf, List.length_map] at hr
    omega
  have H := hide (fun (W : World) (hb : Ext w W) => total_any a.is.p a.is.n a.is.c its W (hi.below hb).rows hall hl)
  have hlt := hB.lt
  obtain ⟨b0, b1, b2, b3, b4, b5, b6, b7, b8⟩ := hB.all
  clear hB hi hr hall hl
  generalize totalZ (itemOf its) = T at *
  have hcE : ∀ W b o, Ext w W → b < w.heap.size → W.cell? ⟨b, o, none⟩ = w.cell? ⟨b, o, none⟩ := fun W b o h hb => h.cell (p := ⟨b, o, none⟩) hb
  go_enter Tryd.func58, Tryd.ntmps58
  go_wp2
  refine wp_region_ext_lit (by kernel_rfl) (by kernel_rfl) ?_
  (repeat (first | (go_big_quiet_skip; (try simp only [Act.put, List.setIfInBounds_toArray, List.set_cons_succ, List.set_cons_zero])) | (go_big_quiet_want; apply Exists.intro; refine ⟨fun W hW => ?_, ?_⟩; (focus (unfold Oper.quietAt; go_simp; (first | done | exact rfl | exact ⟨rfl, rfl⟩ | (go_at_call 11; refine (H.out _ hW).mono ?_; rintro e w3 ⟨rfl, hb3⟩; exact ⟨rfl, Ext.trans hW hb3⟩)))); go_big_quiet_on; (try simp only [Act.put, List.setIfInBounds_toArray, List.set_cons_succ, List.set_cons_zero]))))
  refine wpQuiet_nil ?_
  intro w3 hw3
  go_wp2
  go_ret
  exact ⟨rfl, hw3⟩
theorem all2W_any (a : Ask) (its : List It) (B : Nat) (w : World) (hi : ItemsAt w a.is its) (hB : AskBox w B a) :
    Calls Tryd.prog 58 #[.pointer (some ⟨B, 0, none⟩)] w fun e w' => e = .returned (.bool (decide (a.quota < totalW (itemOf its)))) ∧ Ext w w' := by
  have H := hide (fun (W : World) (hb : Ext w W) => totalW_any a.is.p a.is.n a.is.c its W (hi.below hb).rows)
  have hlt := hB.lt
  obtain ⟨b0, b1, b2, b3, b4, b5, b6, b7, b8⟩ := hB.all
  clear hB hi
  generalize totalW (itemOf its) = T at *
  have hcE : ∀ W b o, Ext w W → b < w.heap.size → W.cell? ⟨b, o, none⟩ = w.cell? ⟨b, o, none⟩ := fun W b o h hb => h.cell (p := ⟨b, o, none⟩) hb
  go_enter Tryd.func58, Tryd.ntmps58
  go_wp2
  refine wp_region_ext_lit (by kernel_rfl) (by kernel_rfl) ?_
  (repeat (first | (go_big_quiet_skip; (try simp only [Act.put, List.setIfInBounds_toArray, List.set_cons_succ, List.set_cons_zero])) | (go_big_quiet_want; apply Exists.intro; refine ⟨fun W hW => ?_, ?_⟩; (focus (unfold Oper.quietAt; go_simp; (first | done | exact rfl | exact ⟨rfl, rfl⟩ | (go_at_call 11; refine (H.out _ hW).mono ?_; rintro e w3 ⟨rfl, hb3⟩; exact ⟨rfl, Ext.trans hW hb3⟩)))); go_big_quiet_on; (try simp only [Act.put, List.setIfInBounds_toArray, List.set_cons_succ, List.set_cons_zero]))))
  refine wpQuiet_nil ?_
  intro w3 hw3
  go_wp2
  go_ret
  exact ⟨rfl, hw3⟩
end Go.Proofs.YtfcdohaimdodgaaDoor

/-
  check.Frag by what the document says.
-/
namespace Go.Proofs.YtfcdohaimdodgaaDoor
open Go.RowKit Go.Shelf
attribute [local go_sem] Oper.semAt_some
set_option linter.unusedVariables false

def errOf : Nat → Int
  | 0 => 2 | 1 => 24 | 2 => 20 | 3 => 23 | 4 => 21 | 5 => 22 | _ => 24
def fvOf (a : Ask) (Ba : Nat) : Nat → Value
  | 0 => .func (.func 53) #[] #[.pointer (some ⟨Ba, 0, none⟩)]
  | 1 => .func (.func 54) #[.agg a.cells.toArray] #[]
  | 2 => .func (.func 55) #[.agg a.cells.toArray] #[]
  | 3 => .func (.func 56) #[.agg a.cells.toArray] #[]
  | 4 => .func (.func 57) #[.agg a.cells.toArray] #[]
  | 5 => .func (.func 58) #[] #[.pointer (some ⟨Ba, 0, none⟩)]
  | _ => .func (.func 59) #[.agg a.cells.toArray] #[]
def pairCells (a : Ask) (Ba : Nat) (i : Fin 7) : List Value := [.int .i64 (errOf i), fvOf a Ba i]
theorem pairCells_len (a : Ask) (Ba : Nat) (i : Fin 7) : (pairCells a Ba i).length = 2 := rfl
theorem cell_new_row (W : World) (arr : Array Value) (t : TypeId) (j : Nat) (v : Value) (h : arr[j]? = some v) : (W.alloc (.cells arr t)).cell? ⟨W.heap.size, j, none⟩ = some v := by
  simp only [World.cell?, World.alloc_heap_new W _]
  simpa using h
def AllPost (a : Ask) (w : World) (e : Ending) (w' : World) : Prop :=
  ∃ Ba L Bl, e = .returned (.func (.func 60) #[] #[.pointer (some ⟨Bl, 0, none⟩)]) ∧ RowsAt 2 (pairCells a Ba) w' ⟨some ⟨L, 0, none⟩, 7, 7⟩ (List.finRange 7) ∧ w'.cell? ⟨Bl, 0, none⟩ = some (.slice (some ⟨L, 0, none⟩) 7 7) ∧ AskBox w' Ba a ∧ Ext w w' ∧ w.heap.size ≤ L ∧ w.heap.size ≤ Bl
set_option maxHeartbeats 400000 in
theorem all_any (a : Ask) (w : World) : Calls Tryd.prog 29 #[.agg a.cells.toArray] w (AllPost a w) := by
  have hB := AskBox.new w a 67
  have HB := hide hB; clear hB
  have HP : Hid (∀ i, pairCells a w.heap.size i = pairCells a w.heap.size i) := hide (fun _ => rfl)
  have hrow : Hid (∀ W : World, RowsAt 2 (pairCells a w.heap.size) (W.alloc (.cells #[.int .i64 2, fvOf a w.heap.size 0, .int .i64 24, fvOf a w.heap.size 1, .int .i64 20, fvOf a w.heap.size 2, .int .i64 23, fvOf a w.heap.size 3, .int .i64 21, fvOf a w.heap.size 4, .int .i64 22, fvOf a w.heap.size 5, .int .i64 24, fvOf a w.heap.size 6] 85)) ⟨some ⟨W.heap.size, 0, none⟩, 7, 7⟩ (List.finRange 7)) := by
    apply hide
    intro W
    refine ⟨by simp, Nat.le_refl _, by simp, fun k x hx => ⟨W.heap.size, 0, rfl, by simp, fun j v hv => cell_new_row _ _ _ _ _ ?_⟩⟩
    have hk : k < 7 := by
      rcases Nat.lt_or_ge k 7 with h | h
      · exact h
      · rw [List.getElem?_eq_none (by simpa using h)] at hx; cases hx
    have hj : j < 2 := by
      rcases Nat.lt_or_ge j 2 with h | h
      · exact h
      · rw [List.getElem?_eq_none (by rw [pairCells_len]; exact h)] at hv; cases hv
    have hx2 : x = ⟨k, hk⟩ := by
      rw [List.getElem?_eq_getElem (by simpa using hk)] at hx
      simpa using (Option.some.inj hx).symm
    subst hx2
    have key : ∀ k : Fin 7, ∀ j : Fin 2, (pairCells a w.heap.size k)[j.val]? = #[Value.int .i64 2, fvOf a w.heap.size 0, .int .i64 24, fvOf a w.heap.size 1, .int .i64 20, fvOf a w.heap.size 2, .int .i64 23, fvOf a w.heap.size 3, .int .i64 21, fvOf a w.heap.size 4, .int .i64 22, fvOf a w.heap.size 5, .int .i64 24, fvOf a w.heap.size 6][0 + k.val * 2 + j.val]? := by
      intro k j
      match k, j with
      | 0, 0 => rfl | 0, 1 => rfl | 1, 0 => rfl | 1, 1 => rfl | 2, 0 => rfl | 2, 1 => rfl | 3, 0 => rfl | 3, 1 => rfl | 4, 0 => rfl | 4, 1 => rfl | 5, 0 => rfl | 5, 1 => rfl | 6, 0 => rfl | 6, 1 => rfl
    exact (key ⟨k, hk⟩ ⟨j, hj⟩).symm.trans hv
  obtain ⟨⟨cq, cd, cw, cr, cf⟩, ⟨np, nn, nc⟩, owner, quota, ⟨ip, iN, ic⟩⟩ := a
  dsimp only [Ask.cells, fvOf] at *
  go_enter Tryd.func29, Tryd.ntmps29
  go_wp2_with fail
  go_ret
  have h1 : ∀ (W : World) (v : Value) (t : TypeId), W.heap.size = w.heap.size + 2 → (W.alloc (.cells #[v] t)).cell? ⟨w.heap.size + 2, 0, none⟩ = some v := fun W v t h => by rw [← h]; exact (cell_new_l W v t).1
  refine ⟨w.heap.size, w.heap.size + 1, w.heap.size + 2, rfl, ?_, ?_, ?_, by (repeat' (first | exact Below.refl _ _ | assumption | refine Ext.alloc ?_ _ | refine Ext.drew ?_ | refine Ext.trans ?_ (by assumption))), by omega, by omega⟩
  · have := hrow.out (w.alloc (.cells #[.int .i64 cq, .int .i64 cd, .int .i64 cw, .int .i64 cr, .int .i64 cf, .slice np nn nc, .int .i64 owner, .int .i64 quota, .slice ip iN ic] 67))
    rw [World.size_alloc] at this
    exact this.below (by (repeat' (first | exact Below.refl _ _ | assumption | refine Ext.alloc ?_ _ | refine Ext.drew ?_ | refine Ext.trans ?_ (by assumption))))
  · exact h1 _ _ _ (by simp)
  · exact AskBox.below HB.out (by (repeat' (first | exact Below.refl _ _ | assumption | refine Ext.alloc ?_ _ | refine Ext.drew ?_ | refine Ext.trans ?_ (by assumption))))
theorem fvOf_func (a : Ask) (Ba : Nat) (i : Nat) : ∃ g fs cp, fvOf a Ba i = .func (.func g) fs cp := by
  unfold fvOf
  split <;> exact ⟨_, _, _, rfl⟩
set_option maxHeartbeats 1000000 in
theorem all3_stops (m lo hi Ba L Bl : Nat) (a : Ask) (w : World) (hs : RowsAt 2 (pairCells a Ba) w ⟨some ⟨L, 0, none⟩, 7, 7⟩ (List.finRange 7)) (hBl : w.cell? ⟨Bl, 0, none⟩ = some (.slice (some ⟨L, 0, none⟩) 7 7)) (hL : L < lo ∨ hi ≤ L) (hm : 1 ≤ m) :
    SeqStopsK Fence.wide m Tryd.prog 60 #[.pointer (some ⟨Bl, 0, none⟩)] (fun i : Fin 7 => #[.int .i64 (errOf i), fvOf a Ba i]) (Keeps lo hi w.heap.size) (fun ys => ys = List.finRange 7) (fun ys => ys <+: List.finRange 7) 7 w := by
  intro l J Jx W hW hJ hJx hY h0
  have hLt : L < w.heap.size := hs.block_lt (by show 0 < 7; decide) L 0 rfl
  have kO : ∀ (W' : World) (k : Nat) (x : Fin 7), Keeps lo hi w.heap.size w W' → (List.finRange 7)[k]? = some x → W'.cell? ⟨L, k * 2, none⟩ = some (.int .i64 (errOf x)) ∧ W'.cell? ⟨L, k * 2 + 1, none⟩ = some (fvOf a Ba x) := fun W' k x h hx => by
    obtain ⟨b', o', hp', hlt', hc'⟩ := hs.at_ k x hx
    obtain ⟨rfl, rfl⟩ : L = b' ∧ 0 = o' := by simpa using hp'
    have e0 := hc' 0 _ rfl
    have e1 := hc' 1 _ rfl
    simp only [Nat.zero_add, Nat.add_zero] at e0 e1
    exact ⟨(h.cell hLt hL).trans e0, (h.cell hLt hL).trans e1⟩
  have KO := hide kO; clear kO
  have c1 := (hW.cell (p := ⟨Bl, 0, none⟩) (lt_of_cell hBl)).trans hBl
  clear hs hBl
  refine callsIn_of_wp Tryd.func60 rfl trivial ?_ rfl
  simp only [Tryd.ntmps60, List.size_toArray, List.length_cons, List.length_nil, Nat.reduceAdd, Nat.reduceSub, Array.replicate_succ, Array.replicate_zero, List.push_toArray, List.append_toArray, List.nil_append, List.cons_append]
  gi_wp2
  gi_loopw [7] (fun s7 wr => ∃ k : Nat, k ≤ 7 ∧ s7 = .int .i64 k ∧ J ((List.finRange 7).take k) wr ∧ Aside (Keeps lo hi w.heap.size w wr)) (fun s7 _ => 7 - (intOf s7).toNat)
  case atStart => exact ⟨0, by omega, rfl, h0, (Keeps.of_below hW : Keeps lo hi w.heap.size w W)⟩
  case round =>
    obtain ⟨k, hk, rfl, hJs, HB⟩ := hrel
    by_cases hlt : k < 7
    · obtain ⟨x, hx⟩ := getElem?_of_lt (xs := List.finRange 7) (k := k) (by simpa using hlt)
      have HT := hide (take_snoc hx)
      have HPre : Hid ((List.finRange 7).take (k + 1) <+: List.finRange 7) := hide (List.take_prefix _ _)
      obtain ⟨d0, d1⟩ := KO.out wr k x HB.out hx
      have HF := fvOf_func a Ba x
      obtain ⟨g, fs, cp, hfv⟩ := HF
      have HY := hide (fun (W : World) (h : J ((List.finRange 7).take k) W) => hY _ x W h (by simp; omega))
      rw [hfv] at d1 HY
      clear hx hfv hY
      have hltz : (k : Int) < 7 := by omega
      generalize errOf x = er at *
      have hJa : ∀ o, J ((List.finRange 7).take k) (wr.alloc o) := fun o => hJ _ _ _ none hJs (World.grownBy_alloc wr o none) (fun r e => by cases e)
      obtain ⟨fn, tmps, assign, body, hy, hR⟩ := HY.out _ (hJa (.cells #[.int .i64 er, .func (.func g) fs cp] 85))
      clear HY hJa
      gi_wp2
      refine hR.mono ?_
      rintro e W3 (⟨rfl, hJ3, hk3⟩ | ⟨rfl, hJx3⟩)
      · gi_wp2
        go_roundw
        case rel => exact ⟨k + 1, by omega, by go_num, by rw [HT.out]; exact hJ3, Keeps.trans (HB.out.trans (.of_below ((Ext.alloc (Ext.refl wr) _).mono HB.out.size))) hk3⟩
        case measure => simp [intOf]; omega
      · gi_wp2
        refine bodyPost_ret (results_none rfl _ _ _) rfl ?_
        exact ⟨⟨_, rfl⟩, .inr ⟨_, HPre.out, by rw [HT.out]; exact hJx3⟩⟩
    · have hk7 : k = 7 := by omega
      subst hk7
      gi_wp2
      go_end0
      exact ⟨⟨_, rfl⟩, .inl ⟨_, rfl, by have := hJs; rwa [List.take_of_length_le (by simp)] at this⟩⟩
end Go.Proofs.YtfcdohaimdodgaaDoor

/-
  check.Frag by what the document says.
-/
namespace Go.Proofs.YtfcdohaimdodgaaDoor
open Go.RowKit Go.Shelf
attribute [local go_sem] Oper.semAt_some
set_option linter.unusedVariables false

/-- what the seven questions answer -/
def isOf (a : Ask) (xs : List GN) (its : List It) : Nat → Bool
  | 0 => !rightB (itemOf its)
  | 1 => wideN a.c (itemOf its)
  | 2 => twiceN (itemOf its)
  | 3 => deepB a.c xs a.owner (itemOf its)
  | 4 => refersN xs a.owner (itemOf its)
  | 5 => decide (a.quota < if rightB (itemOf its) then totalZ (itemOf its) else totalW (itemOf its))
  | _ => overN xs a.owner (itemOf its)
theorem is_any (a : Ask) (xs : List GN) (its : List It) (Ba : Nat) (i : Fin 7) (W : World) (ha : AskAt W a xs its) (hB : AskBox W Ba a) :
    ∃ g fs cp, fvOf a Ba i = .func (.func g) fs cp ∧ (∀ args w, (callFunc g args).run Tryd.prog w = .ok (.enter g args) w) ∧ Calls Tryd.prog g (fs ++ #[] ++ cp) W fun e w' => e = .returned (.bool (isOf a xs its i)) ∧ Ext W w' := by
  match i with
  | 0 => exact ⟨_, _, _, rfl, enters_of Tryd.func53 (by kernel_rfl) rfl, all1_any a its Ba W ha.items hB⟩
  | 1 => exact ⟨_, _, _, rfl, enters_of Tryd.func54 (by kernel_rfl) rfl, wide_any a its W ha.items⟩
  | 2 => exact ⟨_, _, _, rfl, enters_of Tryd.func55 (by kernel_rfl) rfl, twice_any a its W ha.items⟩
  | 3 => exact ⟨_, _, _, rfl, enters_of Tryd.func56 (by kernel_rfl) rfl, deep20_any a xs its W ha⟩
  | 4 => exact ⟨_, _, _, rfl, enters_of Tryd.func57 (by kernel_rfl) rfl, refers_any a xs its W ha⟩
  | 5 =>
    refine ⟨_, _, _, rfl, enters_of Tryd.func58 (by kernel_rfl) rfl, ?_⟩
    cases hr : rightB (itemOf its) with
    | true =>
      have h := all2_any a its Ba W ha.items hB hr
      have e : isOf a xs its (5 : Fin 7) = decide (a.quota < totalZ (itemOf its)) := by change isOf a xs its 5 = _; simp [isOf, hr]
      rw [e]; exact h
    | false =>
      have h := all2W_any a its Ba W ha.items hB
      have e : isOf a xs its (5 : Fin 7) = decide (a.quota < totalW (itemOf its)) := by change isOf a xs its 5 = _; simp [isOf, hr]
      rw [e]; exact h
  | 6 => exact ⟨_, _, _, rfl, enters_of Tryd.func59 (by kernel_rfl) rfl, over_any a xs its W ha⟩
theorem fragE_hit (a : Ask) (xs : List GN) (its : List It) (k : Nat) (hk : k < 7) (hT : isOf a xs its k = true) (hF : ∀ j, j < k → isOf a xs its j = false) : fragE a.c xs a.owner a.quota (itemOf its) = errOf k := by
  have f0 := hF 0
  have f1 := hF 1
  have f2 := hF 2
  have f3 := hF 3
  have f4 := hF 4
  have f5 := hF 5
  clear hF
  unfold fragE
  match k, hk with
  | 0, _ => simp_all [isOf, errOf]
  | 1, _ => simp_all [isOf, errOf]
  | 2, _ => simp_all [isOf, errOf]
  | 3, _ => simp_all [isOf, errOf]
  | 4, _ => simp_all [isOf, errOf]
  | 5, _ => simp_all [isOf, errOf]; intro h; omega
  | 6, _ => simp_all [isOf, errOf]
theorem fragE_ok (a : Ask) (xs : List GN) (its : List It) (hF : ∀ j, j < 7 → isOf a xs its j = false) : fragE a.c xs a.owner a.quota (itemOf its) = 0 := by
  have f0 := hF 0 (by omega)
  have f1 := hF 1 (by omega)
  have f2 := hF 2 (by omega)
  have f3 := hF 3 (by omega)
  have f4 := hF 4 (by omega)
  have f5 := hF 5 (by omega)
  have f6 := hF 6 (by omega)
  clear hF
  unfold fragE
  simp_all [isOf]
theorem fin_take {x : Fin 7} {pre : List (Fin 7)} (h : pre ++ [x] = (List.finRange 7).take (pre ++ [x]).length) : x.val = pre.length ∧ pre = (List.finRange 7).take pre.length := by
  have hl : pre.length < 7 := by
    have := congrArg List.length h
    simp at this
    omega
  have h1 : pre = (List.finRange 7).take pre.length := by
    have := congrArg (List.take pre.length) h
    simpa [List.take_take] using this
  refine ⟨?_, h1⟩
  have h2 := congrArg (fun l => l[pre.length]?) h
  simp at h2
  rw [List.getElem?_eq_getElem (by simpa using hl)] at h2
  have := Option.some.inj h2
  rw [this]
  simp
set_option maxRecDepth 100000 in
set_option maxHeartbeats 2000000 in
theorem frag_any (a : Ask) (xs : List GN) (its : List It) (w : World) (ha : AskAt w a xs its) :
    Calls Tryd.prog 14 #[.agg #[.int .i64 a.c.quota, .int .i64 a.c.depth, .int .i64 a.c.width, .int .i64 a.c.retry, .int .i64 a.c.flows], .slice a.ns.p a.ns.n a.ns.c, .int .i64 a.owner, .int .i64 a.quota, .slice a.is.p a.is.n a.is.c] w fun e w' =>
      e = .returned (.int .i64 (fragE a.c xs a.owner a.quota (itemOf its))) ∧ Ext w w' := by
  obtain ⟨m, hm⟩ : ∃ m : Nat, 3 ≤ m := ⟨3, Nat.le_refl _⟩
  have h1 : 1 ≤ m := by omega
  have HA := hide (fun W => callsIn_wide (n := m - 1).2 (all_any a W))
  have HI := hide (fun (W : World) (hb : Ext w W) (Ba : Nat) (hB : AskBox W Ba a) (i : Fin 7) => is_any a xs its Ba i W (ha.below hb) hB)
  have HH := hide (fragE_hit a xs its)
  have HO := hide (fragE_ok a xs its)
  clear ha
  generalize hR : fragE a.c xs a.owner a.quota (itemOf its) = R at *
  clear hR
  have hF1 : Fence.wide.fn 29 := trivial
  dsimp only [Ask.cells] at *
  refine (callsIn_wide (n := m)).1 ?_
  refine callsIn_of_wp_marks Tryd.func14 rfl trivial ?_ rfl
  simp only [Tryd.ntmps14, List.size_toArray, List.length_cons, List.length_nil, Nat.reduceAdd, Nat.reduceSub, Array.replicate_succ, Array.replicate_zero, List.push_toArray, List.append_toArray, List.nil_append, List.cons_append]
  gi_wp2_with (gi_at_call 29; refine (HA.out _).mono ?_; rintro e w1 ⟨Ba, L, Bl, rfl, hrow, hcl, hbx, hext, hL, hBl⟩)
  have hs0 := cell_new_l (w.alloc (.cells #[.int .i64 a.c.quota, .int .i64 a.c.depth, .int .i64 a.c.width, .int .i64 a.c.retry, .int .i64 a.c.flows] 32)) (.int .i64 0) 37
  rw [World.size_alloc] at hs0
  simp only [World.size_alloc] at hL hBl
  have hr0 := (hext.cell (p := ⟨w.heap.size + 1, 0, none⟩) (by simp)).trans hs0.1
  have hr1 := (hext.frozen (p := ⟨w.heap.size + 1, 0, none⟩) (by simp)).trans hs0.2
  have hB0 : Ext w w1 := Ext.trans (by (repeat' (first | exact Below.refl _ _ | assumption | refine Ext.alloc ?_ _ | refine Ext.drew ?_ | refine Ext.trans ?_ (by assumption)))) hext
  clear hs0 hext
  have hlt1 := lt_of_cell hr0
  refine wpIn_rangeFunc_ownF rfl h1 (gf := 60) (lb := #[.pointer (some ⟨Bl, 0, none⟩)]) rfl trivial (enters_of Tryd.func60 (by kernel_rfl) rfl)
    (all3_stops (m - 1) (w.heap.size + 1) (w.heap.size + 2) Ba L Bl a w1 hrow hcl (.inr (by omega)) (by omega)) keeps_t (keeps_b (Nat.le_refl _)) (Below.refl _ _) (fun _ => rfl)
    (fun pre W => (W.cell? ⟨w.heap.size + 1, 0, none⟩ = some (.int .i64 0) ∧ W.frozen? ⟨w.heap.size + 1, 0, none⟩ = false ∧ AskBox W Ba a ∧ w1.heap.size ≤ W.heap.size ∧ (pre = (List.finRange 7).take pre.length → ∀ i ∈ pre, isOf a xs its (i : Fin 7) = false)) ∧ Ext w W)
    (fun c pre W => (c = .ret ∧ (∃ (q : List (Fin 7)) (i : Fin 7), pre = q ++ [i] ∧ W.cell? ⟨w.heap.size + 1, 0, none⟩ = some (.int .i64 (errOf i)) ∧ (pre = (List.finRange 7).take pre.length → isOf a xs its i = true ∧ ∀ j ∈ q, isOf a xs its (j : Fin 7) = false))) ∧ Ext w W)
    (OwnFrom.and (Own.from (fun s A B row hs hg hr => ⟨cell_kept hs.1 hg hr, (frozen_kept hs.1 hg hr).trans hs.2.1, fun j v hv => cell_kept (hs.2.2.1 j v hv) hg hr, Nat.le_trans hs.2.2.2.1 hg.size, hs.2.2.2.2⟩) _) (ownFrom_below (Nat.le_refl _) hB0.size))
    (fun c => OwnFrom.and (Own.from (fun s A B row hs hg hr => by
      obtain ⟨h1, q, i, h2, h3, h4⟩ := hs
      exact ⟨h1, q, i, h2, cell_kept h3 hg hr, h4⟩) _) (ownFrom_below (Nat.le_refl _) hB0.size))
    ⟨⟨hr0, hr1, hbx, Nat.le_refl _, fun _ i hi => by simp at hi⟩, hB0⟩
    ?a1 ?assign ?body ?done ?stop
  case assign =>
    intro l x W K hK
    gi_wp2
    exact hK
  case body =>
    rintro l pre x W ⟨⟨hc, hf, hbW, hsz, hpre⟩, hB⟩ hlt
    obtain ⟨g, fs, cp, hfv, eg, hcall⟩ := HI.out W hB Ba hbW x
    rw [hfv]
    have HC := hide hcall
    have hwlt := lt_of_cell hc
    clear hcall hfv
    have hFg : Fence.wide.fn g := trivial
    have h1b : 1 ≤ m - 1 - 1 := by omega
    cases hT : isOf a xs its (x : Fin 7) with
    | false =>
      rw [hT] at HC
      have HT2 := hide hT; clear hT
      have HPre := hide hpre; clear hpre
      gi_wp2_with (gi_at_fn g; refine (CallsIn.inRound l (callsIn_wide.2 HC.out)).mono ?_; rintro e w' ⟨rfl, hb⟩)
      have hko : KeepsOthers W w' := KeepsOthers.of_grownBy (gb_of_ext hb) (fun j o e => by cases e)
      refine ⟨hko, .of_below (Below.mono hb hsz), ⟨(hb.cell (p := ⟨w.heap.size + 1, 0, none⟩) hwlt).trans hc, (hb.frozen (p := ⟨w.heap.size + 1, 0, none⟩) hwlt).trans hf, hbW.below hb, Nat.le_trans hsz hb.size, fun he i hi => ?_⟩, hB.trans hb⟩
      rcases List.mem_append.1 hi with hi | hi
      · exact HPre.out (fin_take he).2 i hi
      · obtain rfl := List.mem_singleton.1 hi; exact HT2.out
    | true =>
      rw [hT] at HC
      have HT2 := hide hT; clear hT
      have HPre := hide hpre; clear hpre
      gi_wp2_with (gi_at_fn g; refine (CallsIn.inRound l (callsIn_wide.2 HC.out)).mono ?_; rintro e w' ⟨rfl, hb⟩; have hc2 := (hb.cell (p := ⟨w.heap.size + 1, 0, none⟩) hwlt).trans hc; have hf2 := (hb.frozen (p := ⟨w.heap.size + 1, 0, none⟩) hwlt).trans hf)
      have hko : KeepsOthers W w' := KeepsOthers.of_grownBy (gb_of_ext hb) (fun j o e => by cases e)
      refine ⟨hko.trans (KeepsOthers.setCell _ _ _), ⟨rfl, pre, x, rfl, World.cell?_setCell_same' _ _ _ (by rw [hc2]; rfl), fun he => ⟨HT2.out, HPre.out (fin_take he).2⟩⟩, Ext.setCell (hB.trans hb) (Nat.le_succ _) _⟩
  case done =>
    rintro D ys W hD rfl ⟨⟨hc, hf, hbW, hsz, hpre⟩, hB⟩ hK
    have hR0 : R = 0 := HO.out (fun j hj => hpre List.take_length.symm ⟨j, hj⟩ (by simp))
    have HR0 := hide hR0
    clear hR0 hpre
    gi_wp2
    have hK' := (KeepsOthers.setCell W ⟨w.heap.size + 1, 0, none⟩ (.int .i64 0)).same D _ hK rfl
    refine ⟨by simp, .inl ⟨_, _, rfl, run_takeDeferred hK', ?_⟩⟩
    have hc5 := cell_kept (World.cell?_setCell_same' W ⟨w.heap.size + 1, 0, none⟩ (.int .i64 0) (by rw [hc]; rfl)) (grownBy_putObj' _ D (.deferred none)) (fun r e => by cases e; exact ⟨_, hK', rfl⟩)
    refine ⟨.int .i64 0, ?_, by rw [HR0.out], Below.trans (Ext.setCell (p := ⟨w.heap.size + 1, 0, none⟩) hB (Nat.le_succ _) _) (belowK_b (w := w) (Nat.le_refl _) _ D _ _ (Nat.le_trans hB0.size hD) hK' rfl rfl)⟩
    simp [results, Tryd.f14, go_sem, hc5]
  case stop =>
    rintro D c pre W hD hpre ⟨⟨rfl, q, i, rfl, hc, hq⟩, hB⟩ hK
    have hpt : q ++ [i] = (List.finRange 7).take (q ++ [i]).length := List.prefix_iff_eq_take.1 hpre
    have hh := hq hpt
    have hft := fin_take hpt
    have hR0 : R = errOf i := HH.out i.val i.isLt hh.1 (fun j hj => by
      refine hh.2 ⟨j, by omega⟩ ?_
      have hjq : j < q.length := by have := hft.1; omega
      have hm := congrArg (fun l => l[j]?) hft.2
      simp only [List.getElem?_take, if_pos hjq] at hm
      exact List.mem_of_getElem? (hm.trans (by rw [List.getElem?_eq_getElem (by rw [List.length_finRange]; omega)]; simp)))
    have HR0 := hide hR0
    clear hR0 hh hq hft
    gi_wp2
    refine ⟨by simp, .inl ⟨_, _, rfl, run_takeDeferred hK, ?_⟩⟩
    have hc5 := cell_kept hc (grownBy_putObj' _ D (.deferred none)) (fun r e => by cases e; exact ⟨_, hK, rfl⟩)
    refine ⟨.int .i64 (errOf i), ?_, by rw [HR0.out], Below.trans hB (belowK_b (w := w) (Nat.le_refl _) W D _ _ (Nat.le_trans hB0.size hD) hK rfl rfl)⟩
    simp [results, Tryd.f14, go_sem, hc5]
end Go.Proofs.YtfcdohaimdodgaaDoor

/-
  awake of the layer's law: the chapter's examples.
-/
namespace Go.Proofs.YtfcdohaimdodgaaDoor
open Go.RowKit Go.Shelf
set_option linter.unusedVariables false

theorem itemsAt2 (W : World) (x y : It) (hx : x.ok W) (hy : y.ok W) : ItemsAt (W.alloc (.cells (x.cells ++ y.cells).toArray 27)) ⟨some ⟨W.heap.size, 0, none⟩, 2, 2⟩ [x, y] := by
  refine ⟨⟨rfl, Nat.le_refl _, by simp, fun k z hz => ⟨W.heap.size, 0, rfl, by simp, fun j v hv => cell_new_row _ _ _ _ _ ?_⟩⟩, fun z hz => ?_⟩
  · have hj : j < 6 := by
      rcases Nat.lt_or_ge j 6 with h | h
      · exact h
      · rw [List.getElem?_eq_none (by rw [It.cells_len]; exact h)] at hv; cases hv
    match k, hz with
    | 0, hz =>
      obtain rfl : x = z := by simpa using hz
      rw [← hv]
      simp [List.getElem?_append_left (show j < x.cells.length by rw [It.cells_len]; exact hj)]
    | 1, hz =>
      obtain rfl : y = z := by simpa using hz
      rw [← hv]
      simp only [Nat.zero_add, Nat.one_mul]
      rw [List.getElem?_toArray, List.getElem?_append_right (by rw [It.cells_len]; omega), It.cells_len]
      congr 1; omega
    | k + 2, hz => simp at hz
  · have : (x.ok (W.alloc (.cells (x.cells ++ y.cells).toArray 27))) ∧ (y.ok (W.alloc (.cells (x.cells ++ y.cells).toArray 27))) := ⟨hx.below (by (repeat' (first | exact Below.refl _ _ | assumption | refine Ext.alloc ?_ _ | refine Ext.drew ?_ | refine Ext.trans ?_ (by assumption)))), hy.below (by (repeat' (first | exact Below.refl _ _ | assumption | refine Ext.alloc ?_ _ | refine Ext.drew ?_ | refine Ext.trans ?_ (by assumption))))⟩
    rcases List.mem_cons.1 hz with rfl | hz
    · exact this.1
    · obtain rfl := List.mem_singleton.1 hz; exact this.2
theorem itemsAt1 (W : World) (x : It) (hx : x.ok W) : ItemsAt (W.alloc (.cells x.cells.toArray 27)) ⟨some ⟨W.heap.size, 0, none⟩, 1, 1⟩ [x] := by
  refine ⟨⟨rfl, Nat.le_refl _, by simp, fun k z hz => ⟨W.heap.size, 0, rfl, by simp, fun j v hv => cell_new_row _ _ _ _ _ ?_⟩⟩, fun z hz => ?_⟩
  · match k, hz with
    | 0, hz =>
      obtain rfl : x = z := by simpa using hz
      rw [← hv]; simp
    | k + 1, hz => simp at hz
  · obtain rfl := List.mem_singleton.1 hz; exact hx.below (by (repeat' (first | exact Below.refl _ _ | assumption | refine Ext.alloc ?_ _ | refine Ext.drew ?_ | refine Ext.trans ?_ (by assumption))))
theorem frag2 (c : Cfg) (x y : It) (v : Int) (W : World) (hx : x.ok W) (hy : y.ok W) (hv : fragE c [] (-1) 5 [x.d, y.d] = v) :
    Calls Tryd.prog 14 #[.agg #[.int .i64 c.quota, .int .i64 c.depth, .int .i64 c.width, .int .i64 c.retry, .int .i64 c.flows], .slice none 0 0, .int .i64 (-1), .int .i64 5, .slice (some ⟨W.heap.size, 0, none⟩) 2 2] (W.alloc (.cells (x.cells ++ y.cells).toArray 27)) fun e w' =>
      e = .returned (.int .i64 v) ∧ Ext (W.alloc (.cells (x.cells ++ y.cells).toArray 27)) w' := by
  have := frag_any ⟨c, ⟨none, 0, 0⟩, -1, 5, ⟨some ⟨W.heap.size, 0, none⟩, 2, 2⟩⟩ [] [x, y] _ ⟨RowsAt.nil _ _ _, fun k x hx => by simp at hx, by simp, itemsAt2 W x y hx hy, by simp⟩
  rw [← hv]
  exact this
def sB (b : UInt8) : ByteArray := ⟨#[b]⟩
def iA : It := ⟨⟨sB 97, 0, [], ⟨#[]⟩, 0, 0⟩, ⟨none, 0, 0⟩⟩
def iB (p : Nat) : It := ⟨⟨sB 98, 0, [sB 97], ⟨#[]⟩, 0, 0⟩, ⟨some ⟨p, 0, none⟩, 1, 1⟩⟩
def iL (p : Nat) : It := ⟨⟨sB 98, 0, [sB 99], ⟨#[]⟩, 0, 0⟩, ⟨some ⟨p, 0, none⟩, 1, 1⟩⟩
def iM : It := ⟨⟨sB 109, 1, [], sB 97, 2, 1⟩, ⟨none, 0, 0⟩⟩
def iW : It := ⟨⟨sB 109, 1, [], sB 97, 5, 1⟩, ⟨none, 0, 0⟩⟩
def cAw : Cfg := ⟨0, 3, 4, 0, 0⟩
def nZ (o : Int) : GN := ⟨⟨#[]⟩, ⟨#[]⟩, 0, 0, o, 0, ⟨none, 0, 0⟩, 0, 0, 0, 0, 0, 0, 0, ⟨#[]⟩, ⟨none, 0, 0⟩⟩
theorem aw1 : fragE cAw [] (-1) 5 [iA.d, (iB 0).d] = 0 := by decide +kernel
theorem aw2 : totalZ [iA.d, (iB 0).d] = 2 := by decide +kernel
theorem aw3 : fragE cAw [] (-1) 5 [iA.d, (iL 0).d] = 21 := by decide +kernel
theorem aw4 : fragE cAw [] (-1) 5 [iA.d, iM.d] = 22 := by decide +kernel
theorem aw5 : fragE cAw [] (-1) 5 [iA.d, iA.d] = 20 := by decide +kernel
theorem aw6 : fragE cAw [] (-1) 5 [iA.d, iW.d] = 24 := by decide +kernel
theorem aw7 : fragE cAw [nZ (-1), nZ 0, nZ 1] 2 5 [iA.d] = 23 := by decide +kernel
def allocs (w : World) : List (List Value × TypeId) → World
  | [] => w
  | r :: rs => allocs (w.alloc (.cells r.1.toArray r.2)) rs
theorem allocs_ext (rs : List (List Value × TypeId)) : ∀ w, Ext w (allocs w rs) := by
  induction rs with
  | nil => intro w; exact Ext.refl w
  | cons r rs ih => intro w; exact Ext.trans (Ext.alloc (Ext.refl w) _) (ih _)
theorem alloc_size (w : World) (o : Obj) : (w.alloc o).heap.size = w.heap.size + 1 := by simp
theorem allocs_size (rs : List (List Value × TypeId)) : ∀ w, (allocs w rs).heap.size = w.heap.size + rs.length := by
  induction rs with
  | nil => intro w; rfl
  | cons r rs ih => intro w; rw [allocs, ih, alloc_size, List.length_cons]; omega
theorem allocs_cell (rs : List (List Value × TypeId)) : ∀ w k row, rs[k]? = some row → ∀ j v, row.1[j]? = some v → (allocs w rs).cell? ⟨w.heap.size + k, j, none⟩ = some v := by
  induction rs with
  | nil => intro w k row h; simp at h
  | cons r rs ih =>
    intro w k row h j v hv
    rw [allocs]
    match k, h with
    | 0, h =>
      obtain rfl : r = row := by simpa using h
      refine ((allocs_ext rs _).cell (p := ⟨w.heap.size + 0, j, none⟩) (by rw [alloc_size]; show w.heap.size + 0 < _; omega)).trans ?_
      exact cell_new_row w _ _ _ _ (by simpa using hv)
    | k + 1, h =>
      have := ih (w.alloc (.cells r.1.toArray r.2)) k row (by simpa using h) j v hv
      rw [alloc_size, Nat.add_assoc, Nat.add_comm 1 k] at this
      exact this
def awRows (B : Nat) : List (List Value × TypeId) := [([.int .i64 0, .int .i64 3, .int .i64 4, .int .i64 0, .int .i64 0], 32), ([.string (sB 97)], 9), (iA.cells, 27), ((iB (B + 1)).cells, 27), (iM.cells, 27), (iW.cells, 27), ((iL (B + 7)).cells, 27), ([.string (sB 99)], 9),
  ((nZ (-1)).cells ++ ((nZ 0).cells ++ (nZ 1).cells), 50)]
structure Aw (w W : World) : Prop where
  ext : Ext w W
  sz : w.heap.size + 9 ≤ W.heap.size
  at_ : ∀ k row, (awRows w.heap.size)[k]? = some row → ∀ j v, row.1[j]? = some v → W.cell? ⟨w.heap.size + k, j, none⟩ = some v
theorem Aw.next {w W W' : World} (h : Aw w W) (hb : Ext W W') : Aw w W' :=
  ⟨Ext.trans h.ext hb, Nat.le_trans h.sz hb.size, fun k row hk j v hv => by
    have hk' := (List.getElem?_eq_some_iff.1 hk).1
    refine (hb.cell (p := ⟨w.heap.size + k, j, none⟩) ?_).trans (h.at_ k row hk j v hv)
    have := h.sz
    have : k < 9 := hk'
    show w.heap.size + k < _
    omega⟩
theorem aw_first (w : World) : Aw w (allocs w (awRows w.heap.size)) := ⟨allocs_ext _ _, by rw [allocs_size]; exact Nat.le_refl _, fun k row hk j v hv => allocs_cell _ _ _ _ hk _ _ hv⟩
theorem str_ok {W : World} {p : Nat} {b : UInt8} (h : W.cell? ⟨p, 0, none⟩ = some (.string (sB b))) : RowsAt 1 strCells W ⟨some ⟨p, 0, none⟩, 1, 1⟩ [sB b] :=
  ⟨rfl, Nat.le_refl _, by simp, fun k x hx => by
    match k, hx with
    | 0, hx =>
      obtain rfl : sB b = x := by simpa using hx
      refine ⟨p, 0, rfl, lt_of_cell h, fun j v hv => ?_⟩
      match j, hv with
      | 0, hv => exact h.trans hv
      | j + 1, hv => simp [strCells] at hv
    | k + 1, hx => simp at hx⟩
theorem iA_ok (W : World) : iA.ok W := RowsAt.nil _ _ _
theorem iM_ok (W : World) : iM.ok W := RowsAt.nil _ _ _
theorem iW_ok (W : World) : iW.ok W := RowsAt.nil _ _ _
theorem Aw.b {w W : World} (h : Aw w W) : (iB (w.heap.size + 1)).ok W := str_ok (h.at_ 1 _ rfl 0 _ rfl)
theorem Aw.l {w W : World} (h : Aw w W) : (iL (w.heap.size + 7)).ok W := str_ok (h.at_ 7 _ rfl 0 _ rfl)
theorem Aw.nodes {w W : World} (h : Aw w W) : NodesAt W ⟨some ⟨w.heap.size + 8, 0, none⟩, 3, 3⟩ [nZ (-1), nZ 0, nZ 1] := by
  refine ⟨rfl, Nat.le_refl _, by simp, fun k x hx => ⟨w.heap.size + 8, 0, rfl, lt_of_cell (h.at_ 8 _ rfl 0 _ rfl), fun j v hv => h.at_ 8 _ rfl _ _ ?_⟩⟩
  have hj : j < 16 := by
    rcases Nat.lt_or_ge j 16 with h | h
    · exact h
    · rw [List.getElem?_eq_none (by rw [GN.cells_len]; exact h)] at hv; cases hv
  match k, hx with
  | 0, hx =>
    obtain rfl : nZ (-1) = x := by simpa using hx
    rw [← hv, Nat.zero_mul, Nat.add_zero, Nat.zero_add, List.getElem?_append_left (by rw [GN.cells_len]; omega)]
  | 1, hx =>
    obtain rfl : nZ 0 = x := by simpa using hx
    rw [← hv, List.getElem?_append_right (by rw [GN.cells_len]; omega), GN.cells_len, List.getElem?_append_left (by rw [GN.cells_len]; omega)]
    congr 1; omega
  | 2, hx =>
    obtain rfl : nZ 1 = x := by simpa using hx
    rw [← hv, List.getElem?_append_right (by rw [GN.cells_len]; omega), GN.cells_len, List.getElem?_append_right (by rw [GN.cells_len]; omega), GN.cells_len]
    congr 1; omega
  | k + 3, hx => simp at hx
theorem nodes_right : RightN [nZ (-1), nZ 0, nZ 1] := by
  intro k x hx
  match k, hx with
  | 0, hx => obtain rfl : nZ (-1) = x := by simpa using hx
             exact ⟨by decide, by decide, fun h => absurd h (by decide)⟩
  | 1, hx => obtain rfl : nZ 0 = x := by simpa using hx
             refine ⟨by decide, by decide, fun _ y hy => ?_⟩
             obtain rfl : nZ (-1) = y := by simpa [nZ] using hy
             rfl
  | 2, hx => obtain rfl : nZ 1 = x := by simpa using hx
             refine ⟨by decide, by decide, fun _ y hy => ?_⟩
             obtain rfl : nZ 0 = y := by simpa [nZ] using hy
             rfl
  | k + 3, hx => simp at hx
theorem Aw.all {w W : World} (h : Aw w W) : W.cell? ⟨w.heap.size, 0, none⟩ = some (.int .i64 0) ∧ W.cell? ⟨w.heap.size, 1, none⟩ = some (.int .i64 3) ∧ W.cell? ⟨w.heap.size, 2, none⟩ = some (.int .i64 4) ∧ W.cell? ⟨w.heap.size, 3, none⟩ = some (.int .i64 0) ∧ W.cell? ⟨w.heap.size, 4, none⟩ = some (.int .i64 0) ∧ W.cell? ⟨w.heap.size + 1 + 1, 0, none⟩ = some (.string ⟨#[97]⟩) ∧ W.cell? ⟨w.heap.size + 1 + 1, 1, none⟩ = some (.int .u8 0) ∧ W.cell? ⟨w.heap.size + 1 + 1, 2, none⟩ = some (.slice none 0 0) ∧ W.cell? ⟨w.heap.size + 1 + 1, 3, none⟩ = some (.string ⟨#[]⟩) ∧ W.cell? ⟨w.heap.size + 1 + 1, 4, none⟩ = some (.int .i64 0) ∧ W.cell? ⟨w.heap.size + 1 + 1, 5, none⟩ = some (.int .i64 0) ∧ W.cell? ⟨w.heap.size + 1 + 1 + 1, 0, none⟩ = some (.string ⟨#[98]⟩) ∧ W.cell? ⟨w.heap.size + 1 + 1 + 1, 1, none⟩ = some (.int .u8 0) ∧ W.cell? ⟨w.heap.size + 1 + 1 + 1, 2, none⟩ = some (.slice (some ⟨w.heap.size + 1, 0, none⟩) 1 1) ∧ W.cell? ⟨w.heap.size + 1 + 1 + 1, 3, none⟩ = some (.string ⟨#[]⟩) ∧ W.cell? ⟨w.heap.size + 1 + 1 + 1, 4, none⟩ = some (.int .i64 0) ∧ W.cell? ⟨w.heap.size + 1 + 1 + 1, 5, none⟩ = some (.int .i64 0) ∧ W.cell? ⟨w.heap.size + 1 + 1 + 1 + 1, 0, none⟩ = some (.string ⟨#[109]⟩) ∧ W.cell? ⟨w.heap.size + 1 + 1 + 1 + 1, 1, none⟩ = some (.int .u8 1) ∧ W.cell? ⟨w.heap.size + 1 + 1 + 1 + 1, 2, none⟩ = some (.slice none 0 0) ∧ W.cell? ⟨w.heap.size + 1 + 1 + 1 + 1, 3, none⟩ = some (.string ⟨#[97]⟩) ∧ W.cell? ⟨w.heap.size + 1 + 1 + 1 + 1, 4, none⟩ = some (.int .i64 2) ∧ W.cell? ⟨w.heap.size + 1 + 1 + 1 + 1, 5, none⟩ = some (.int .i64 1) ∧ W.cell? ⟨w.heap.size + 1 + 1 + 1 + 1 + 1, 0, none⟩ = some (.string ⟨#[109]⟩) ∧ W.cell? ⟨w.heap.size + 1 + 1 + 1 + 1 + 1, 1, none⟩ = some (.int .u8 1) ∧ W.cell? ⟨w.heap.size + 1 + 1 + 1 + 1 + 1, 2, none⟩ = some (.slice none 0 0) ∧ W.cell? ⟨w.heap.size + 1 + 1 + 1 + 1 + 1, 3, none⟩ = some (.string ⟨#[97]⟩) ∧ W.cell? ⟨w.heap.size + 1 + 1 + 1 + 1 + 1, 4, none⟩ = some (.int .i64 5) ∧ W.cell? ⟨w.heap.size + 1 + 1 + 1 + 1 + 1, 5, none⟩ = some (.int .i64 1) ∧ W.cell? ⟨w.heap.size + 1 + 1 + 1 + 1 + 1 + 1, 0, none⟩ = some (.string ⟨#[98]⟩) ∧ W.cell? ⟨w.heap.size + 1 + 1 + 1 + 1 + 1 + 1, 1, none⟩ = some (.int .u8 0) ∧ W.cell? ⟨w.heap.size + 1 + 1 + 1 + 1 + 1 + 1, 2, none⟩ = some (.slice (some ⟨w.heap.size + 1 + 1 + 1 + 1 + 1 + 1 + 1, 0, none⟩) 1 1) ∧ W.cell? ⟨w.heap.size + 1 + 1 + 1 + 1 + 1 + 1, 3, none⟩ = some (.string ⟨#[]⟩) ∧ W.cell? ⟨w.heap.size + 1 + 1 + 1 + 1 + 1 + 1, 4, none⟩ = some (.int .i64 0) ∧ W.cell? ⟨w.heap.size + 1 + 1 + 1 + 1 + 1 + 1, 5, none⟩ = some (.int .i64 0) ∧ w.heap.size < W.heap.size ∧ w.heap.size + 1 < W.heap.size ∧ w.heap.size + 1 + 1 < W.heap.size ∧ w.heap.size + 1 + 1 + 1 < W.heap.size ∧ w.heap.size + 1 + 1 + 1 + 1 < W.heap.size ∧ w.heap.size + 1 + 1 + 1 + 1 + 1 < W.heap.size ∧ w.heap.size + 1 + 1 + 1 + 1 + 1 + 1 < W.heap.size ∧ w.heap.size + 1 + 1 + 1 + 1 + 1 + 1 + 1 < W.heap.size ∧ w.heap.size + 1 + 1 + 1 + 1 + 1 + 1 + 1 + 1 < W.heap.size :=
  ⟨h.at_ 0 _ rfl 0 _ rfl, h.at_ 0 _ rfl 1 _ rfl, h.at_ 0 _ rfl 2 _ rfl, h.at_ 0 _ rfl 3 _ rfl, h.at_ 0 _ rfl 4 _ rfl, h.at_ 2 _ rfl 0 _ rfl, h.at_ 2 _ rfl 1 _ rfl, h.at_ 2 _ rfl 2 _ rfl, h.at_ 2 _ rfl 3 _ rfl, h.at_ 2 _ rfl 4 _ rfl, h.at_ 2 _ rfl 5 _ rfl, h.at_ 3 _ rfl 0 _ rfl, h.at_ 3 _ rfl 1 _ rfl, h.at_ 3 _ rfl 2 _ rfl, h.at_ 3 _ rfl 3 _ rfl, h.at_ 3 _ rfl 4 _ rfl, h.at_ 3 _ rfl 5 _ rfl, h.at_ 4 _ rfl 0 _ rfl, h.at_ 4 _ rfl 1 _ rfl, h.at_ 4 _ rfl 2 _ rfl, h.at_ 4 _ rfl 3 _ rfl, h.at_ 4 _ rfl 4 _ rfl, h.at_ 4 _ rfl 5 _ rfl, h.at_ 5 _ rfl 0 _ rfl, h.at_ 5 _ rfl 1 _ rfl, h.at_ 5 _ rfl 2 _ rfl, h.at_ 5 _ rfl 3 _ rfl, h.at_ 5 _ rfl 4 _ rfl, h.at_ 5 _ rfl 5 _ rfl, h.at_ 6 _ rfl 0 _ rfl, h.at_ 6 _ rfl 1 _ rfl, h.at_ 6 _ rfl 2 _ rfl, h.at_ 6 _ rfl 3 _ rfl, h.at_ 6 _ rfl 4 _ rfl, h.at_ 6 _ rfl 5 _ rfl, lt_of_cell (h.at_ 0 _ rfl 0 _ rfl), lt_of_cell (h.at_ 1 _ rfl 0 _ rfl), lt_of_cell (h.at_ 2 _ rfl 0 _ rfl), lt_of_cell (h.at_ 3 _ rfl 0 _ rfl), lt_of_cell (h.at_ 4 _ rfl 0 _ rfl), lt_of_cell (h.at_ 5 _ rfl 0 _ rfl), lt_of_cell (h.at_ 6 _ rfl 0 _ rfl), lt_of_cell (h.at_ 7 _ rfl 0 _ rfl), lt_of_cell (h.at_ 8 _ rfl 0 _ rfl)⟩
theorem frag3 (w W : World) (hA : Aw w W) :
    Calls Tryd.prog 14 #[.agg #[.int .i64 0, .int .i64 3, .int .i64 4, .int .i64 0, .int .i64 0], .slice (some ⟨w.heap.size + 8, 0, none⟩) 3 3, .int .i64 2, .int .i64 5, .slice (some ⟨W.heap.size, 0, none⟩) 1 1] (W.alloc (.cells iA.cells.toArray 27)) fun e w' =>
      e = .returned (.int .i64 23) ∧ Ext (W.alloc (.cells iA.cells.toArray 27)) w' := by
  have := frag_any ⟨cAw, ⟨some ⟨w.heap.size + 8, 0, none⟩, 3, 3⟩, 2, 5, ⟨some ⟨W.heap.size, 0, none⟩, 1, 1⟩⟩ [nZ (-1), nZ 0, nZ 1] [iA] _
    ⟨(hA.nodes).below (by (repeat' (first | exact Below.refl _ _ | assumption | refine Ext.alloc ?_ _ | refine Ext.drew ?_ | refine Ext.trans ?_ (by assumption)))), nodes_right, by simp, itemsAt1 W iA (iA_ok W), by simp⟩
  have h23 : fragE cAw [nZ (-1), nZ 0, nZ 1] 2 5 (itemOf [iA]) = 23 := aw7
  rw [h23] at this
  exact this
theorem aw3' (p : Nat) : fragE cAw [] (-1) 5 [iA.d, (iL p).d] = 21 := aw3
theorem aw1' (p : Nat) : fragE cAw [] (-1) 5 [iA.d, (iB p).d] = 0 := aw1
theorem tot2 (w W : World) (hA : Aw w W) : Calls Tryd.prog 11 #[.slice (some ⟨W.heap.size, 0, none⟩) 2 2] (W.alloc (.cells (iA.cells ++ (iB (w.heap.size + 1)).cells).toArray 27)) fun e w' => e = .returned (.int .i64 2) ∧ Ext (W.alloc (.cells (iA.cells ++ (iB (w.heap.size + 1)).cells).toArray 27)) w' := by
  have := total_any (some ⟨W.heap.size, 0, none⟩) 2 2 [iA, iB (w.heap.size + 1)] _ (itemsAt2 W iA (iB (w.heap.size + 1)) (iA_ok W) hA.b).rows (by
    intro x hx
    rcases List.mem_cons.1 hx with rfl | hx
    · decide +kernel
    · obtain rfl := List.mem_singleton.1 hx
      exact (by decide +kernel : fitsB (iB 0).d = true)) (by simp)
  have h2 : totalZ (itemOf [iA, iB (w.heap.size + 1)]) = 2 := aw2
  rw [h2] at this
  exact this
theorem costM (W : World) : Calls Tryd.prog 10 #[.agg #[.string ⟨#[109]⟩, .int .u8 1, .slice none 0 0, .string ⟨#[97]⟩, .int .i64 2, .int .i64 1]] W fun e w' => e = .returned (.int .i64 5) ∧ Ext W w' := by
  have := cost_any iM W (.inl (by decide +kernel))
  have h5 : costZ iM.d = 5 := by decide +kernel
  rw [h5] at this
  exact this
end Go.Proofs.YtfcdohaimdodgaaDoor

/-
  awake of the layer's law: its walk.
-/
namespace Go.Proofs.YtfcdohaimdodgaaDoor
open Go.RowKit Go.Shelf
set_option linter.unusedVariables false
theorem calls_eq {p : Program} {f : FuncId} {a a' : Array Value} {W W' : World} {Q : Ending → World → Prop} (h : Calls p f a' W' Q) (ha : a' = a) (hW : W' = W) : Calls p f a W Q := by subst ha hW; exact h
set_option maxRecDepth 100000 in
set_option maxHeartbeats 4000000 in
theorem awake_any (w : World) : Calls Tryd.prog 9 #[] w fun e w' => e = .returned (.bool true) ∧ Ext w w' := by
  have H0 := hide (aw_first w)
  go_enter Tryd.func9, Tryd.ntmps9
  go_wp2_with fail
  go_at_call 14
  refine calls_eq ((frag2 cAw iA (iB (w.heap.size + 1)) 0 (allocs w (awRows w.heap.size)) (iA_ok _) H0.out.b (aw1' _)).mono ?_) (by rw [allocs_size]; rfl) (by kernel_rfl)
  rintro e w1 ⟨rfl, hb⟩
  have HA1 := hide (H0.out.next (Ext.trans (Ext.alloc (Ext.refl _) _) hb))
  clear hb H0
  obtain ⟨q0_0, q0_1, q0_2, q0_3, q0_4, q2_0, q2_1, q2_2, q2_3, q2_4, q2_5, q3_0, q3_1, q3_2, q3_3, q3_4, q3_5, q4_0, q4_1, q4_2, q4_3, q4_4, q4_5, q5_0, q5_1, q5_2, q5_3, q5_4, q5_5, q6_0, q6_1, q6_2, q6_3, q6_4, q6_5, s0, s1, s2, s3, s4, s5, s6, s7, s8⟩ := Aw.all HA1.out
  go_wp2_with fail
  go_at_call 11
  refine (tot2 w w1 HA1.out).mono ?_
  rintro e w2 ⟨rfl, hb⟩
  have HA2 := hide (HA1.out.next (Ext.trans (Ext.alloc (Ext.refl _) _) hb))
  clear hb HA1 q0_0 q0_1 q0_2 q0_3 q0_4 q2_0 q2_1 q2_2 q2_3 q2_4 q2_5 q3_0 q3_1 q3_2 q3_3 q3_4 q3_5 q4_0 q4_1 q4_2 q4_3 q4_4 q4_5 q5_0 q5_1 q5_2 q5_3 q5_4 q5_5 q6_0 q6_1 q6_2 q6_3 q6_4 q6_5 s0 s1 s2 s3 s4 s5 s6 s7 s8
  obtain ⟨q0_0, q0_1, q0_2, q0_3, q0_4, q2_0, q2_1, q2_2, q2_3, q2_4, q2_5, q3_0, q3_1, q3_2, q3_3, q3_4, q3_5, q4_0, q4_1, q4_2, q4_3, q4_4, q4_5, q5_0, q5_1, q5_2, q5_3, q5_4, q5_5, q6_0, q6_1, q6_2, q6_3, q6_4, q6_5, s0, s1, s2, s3, s4, s5, s6, s7, s8⟩ := Aw.all HA2.out
  go_wp2_with fail
  go_at_call 14
  refine (frag2 cAw iA (iL (w.heap.size + 7)) 21 _ (iA_ok _) HA2.out.l (aw3' _)).mono ?_
  rintro e w3 ⟨rfl, hb⟩
  have HA3 := hide (HA2.out.next (Ext.trans (Ext.alloc (Ext.refl _) _) hb))
  clear hb HA2 q0_0 q0_1 q0_2 q0_3 q0_4 q2_0 q2_1 q2_2 q2_3 q2_4 q2_5 q3_0 q3_1 q3_2 q3_3 q3_4 q3_5 q4_0 q4_1 q4_2 q4_3 q4_4 q4_5 q5_0 q5_1 q5_2 q5_3 q5_4 q5_5 q6_0 q6_1 q6_2 q6_3 q6_4 q6_5 s0 s1 s2 s3 s4 s5 s6 s7 s8
  obtain ⟨q0_0, q0_1, q0_2, q0_3, q0_4, q2_0, q2_1, q2_2, q2_3, q2_4, q2_5, q3_0, q3_1, q3_2, q3_3, q3_4, q3_5, q4_0, q4_1, q4_2, q4_3, q4_4, q4_5, q5_0, q5_1, q5_2, q5_3, q5_4, q5_5, q6_0, q6_1, q6_2, q6_3, q6_4, q6_5, s0, s1, s2, s3, s4, s5, s6, s7, s8⟩ := Aw.all HA3.out
  go_wp2_with fail
  go_at_call 10
  refine (costM _).mono ?_
  rintro e w4 ⟨rfl, hb⟩
  have HA4 := hide (HA3.out.next hb)
  clear hb HA3 q0_0 q0_1 q0_2 q0_3 q0_4 q2_0 q2_1 q2_2 q2_3 q2_4 q2_5 q3_0 q3_1 q3_2 q3_3 q3_4 q3_5 q4_0 q4_1 q4_2 q4_3 q4_4 q4_5 q5_0 q5_1 q5_2 q5_3 q5_4 q5_5 q6_0 q6_1 q6_2 q6_3 q6_4 q6_5 s0 s1 s2 s3 s4 s5 s6 s7 s8
  obtain ⟨q0_0, q0_1, q0_2, q0_3, q0_4, q2_0, q2_1, q2_2, q2_3, q2_4, q2_5, q3_0, q3_1, q3_2, q3_3, q3_4, q3_5, q4_0, q4_1, q4_2, q4_3, q4_4, q4_5, q5_0, q5_1, q5_2, q5_3, q5_4, q5_5, q6_0, q6_1, q6_2, q6_3, q6_4, q6_5, s0, s1, s2, s3, s4, s5, s6, s7, s8⟩ := Aw.all HA4.out
  go_wp2_with fail
  go_at_call 14
  refine (frag2 cAw iA iM 22 _ (iA_ok _) (iM_ok _) aw4).mono ?_
  rintro e w5 ⟨rfl, hb⟩
  have HA5 := hide (HA4.out.next (Ext.trans (Ext.alloc (Ext.refl _) _) hb))
  clear hb HA4 q0_0 q0_1 q0_2 q0_3 q0_4 q2_0 q2_1 q2_2 q2_3 q2_4 q2_5 q3_0 q3_1 q3_2 q3_3 q3_4 q3_5 q4_0 q4_1 q4_2 q4_3 q4_4 q4_5 q5_0 q5_1 q5_2 q5_3 q5_4 q5_5 q6_0 q6_1 q6_2 q6_3 q6_4 q6_5 s0 s1 s2 s3 s4 s5 s6 s7 s8
  obtain ⟨q0_0, q0_1, q0_2, q0_3, q0_4, q2_0, q2_1, q2_2, q2_3, q2_4, q2_5, q3_0, q3_1, q3_2, q3_3, q3_4, q3_5, q4_0, q4_1, q4_2, q4_3, q4_4, q4_5, q5_0, q5_1, q5_2, q5_3, q5_4, q5_5, q6_0, q6_1, q6_2, q6_3, q6_4, q6_5, s0, s1, s2, s3, s4, s5, s6, s7, s8⟩ := Aw.all HA5.out
  go_wp2_with fail
  go_at_call 14
  refine (frag2 cAw iA iA 20 _ (iA_ok _) (iA_ok _) aw5).mono ?_
  rintro e w6 ⟨rfl, hb⟩
  have HA6 := hide (HA5.out.next (Ext.trans (Ext.alloc (Ext.refl _) _) hb))
  clear hb HA5 q0_0 q0_1 q0_2 q0_3 q0_4 q2_0 q2_1 q2_2 q2_3 q2_4 q2_5 q3_0 q3_1 q3_2 q3_3 q3_4 q3_5 q4_0 q4_1 q4_2 q4_3 q4_4 q4_5 q5_0 q5_1 q5_2 q5_3 q5_4 q5_5 q6_0 q6_1 q6_2 q6_3 q6_4 q6_5 s0 s1 s2 s3 s4 s5 s6 s7 s8
  obtain ⟨q0_0, q0_1, q0_2, q0_3, q0_4, q2_0, q2_1, q2_2, q2_3, q2_4, q2_5, q3_0, q3_1, q3_2, q3_3, q3_4, q3_5, q4_0, q4_1, q4_2, q4_3, q4_4, q4_5, q5_0, q5_1, q5_2, q5_3, q5_4, q5_5, q6_0, q6_1, q6_2, q6_3, q6_4, q6_5, s0, s1, s2, s3, s4, s5, s6, s7, s8⟩ := Aw.all HA6.out
  go_wp2_with fail
  go_at_call 14
  refine (frag2 cAw iA iW 24 _ (iA_ok _) (iW_ok _) aw6).mono ?_
  rintro e w7 ⟨rfl, hb⟩
  have HA7 := hide (HA6.out.next (Ext.trans (Ext.alloc (Ext.refl _) _) hb))
  clear hb HA6 q0_0 q0_1 q0_2 q0_3 q0_4 q2_0 q2_1 q2_2 q2_3 q2_4 q2_5 q3_0 q3_1 q3_2 q3_3 q3_4 q3_5 q4_0 q4_1 q4_2 q4_3 q4_4 q4_5 q5_0 q5_1 q5_2 q5_3 q5_4 q5_5 q6_0 q6_1 q6_2 q6_3 q6_4 q6_5 s0 s1 s2 s3 s4 s5 s6 s7 s8
  obtain ⟨q0_0, q0_1, q0_2, q0_3, q0_4, q2_0, q2_1, q2_2, q2_3, q2_4, q2_5, q3_0, q3_1, q3_2, q3_3, q3_4, q3_5, q4_0, q4_1, q4_2, q4_3, q4_4, q4_5, q5_0, q5_1, q5_2, q5_3, q5_4, q5_5, q6_0, q6_1, q6_2, q6_3, q6_4, q6_5, s0, s1, s2, s3, s4, s5, s6, s7, s8⟩ := Aw.all HA7.out
  go_wp2_with fail
  go_at_call 14
  refine (frag3 w _ HA7.out).mono ?_
  rintro e w8 ⟨rfl, hb⟩
  have HA8 := hide (HA7.out.next (Ext.trans (Ext.alloc (Ext.refl _) _) hb))
  clear hb HA7 q0_0 q0_1 q0_2 q0_3 q0_4 q2_0 q2_1 q2_2 q2_3 q2_4 q2_5 q3_0 q3_1 q3_2 q3_3 q3_4 q3_5 q4_0 q4_1 q4_2 q4_3 q4_4 q4_5 q5_0 q5_1 q5_2 q5_3 q5_4 q5_5 q6_0 q6_1 q6_2 q6_3 q6_4 q6_5 s0 s1 s2 s3 s4 s5 s6 s7 s8
  obtain ⟨q0_0, q0_1, q0_2, q0_3, q0_4, q2_0, q2_1, q2_2, q2_3, q2_4, q2_5, q3_0, q3_1, q3_2, q3_3, q3_4, q3_5, q4_0, q4_1, q4_2, q4_3, q4_4, q4_5, q5_0, q5_1, q5_2, q5_3, q5_4, q5_5, q6_0, q6_1, q6_2, q6_3, q6_4, q6_5, s0, s1, s2, s3, s4, s5, s6, s7, s8⟩ := Aw.all HA8.out
  go_wp2_with fail
  go_ret
  exact ⟨rfl, HA8.out.ext⟩
end Go.Proofs.YtfcdohaimdodgaaDoor

/-
  The reference functions of layers 9, 16, 17, 20, as printed, answer as the plain model says (part 1: fragments).
-/
namespace Go.Proofs.YtfcdohaimdodgaaDoor
open Go.RowKit Go.Proofs.YtfcdohaimdodgaaDoorW.PrintWords Go.Proofs.YtfcdohaimdodgaaDoorW.PrintLast Go.Proofs.YtfcdohaimdodgaaDoorW.PrintMore PFrag
set_option linter.unusedVariables false
section
variable {α : Type} {c : Prop} [Decidable c] {g f : Nat → Option α} {r : α}
theorem ev_pos (h : c) (k : Ev g r) : Ev (fun n => if c then g n else f n) r := by simpa only [if_pos h] using k
theorem ev_neg (h : ¬ c) (k : Ev f r) : Ev (fun n => if c then g n else f n) r := by simpa only [if_neg h] using k
theorem ev_ite (h : c → Ev g r) (k : ¬ c → Ev f r) : Ev (fun n => if c then g n else f n) r := by
  by_cases hc : c
  · exact ev_pos hc (h hc)
  · exact ev_neg hc (k hc)
theorem ev_now {a : α} (h : a = r) : Ev (fun _ => some a) r := by subst h; exact Ev.now a
theorem ev_eq {r' : α} (h : Ev g r) (e : r = r') : Ev g r' := e ▸ h
end
theorem w1 {j : Nat} (h : j < 9223372036854775807) : wrap64 ((j : Int) + 1) = ((j + 1 : Nat) : Int) := by unfold wrap64; omega
theorem w_id {z : Int} (h : -9223372036854775808 ≤ z) (h2 : z ≤ 9223372036854775807) : wrap64 z = z := by unfold wrap64; omega
def toS (x : Item) : S27 := ⟨x.nm, x.k, x.names, x.ov, x.wd, x.q⟩
theorem rd27 {xs : List Item} {j : Nat} {x : Item} (h : xs[j]? = some x) : rd_T27 (xs.map toS) (j : Int) = toS x := by
  simp [rd_T27, List.getD, h]
theorem drop_cons {α : Type} {xs : List α} {j : Nat} {x : α} (h : xs[j]? = some x) : xs.drop j = x :: xs.drop (j + 1) := by
  obtain ⟨h1, h2⟩ := List.getElem?_eq_some_iff.1 h
  rw [List.drop_eq_getElem_cons h1, h2]
theorem drop_end {α : Type} {xs : List α} {j : Nat} (h : j = xs.length) : xs.drop j = [] := by rw [h]; exact List.drop_length

theorem letter_bt (c : UInt8) : letter c = true ↔ (97 ≤ (c.toNat : Int) ∧ (c.toNat : Int) ≤ 122) ∨ (48 ≤ (c.toNat : Int) ∧ (c.toNat : Int) ≤ 57) ∨ (c.toNat : Int) = 95 := by
  have h : ∀ n : Fin 256, letter (UInt8.ofFin n) = true ↔ (97 ≤ ((UInt8.ofFin n).toNat : Int) ∧ ((UInt8.ofFin n).toNat : Int) ≤ 122) ∨ (48 ≤ ((UInt8.ofFin n).toNat : Int) ∧ ((UInt8.ofFin n).toNat : Int) ≤ 57) ∨ ((UInt8.ofFin n).toNat : Int) = 95 := by decide +kernel
  exact h c.toFin
theorem bt_at {s : ByteArray} {j : Nat} {c : UInt8} (h : s.data.toList[j]? = some c) : bt s (j : Int) = (c.toNat : Int) := by
  obtain ⟨h1, h2⟩ := List.getElem?_eq_some_iff.1 h
  have h3 : j < s.size := by simpa using h1
  unfold bt
  rw [dif_pos (by simpa using h3)]
  simp only [Int.toNat_natCast]
  rw [← h2]
  rfl
theorem name_l0 (s : ByteArray) (hs : s.size ≤ 9223372036854775807) : ∀ d j : Nat, j + d = s.size → Ev (fun k => foremanref09_Name.l0 k s (j : Int)) ((s.data.toList.drop j).all letter && (decide (1 ≤ s.size) && decide (s.size ≤ 20))) := by
  have hl : s.data.toList.length = s.size := by simp
  intro d
  induction d with
  | zero =>
    intro j hj
    refine Ev.step (fun k => by rw [foremanref09_Name.l0]) ?_
    refine ev_neg (by omega) ?_
    rw [drop_end (by omega)]
    refine ev_ite (fun h => ev_now ?_) (fun h => ev_now ?_)
    · simp only [List.all_nil, Bool.true_and]
      rw [decide_eq_true (show 1 ≤ s.size by omega), Bool.true_and]
      exact decide_eq_decide.2 (by omega)
    · have : s.size = 0 := by omega
      simp [this]
  | succ d ih =>
    intro j hj
    obtain ⟨c, hc⟩ := getElem?_of_lt (xs := s.data.toList) (k := j) (by omega)
    have hb := bt_at hc
    have hL := letter_bt c
    rw [drop_cons hc, List.all_cons]
    have hn := ih (j + 1) (by omega)
    refine Ev.step (fun k => by rw [foremanref09_Name.l0]) ?_
    refine ev_pos (by omega) (ev_pos (by omega) ?_)
    rw [hb, w1 (by omega)]
    generalize (c.toNat : Int) = b at hL
    cases hlc : letter c with
    | true =>
      have hL' := hL.1 hlc
      rw [Bool.true_and]
      clear hL
      repeat' (first | exact hn | (refine ev_ite (fun h => ?_) (fun h => ?_)) | (exfalso; omega))
    | false =>
      have hL' : ¬ _ := fun h => by have := hL.2 h; rw [hlc] at this; cases this
      clear hL
      rw [Bool.false_and, Bool.false_and]
      repeat' (first | exact Ev.now _ | (exfalso; omega) | (refine ev_ite (fun h => ?_) (fun h => ?_)))
theorem name_ev (s : ByteArray) (hs : s.size ≤ 9223372036854775807) : Ev (fun k => foremanref09_Name.f k s) (nameOk s) := by
  have h := name_l0 s hs s.size 0 (by omega)
  refine ev_eq h ?_
  simp only [List.drop_zero, nameOk]
  rw [Bool.and_comm]
/-- light enough for Go's numbers -/
def Light (x : Item) : Prop := x.nm.size ≤ 100 ∧ x.ov.size ≤ 100 ∧ x.names.length ≤ 40 ∧ ∀ s ∈ x.names, s.size ≤ 100
theorem rdS {xs : List ByteArray} {j : Nat} {x : ByteArray} (h : xs[j]? = some x) : rdOf ByteArray.empty xs (j : Int) = x := by
  simp [rdOf, List.getD, h]
theorem item_ev (x : Item) (hx : Light x) : Ev (fun k => foremanref09_item.f k x.nm x.k x.names x.ov x.wd x.q) (fitsB x) := by
  obtain ⟨nm, kd, names, ov, wd, q⟩ := x
  obtain ⟨h1, h2, h3, h4⟩ := hx
  dsimp only at h1 h2 h3 h4 ⊢
  have last : ∀ d j : Nat, j + d = names.length → Ev (fun k => foremanref09_item.l0 k (j : Int) nm kd names ov wd q) ((names.drop j).all nameOk && ((kd == 0 && ov.size == 0 && wd == 0) || (kd == 1 && nameOk ov && withinB wd 40))) := by
    intro d
    induction d with
    | zero =>
      intro j hj
      refine Ev.step (fun k => by rw [foremanref09_item.l0]) ?_
      refine ev_neg (by omega) ?_
      rw [drop_end (by omega), List.all_nil, Bool.true_and]
      refine ev_ite (fun h => ?_) (fun h => ?_)
      · subst h
        refine ev_ite (fun h => ev_now ?_) (fun h => ev_now ?_)
        · rw [ba_nil] at h; simp [h]
        · rw [ba_nil] at h; simp [h]
      · refine ev_ite (fun h' => ?_) (fun h' => ev_now ?_)
        · subst h'
          refine Ev.bind (name_ev ov (by omega)) ?_
          refine ev_ite (fun h => ?_) (fun h => ev_now ?_)
          · refine ev_ite (fun h' => ev_now ?_) (fun h' => ev_now ?_)
            · simp [h, withinB, h']
            · simp [h, withinB, h']
          · simp [h]
        · simp [h, h']
    | succ d ih =>
      intro j hj
      obtain ⟨s, hs⟩ := getElem?_of_lt (xs := names) (k := j) (by omega)
      rw [drop_cons hs, List.all_cons]
      refine Ev.step (fun k => by rw [foremanref09_item.l0]) ?_
      refine ev_pos (by omega) (ev_pos (by omega) ?_)
      rw [rdS hs, w1 (by omega)]
      refine Ev.bind (name_ev s (by have := h4 s (List.mem_of_getElem? hs); omega)) ?_
      refine ev_ite (fun h => ?_) (fun h => ev_now ?_)
      · rw [h, Bool.true_and]; exact ih (j + 1) (by omega)
      · simp [h]
  have l0 := last names.length 0 (by omega)
  refine Ev.bind (name_ev nm (by omega)) ?_
  have no : fitsB ⟨nm, kd, names, ov, wd, q⟩ = false → Ev (fun k => foremanref09_item.j0 k true nm kd names ov wd q) (fitsB ⟨nm, kd, names, ov, wd, q⟩) := fun h => by
    refine Ev.step (fun k => by rw [foremanref09_item.j0]) ?_
    exact ev_pos rfl (ev_now h.symm)
  refine ev_ite (fun h => ?_) (fun h => ?_)
  · refine ev_ite (fun h' => no ?_) (fun h' => ev_ite (fun h'' => no ?_) (fun h'' => ?_))
    · simp [fitsB]; omega
    · simp [fitsB, withinB]; omega
    · by_cases h5 : q > 400
      · rw [decide_eq_true h5]; refine no ?_
        simp [fitsB, withinB]; omega
      · rw [decide_eq_false h5]
        refine Ev.step (fun k => by rw [foremanref09_item.j0]) ?_
        refine ev_neg (by simp) ?_
        refine ev_eq l0 ?_
        simp only [List.drop_zero, fitsB, h, Bool.true_and, withinB]
        rw [decide_eq_true (show names.length ≤ 20 by omega), decide_eq_true (show 0 ≤ q by omega), decide_eq_true (show q ≤ 400 by omega)]
        simp
  · refine no ?_
    simp [fitsB, h]
theorem right_ev (l : List Item) (hl : l.length ≤ 1000) (hx : ∀ x ∈ l, Light x) : Ev (fun k => foremanref09_Right.f k (l.map toS)) (rightB l) := by
  have last : ∀ d j : Nat, j + d = l.length → Ev (fun k => foremanref09_Right.l0 k (l.map toS) (j : Int)) ((l.drop j).all fitsB && decide (l.length ≤ 40)) := by
    intro d
    induction d with
    | zero =>
      intro j hj
      refine Ev.step (fun k => by rw [foremanref09_Right.l0]) ?_
      refine ev_neg (by simp; omega) (ev_now ?_)
      rw [drop_end (by omega)]
      simp
      omega
    | succ d ih =>
      intro j hj
      obtain ⟨x, hj2⟩ := getElem?_of_lt (xs := l) (k := j) (by omega)
      rw [drop_cons hj2, List.all_cons]
      refine Ev.step (fun k => by rw [foremanref09_Right.l0]) ?_
      refine ev_pos (by simp; omega) (ev_pos (by omega) ?_)
      rw [rd27 hj2, w1 (by omega)]
      refine Ev.bind (item_ev x (hx x (List.mem_of_getElem? hj2))) ?_
      refine ev_ite (fun h => ?_) (fun h => ev_now ?_)
      · rw [h, Bool.true_and]; exact ih (j + 1) (by omega)
      · simp [h]
  refine ev_eq (last l.length 0 (by omega)) ?_
  simp only [List.drop_zero, rightB]
  rw [Bool.and_comm]
theorem total_ev (l : List Item) (hl : l.length ≤ 1000) (hx : ∀ x ∈ l, fitsB x = true) : Ev (fun k => foremanref20_Total.f k (l.map toS)) (totalZ l) := by
  have last : ∀ d j : Nat, j + d = l.length → Ev (fun k => foremanref20_Total.l0 k (l.map toS) (totalZ (l.take j)) (j : Int)) (totalZ l) := by
    intro d
    induction d with
    | zero =>
      intro j hj
      refine Ev.step (fun k => by rw [foremanref20_Total.l0]) ?_
      refine ev_neg (by simp; omega) (ev_now ?_)
      rw [List.take_of_length_le (by omega)]
    | succ d ih =>
      intro j hj
      obtain ⟨x, hj2⟩ := getElem?_of_lt (xs := l) (k := j) (by omega)
      have hf := fits_bd (hx x (List.mem_of_getElem? hj2))
      have hc := cost_bd (x := x) hf.2.1 hf.1
      have ht := total_bd (l := l.take j) (fun y hy => hx y (List.mem_of_mem_take hy))
      have htl : (l.take j).length ≤ 1000 := by simp; omega
      have hn := ih (j + 1) (by omega)
      rw [take_snoc hj2, totalZ_append] at hn
      have e1 : totalZ [x] = costZ x := by simp [totalZ]
      rw [e1] at hn
      refine Ev.step (fun k => by rw [foremanref20_Total.l0]) ?_
      refine ev_pos (by simp; omega) (ev_pos (by omega) ?_)
      rw [rd27 hj2, w1 (by omega)]
      have hcost : foremanref20_Cost.f (toS x).f0 (toS x).f1 (toS x).f2 (toS x).f3 (toS x).f4 (toS x).f5 = some (costZ x) := by
        unfold foremanref20_Cost.f costZ toS
        dsimp only
        have h1 : 0 ≤ x.wd * (1 + x.q) := Int.mul_nonneg (by omega) (by omega)
        have h2 : x.wd * (1 + x.q) ≤ 40 * (1 + x.q) := Int.mul_le_mul_of_nonneg_right (by omega) (by omega)
        rw [w_id (z := 1 + x.q) (by omega) (by omega), w_id (z := x.wd * (1 + x.q)) (by omega) (by omega), w_id (z := 1 + x.wd * (1 + x.q)) (by omega) (by omega)]
        split
        · rw [Int.add_comm]
        · rfl
      rw [hcost]
      simp only [Option.bind_some]
      rw [w_id (by omega) (by omega)]
      exact hn
  exact last l.length 0 (by omega)
end Go.Proofs.YtfcdohaimdodgaaDoor

/-
  The reference functions of layers 16, 17, 20, as printed, answer as the plain model says (part 2: nodes, who is meant, the whole).
-/
namespace Go.Proofs.YtfcdohaimdodgaaDoor
open Go.RowKit Go.Proofs.YtfcdohaimdodgaaDoorW.PrintWords Go.Proofs.YtfcdohaimdodgaaDoorW.PrintLast Go.Proofs.YtfcdohaimdodgaaDoorW.PrintMore PFrag
set_option linter.unusedVariables false
/-- a node as the printed functions read it, its After and its Value's list left out -/
def ofGN (x : GN) : S50 := ⟨x.id, x.nm, x.k, x.fl, x.ow, x.at_, [], x.wd, x.q, x.st, x.fa, x.tk, ⟨x.vk, x.vn, x.vs, []⟩⟩
theorem rd50 {xs : List GN} {j : Nat} {x : GN} (h : xs[j]? = some x) : rd_T50 (xs.map ofGN) (j : Int) = ofGN x := by
  simp [rd_T50, List.getD, h]
theorem wide_ev (c : Cfg) (l : List Item) (hl : l.length ≤ 1000) : Ev (fun k => foremanref20_wide.f k c.quota c.depth c.width c.retry c.flows (l.map toS)) (wideN c l) := by
  have last : ∀ d j : Nat, j + d = l.length → Ev (fun k => foremanref20_wide.l0 k (l.map toS) (j : Int) c.quota c.depth c.width c.retry c.flows) ((l.drop j).any (fun x => isMapN x && decide (c.width < x.wd)) || decide (c.width < l.length)) := by
    intro d
    induction d with
    | zero =>
      intro j hj
      refine Ev.step (fun k => by rw [foremanref20_wide.l0]) ?_
      refine ev_neg (by simp; omega) (ev_now ?_)
      rw [drop_end (by omega)]
      simp
    | succ d ih =>
      intro j hj
      obtain ⟨x, hj2⟩ := getElem?_of_lt (xs := l) (k := j) (by omega)
      rw [drop_cons hj2, List.any_cons]
      refine Ev.step (fun k => by rw [foremanref20_wide.l0]) ?_
      refine ev_pos (by simp; omega) (ev_pos (by omega) ?_)
      rw [rd27 hj2, w1 (by omega)]
      refine ev_ite (fun h => ?_) (fun h => ?_)
      · have hk : x.k = 1 := h
        refine ev_ite (fun h' => ev_now ?_) (fun h' => ev_eq (ih (j + 1) (by omega)) ?_)
        · have h2 : c.width < x.wd := h'
          simp [isMapN, hk, h2]
        · have h2 : ¬ c.width < x.wd := h'
          simp [isMapN, hk, h2]
      · have hk : (x.k == 1) = false := beq_eq_false_iff_ne.2 h
        refine ev_eq (ih (j + 1) (by omega)) ?_
        simp [isMapN, hk]
  refine ev_eq (last l.length 0 (by omega)) ?_
  simp only [List.drop_zero, wideN]
  rw [Bool.or_comm]
theorem nm_eq (a b : ByteArray) : (a.toList = b.toList) ↔ a = b := ba_inj a b
/-- is a name of the first ones that of the next one? -/
theorem twiceF_iff : ∀ (l : List Item) (seen : List ByteArray), twiceF seen l = true ↔ (∃ (j : Nat) (x : Item), l[j]? = some x ∧ (x.nm ∈ seen ∨ ∃ (i : Nat) (y : Item), i < j ∧ l[i]? = some y ∧ y.nm = x.nm)) := by
  intro l
  induction l with
  | nil => intro seen; simp [twiceF]
  | cons z r ih =>
    intro seen
    unfold twiceF
    rw [Bool.or_eq_true, ih]
    constructor
    · rintro (h | ⟨j, x, hj, h | ⟨i, y, hi, hy, he⟩⟩)
      · refine ⟨0, z, rfl, .inl ?_⟩
        simpa using h
      · rcases List.mem_cons.1 h with h | h
        · exact ⟨j + 1, x, hj, .inr ⟨0, z, by omega, rfl, h.symm⟩⟩
        · exact ⟨j + 1, x, hj, .inl h⟩
      · exact ⟨j + 1, x, hj, .inr ⟨i + 1, y, by omega, hy, he⟩⟩
    · rintro ⟨j, x, hj, h⟩
      cases j with
      | zero =>
        simp only [List.getElem?_cons_zero, Option.some.injEq] at hj
        subst hj
        rcases h with h | ⟨i, y, hi, _, _⟩
        · left; simpa using h
        · omega
      | succ j =>
        right
        refine ⟨j, x, hj, ?_⟩
        rcases h with h | ⟨i, y, hi, hy, he⟩
        · exact .inl (List.mem_cons_of_mem _ h)
        · cases i with
          | zero =>
            simp only [List.getElem?_cons_zero, Option.some.injEq] at hy
            subst hy
            exact .inl (by rw [← he]; simp)
          | succ i => exact .inr ⟨i, y, by omega, hy, he⟩
theorem twice_ev (l : List Item) (hl : l.length ≤ 1000) : Ev (fun k => foremanref20_twice.f k (l.map toS)) (twiceN l) := by
  have yes : ∀ (i j : Nat) (x y : Item), i < j → l[j]? = some x → l[i]? = some y → y.nm = x.nm → twiceN l = true := fun i j x y h1 h2 h3 h4 => (twiceF_iff l []).2 ⟨j, x, h2, .inr ⟨i, y, h1, h3, h4⟩⟩
  have last : ∀ d j : Nat, j + d = l.length → (∀ (i j' : Nat) (x y : Item), j' < j → i < j' → l[j']? = some x → l[i]? = some y → y.nm ≠ x.nm) → Ev (fun k => foremanref20_twice.l0 k (l.map toS) (j : Int)) (twiceN l) := by
    intro d
    induction d with
    | zero =>
      intro j hj hno
      refine Ev.step (fun k => by rw [foremanref20_twice.l0]) ?_
      refine ev_neg (by simp; omega) (ev_now ?_)
      cases h : twiceN l with
      | false => rfl
      | true =>
        obtain ⟨j', x, h1, h2⟩ := (twiceF_iff l []).1 h
        rcases h2 with h2 | ⟨i, y, h3, h4, h5⟩
        · simp at h2
        · exact absurd h5 (hno i j' x y (by have := (List.getElem?_eq_some_iff.1 h1).1; omega) h3 h1 h4)
    | succ d ih =>
      intro j hj hno
      obtain ⟨x, hj2⟩ := getElem?_of_lt (xs := l) (k := j) (by omega)
      refine Ev.step (fun k => by rw [foremanref20_twice.l0]) ?_
      refine ev_pos (by simp; omega) ?_
      have inner : ∀ e i : Nat, i + e = j → (∀ (i' : Nat) (y : Item), i' < i → l[i']? = some y → y.nm ≠ x.nm) → Ev (fun k => foremanref20_twice.l1 k (l.map toS) (j : Int) (i : Int)) (twiceN l) := by
        intro e
        induction e with
        | zero =>
          intro i hi hni
          refine Ev.step (fun k => by rw [foremanref20_twice.l1]) ?_
          refine ev_neg (by omega) ?_
          rw [w1 (by omega)]
          refine ih (j + 1) (by omega) (fun i' j' x' y h1 h2 h3 h4 => ?_)
          rcases Nat.lt_or_ge j' j with h | h
          · exact hno i' j' x' y h h2 h3 h4
          · obtain rfl : j' = j := by omega
            rw [hj2] at h3; cases h3
            exact hni i' y (by omega) h4
        | succ e ihe =>
          intro i hi hni
          obtain ⟨y, hy⟩ := getElem?_of_lt (xs := l) (k := i) (by omega)
          refine Ev.step (fun k => by rw [foremanref20_twice.l1]) ?_
          refine ev_pos (by omega) (ev_pos (by omega) (ev_pos (by simp; omega) (ev_pos (by omega) (ev_pos (by simp; omega) ?_))))
          rw [rd27 hj2, rd27 hy, w1 (by omega)]
          refine ev_ite (fun h => ev_now ?_) (fun h => ?_)
          · exact (yes i j x y (by omega) hj2 hy ((nm_eq _ _).1 h).symm).symm
          · refine ihe (i + 1) (by omega) (fun i' y' h1 h2 h3 => ?_)
            rcases Nat.lt_or_ge i' i with h4 | h4
            · exact hni i' y' h4 h2 h3
            · obtain rfl : i' = i := by omega
              rw [hy] at h2; cases h2
              exact h ((nm_eq _ _).2 h3.symm)
      exact inner j 0 (by omega) (fun i' y h => by omega)
  exact last l.length 0 (by omega) (fun i j' x y h => by omega)
theorem chain_ev (xs : List GN) (hr : RightN xs) (hl : xs.length ≤ 1000) : ∀ (i : Nat), i < xs.length → Ev (fun k => foremanref16_Chain.f k (xs.map ofGN) (i : Int)) (chain xs i) := by
  intro i
  induction i using Nat.strongRecOn with
  | _ i ih =>
    intro hi
    obtain ⟨x, hx⟩ := getElem?_of_lt (xs := xs) (k := i) hi
    have h := hr i x hx
    rw [chain_eq hr hx]
    refine Ev.step (fun k => by rw [foremanref16_Chain.f]) ?_
    refine ev_neg (by omega) (ev_neg (by simp; omega) (ev_pos (by omega) (ev_pos (by simp; omega) ?_)))
    rw [rd50 hx]
    refine ev_ite (fun h0 => ev_now ?_) (fun h0 => ?_)
    · have h1 : x.ow < 0 := h0
      rw [if_neg (by omega)]
    · have h1 : ¬ x.ow < 0 := h0
      rw [if_pos (by omega)]
      refine Ev.bind (g := fun _ => some [(ofGN x).f4]) (Ev.now _) ?_
      have hc := ih x.ow.toNat (by omega) (by omega)
      rw [show ((x.ow.toNat : Nat) : Int) = x.ow by omega] at hc
      refine Ev.bind hc ?_
      have hcl := chain_len hr x.ow.toNat
      refine ev_pos (by simp only [List.length_cons, List.length_nil]; omega) (ev_now ?_)
      rfl
theorem deep_ev (xs : List GN) (hr : RightN xs) (hl : xs.length ≤ 1000) (i : Int) (h1 : -1 ≤ i) : Ev (fun k => foremanref16_Deep.f k (xs.map ofGN) i) (deepN xs i) := by
  refine ev_ite (fun h => ev_now ?_) (fun h => ev_ite (fun h' => ev_now ?_) (fun h' => ?_))
  · unfold deepN; rw [if_neg (by omega)]
  · simp only [List.length_map] at h'
    unfold deepN; rw [if_neg (by omega)]
  · simp only [List.length_map] at h'
    obtain ⟨n, rfl⟩ := Int.eq_ofNat_of_zero_le (show 0 ≤ i by omega)
    refine Ev.bind (chain_ev xs hr hl n (by omega)) (ev_now ?_)
    have := chain_len hr n
    unfold deepN
    rw [if_pos (by omega), w_id (by omega) (by omega), Int.toNat_natCast]
    omega
theorem deepB_ev (c : Cfg) (xs : List GN) (hr : RightN xs) (hl : xs.length ≤ 1000) (i : Int) (h1 : -1 ≤ i) (l : List Item) (hll : l.length ≤ 1000) : Ev (fun k => foremanref20_deep.f k c.quota c.depth c.width c.retry c.flows (xs.map ofGN) i (l.map toS)) (deepB c xs i l) := by
  have hdb : 0 ≤ deepN xs i ∧ deepN xs i ≤ 2000 := by
    unfold deepN
    split
    · have := chain_len hr i.toNat; omega
    · omega
  have last : ∀ d j : Nat, j + d = l.length → Ev (fun k => foremanref20_deep.l0 k (l.map toS) (deepN xs i + 1) (j : Int) c.quota c.depth c.width c.retry c.flows) ((decide (j < l.length) && decide (c.depth < deepN xs i + 1)) || ((l.drop j).any isMapN && decide (c.depth ≤ deepN xs i + 1))) := by
    intro d
    induction d with
    | zero =>
      intro j hj
      refine Ev.step (fun k => by rw [foremanref20_deep.l0]) ?_
      refine ev_neg (by simp; omega) (ev_now ?_)
      rw [drop_end (by omega)]
      simp; omega
    | succ d ih =>
      intro j hj
      obtain ⟨x, hj2⟩ := getElem?_of_lt (xs := l) (k := j) (by omega)
      rw [drop_cons hj2, List.any_cons]
      refine Ev.step (fun k => by rw [foremanref20_deep.l0]) ?_
      refine ev_pos (by simp; omega) (ev_ite (fun h => ev_now ?_) (fun h => ev_pos (by omega) ?_))
      · have h2 : c.depth < deepN xs i + 1 := h
        simp [h2]; left; omega
      · have h2 : ¬ c.depth < deepN xs i + 1 := h
        rw [rd27 hj2, w1 (by omega)]
        have hn := ih (j + 1) (by omega)
        rw [decide_eq_false h2, Bool.and_false, Bool.false_or] at hn ⊢
        refine ev_ite (fun h3 => ?_) (fun h3 => ?_)
        · have hk : x.k = 1 := h3
          rw [w_id (by omega) (by omega)]
          refine ev_ite (fun h4 => ev_now ?_) (fun h4 => ev_eq hn ?_)
          · simp [isMapN, hk]; omega
          · have : ¬ c.depth ≤ deepN xs i + 1 := by omega
            simp [this]
        · have hk : (x.k == 1) = false := beq_eq_false_iff_ne.2 h3
          refine ev_eq hn ?_
          simp [isMapN, hk]
  have fin := last l.length 0 (by omega)
  have e : ((decide (0 < l.length) && decide (c.depth < deepN xs i + 1)) || ((l.drop 0).any isMapN && decide (c.depth ≤ deepN xs i + 1))) = deepB c xs i l := by simp [deepB]
  rw [e] at fin
  have jj : ∀ d : Int, d = deepN xs i + 1 → Ev (fun k => foremanref20_deep.j0 k (l.map toS) d c.quota c.depth c.width c.retry c.flows) (deepB c xs i l) := fun d hd => by
    subst hd
    exact Ev.step (fun k => by rw [foremanref20_deep.j0]; rfl) fin
  refine ev_ite (fun h => ?_) (fun h => jj 1 ?_)
  · refine Ev.bind (deep_ev xs hr hl i h1) ?_
    rw [w_id (by omega) (by omega)]
    exact jj _ rfl
  · unfold deepN; rw [if_neg (by omega)]; rfl
/-- the places of a scope -/
def ownJ (fl ow : Int) : Nat → List GN → List Int
  | _, [] => []
  | j, x :: r => if x.fl = fl ∧ x.ow = ow then (j : Int) :: ownJ fl ow (j + 1) r else ownJ fl ow (j + 1) r
theorem ownJ_len (fl ow : Int) : ∀ (l : List GN) (j : Nat), (ownJ fl ow j l).length ≤ l.length := by
  intro l
  induction l with
  | nil => intro j; simp [ownJ]
  | cons x r ih =>
    intro j
    have := ih (j + 1)
    unfold ownJ
    split <;> simp only [List.length_cons] <;> omega
theorem ownJ_mem (fl ow : Int) : ∀ (l : List GN) (j : Nat), ∀ o ∈ ownJ fl ow j l, (j : Int) ≤ o ∧ o < j + l.length := by
  intro l
  induction l with
  | nil => intro j o h; simp [ownJ] at h
  | cons x r ih =>
    intro j o h
    have := ih (j + 1) o
    simp only [List.length_cons]
    unfold ownJ at h
    split at h
    · rcases List.mem_cons.1 h with rfl | h
      · omega
      · have := this h; omega
    · have := this h; omega
theorem own_ev (xs : List GN) (hl : xs.length ≤ 1000) (fl ow : Int) : Ev (fun k => foremanref16_Own.f k (xs.map ofGN) fl ow) (ownJ fl ow 0 xs) := by
  have last : ∀ d j : Nat, ∀ acc : List Int, j + d = xs.length → acc.length ≤ j → Ev (fun k => foremanref16_Own.l0 k (xs.map ofGN) fl ow acc (j : Int)) (acc ++ ownJ fl ow j (xs.drop j)) := by
    intro d
    induction d with
    | zero =>
      intro j acc hj ha
      refine Ev.step (fun k => by rw [foremanref16_Own.l0]) ?_
      refine ev_neg (by simp; omega) (ev_now ?_)
      rw [drop_end (by omega)]
      simp [ownJ]
    | succ d ih =>
      intro j acc hj ha
      obtain ⟨x, hx⟩ := getElem?_of_lt (xs := xs) (k := j) (by omega)
      rw [drop_cons hx]
      unfold ownJ
      refine Ev.step (fun k => by rw [foremanref16_Own.l0]) ?_
      refine ev_pos (by simp; omega) (ev_pos (by omega) ?_)
      rw [rd50 hx, w1 (by omega)]
      refine ev_ite (fun h => ev_ite (fun h' => ev_pos (by omega) ?_) (fun h' => ?_)) (fun h => ?_)
      · rw [if_pos ⟨h, h'⟩]
        refine ev_eq (ih (j + 1) (acc ++ [(j : Int)]) (by omega) (by simp; omega)) ?_
        simp
      · rw [if_neg (fun hh => h' hh.2)]
        exact ih (j + 1) acc (by omega) (by omega)
      · rw [if_neg (fun hh => h hh.1)]
        exact ih (j + 1) acc (by omega) (by omega)
  exact last xs.length 0 [] (by omega) (by simp)
/-- the first of some places that has a name -/
def firstIn (xs : List GN) (nm : ByteArray) : List Int → Int
  | [] => -1
  | o :: r => if nm.size ≠ 0 ∧ (xs[o.toNat]?).map (·.nm) = some nm then o else firstIn xs nm r
theorem first_ev (xs : List GN) (hl : xs.length ≤ 1000) (nm : ByteArray) (l : List Int) (hll : l.length ≤ 1000) (hm : ∀ o ∈ l, 0 ≤ o ∧ o < xs.length) : Ev (fun k => foremanref17_first.f k (xs.map ofGN) l nm) (firstIn xs nm l) := by
  have last : ∀ d j : Nat, j + d = l.length → Ev (fun k => foremanref17_first.l0 k (xs.map ofGN) l nm (j : Int)) (firstIn xs nm (l.drop j)) := by
    intro d
    induction d with
    | zero =>
      intro j hj
      refine Ev.step (fun k => by rw [foremanref17_first.l0]) ?_
      refine ev_neg (by omega) (ev_now ?_)
      rw [drop_end (by omega)]
      rfl
    | succ d ih =>
      intro j hj
      obtain ⟨o, ho⟩ := getElem?_of_lt (xs := l) (k := j) (by omega)
      have hb := hm o (List.mem_of_getElem? ho)
      obtain ⟨x, hx⟩ := getElem?_of_lt (xs := xs) (k := o.toNat) (by omega)
      have hr : rd l (j : Int) = o := by simp [rd, List.getD, ho]
      have hx2 : rd_T50 (xs.map ofGN) o = ofGN x := by
        have := rd50 hx
        rwa [show ((o.toNat : Nat) : Int) = o by omega] at this
      rw [drop_cons ho]
      unfold firstIn
      refine Ev.step (fun k => by rw [foremanref17_first.l0]) ?_
      rw [hr, hx2, w1 (by omega), hx]
      refine ev_pos (by omega) (ev_ite (fun h => ?_) (fun h => ev_pos (by omega) (ev_pos (by omega) (ev_pos (by simp; omega) ?_))))
      · rw [ba_nil] at h
        rw [if_neg (fun hh => hh.1 h)]
        exact ih (j + 1) (by omega)
      · rw [ba_nil] at h
        refine ev_ite (fun h' => ev_now ?_) (fun h' => ?_)
        · rw [if_pos ⟨h, show some x.nm = some nm from congrArg some ((nm_eq _ _).1 h')⟩]
        · rw [if_neg (fun hh => h' ((nm_eq _ _).2 (Option.some.inj hh.2)))]
          exact ih (j + 1) (by omega)
  exact last l.length 0 (by omega)
theorem firstIn_own (xs : List GN) (fl ow : Int) (nm : ByteArray) (hn : nm.size ≠ 0) : ∀ (l : List GN) (j : Nat), xs.drop j = l → firstIn xs nm (ownJ fl ow j l) = match l.findIdx? (fun x => decide (x.fl = fl) && decide (x.ow = ow) && decide (x.nm = nm)) with | some k => (j : Int) + k | none => -1 := by
  intro l
  induction l with
  | nil => intro j hj; rfl
  | cons x r ih =>
    intro j hj
    have hx : xs[j]? = some x := by
      have : (xs.drop j)[0]? = some x := by rw [hj]; rfl
      simpa using this
    have hr : xs.drop (j + 1) = r := by
      have := drop_cons hx
      rw [hj] at this
      exact (List.cons.inj this).2.symm
    have h := ih (j + 1) hr
    unfold ownJ
    rw [List.findIdx?_cons]
    by_cases h1 : x.fl = fl ∧ x.ow = ow
    · rw [if_pos h1, decide_eq_true h1.1, decide_eq_true h1.2]
      unfold firstIn
      rw [Int.toNat_natCast, hx]
      by_cases h2 : x.nm = nm
      · rw [if_pos ⟨hn, by simp [h2]⟩, decide_eq_true h2]
        simp
      · rw [if_neg (fun hh => h2 (by simpa using hh.2)), decide_eq_false h2, h]
        simp only [Bool.and_false, Bool.false_eq_true, if_false]
        cases List.findIdx? (fun x : GN => decide (x.fl = fl) && decide (x.ow = ow) && decide (x.nm = nm)) r with
        | none => rfl
        | some k => show ((j + 1 : Nat) : Int) + (k : Int) = (j : Int) + ((k + 1 : Nat) : Int); omega
    · rw [if_neg h1, h]
      have : (decide (x.fl = fl) && decide (x.ow = ow) && decide (x.nm = nm)) = false := by
        simp; intro h2 h3; exact absurd ⟨h2, h3⟩ h1
      rw [this]
      simp only [Bool.false_eq_true, if_false]
      cases List.findIdx? (fun x : GN => decide (x.fl = fl) && decide (x.ow = ow) && decide (x.nm = nm)) r with
      | none => rfl
      | some k => show ((j + 1 : Nat) : Int) + (k : Int) = (j : Int) + ((k + 1 : Nat) : Int); omega
theorem firstIn_nil (xs : List GN) (nm : ByteArray) (hn : nm.size = 0) : ∀ l, firstIn xs nm l = -1 := by
  intro l
  induction l with
  | nil => rfl
  | cons o r ih => unfold firstIn; rw [if_neg (fun h => h.1 hn)]; exact ih
theorem firstIn_first (xs : List GN) (fl ow : Int) (nm : ByteArray) : firstIn xs nm (ownJ fl ow 0 xs) = match firstOf xs fl ow nm with | some k => (k : Int) | none => -1 := by
  unfold firstOf
  by_cases hn : nm.size = 0
  · rw [if_pos hn, firstIn_nil xs nm hn]
  · rw [if_neg hn, firstIn_own xs fl ow nm hn xs 0 rfl]
    cases List.findIdx? (fun x : GN => decide (x.fl = fl) && decide (x.ow = ow) && decide (x.nm = nm)) xs with
    | none => rfl
    | some k => simp
theorem seen_ev (xs : List GN) (hr : RightN xs) (hl : xs.length ≤ 1000) (nm : ByteArray) : ∀ (i : Nat), i < xs.length → Ev (fun k => foremanref17_Seen.f k (xs.map ofGN) (i : Int) nm) (seenN xs i nm) := by
  intro i
  induction i using Nat.strongRecOn with
  | _ i ih =>
    intro hi
    obtain ⟨x, hx⟩ := getElem?_of_lt (xs := xs) (k := i) hi
    have h := hr i x hx
    refine Ev.step (fun k => by rw [foremanref17_Seen.f]) ?_
    refine ev_neg (by omega) ?_
    rw [decide_eq_false (show ¬ (i : Int) ≥ ((xs.map ofGN).length : Int) by simp; omega)]
    refine Ev.step (fun k => by rw [foremanref17_Seen.j0]) ?_
    refine ev_neg (by simp) ?_
    have hscope : Ev (fun k => foremanref17_Scope.f k (xs.map ofGN) (i : Int)) (ownJ x.fl x.ow 0 xs) := by
      refine ev_neg (by omega) (ev_neg (by simp; omega) (ev_pos (by omega) (ev_pos (by simp; omega) ?_)))
      rw [rd50 hx]
      exact Ev.bind (own_ev xs hl x.fl x.ow) (Ev.now _)
    refine Ev.bind hscope ?_
    have hfirst := first_ev xs hl nm (ownJ x.fl x.ow 0 xs) (Nat.le_trans (ownJ_len _ _ _ _) hl) (fun o ho => by have := ownJ_mem _ _ _ _ o ho; omega)
    refine Ev.bind hfirst ?_
    rw [firstIn_first]
    have hc := chain_eq hr hx
    have hs : seenN xs i nm = match firstOf xs x.fl x.ow nm with | some k => (k : Int) | none => if 0 ≤ x.ow then seenN xs x.ow nm else -1 := by
      unfold seenN
      rw [if_pos (by omega), Int.toNat_natCast, hx]
      dsimp only
      rw [hc]
      by_cases h0 : 0 ≤ x.ow
      · rw [if_pos h0, if_pos h0, List.cons_append]
        conv => lhs; unfold seenL
        obtain ⟨y, hy⟩ := getElem?_of_lt (xs := xs) (k := x.ow.toNat) (by omega)
        rw [hy, if_pos h0]
        dsimp only
        rw [h.2.2 h0 y hy]
        all_goals (cases firstOf xs x.fl x.ow nm <;> rfl)
      · rw [if_neg h0, if_neg h0, List.nil_append, show x.ow = -1 by omega]
        unfold seenL
        cases firstOf xs x.fl (-1) nm <;> rfl
    rw [hs]
    cases hf : firstOf xs x.fl x.ow nm with
    | some k =>
      dsimp only
      exact ev_pos (Int.natCast_nonneg k) (Ev.now _)
    | none =>
      dsimp only
      refine ev_neg (by omega) (ev_pos (by omega) (ev_pos (by simp; omega) ?_))
      rw [rd50 hx]
      refine ev_ite (fun h0 => ev_now ?_) (fun h0 => ?_)
      · have h1 : x.ow < 0 := h0
        rw [if_neg (by omega)]
      · have h1 : ¬ x.ow < 0 := h0
        rw [if_pos (by omega)]
        have hc := ih x.ow.toNat (by omega) (by omega)
        rw [show ((x.ow.toNat : Nat) : Int) = x.ow by omega] at hc
        exact Ev.bind hc (Ev.now _)
theorem refs_ev (xs : List GN) (hr : RightN xs) (hl : xs.length ≤ 1000) (i : Int) (h1 : -1 ≤ i) (h2 : i < xs.length) (l : List Item) (hll : l.length ≤ 1000) (nm : ByteArray) : Ev (fun k => foremanref20_Refs.f k (xs.map ofGN) i (l.map toS) nm) (refsN xs i l nm) := by
  have last : ∀ d j : Nat, j + d = l.length → (∀ y ∈ l.take j, y.nm ≠ nm ∨ nm.size = 0) → Ev (fun k => foremanref20_Refs.l0 k (xs.map ofGN) i (l.map toS) nm (j : Int)) (refsN xs i l nm) := by
    intro d
    induction d with
    | zero =>
      intro j hj hno
      rw [List.take_of_length_le (by omega)] at hno
      refine Ev.step (fun k => by rw [foremanref20_Refs.l0]) ?_
      refine ev_neg (by simp; omega) ?_
      have hn : ¬ (0 ≤ idx (fun x : Item => decide (x.nm = nm)) l ∧ nm.size ≠ 0) := by
        rintro ⟨h3, h4⟩
        have : idx (fun x : Item => decide (x.nm = nm)) l = -1 := idx_miss fun y hy => by
          rcases hno y hy with h | h
          · simpa using h
          · exact absurd h h4
        omega
      unfold refsN
      rw [if_neg hn]
      refine ev_ite (fun h => ev_now ?_) (fun h => ?_)
      · rw [if_neg (by omega)]
      · obtain ⟨n, rfl⟩ := Int.eq_ofNat_of_zero_le (show 0 ≤ i by omega)
        refine Ev.bind (seen_ev xs hr hl nm n (by omega)) (ev_now ?_)
        have := seenN_ge xs n nm
        split
        · rfl
        · have : seenN xs n nm = -1 := by omega
          rw [this]
    | succ d ih =>
      intro j hj hno
      obtain ⟨x, hx⟩ := getElem?_of_lt (xs := l) (k := j) (by omega)
      have hnext : (x.nm ≠ nm ∨ nm.size = 0) → Ev (fun k => foremanref20_Refs.l0 k (xs.map ofGN) i (l.map toS) nm ((j + 1 : Nat) : Int)) (refsN xs i l nm) := fun h => by
        refine ih (j + 1) (by omega) (fun y hy => ?_)
        rw [take_snoc hx] at hy
        rcases List.mem_append.1 hy with h3 | h3
        · exact hno y h3
        · obtain rfl := List.mem_singleton.1 h3; exact h
      refine Ev.step (fun k => by rw [foremanref20_Refs.l0]) ?_
      refine ev_pos (by simp; omega) (ev_pos (by omega) ?_)
      rw [rd27 hx, w1 (by omega)]
      refine ev_ite (fun h => ev_ite (fun h' => hnext (.inr ((ba_nil _).1 h'))) (fun h' => ev_now ?_)) (fun h => hnext (.inl fun e => h ((nm_eq _ _).2 e)))
      have hx1 : x.nm = nm := (nm_eq _ _).1 h
      have hs : nm.size ≠ 0 := fun e => h' ((ba_nil _).2 e)
      have hi : idx (fun x : Item => decide (x.nm = nm)) l = j := idx_hit hx (by simpa using hx1) (fun y hy => by
        rcases hno y hy with h | h
        · simpa using h
        · exact absurd h hs)
      unfold refsN
      rw [if_pos ⟨by omega, hs⟩, hi]
  exact last l.length 0 (by omega) (fun y hy => by simp at hy)
section
variable (xs : List GN) (hr : RightN xs) (hl : xs.length ≤ 1000) (i : Int) (h1 : -1 ≤ i) (h2 : i < xs.length) (l : List Item) (hll : l.length ≤ 1000)
include hr hl h1 h2 hll
theorem nobody_ev (nm : ByteArray) : Ev (fun k => foremanref20_nobody.f k (xs.map ofGN) i (l.map toS) nm) (lostN xs i l nm) := by
  refine Ev.bind (refs_ev xs hr hl i h1 h2 l hll nm) ?_
  unfold lostN
  refine ev_ite (fun h => ev_now ?_) (fun h => ev_now ?_)
  · rw [decide_eq_true h]; simp
  · rw [decide_eq_false h]; simp
theorem refers_ev (hln : ∀ x ∈ l, x.names.length ≤ 1000) : Ev (fun k => foremanref20_refs.f k (xs.map ofGN) i (l.map toS)) (refersN xs i l) := by
  have last : ∀ d j : Nat, j + d = l.length → Ev (fun k => foremanref20_refs.l0 k (xs.map ofGN) i (l.map toS) (j : Int)) ((l.drop j).any (fun x => x.names.any (lostN xs i l) || (isMapN x && lostN xs i l x.ov))) := by
    intro d
    induction d with
    | zero =>
      intro j hj
      refine Ev.step (fun k => by rw [foremanref20_refs.l0]) ?_
      refine ev_neg (by simp; omega) (ev_now ?_)
      rw [drop_end (by omega)]
      rfl
    | succ d ih =>
      intro j hj
      obtain ⟨x, hx⟩ := getElem?_of_lt (xs := l) (k := j) (by omega)
      have hxn := hln x (List.mem_of_getElem? hx)
      rw [drop_cons hx, List.any_cons]
      refine Ev.step (fun k => by rw [foremanref20_refs.l0]) ?_
      refine ev_pos (by simp; omega) (ev_pos (by omega) ?_)
      rw [rd27 hx]
      have inner : ∀ e v : Nat, v + e = x.names.length → Ev (fun k => foremanref20_refs.l1 k (xs.map ofGN) i (l.map toS) (j : Int) (v : Int) x.nm x.k x.names x.ov x.wd x.q) (((x.names.drop v).any (lostN xs i l) || (isMapN x && lostN xs i l x.ov)) || (l.drop (j + 1)).any (fun x => x.names.any (lostN xs i l) || (isMapN x && lostN xs i l x.ov))) := by
        intro e
        induction e with
        | zero =>
          intro v hv
          refine Ev.step (fun k => by rw [foremanref20_refs.l1]) ?_
          refine ev_neg (by omega) ?_
          rw [drop_end (by omega), w1 (by omega), List.any_nil, Bool.false_or]
          refine ev_ite (fun h => ?_) (fun h => ?_)
          · have hk : isMapN x = true := by simp [isMapN, h]
            refine Ev.bind (nobody_ev xs hr hl i h1 h2 l hll x.ov) ?_
            rw [hk, Bool.true_and]
            refine ev_ite (fun h' => ev_now ?_) (fun h' => ?_)
            · simp [h']
            · rw [Bool.not_eq_true] at h'
              rw [h', Bool.false_or]
              exact ih (j + 1) (by omega)
          · have hk : isMapN x = false := beq_eq_false_iff_ne.2 h
            rw [hk, Bool.false_and, Bool.false_or]
            exact ih (j + 1) (by omega)
        | succ e ihe =>
          intro v hv
          obtain ⟨s, hs⟩ := getElem?_of_lt (xs := x.names) (k := v) (by omega)
          rw [drop_cons hs, List.any_cons]
          refine Ev.step (fun k => by rw [foremanref20_refs.l1]) ?_
          refine ev_pos (by omega) (ev_pos (by omega) ?_)
          rw [rdS hs, w1 (by omega)]
          refine Ev.bind (nobody_ev xs hr hl i h1 h2 l hll s) ?_
          refine ev_ite (fun h' => ev_now ?_) (fun h' => ?_)
          · simp [h']
          · rw [Bool.not_eq_true] at h'
            rw [h', Bool.false_or]
            exact ihe (v + 1) (by omega)
      exact inner x.names.length 0 (by omega)
  exact last l.length 0 (by omega)
theorem over_ev : Ev (fun k => foremanref20_over.f k (xs.map ofGN) i (l.map toS)) (overN xs i l) := by
  have last : ∀ d j : Nat, j + d = l.length → Ev (fun k => foremanref20_over.l0 k (xs.map ofGN) i (l.map toS) (j : Int)) ((l.drop j).any (overItem xs i l)) := by
    intro d
    induction d with
    | zero =>
      intro j hj
      refine Ev.step (fun k => by rw [foremanref20_over.l0]) ?_
      refine ev_neg (by simp; omega) (ev_now ?_)
      rw [drop_end (by omega)]
      rfl
    | succ d ih =>
      intro j hj
      obtain ⟨x, hx⟩ := getElem?_of_lt (xs := l) (k := j) (by omega)
      have hn := ih (j + 1) (by omega)
      rw [drop_cons hx, List.any_cons]
      refine Ev.step (fun k => by rw [foremanref20_over.l0]) ?_
      refine ev_pos (by simp; omega) (ev_pos (by omega) ?_)
      rw [rd27 hx, w1 (by omega)]
      refine ev_ite (fun h => ?_) (fun h => ?_)
      · have hk : isMapN x = true := by have h' : x.k = 1 := h; simp [isMapN, h']
        refine Ev.bind (refs_ev xs hr hl i h1 h2 l hll x.ov) ?_
        have hbd := refsN_bd xs i l x.ov
        have hoi : overItem xs i l x = (if 0 ≤ (refsN xs i l x.ov).1 then (match l[(refsN xs i l x.ov).1.toNat]? with | some y => isMapN y && decide (x.wd < y.wd) | none => false)
          else if 0 ≤ (refsN xs i l x.ov).2 then (match xs[(refsN xs i l x.ov).2.toNat]? with | some y => y.k == 1 && decide (x.wd < y.wd) | none => false) else false) := by
          unfold overItem; rw [hk, Bool.true_and]; all_goals rfl
        have hone : (0 ≤ (refsN xs i l x.ov).1 → (refsN xs i l x.ov).2 = -1) := by
          intro h0
          unfold refsN at h0 ⊢
          split
          · rfl
          · rename_i hh
            rw [if_neg hh] at h0
            split at h0 <;> (dsimp only at h0; omega)
        rw [hoi]
        generalize refsN xs i l x.ov = R at hbd hone
        obtain ⟨a, b⟩ := R
        dsimp only at hbd hone ⊢
        have stay : ∀ y0 y1 y2 y3 y4 y5, b = -1 → Ev (fun k => foremanref20_over.j1 k (xs.map ofGN) i (l.map toS) (j : Int) b false y0 y1 y2 y3 y4 y5) ((l.drop (j + 1)).any (overItem xs i l)) := fun y0 y1 y2 y3 y4 y5 hb => by
          refine Ev.step (fun k => by rw [foremanref20_over.j1]) ?_
          rw [w1 (by omega)]
          exact ev_neg (by simp) (ev_neg (by omega) hn)
        refine ev_ite (fun ha => ev_pos (by omega) (ev_pos (by simp; omega) ?_)) (fun ha => ?_)
        · obtain ⟨n, rfl⟩ := Int.eq_ofNat_of_zero_le (show 0 ≤ a by omega)
          obtain ⟨y, hy⟩ := getElem?_of_lt (xs := l) (k := n) (by omega)
          rw [rd27 hy, if_pos (by omega), Int.toNat_natCast, hy]
          dsimp only
          refine ev_ite (fun h' => ?_) (fun h' => ?_)
          · have hky : isMapN y = true := by have h'' : y.k = 1 := h'; simp [isMapN, h'']
            rw [hky, Bool.true_and]
            by_cases hw : x.wd < y.wd
            · rw [decide_eq_true (show (toS y).f4 > (toS x).f4 from hw), decide_eq_true hw]
              refine Ev.step (fun k => by rw [foremanref20_over.j1]) ?_
              exact ev_pos rfl (ev_now rfl)
            · rw [decide_eq_false (show ¬ (toS y).f4 > (toS x).f4 from hw), decide_eq_false hw, Bool.false_or]
              exact stay _ _ _ _ _ _ (hone (by omega))
          · have hky : isMapN y = false := beq_eq_false_iff_ne.2 h'
            rw [hky, Bool.false_and, Bool.false_or]
            exact stay _ _ _ _ _ _ (hone (by omega))
        · rw [if_neg (by omega)]
          refine Ev.step (fun k => by rw [foremanref20_over.j1]) ?_
          rw [w1 (by omega)]
          refine ev_neg (by simp) (ev_ite (fun hb => ev_pos (by omega) (ev_pos (by simp; omega) ?_)) (fun hb => ?_))
          · obtain ⟨n, rfl⟩ := Int.eq_ofNat_of_zero_le (show 0 ≤ b by omega)
            obtain ⟨y, hy⟩ := getElem?_of_lt (xs := xs) (k := n) (by omega)
            rw [rd50 hy, if_pos (by omega), Int.toNat_natCast, hy]
            dsimp only
            refine ev_ite (fun h' => ?_) (fun h' => ?_)
            · have hky : (y.k == 1) = true := by have h'' : y.k = 1 := h'; simp [h'']
              rw [hky, Bool.true_and]
              refine ev_ite (fun h3 => ev_now ?_) (fun h3 => ?_)
              · rw [decide_eq_true (show x.wd < y.wd from h3)]; rfl
              · rw [decide_eq_false (show ¬ x.wd < y.wd from h3), Bool.false_or]; exact hn
            · have hky : (y.k == 1) = false := beq_eq_false_iff_ne.2 h'
              rw [hky, Bool.false_and, Bool.false_or]; exact hn
          · rw [if_neg (by omega), Bool.false_or]; exact hn
      · have hk : isMapN x = false := beq_eq_false_iff_ne.2 h
        have : overItem xs i l x = false := by unfold overItem; rw [hk, Bool.false_and]
        rw [this, Bool.false_or]
        exact hn
  exact last l.length 0 (by omega)
/-- P20.3, as the document's text reckons it -/
theorem frag_ev (c : Cfg) (q : Int) (hx : ∀ x ∈ l, Light x) : Ev (fun k => foremanref20_Frag.f k c.quota c.depth c.width c.retry c.flows (xs.map ofGN) i q (l.map toS)) (fragE c xs i q l) := by
  unfold fragE
  refine Ev.bind (right_ev l hll hx) ?_
  refine ev_ite (fun hR => ?_) (fun hR => ev_now ?_)
  · rw [if_neg (by rw [hR]; simp)]
    have hf : ∀ x ∈ l, fitsB x = true := by
      simp only [rightB, Bool.and_eq_true, List.all_eq_true] at hR
      exact hR.2
    refine Ev.bind (wide_ev c l hll) (ev_ite (fun h => ev_now ?_) (fun h => ?_))
    · rw [if_pos h]
    · rw [if_neg h]
      refine Ev.bind (twice_ev l hll) (ev_ite (fun h => ev_now ?_) (fun h => ?_))
      · rw [if_pos h]
      · rw [if_neg h]
        refine Ev.bind (deepB_ev c xs hr hl i h1 l hll) (ev_ite (fun h => ev_now ?_) (fun h => ?_))
        · rw [if_pos h]
        · rw [if_neg h]
          refine Ev.bind (refers_ev xs hr hl i h1 h2 l hll (fun x hx' => Nat.le_trans (hx x hx').2.2.1 (by decide))) (ev_ite (fun h => ev_now ?_) (fun h => ?_))
          · rw [if_pos h]
          · rw [if_neg h]
            refine Ev.bind (total_ev l hll hf) (ev_ite (fun h => ev_now ?_) (fun h => ?_))
            · rw [if_pos h]
            · rw [if_neg h]
              refine Ev.bind (over_ev xs hr hl i h1 h2 l hll) (ev_ite (fun h => ev_now ?_) (fun h => ev_now ?_))
              · rw [if_pos h]
              · rw [if_neg h]
  · rw [if_pos (by simpa using hR)]
end
end Go.Proofs.YtfcdohaimdodgaaDoor
