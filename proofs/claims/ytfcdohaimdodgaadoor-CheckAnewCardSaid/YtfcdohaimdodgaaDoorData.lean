/-
  The plain data of fragments and nodes, how they stand in memory, and what the document says of them (layers 9, 16, 17, 20). No program in sight.
-/
import Derived.Test.YtfcdohaimdodgaaDoorBase
namespace Go.Proofs.YtfcdohaimdodgaaDoor
open Go.RowKit

structure Item where
  nm : ByteArray
  k : Int
  names : List ByteArray
  ov : ByteArray
  wd : Int
  q : Int
/-- an item as it stands in memory: what it says, and the head of its After -/
structure It where
  d : Item
  af : Sl
def It.cells (x : It) : List Value := [.string x.d.nm, .int .u8 x.d.k, .slice x.af.p x.af.n x.af.c, .string x.d.ov, .int .i64 x.d.wd, .int .i64 x.d.q]
def It.enc (x : It) : Value := .agg x.cells.toArray
theorem It.cells_len (x : It) : x.cells.length = 6 := rfl
def strCells (s : ByteArray) : List Value := [.string s]
theorem strCells_len (s : ByteArray) : (strCells s).length = 1 := rfl
def intCells (n : Int) : List Value := [.int .i64 n]
theorem intCells_len (n : Int) : (intCells n).length = 1 := rfl
/-- an item's After reads as it says -/
def It.ok (w : World) (x : It) : Prop := RowsAt 1 strCells w x.af x.d.names
structure ItemsAt (w : World) (s : Sl) (xs : List It) : Prop where
  rows : RowsAt 6 It.cells w s xs
  ok : ∀ x ∈ xs, x.ok w
theorem It.ok.below {w w' : World} {x : It} (h : x.ok w) (hb : Ext w w') : x.ok w' := RowsAt.below h hb
theorem ItemsAt.below {w w' : World} {s : Sl} {xs : List It} (h : ItemsAt w s xs) (hb : Ext w w') : ItemsAt w' s xs := ⟨h.rows.below hb, fun x hx => (h.ok x hx).below hb⟩
theorem ItemsAt.take {w : World} {s : Sl} {xs : List It} (h : ItemsAt w s xs) (m : Nat) (hm : m ≤ s.n) : ItemsAt w ⟨s.p, m, s.c⟩ (xs.take m) :=
  ⟨h.rows.take m hm, fun x hx => h.ok x (List.mem_of_mem_take hx)⟩

/-- the six cells of one item -/
theorem ItemsAt.cells' {w : World} {p : Option Addr} {n c : Nat} {xs : List It} (h : RowsAt 6 It.cells w ⟨p, n, c⟩ xs) {k : Nat} {x : It} (hx : xs[k]? = some x) :
    ∃ b o, p = some ⟨b, o, none⟩ ∧ b < w.heap.size ∧ w.cell? ⟨b, o + k * 6, none⟩ = some (.string x.d.nm) ∧ w.cell? ⟨b, o + k * 6 + 1, none⟩ = some (.int .u8 x.d.k) ∧ w.cell? ⟨b, o + k * 6 + 2, none⟩ = some (.slice x.af.p x.af.n x.af.c) ∧
      w.cell? ⟨b, o + k * 6 + 3, none⟩ = some (.string x.d.ov) ∧ w.cell? ⟨b, o + k * 6 + 4, none⟩ = some (.int .i64 x.d.wd) ∧ w.cell? ⟨b, o + k * 6 + 5, none⟩ = some (.int .i64 x.d.q) := by
  obtain ⟨b, o, hp, hlt, hc⟩ := h.at_ k x hx
  exact ⟨b, o, hp, hlt, hc 0 _ rfl, hc 1 _ rfl, hc 2 _ rfl, hc 3 _ rfl, hc 4 _ rfl, hc 5 _ rfl⟩
theorem strAt {w : World} {p : Option Addr} {n c : Nat} {xs : List ByteArray} (h : RowsAt 1 strCells w ⟨p, n, c⟩ xs) {k : Nat} {x : ByteArray} (hx : xs[k]? = some x) :
    ∃ b o, p = some ⟨b, o, none⟩ ∧ b < w.heap.size ∧ w.cell? ⟨b, o + k, none⟩ = some (.string x) := by
  obtain ⟨b, o, hp, hlt, hc⟩ := h.at_ k x hx
  exact ⟨b, o, hp, hlt, by have := hc 0 _ rfl; rwa [Nat.mul_one, Nat.add_zero] at this⟩
theorem intAt {w : World} {p : Option Addr} {n c : Nat} {xs : List Int} (h : RowsAt 1 intCells w ⟨p, n, c⟩ xs) {k : Nat} {x : Int} (hx : xs[k]? = some x) :
    ∃ b o, p = some ⟨b, o, none⟩ ∧ b < w.heap.size ∧ w.cell? ⟨b, o + k, none⟩ = some (.int .i64 x) := by
  obtain ⟨b, o, hp, hlt, hc⟩ := h.at_ k x hx
  exact ⟨b, o, hp, hlt, by have := hc 0 _ rfl; rwa [Nat.mul_one, Nat.add_zero] at this⟩

/-! ### what the document says (9, 20) -/
def letter (b : UInt8) : Bool := (97 ≤ b && b ≤ 122) || (48 ≤ b && b ≤ 57) || b == 95
def nameOk (s : ByteArray) : Bool := decide (1 ≤ s.size) && decide (s.size ≤ 20) && s.data.toList.all letter
def withinB (n h : Int) : Bool := decide (0 ≤ n) && decide (n ≤ h)
def fitsB (x : Item) : Bool := nameOk x.nm && decide (x.names.length ≤ 20) && withinB x.q 400 && x.names.all nameOk && ((x.k == 0 && x.ov.size == 0 && x.wd == 0) || (x.k == 1 && nameOk x.ov && withinB x.wd 40))
def rightB (l : List Item) : Bool := decide (l.length ≤ 40) && l.all fitsB
def costZ (x : Item) : Int := if x.k = 1 then x.wd * (1 + x.q) + 1 else 1 + x.q
def totalZ (l : List Item) : Int := (l.map costZ).sum
def itemOf (l : List It) : List Item := l.map It.d

theorem fits_bd {x : Item} (h : fitsB x = true) : (0 ≤ x.q ∧ x.q ≤ 400) ∧ (0 ≤ x.wd ∧ x.wd ≤ 40) ∧ (x.k = 0 ∨ x.k = 1) := by
  simp [fitsB, withinB] at h
  omega
theorem cost_bd {x : Item} (hw : 0 ≤ x.wd ∧ x.wd ≤ 40) (hq : 0 ≤ x.q ∧ x.q ≤ 400) : 1 ≤ costZ x ∧ costZ x ≤ 17000 := by
  unfold costZ
  have h1 : 0 ≤ x.wd * (1 + x.q) := Int.mul_nonneg (by omega) (by omega)
  have h2 : x.wd * (1 + x.q) ≤ 40 * (1 + x.q) := Int.mul_le_mul_of_nonneg_right (by omega) (by omega)
  split <;> omega
theorem totalZ_append (l m : List Item) : totalZ (l ++ m) = totalZ l + totalZ m := by simp [totalZ]
theorem total_bd {l : List Item} (h : ∀ x ∈ l, fitsB x = true) : 0 ≤ totalZ l ∧ totalZ l ≤ 17000 * l.length := by
  induction l with
  | nil => simp [totalZ]
  | cons x l ih =>
    have hx := fits_bd (h x (by simp))
    have := cost_bd (x := x) ⟨hx.2.1.1, hx.2.1.2⟩ hx.1
    have := ih (fun y hy => h y (by simp [hy]))
    simp only [totalZ, List.map_cons, List.sum_cons, List.length_cons] at *
    omega
end Go.Proofs.YtfcdohaimdodgaaDoor
