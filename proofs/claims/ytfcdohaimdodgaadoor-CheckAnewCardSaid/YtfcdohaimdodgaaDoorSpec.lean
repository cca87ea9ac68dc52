/-
  What the document says of whether a fragment may be (P20.2, P20.3), as plain functions.
-/
import Derived.Test.YtfcdohaimdodgaaDoorSeen
namespace Go.Proofs.YtfcdohaimdodgaaDoor
open Go.RowKit

structure Cfg where
  quota : Int
  depth : Int
  width : Int
  retry : Int
  flows : Int
/-- P20.2 -/
def refsN (xs : List GN) (owner : Int) (items : List Item) (nm : ByteArray) : Int × Int :=
  if 0 ≤ idx (fun x : Item => decide (x.nm = nm)) items ∧ nm.size ≠ 0 then (idx (fun x : Item => decide (x.nm = nm)) items, -1)
  else if 0 ≤ owner ∧ 0 ≤ seenN xs owner nm then (-1, seenN xs owner nm) else (-1, -1)
def lostN (xs : List GN) (owner : Int) (items : List Item) (nm : ByteArray) : Bool := decide ((refsN xs owner items nm).1 < 0) && decide ((refsN xs owner items nm).2 < 0)
def isMapN (x : Item) : Bool := x.k == 1
def wideN (c : Cfg) (items : List Item) : Bool := decide (c.width < items.length) || items.any (fun x => isMapN x && decide (c.width < x.wd))
def twiceF : List ByteArray → List Item → Bool
  | _, [] => false
  | seen, x :: r => seen.any (fun s => decide (s = x.nm)) || twiceF (x.nm :: seen) r
def twiceN (items : List Item) : Bool := twiceF [] items
def deepB (c : Cfg) (xs : List GN) (owner : Int) (items : List Item) : Bool :=
  (decide (0 < items.length) && decide (c.depth < deepN xs owner + 1)) || (items.any isMapN && decide (c.depth ≤ deepN xs owner + 1))
def refersN (xs : List GN) (owner : Int) (items : List Item) : Bool := items.any (fun x => x.names.any (lostN xs owner items) || (isMapN x && lostN xs owner items x.ov))
def overItem (xs : List GN) (owner : Int) (items : List Item) (x : Item) : Bool :=
  isMapN x && (if 0 ≤ (refsN xs owner items x.ov).1 then (match items[(refsN xs owner items x.ov).1.toNat]? with | some y => isMapN y && decide (x.wd < y.wd) | none => false)
    else if 0 ≤ (refsN xs owner items x.ov).2 then (match xs[(refsN xs owner items x.ov).2.toNat]? with | some y => y.k == 1 && decide (x.wd < y.wd) | none => false) else false)
def overN (xs : List GN) (owner : Int) (items : List Item) : Bool := items.any (overItem xs owner items)
/-- P20.3 -/
def fragE (c : Cfg) (xs : List GN) (owner quota : Int) (items : List Item) : Int :=
  if rightB items = false then 2 else if wideN c items then 24 else if twiceN items then 20 else if deepB c xs owner items then 23 else if refersN xs owner items then 21
  else if quota < totalZ items then 22 else if overN xs owner items then 24 else 0

theorem idx_map {α β : Type} (f : α → β) (p : β → Bool) (l : List α) : idx p (l.map f) = idx (fun x => p (f x)) l := by
  induction l with
  | nil => rfl
  | cons x r ih => simp [idx, ih]
theorem idx_lt {α : Type} (p : α → Bool) (l : List α) : idx p l < l.length := by
  induction l with
  | nil => simp [idx]
  | cons x r ih =>
    unfold idx; dsimp only; simp only [List.length_cons]
    split
    · omega
    · split <;> omega
theorem seenL_lt (xs : List GN) (fl : Int) (nm : ByteArray) (l : List Int) : seenL xs fl nm l < xs.length := by
  induction l with
  | nil => simp [seenL]; omega
  | cons o r ih =>
    unfold seenL
    split
    · rename_i k hk
      unfold firstOf at hk
      split at hk
      · cases hk
      · have := (List.findIdx?_eq_some_iff_getElem.1 hk).1
        omega
    · exact ih
theorem seenN_lt (xs : List GN) (i : Int) (nm : ByteArray) : seenN xs i nm < xs.length := by
  unfold seenN
  split
  · split
    · exact seenL_lt _ _ _ _
    · omega
  · omega
theorem seenN_ge (xs : List GN) (i : Int) (nm : ByteArray) : -1 ≤ seenN xs i nm := by
  unfold seenN
  split
  · split
    · exact seenL_ge _ _ _ _
    · omega
  · omega
theorem refsN_bd (xs : List GN) (owner : Int) (items : List Item) (nm : ByteArray) : -1 ≤ (refsN xs owner items nm).1 ∧ (refsN xs owner items nm).1 < items.length ∧ -1 ≤ (refsN xs owner items nm).2 ∧ (refsN xs owner items nm).2 < xs.length := by
  have h1 := idx_ge (fun x : Item => decide (x.nm = nm)) items
  have h2 := idx_lt (fun x : Item => decide (x.nm = nm)) items
  have h3 := seenN_lt xs owner nm
  have h4 := seenN_ge xs owner nm
  unfold refsN
  split
  · dsimp only; omega
  · split
    · dsimp only; omega
    · dsimp only; omega
end Go.Proofs.YtfcdohaimdodgaaDoor
