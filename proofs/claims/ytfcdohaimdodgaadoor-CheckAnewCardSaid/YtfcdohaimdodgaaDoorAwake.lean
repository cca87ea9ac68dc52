/-
  awake of the layer's law: the chapter's examples.
-/
import Derived.Test.YtfcdohaimdodgaaDoorFragb
namespace Go.Proofs.YtfcdohaimdodgaaDoor
open Go.RowKit Go.Shelf
set_option linter.unusedVariables false

theorem itemsAt2 (W : World) (x y : It) (hx : x.ok W) (hy : y.ok W) : ItemsAt (W.alloc (.cells (x.cells ++ y.cells).toArray 27)) ⟨some ⟨W.heap.size, 0, none⟩, 2, 2⟩ [x, y] := by
  refine ⟨⟨rfl, Nat.le_refl _, by simp, fun k z hz => ⟨W.heap.size, 0, rfl, by simp, fun j v hv => cell_new_row _ _ _ _ _ ?_⟩⟩, fun z hz => ?_⟩
  · have hj : j < 6 := by
      rcases Nat.lt_or_ge j 6 with h | h
      · exact h
      · rw [List.getElem?_eq_none (by rw [It.cells_len]; exact h)] at hv; cases hv
    match k, hz with
    | 0, hz =>
      obtain rfl : x = z := by simpa using hz
      rw [← hv]
      simp [List.getElem?_append_left (show j < x.cells.length by rw [It.cells_len]; exact hj)]
    | 1, hz =>
      obtain rfl : y = z := by simpa using hz
      rw [← hv]
      simp only [Nat.zero_add, Nat.one_mul]
      rw [List.getElem?_toArray, List.getElem?_append_right (by rw [It.cells_len]; omega), It.cells_len]
      congr 1; omega
    | k + 2, hz => simp at hz
  · have : (x.ok (W.alloc (.cells (x.cells ++ y.cells).toArray 27))) ∧ (y.ok (W.alloc (.cells (x.cells ++ y.cells).toArray 27))) := ⟨hx.below (by (repeat' (first | exact Below.refl _ _ | assumption | refine Ext.alloc ?_ _ | refine Ext.drew ?_ | refine Ext.trans ?_ (by assumption)))), hy.below (by (repeat' (first | exact Below.refl _ _ | assumption | refine Ext.alloc ?_ _ | refine Ext.drew ?_ | refine Ext.trans ?_ (by assumption))))⟩
    rcases List.mem_cons.1 hz with rfl | hz
    · exact this.1
    · obtain rfl := List.mem_singleton.1 hz; exact this.2
theorem itemsAt1 (W : World) (x : It) (hx : x.ok W) : ItemsAt (W.alloc (.cells x.cells.toArray 27)) ⟨some ⟨W.heap.size, 0, none⟩, 1, 1⟩ [x] := by
  refine ⟨⟨rfl, Nat.le_refl _, by simp, fun k z hz => ⟨W.heap.size, 0, rfl, by simp, fun j v hv => cell_new_row _ _ _ _ _ ?_⟩⟩, fun z hz => ?_⟩
  · match k, hz with
    | 0, hz =>
      obtain rfl : x = z := by simpa using hz
      rw [← hv]; simp
    | k + 1, hz => simp at hz
  · obtain rfl := List.mem_singleton.1 hz; exact hx.below (by (repeat' (first | exact Below.refl _ _ | assumption | refine Ext.alloc ?_ _ | refine Ext.drew ?_ | refine Ext.trans ?_ (by assumption))))
theorem frag2 (c : Cfg) (x y : It) (v : Int) (W : World) (hx : x.ok W) (hy : y.ok W) (hv : fragE c [] (-1) 5 [x.d, y.d] = v) :
    Calls Tryd.prog 14 #[.agg #[.int .i64 c.quota, .int .i64 c.depth, .int .i64 c.width, .int .i64 c.retry, .int .i64 c.flows], .slice none 0 0, .int .i64 (-1), .int .i64 5, .slice (some ⟨W.heap.size, 0, none⟩) 2 2] (W.alloc (.cells (x.cells ++ y.cells).toArray 27)) fun e w' =>
      e = .returned (.int .i64 v) ∧ Ext (W.alloc (.cells (x.cells ++ y.cells).toArray 27)) w' := by
  have := frag_any ⟨c, ⟨none, 0, 0⟩, -1, 5, ⟨some ⟨W.heap.size, 0, none⟩, 2, 2⟩⟩ [] [x, y] _ ⟨RowsAt.nil _ _ _, fun k x hx => by simp at hx, by simp, itemsAt2 W x y hx hy, by simp⟩
  rw [← hv]
  exact this
def sB (b : UInt8) : ByteArray := ⟨#[b]⟩
def iA : It := ⟨⟨sB 97, 0, [], ⟨#[]⟩, 0, 0⟩, ⟨none, 0, 0⟩⟩
def iB (p : Nat) : It := ⟨⟨sB 98, 0, [sB 97], ⟨#[]⟩, 0, 0⟩, ⟨some ⟨p, 0, none⟩, 1, 1⟩⟩
def iL (p : Nat) : It := ⟨⟨sB 98, 0, [sB 99], ⟨#[]⟩, 0, 0⟩, ⟨some ⟨p, 0, none⟩, 1, 1⟩⟩
def iM : It := ⟨⟨sB 109, 1, [], sB 97, 2, 1⟩, ⟨none, 0, 0⟩⟩
def iW : It := ⟨⟨sB 109, 1, [], sB 97, 5, 1⟩, ⟨none, 0, 0⟩⟩
def cAw : Cfg := ⟨0, 3, 4, 0, 0⟩
def nZ (o : Int) : GN := ⟨⟨#[]⟩, ⟨#[]⟩, 0, 0, o, 0, ⟨none, 0, 0⟩, 0, 0, 0, 0, 0, 0, 0, ⟨#[]⟩, ⟨none, 0, 0⟩⟩
theorem aw1 : fragE cAw [] (-1) 5 [iA.d, (iB 0).d] = 0 := by decide +kernel
theorem aw2 : totalZ [iA.d, (iB 0).d] = 2 := by decide +kernel
theorem aw3 : fragE cAw [] (-1) 5 [iA.d, (iL 0).d] = 21 := by decide +kernel
theorem aw4 : fragE cAw [] (-1) 5 [iA.d, iM.d] = 22 := by decide +kernel
theorem aw5 : fragE cAw [] (-1) 5 [iA.d, iA.d] = 20 := by decide +kernel
theorem aw6 : fragE cAw [] (-1) 5 [iA.d, iW.d] = 24 := by decide +kernel
theorem aw7 : fragE cAw [nZ (-1), nZ 0, nZ 1] 2 5 [iA.d] = 23 := by decide +kernel
def allocs (w : World) : List (List Value × TypeId) → World
  | [] => w
  | r :: rs => allocs (w.alloc (.cells r.1.toArray r.2)) rs
theorem allocs_ext (rs : List (List Value × TypeId)) : ∀ w, Ext w (allocs w rs) := by
  induction rs with
  | nil => intro w; exact Ext.refl w
  | cons r rs ih => intro w; exact Ext.trans (Ext.alloc (Ext.refl w) _) (ih _)
theorem alloc_size (w : World) (o : Obj) : (w.alloc o).heap.size = w.heap.size + 1 := by simp
theorem allocs_size (rs : List (List Value × TypeId)) : ∀ w, (allocs w rs).heap.size = w.heap.size + rs.length := by
  induction rs with
  | nil => intro w; rfl
  | cons r rs ih => intro w; rw [allocs, ih, alloc_size, List.length_cons]; omega
theorem allocs_cell (rs : List (List Value × TypeId)) : ∀ w k row, rs[k]? = some row → ∀ j v, row.1[j]? = some v → (allocs w rs).cell? ⟨w.heap.size + k, j, none⟩ = some v := by
  induction rs with
  | nil => intro w k row h; simp at h
  | cons r rs ih =>
    intro w k row h j v hv
    rw [allocs]
    match k, h with
    | 0, h =>
      obtain rfl : r = row := by simpa using h
      refine ((allocs_ext rs _).cell (p := ⟨w.heap.size + 0, j, none⟩) (by rw [alloc_size]; show w.heap.size + 0 < _; omega)).trans ?_
      exact cell_new_row w _ _ _ _ (by simpa using hv)
    | k + 1, h =>
      have := ih (w.alloc (.cells r.1.toArray r.2)) k row (by simpa using h) j v hv
      rw [alloc_size, Nat.add_assoc, Nat.add_comm 1 k] at this
      exact this
def awRows (B : Nat) : List (List Value × TypeId) := [([.int .i64 0, .int .i64 3, .int .i64 4, .int .i64 0, .int .i64 0], 32), ([.string (sB 97)], 9), (iA.cells, 27), ((iB (B + 1)).cells, 27), (iM.cells, 27), (iW.cells, 27), ((iL (B + 7)).cells, 27), ([.string (sB 99)], 9),
  ((nZ (-1)).cells ++ ((nZ 0).cells ++ (nZ 1).cells), 50)]
structure Aw (w W : World) : Prop where
  ext : Ext w W
  sz : w.heap.size + 9 ≤ W.heap.size
  at_ : ∀ k row, (awRows w.heap.size)[k]? = some row → ∀ j v, row.1[j]? = some v → W.cell? ⟨w.heap.size + k, j, none⟩ = some v
theorem Aw.next {w W W' : World} (h : Aw w W) (hb : Ext W W') : Aw w W' :=
  ⟨Ext.trans h.ext hb, Nat.le_trans h.sz hb.size, fun k row hk j v hv => by
    have hk' := (List.getElem?_eq_some_iff.1 hk).1
    refine (hb.cell (p := ⟨w.heap.size + k, j, none⟩) ?_).trans (h.at_ k row hk j v hv)
    have := h.sz
    have : k < 9 := hk'
    show w.heap.size + k < _
    omega⟩
theorem aw_first (w : World) : Aw w (allocs w (awRows w.heap.size)) := ⟨allocs_ext _ _, by rw [allocs_size]; exact Nat.le_refl _, fun k row hk j v hv => allocs_cell _ _ _ _ hk _ _ hv⟩
theorem str_ok {W : World} {p : Nat} {b : UInt8} (h : W.cell? ⟨p, 0, none⟩ = some (.string (sB b))) : RowsAt 1 strCells W ⟨some ⟨p, 0, none⟩, 1, 1⟩ [sB b] :=
  ⟨rfl, Nat.le_refl _, by simp, fun k x hx => by
    match k, hx with
    | 0, hx =>
      obtain rfl : sB b = x := by simpa using hx
      refine ⟨p, 0, rfl, lt_of_cell h, fun j v hv => ?_⟩
      match j, hv with
      | 0, hv => exact h.trans hv
      | j + 1, hv => simp [strCells] at hv
    | k + 1, hx => simp at hx⟩
theorem iA_ok (W : World) : iA.ok W := RowsAt.nil _ _ _
theorem iM_ok (W : World) : iM.ok W := RowsAt.nil _ _ _
theorem iW_ok (W : World) : iW.ok W := RowsAt.nil _ _ _
theorem Aw.b {w W : World} (h : Aw w W) : (iB (w.heap.size + 1)).ok W := str_ok (h.at_ 1 _ rfl 0 _ rfl)
theorem Aw.l {w W : World} (h : Aw w W) : (iL (w.heap.size + 7)).ok W := str_ok (h.at_ 7 _ rfl 0 _ rfl)
theorem Aw.nodes {w W : World} (h : Aw w W) : NodesAt W ⟨some ⟨w.heap.size + 8, 0, none⟩, 3, 3⟩ [nZ (-1), nZ 0, nZ 1] := by
  refine ⟨rfl, Nat.le_refl _, by simp, fun k x hx => ⟨w.heap.size + 8, 0, rfl, lt_of_cell (h.at_ 8 _ rfl 0 _ rfl), fun j v hv => h.at_ 8 _ rfl _ _ ?_⟩⟩
  have hj : j < 16 := by
    rcases Nat.lt_or_ge j 16 with h | h
    · exact h
    · rw [List.getElem?_eq_none (by rw [GN.cells_len]; exact h)] at hv; cases hv
  match k, hx with
  | 0, hx =>
    obtain rfl : nZ (-1) = x := by simpa using hx
    rw [← hv, Nat.zero_mul, Nat.add_zero, Nat.zero_add, List.getElem?_append_left (by rw [GN.cells_len]; omega)]
  | 1, hx =>
    obtain rfl : nZ 0 = x := by simpa using hx
    rw [← hv, List.getElem?_append_right (by rw [GN.cells_len]; omega), GN.cells_len, List.getElem?_append_left (by rw [GN.cells_len]; omega)]
    congr 1; omega
  | 2, hx =>
    obtain rfl : nZ 1 = x := by simpa using hx
    rw [← hv, List.getElem?_append_right (by rw [GN.cells_len]; omega), GN.cells_len, List.getElem?_append_right (by rw [GN.cells_len]; omega), GN.cells_len]
    congr 1; omega
  | k + 3, hx => simp at hx
theorem nodes_right : RightN [nZ (-1), nZ 0, nZ 1] := by
  intro k x hx
  match k, hx with
  | 0, hx => obtain rfl : nZ (-1) = x := by simpa using hx
             exact ⟨by decide, by decide, fun h => absurd h (by decide)⟩
  | 1, hx => obtain rfl : nZ 0 = x := by simpa using hx
             refine ⟨by decide, by decide, fun _ y hy => ?_⟩
             obtain rfl : nZ (-1) = y := by simpa [nZ] using hy
             rfl
  | 2, hx => obtain rfl : nZ 1 = x := by simpa using hx
             refine ⟨by decide, by decide, fun _ y hy => ?_⟩
             obtain rfl : nZ 0 = y := by simpa [nZ] using hy
             rfl
  | k + 3, hx => simp at hx
theorem Aw.all {w W : World} (h : Aw w W) : W.cell? ⟨w.heap.size, 0, none⟩ = some (.int .i64 0) ∧ W.cell? ⟨w.heap.size, 1, none⟩ = some (.int .i64 3) ∧ W.cell? ⟨w.heap.size, 2, none⟩ = some (.int .i64 4) ∧ W.cell? ⟨w.heap.size, 3, none⟩ = some (.int .i64 0) ∧ W.cell? ⟨w.heap.size, 4, none⟩ = some (.int .i64 0) ∧ W.cell? ⟨w.heap.size + 1 + 1, 0, none⟩ = some (.string ⟨#[97]⟩) ∧ W.cell? ⟨w.heap.size + 1 + 1, 1, none⟩ = some (.int .u8 0) ∧ W.cell? ⟨w.heap.size + 1 + 1, 2, none⟩ = some (.slice none 0 0) ∧ W.cell? ⟨w.heap.size + 1 + 1, 3, none⟩ = some (.string ⟨#[]⟩) ∧ W.cell? ⟨w.heap.size + 1 + 1, 4, none⟩ = some (.int .i64 0) ∧ W.cell? ⟨w.heap.size + 1 + 1, 5, none⟩ = some (.int .i64 0) ∧ W.cell? ⟨w.heap.size + 1 + 1 + 1, 0, none⟩ = some (.string ⟨#[98]⟩) ∧ W.cell? ⟨w.heap.size + 1 + 1 + 1, 1, none⟩ = some (.int .u8 0) ∧ W.cell? ⟨w.heap.size + 1 + 1 + 1, 2, none⟩ = some (.slice (some ⟨w.heap.size + 1, 0, none⟩) 1 1) ∧ W.cell? ⟨w.heap.size + 1 + 1 + 1, 3, none⟩ = some (.string ⟨#[]⟩) ∧ W.cell? ⟨w.heap.size + 1 + 1 + 1, 4, none⟩ = some (.int .i64 0) ∧ W.cell? ⟨w.heap.size + 1 + 1 + 1, 5, none⟩ = some (.int .i64 0) ∧ W.cell? ⟨w.heap.size + 1 + 1 + 1 + 1, 0, none⟩ = some (.string ⟨#[109]⟩) ∧ W.cell? ⟨w.heap.size + 1 + 1 + 1 + 1, 1, none⟩ = some (.int .u8 1) ∧ W.cell? ⟨w.heap.size + 1 + 1 + 1 + 1, 2, none⟩ = some (.slice none 0 0) ∧ W.cell? ⟨w.heap.size + 1 + 1 + 1 + 1, 3, none⟩ = some (.string ⟨#[97]⟩) ∧ W.cell? ⟨w.heap.size + 1 + 1 + 1 + 1, 4, none⟩ = some (.int .i64 2) ∧ W.cell? ⟨w.heap.size + 1 + 1 + 1 + 1, 5, none⟩ = some (.int .i64 1) ∧ W.cell? ⟨w.heap.size + 1 + 1 + 1 + 1 + 1, 0, none⟩ = some (.string ⟨#[109]⟩) ∧ W.cell? ⟨w.heap.size + 1 + 1 + 1 + 1 + 1, 1, none⟩ = some (.int .u8 1) ∧ W.cell? ⟨w.heap.size + 1 + 1 + 1 + 1 + 1, 2, none⟩ = some (.slice none 0 0) ∧ W.cell? ⟨w.heap.size + 1 + 1 + 1 + 1 + 1, 3, none⟩ = some (.string ⟨#[97]⟩) ∧ W.cell? ⟨w.heap.size + 1 + 1 + 1 + 1 + 1, 4, none⟩ = some (.int .i64 5) ∧ W.cell? ⟨w.heap.size + 1 + 1 + 1 + 1 + 1, 5, none⟩ = some (.int .i64 1) ∧ W.cell? ⟨w.heap.size + 1 + 1 + 1 + 1 + 1 + 1, 0, none⟩ = some (.string ⟨#[98]⟩) ∧ W.cell? ⟨w.heap.size + 1 + 1 + 1 + 1 + 1 + 1, 1, none⟩ = some (.int .u8 0) ∧ W.cell? ⟨w.heap.size + 1 + 1 + 1 + 1 + 1 + 1, 2, none⟩ = some (.slice (some ⟨w.heap.size + 1 + 1 + 1 + 1 + 1 + 1 + 1, 0, none⟩) 1 1) ∧ W.cell? ⟨w.heap.size + 1 + 1 + 1 + 1 + 1 + 1, 3, none⟩ = some (.string ⟨#[]⟩) ∧ W.cell? ⟨w.heap.size + 1 + 1 + 1 + 1 + 1 + 1, 4, none⟩ = some (.int .i64 0) ∧ W.cell? ⟨w.heap.size + 1 + 1 + 1 + 1 + 1 + 1, 5, none⟩ = some (.int .i64 0) ∧ w.heap.size < W.heap.size ∧ w.heap.size + 1 < W.heap.size ∧ w.heap.size + 1 + 1 < W.heap.size ∧ w.heap.size + 1 + 1 + 1 < W.heap.size ∧ w.heap.size + 1 + 1 + 1 + 1 < W.heap.size ∧ w.heap.size + 1 + 1 + 1 + 1 + 1 < W.heap.size ∧ w.heap.size + 1 + 1 + 1 + 1 + 1 + 1 < W.heap.size ∧ w.heap.size + 1 + 1 + 1 + 1 + 1 + 1 + 1 < W.heap.size ∧ w.heap.size + 1 + 1 + 1 + 1 + 1 + 1 + 1 + 1 < W.heap.size :=
  ⟨h.at_ 0 _ rfl 0 _ rfl, h.at_ 0 _ rfl 1 _ rfl, h.at_ 0 _ rfl 2 _ rfl, h.at_ 0 _ rfl 3 _ rfl, h.at_ 0 _ rfl 4 _ rfl, h.at_ 2 _ rfl 0 _ rfl, h.at_ 2 _ rfl 1 _ rfl, h.at_ 2 _ rfl 2 _ rfl, h.at_ 2 _ rfl 3 _ rfl, h.at_ 2 _ rfl 4 _ rfl, h.at_ 2 _ rfl 5 _ rfl, h.at_ 3 _ rfl 0 _ rfl, h.at_ 3 _ rfl 1 _ rfl, h.at_ 3 _ rfl 2 _ rfl, h.at_ 3 _ rfl 3 _ rfl, h.at_ 3 _ rfl 4 _ rfl, h.at_ 3 _ rfl 5 _ rfl, h.at_ 4 _ rfl 0 _ rfl, h.at_ 4 _ rfl 1 _ rfl, h.at_ 4 _ rfl 2 _ rfl, h.at_ 4 _ rfl 3 _ rfl, h.at_ 4 _ rfl 4 _ rfl, h.at_ 4 _ rfl 5 _ rfl, h.at_ 5 _ rfl 0 _ rfl, h.at_ 5 _ rfl 1 _ rfl, h.at_ 5 _ rfl 2 _ rfl, h.at_ 5 _ rfl 3 _ rfl, h.at_ 5 _ rfl 4 _ rfl, h.at_ 5 _ rfl 5 _ rfl, h.at_ 6 _ rfl 0 _ rfl, h.at_ 6 _ rfl 1 _ rfl, h.at_ 6 _ rfl 2 _ rfl, h.at_ 6 _ rfl 3 _ rfl, h.at_ 6 _ rfl 4 _ rfl, h.at_ 6 _ rfl 5 _ rfl, lt_of_cell (h.at_ 0 _ rfl 0 _ rfl), lt_of_cell (h.at_ 1 _ rfl 0 _ rfl), lt_of_cell (h.at_ 2 _ rfl 0 _ rfl), lt_of_cell (h.at_ 3 _ rfl 0 _ rfl), lt_of_cell (h.at_ 4 _ rfl 0 _ rfl), lt_of_cell (h.at_ 5 _ rfl 0 _ rfl), lt_of_cell (h.at_ 6 _ rfl 0 _ rfl), lt_of_cell (h.at_ 7 _ rfl 0 _ rfl), lt_of_cell (h.at_ 8 _ rfl 0 _ rfl)⟩
theorem frag3 (w W : World) (hA : Aw w W) :
    Calls Tryd.prog 14 #[.agg #[.int .i64 0, .int .i64 3, .int .i64 4, .int .i64 0, .int .i64 0], .slice (some ⟨w.heap.size + 8, 0, none⟩) 3 3, .int .i64 2, .int .i64 5, .slice (some ⟨W.heap.size, 0, none⟩) 1 1] (W.alloc (.cells iA.cells.toArray 27)) fun e w' =>
      e = .returned (.int .i64 23) ∧ Ext (W.alloc (.cells iA.cells.toArray 27)) w' := by
  have := frag_any ⟨cAw, ⟨some ⟨w.heap.size + 8, 0, none⟩, 3, 3⟩, 2, 5, ⟨some ⟨W.heap.size, 0, none⟩, 1, 1⟩⟩ [nZ (-1), nZ 0, nZ 1] [iA] _
    ⟨(hA.nodes).below (by (repeat' (first | exact Below.refl _ _ | assumption | refine Ext.alloc ?_ _ | refine Ext.drew ?_ | refine Ext.trans ?_ (by assumption)))), nodes_right, by simp, itemsAt1 W iA (iA_ok W), by simp⟩
  have h23 : fragE cAw [nZ (-1), nZ 0, nZ 1] 2 5 (itemOf [iA]) = 23 := aw7
  rw [h23] at this
  exact this
theorem aw3' (p : Nat) : fragE cAw [] (-1) 5 [iA.d, (iL p).d] = 21 := aw3
theorem aw1' (p : Nat) : fragE cAw [] (-1) 5 [iA.d, (iB p).d] = 0 := aw1
theorem tot2 (w W : World) (hA : Aw w W) : Calls Tryd.prog 11 #[.slice (some ⟨W.heap.size, 0, none⟩) 2 2] (W.alloc (.cells (iA.cells ++ (iB (w.heap.size + 1)).cells).toArray 27)) fun e w' => e = .returned (.int .i64 2) ∧ Ext (W.alloc (.cells (iA.cells ++ (iB (w.heap.size + 1)).cells).toArray 27)) w' := by
  have := total_any (some ⟨W.heap.size, 0, none⟩) 2 2 [iA, iB (w.heap.size + 1)] _ (itemsAt2 W iA (iB (w.heap.size + 1)) (iA_ok W) hA.b).rows (by
    intro x hx
    rcases List.mem_cons.1 hx with rfl | hx
    · decide +kernel
    · obtain rfl := List.mem_singleton.1 hx
      exact (by decide +kernel : fitsB (iB 0).d = true)) (by simp)
  have h2 : totalZ (itemOf [iA, iB (w.heap.size + 1)]) = 2 := aw2
  rw [h2] at this
  exact this
theorem costM (W : World) : Calls Tryd.prog 10 #[.agg #[.string ⟨#[109]⟩, .int .u8 1, .slice none 0 0, .string ⟨#[97]⟩, .int .i64 2, .int .i64 1]] W fun e w' => e = .returned (.int .i64 5) ∧ Ext W w' := by
  have := cost_any iM W (.inl (by decide +kernel))
  have h5 : costZ iM.d = 5 := by decide +kernel
  rw [h5] at this
  exact this
end Go.Proofs.YtfcdohaimdodgaaDoor
