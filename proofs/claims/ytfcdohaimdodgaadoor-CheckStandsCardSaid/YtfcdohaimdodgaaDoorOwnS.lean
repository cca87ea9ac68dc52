/-
  scope.Own, names.Scope: who lies in a scope.
-/
import Derived.Test.YtfcdohaimdodgaaDoorLeaf
import Derived.Test.YtfcdohaimdodgaaDoorChain
import Derived.Test.YtfcdohaimdodgaaDoorApp
import Derived.Deep.QuietTactic
import Derived.BigQuiet
namespace Go.Proofs.YtfcdohaimdodgaaDoor
open Go.RowKit Go.Shelf
set_option linter.unusedVariables false
/-- the places, below a bound, of those of one owner in one flow -/
def InOwn (xs : List GN) (fl ow : Int) (k : Nat) (l : List Int) : Prop := (∀ z : Int, z ∈ l ↔ ∃ (j : Nat) (x : GN), j < k ∧ xs[j]? = some x ∧ x.fl = fl ∧ x.ow = ow ∧ z = j) ∧ l.length ≤ k
theorem InOwn.zero (xs : List GN) (fl ow : Int) : InOwn xs fl ow 0 [] := ⟨fun z => ⟨fun h => by simp at h, fun ⟨j, x, h, _⟩ => by omega⟩, Nat.le_refl _⟩
theorem InOwn.yes {xs : List GN} {fl ow : Int} {k : Nat} {l : List Int} {x : GN} (h : InOwn xs fl ow k l) (hx : xs[k]? = some x) (h1 : x.fl = fl) (h2 : x.ow = ow) : InOwn xs fl ow (k + 1) (l ++ [(k : Int)]) := by
  refine ⟨fun z => ?_, by rw [List.length_append]; have := h.2; simp; omega⟩
  rw [List.mem_append, h.1, List.mem_singleton]
  constructor
  · rintro (⟨j, y, a, b, c⟩ | rfl)
    · exact ⟨j, y, by omega, b, c⟩
    · exact ⟨k, x, by omega, hx, h1, h2, rfl⟩
  · rintro ⟨j, y, a, b, c, d, rfl⟩
    rcases Nat.lt_or_ge j k with hj | hj
    · exact .inl ⟨j, y, hj, b, c, d, rfl⟩
    · exact .inr (by congr 1; omega)
theorem InOwn.no {xs : List GN} {fl ow : Int} {k : Nat} {l : List Int} {x : GN} (h : InOwn xs fl ow k l) (hx : xs[k]? = some x) (h1 : ¬ (x.fl = fl ∧ x.ow = ow)) : InOwn xs fl ow (k + 1) l := by
  refine ⟨fun z => ?_, by have := h.2; omega⟩
  rw [h.1]
  constructor
  · rintro ⟨j, y, a, b, c⟩
    exact ⟨j, y, by omega, b, c⟩
  · rintro ⟨j, y, a, b, c, d, rfl⟩
    rcases Nat.lt_or_ge j k with hj | hj
    · exact ⟨j, y, hj, b, c, d, rfl⟩
    · obtain rfl : j = k := by omega
      rw [hx] at b; cases b
      exact absurd ⟨c, d⟩ h1
theorem ownInts {W : World} {base : Nat} {v : Value} {xs : List Int} {n : Nat} (hn : n = xs.length) (h : W.ownsRow base 3 1 v n (xs.flatMap intCells)) : ∃ s : Sl, v = .slice s.p s.n s.c ∧ Hid (RowsAt 1 intCells W s xs) := by
  subst hn
  obtain ⟨s, h1, h2, _⟩ := RowsAt.of_owns intCells_len h
  exact ⟨s, h1, hide h2⟩
theorem ext_grown' {w a b : World} {base : Nat} {e : TypeId} {sz : Nat} {v : Value} {n : Nat} {xs : List Value} (h : Ext w a) (ho : a.ownsRow base e sz v n xs) (hb : w.heap.size ≤ base) (hg : a.grownBy b v.ownBlock) : Ext w b := ext_grown h ho hb hg
theorem intCells_one (x : Int) : ∀ u ∈ intCells x, u.oneCell' = true := by simp [intCells, Value.oneCell']
theorem intsAt1 (W : World) (g : Nat) (hg : W.heap.size = g) (x : Int) : RowsAt 1 intCells (W.alloc (.cells #[.int .i64 x] 3)) ⟨some ⟨g, 0, none⟩, 1, 1⟩ [x] := by
  subst hg
  refine ⟨rfl, Nat.le_refl _, by simp, fun k y hy => ⟨W.heap.size, 0, rfl, by simp, fun j v hv => ?_⟩⟩
  match k, hy with
  | 0, hy =>
    obtain rfl : x = y := by simpa using hy
    match j, hv with
    | 0, hv => exact (cell_new_l W _ _).1.trans hv
    | j + 1, hv => simp [intCells] at hv
  | k + 1, hy => simp at hy
set_option maxHeartbeats 2000000 in
set_option maxRecDepth 4000 in
theorem own_any (p : Option Addr) (n c : Nat) (fl ow : Int) (xs : List GN) (w : World) (hs : NodesAt w ⟨p, n, c⟩ xs) (hl : n ≤ 1000000) :
    Calls Tryd.prog 43 #[.slice p n c, .int .i64 fl, .int .i64 ow] w fun e w' => ∃ v, e = .returned v ∧ ∃ l, w'.ownsRow w.heap.size 3 1 v l.length (l.flatMap intCells) ∧ InOwn xs fl ow n l ∧ Ext w w' := by
  have HS := hide hs
  have HN : Hid (n = xs.length) := hide hs.len
  clear hs
  go_enter Tryd.func43, Tryd.ntmps43
  go_wp2
  go_loopg [7, 12] n (fun gg s7 s12 wr => ∃ (k m : Nat) (l : List Int), k ≤ n ∧ n - k ≤ gg ∧ s12 = .int .i64 k ∧ Hid (wr.ownsRow w.heap.size 3 1 s7 m (l.flatMap intCells)) ∧ Hid (InOwn xs fl ow k l) ∧ Hid (m = l.length) ∧ m ≤ k ∧ Aside (Ext w wr))
  case atStart => exact ⟨0, 0, [], Nat.zero_le _, by omega, rfl, World.ownsRow_nil w _ _ _, InOwn.zero _ _ _, rfl, Nat.le_refl _, Ext.refl _⟩
  case round =>
    obtain ⟨k, m, l, hk, hg, rfl, HO, HI, HM, hmk, BW⟩ := hrel
    obtain ⟨⟨sp, sn, sc⟩, rfl, hrow⟩ := ownInts HM.out HO.out
    clear hrow
    dsimp only at HO
    have hsz := BW.out.size
    have BE := BW.out
    by_cases hlt : k < n
    · obtain ⟨x, hx⟩ := getElem?_of_lt (xs := xs) (k := k) (by have := HN.out; omega)
      obtain ⟨b, o, hsp, hblt, c0, c1, c2, c3, c4, c5, c6, c7, c8, c9, c10, c11, c12, c13, c14, c15⟩ := nodeAt (HS.out.below BW.out) hx
      obtain ⟨i0, hiI, hz0, hz1, hz2⟩ := info_parts infoInt
      have hltz : (k : Int) < (n : Int) := by omega
      have HX := hide hx
      clear hx
      subst hsp
      by_cases h1 : x.fl = fl
      · by_cases h2 : x.ow = ow
        · have HY := hide (HI.out.yes HX.out h1 h2)
          go_wp2_with (at_builtin; refine wpList_append_rows (cells := intCells) rfl _ _ 33 rfl w.heap.size 3 i0 (.int .i64 0) 1 8 Tryd.underlying33 hiI hz0 hz1 hz2 rfl (by decide) _ _ _ rfl ((HO.out.alloc _).alloc _) _ 1 1 [(k : Int)] rfl (intsAt1 _ _ (by simp) _) intCells_len intCells_one (by unfold maxLen; omega) (by omega) (by simp; omega) ?_; intro v2 wb ho2 hg2 _; have he2 : Ext w wb := ext_grown (by (repeat' (first | exact Below.refl _ _ | assumption | refine Ext.alloc ?_ _ | refine Ext.drew ?_ | refine Ext.trans ?_ (by assumption)))) ((HO.out.alloc _).alloc _) (Nat.le_refl _) hg2; clear hg2)
          go_roundg (n - (k + 1))
          case measure => omega
          case rel => exact ⟨k + 1, m + 1, _, by omega, by omega, by go_num, hide (by rw [List.flatMap_append]; exact ho2), HY, hide (by rw [List.length_append, ← HM.out]; rfl), by omega, he2⟩
        · have HY := hide (HI.out.no HX.out (fun h => h2 h.2))
          go_wp2_with fail
          go_roundg (n - (k + 1))
          case measure => omega
          case rel => exact ⟨k + 1, m, _, by omega, by omega, by go_num, HO.out.alloc _, HY, HM, by omega, by (repeat' (first | exact Below.refl _ _ | assumption | refine Ext.alloc ?_ _ | refine Ext.drew ?_ | refine Ext.trans ?_ (by assumption)))⟩
      · have HY := hide (HI.out.no HX.out (fun h => h1 h.1))
        go_wp2_with fail
        go_roundg (n - (k + 1))
        case measure => omega
        case rel => exact ⟨k + 1, m, _, by omega, by omega, by go_num, HO.out.alloc _, HY, HM, by omega, by (repeat' (first | exact Below.refl _ _ | assumption | refine Ext.alloc ?_ _ | refine Ext.drew ?_ | refine Ext.trans ?_ (by assumption)))⟩
    · have hltz : ¬ (k : Int) < (n : Int) := by omega
      have hkn : k = n := by omega
      have HI2 : Hid (InOwn xs fl ow n l) := by rw [← hkn]; exact HI
      clear hkn
      go_wp2_with fail
      go_ret
      exact ⟨_, rfl, l, by rw [← HM.out]; exact HO.out, HI2.out, BW.out⟩
end Go.Proofs.YtfcdohaimdodgaaDoor
