/-
  Forest, Named, Owned: the nodes that the layers' laws make.
-/
import Derived.Test.YtfcdohaimdodgaaDoorNode
import Derived.Test.YtfcdohaimdodgaaDoorApp
import Derived.Test.YtfcdohaimdodgaaDoorBits
import Derived.BigRegion
import Derived.Deep.QuietTactic
import Derived.BigQuiet
namespace Go.Proofs.YtfcdohaimdodgaaDoor
open Go.RowKit Go.Shelf
set_option linter.unusedVariables false

def zNode : Value := .agg #[.string ⟨#[]⟩, .string ⟨#[]⟩, .int .u8 0, .int .i64 0, .int .i64 0, .int .i64 0, .slice none 0 0, .int .i64 0, .int .i64 0, .int .u8 0, .int .i64 0, .int .i64 0, .int .u8 0, .int .i64 0, .string ⟨#[]⟩, .slice none 0 0]
theorem infoNode : (Tryd.prog.info? 50).map (fun i => (i.zero, i.size, i.bytes)) = some (some zNode, 16, 184) := by kernel_rfl
theorem zNode_cells : zNode.cells.size = 16 := by kernel_rfl
theorem GN.one (y : GN) : ∀ u ∈ y.cells, u.oneCell' = true := by simp [GN.cells, Value.oneCell']
def nF (fl ow : Int) : GN := ⟨⟨#[]⟩, ⟨#[]⟩, 0, fl, ow, 0, ⟨none, 0, 0⟩, 0, 0, 0, 0, 0, 0, 0, ⟨#[]⟩, ⟨none, 0, 0⟩⟩
theorem own_rows {W : World} {base : Nat} {v : Value} {xs : List GN} {n : Nat} (hn : n = xs.length) (h : W.ownsRow base 50 16 v n (xs.flatMap GN.cells)) :
    ∃ s : Sl, v = .slice s.p s.n s.c ∧ Hid (NodesAt W s xs) := by
  subst hn
  obtain ⟨s, h1, h2, _⟩ := RowsAt.of_owns GN.cells_len h
  exact ⟨s, h1, hide h2⟩
theorem cell_one_row (W : World) (cs : List Value) (t : TypeId) (j : Nat) (v : Value) (h : cs[j]? = some v) : (W.alloc (.cells cs.toArray t)).cell? ⟨W.heap.size, j, none⟩ = some v := by
  have hh := heap_alloc_new W (.cells cs.toArray t)
  unfold World.cell?
  rw [hh]
  simpa using h
theorem right_snoc {xs : List GN} {x : GN} (hr : RightN xs) (hx : -1 ≤ x.ow ∧ x.ow < xs.length ∧ (0 ≤ x.ow → ∀ (y : GN), xs[x.ow.toNat]? = some y → y.fl = x.fl)) : RightN (xs ++ [x]) := by
  intro k y hy
  rcases Nat.lt_or_ge k xs.length with h | h
  · rw [List.getElem?_append_left h] at hy
    obtain ⟨h1, h2, h3⟩ := hr k y hy
    refine ⟨h1, h2, fun h0 z hz => h3 h0 z ?_⟩
    rw [List.getElem?_append_left (by omega)] at hz
    exact hz
  · rw [List.getElem?_append_right h] at hy
    have hk : k = xs.length := by
      rcases Nat.lt_or_ge (k - xs.length) 1 with h2 | h2
      · omega
      · rw [List.getElem?_eq_none (by simpa using h2)] at hy; cases hy
    subst hk
    obtain rfl : x = y := by simpa using hy
    refine ⟨hx.1, hx.2.1, fun h0 z hz => hx.2.2 h0 z ?_⟩
    rw [List.getElem?_append_left (by omega)] at hz
    exact hz
theorem right_none {xs : List GN} {fl : Int} : -1 ≤ (nF fl (-1)).ow ∧ (nF fl (-1)).ow < xs.length ∧ (0 ≤ (nF fl (-1)).ow → ∀ (y : GN), xs[(nF fl (-1)).ow.toNat]? = some y → y.fl = (nF fl (-1)).fl) :=
  ⟨Int.le_refl _, by show (-1 : Int) < _; omega, fun h => absurd h (by show ¬ (0 : Int) ≤ -1; omega)⟩
theorem right_up {xs : List GN} {y : GN} {u sn : Nat} (hk : sn = xs.length) (hu : u < sn) (hy : xs[u]? = some y) : -1 ≤ (nF y.fl u).ow ∧ (nF y.fl u).ow < xs.length ∧ (0 ≤ (nF y.fl u).ow → ∀ (z : GN), xs[(nF y.fl u).ow.toNat]? = some z → z.fl = (nF y.fl u).fl) := by
  refine ⟨by show (-1 : Int) ≤ u; omega, by show (u : Int) < _; omega, fun _ z hz => ?_⟩
  have : (nF y.fl u).ow.toNat = u := by show (u : Int).toNat = u; omega
  rw [this, hy] at hz
  cases hz
  rfl
theorem nodesAt1 (W : World) (g : Nat) (hg : W.heap.size = g) (fl ow : Int) : NodesAt (W.alloc (.cells #[.string ⟨#[]⟩, .string ⟨#[]⟩, .int .u8 0, .int .i64 fl, .int .i64 ow, .int .i64 0, .slice none 0 0, .int .i64 0, .int .i64 0, .int .u8 0, .int .i64 0, .int .i64 0, .int .u8 0, .int .i64 0, .string ⟨#[]⟩, .slice none 0 0] 50)) ⟨some ⟨g, 0, none⟩, 1, 1⟩ [nF fl ow] := by
  subst hg
  refine ⟨rfl, Nat.le_refl _, by simp, fun k x hx => ⟨W.heap.size, 0, rfl, by simp, fun j v hv => ?_⟩⟩
  match k, hx with
  | 0, hx =>
    obtain rfl : nF fl ow = x := by simpa using hx
    rw [Nat.zero_mul, Nat.add_zero, Nat.zero_add]
    have := (cell_one_row W (nF fl ow).cells 50 j v hv)
    exact this
  | k + 1, hx => simp at hx
/-- no After, no list in its Value -/
def Flat (x : GN) : Prop := x.af = ⟨none, 0, 0⟩ ∧ x.vl = ⟨none, 0, 0⟩
structure RightF (xs : List GN) : Prop where
  r : RightN xs
  f : ∀ x ∈ xs, Flat x
theorem rightF_snoc {xs : List GN} {x : GN} (hr : RightF xs) (hx : -1 ≤ x.ow ∧ x.ow < xs.length ∧ (0 ≤ x.ow → ∀ (y : GN), xs[x.ow.toNat]? = some y → y.fl = x.fl)) (hf : Flat x) : RightF (xs ++ [x]) :=
  ⟨right_snoc hr.r hx, fun y hy => (List.mem_append.1 hy).elim (hr.f y) (fun h => by rw [List.mem_singleton.1 h]; exact hf)⟩
set_option maxHeartbeats 2000000 in
theorem forest_any (p : Option Addr) (n c : Nat) (ss : List Int) (w : World) (hs : RowsAt 1 intCells w ⟨p, n, c⟩ ss) (hwf : ∀ x ∈ ss, (Lit.int .i64 x).wf = true) :
    Calls Tryd.prog 52 #[.slice p n c] w fun e w' => ∃ v xs, e = .returned v ∧ w'.ownsRow w.heap.size 50 16 v xs.length (xs.flatMap GN.cells) ∧ RightF xs ∧ (xs.length ≤ 60 ∧ xs.length ≤ n) ∧ Ext w w' := by
  have hcap := hs.cap
  dsimp only at hcap
  have HS := hide hs
  have HWF := hide hwf
  clear hs hwf
  go_enter Tryd.func52, Tryd.ntmps52
  go_wp2_with (refine wpList_minN rfl _ _ _ rfl n 60 rfl rfl ?_; intro n1 hN hN60)
  have HS2 := hide (HS.out.take n1 hN)
  have HWF2 := hide (fun x hx => HWF.out x (List.mem_of_mem_take (i := n1) hx))
  have HL2 : Hid (n1 = (ss.take n1).length) := hide HS2.out.len
  generalize ss.take n1 = ts at *
  dsimp only at HS2
  clear HS HWF
  go_loopg [3, 14] n1 (fun gg s3 s14 wr => ∃ (k : Nat) (xs : List GN), k ≤ n1 ∧ n1 - k ≤ gg ∧ s14 = .int .i64 k ∧ Hid (wr.ownsRow w.heap.size 50 16 s3 k (xs.flatMap GN.cells)) ∧ Hid (RightF xs) ∧ Hid (k = xs.length) ∧ Aside (Ext w wr))
  case atStart => exact ⟨0, [], Nat.zero_le _, by omega, rfl, World.ownsRow_nil w _ _ _, ⟨fun k x h => by simp at h, fun x h => by simp at h⟩, rfl, Ext.refl _⟩
  case round =>
    obtain ⟨k, xs, hk, hg, rfl, HO, HR, HKL, BW⟩ := hrel
    obtain ⟨sv, rfl, hrow⟩ := own_rows HKL.out HO.out
    have hsn : sv.n = k := hrow.out.len.trans HKL.out.symm
    obtain ⟨sp, sn, sc⟩ := sv
    dsimp only at hsn
    subst hsn
    dsimp only at HO
    have hsz := BW.out.size
    by_cases hlt : sn < n1
    · obtain ⟨x, hx⟩ := getElem?_of_lt (xs := ts) (k := sn) (by have := HL2.out; omega)
      obtain ⟨b, o, hsp, hblt, hcell⟩ := (HS2.out.below BW.out).at_ sn x hx
      have c0 : wr.cell? ⟨b, o + sn, none⟩ = some (.int .i64 x) := by have := hcell 0 _ rfl; simpa using this
      have hltz : (sn : Int) < (n1 : Int) := by omega
      dsimp only at hsp
      clear hcell hx
      subst hsp
      obtain ⟨i0, hiI, hz0, hz1, hz2⟩ := info_parts infoNode
      have hm := and_mask x 255 (by decide)
      obtain ⟨u, hu, hub⟩ : ∃ u : Nat, (bits BinOp.and IntKind.i64 x 255).tmod ((sn : Int) + 3) = u ∧ u < sn + 3 := by
        have h1 : 0 ≤ (bits BinOp.and IntKind.i64 x 255).tmod ((sn : Int) + 3) := Int.tmod_nonneg _ hm.1
        have h2 := Int.tmod_lt_of_pos (bits BinOp.and IntKind.i64 x 255) (show (0 : Int) < (sn : Int) + 3 by omega)
        exact ⟨((bits BinOp.and IntKind.i64 x 255).tmod ((sn : Int) + 3)).toNat, by omega, by omega⟩
      clear hm
      by_cases hus : u < sn
      · obtain ⟨y, hy⟩ := getElem?_of_lt (xs := xs) (k := u) (by have := HKL.out; omega)
        obtain ⟨b2, o2, hsp2, hblt2, hcell2⟩ := hrow.out.at_ u y hy
        have c3 : wr.cell? ⟨b2, o2 + u * 16 + 3, none⟩ = some (.int .i64 y.fl) := hcell2 3 _ rfl
        have husz : (u : Int) < (sn : Int) := by omega
        dsimp only at hsp2
        clear hcell2
        have HY := hide hy
        clear hy
        subst hsp2
        go_wp2_with fail
        go_region
        have BE := BW.out
        go_wp2_with (at_builtin; refine wpList_append_rows (cells := GN.cells) rfl _ _ 34 rfl w.heap.size 50 i0 zNode 16 184 Tryd.underlying34 hiI hz0 hz1 hz2 zNode_cells (by decide) _ _ _ rfl (((HO.out.alloc _).alloc _).drew) _ 1 1 [nF _ _] rfl (RowsAt.below (nodesAt1 _ _ (by simp) _ _) (Ext.drew (Ext.refl _))) GN.cells_len GN.one (by unfold maxLen; omega) (by omega) (by simp; omega) ?_; intro v2 wb ho2 hg2 _; have he2 : Ext w wb := ext_grown (by (repeat' (first | exact Below.refl _ _ | assumption | refine Ext.alloc ?_ _ | refine Ext.drew ?_ | refine Ext.trans ?_ (by assumption)))) (((HO.out.alloc _).alloc _).drew) (Nat.le_refl _) hg2; clear hg2)
        go_roundg (n1 - (sn + 1))
        case measure => omega
        case rel => exact ⟨sn + 1, xs ++ [nF _ _], by omega, by omega, by go_num, hide (by rw [List.flatMap_append]; exact ho2), hide (rightF_snoc HR.out (right_up HKL.out hus HY.out) ⟨rfl, rfl⟩), hide (by rw [List.length_append, ← HKL.out]; rfl), he2⟩
      · have husz : ¬ (u : Int) < (sn : Int) := by omega
        have BE := BW.out
        go_wp2_with (at_builtin; refine wpList_append_rows (cells := GN.cells) rfl _ _ 34 rfl w.heap.size 50 i0 zNode 16 184 Tryd.underlying34 hiI hz0 hz1 hz2 zNode_cells (by decide) _ _ _ rfl ((HO.out.alloc _).alloc _) _ 1 1 [nF _ _] rfl (nodesAt1 _ _ (by simp) _ _) GN.cells_len GN.one (by unfold maxLen; omega) (by omega) (by simp; omega) ?_; intro v2 wb ho2 hg2 _; have he2 : Ext w wb := ext_grown (by (repeat' (first | exact Below.refl _ _ | assumption | refine Ext.alloc ?_ _ | refine Ext.drew ?_ | refine Ext.trans ?_ (by assumption)))) (((HO.out.alloc _).alloc _)) (Nat.le_refl _) hg2; clear hg2)
        go_roundg (n1 - (sn + 1))
        case measure => omega
        case rel => exact ⟨sn + 1, xs ++ [nF _ _], by omega, by omega, by go_num, hide (by rw [List.flatMap_append]; exact ho2), hide (rightF_snoc HR.out right_none ⟨rfl, rfl⟩), hide (by rw [List.length_append, ← HKL.out]; rfl), he2⟩
    · have hltz : ¬ (sn : Int) < (n1 : Int) := by omega
      go_wp2_with fail
      go_ret
      exact ⟨_, rfl, xs, by rw [← HKL.out]; exact HO.out, HR.out, by have := HKL.out; omega, BW.out⟩
end Go.Proofs.YtfcdohaimdodgaaDoor
