/-
  CheckCosts: its walk.
-/
import Derived.Test.YtfcdohaimdodgaaDoorAwakeb
import Derived.Test.YtfcdohaimdodgaaDoorApp
import Derived.Deep.QuietTactic
import Derived.BigQuiet
namespace Go.Proofs.YtfcdohaimdodgaaDoor
open Go.RowKit Go.Shelf
set_option linter.unusedVariables false
attribute [local go_sem] Sem.run_pure Result.andThen_ok storeCells

def zItem : Value := .agg #[.string ⟨#[]⟩, .int .u8 0, .slice none 0 0, .string ⟨#[]⟩, .int .i64 0, .int .i64 0]
theorem infoItem : (Tryd.prog.info? 27).map (fun i => (i.zero, i.size, i.bytes)) = some (some zItem, 6, 80) := by kernel_rfl
theorem zItem_cells : zItem.cells.size = 6 := by kernel_rfl
theorem It.one (y : It) : ∀ u ∈ y.cells, u.oneCell' = true := by simp [It.cells, Value.oneCell']
theorem fits_all {xs : List It} (h : rightB (itemOf xs) = true) : ∀ x ∈ xs, fitsB x.d = true := by
  simp only [rightB, Bool.and_eq_true, List.all_eq_true] at h
  exact fun x hx => h.2 x.d (List.mem_map_of_mem hx)
theorem two_items (w : World) (x y : It) (w2 : World) (hb : Ext ((w.alloc (.cells x.cells.toArray 27)).alloc (.cells y.cells.toArray 27)) w2) : w.heap.size < w2.heap.size ∧ w.heap.size + 1 < w2.heap.size ∧
    w2.cell? ⟨w.heap.size, 0, none⟩ = some (.string x.d.nm) ∧ w2.cell? ⟨w.heap.size, 1, none⟩ = some (.int .u8 x.d.k) ∧ w2.cell? ⟨w.heap.size, 2, none⟩ = some (.slice x.af.p x.af.n x.af.c) ∧ w2.cell? ⟨w.heap.size, 3, none⟩ = some (.string x.d.ov) ∧ w2.cell? ⟨w.heap.size, 4, none⟩ = some (.int .i64 x.d.wd) ∧ w2.cell? ⟨w.heap.size, 5, none⟩ = some (.int .i64 x.d.q) ∧
    w2.cell? ⟨w.heap.size + 1, 0, none⟩ = some (.string y.d.nm) ∧ w2.cell? ⟨w.heap.size + 1, 1, none⟩ = some (.int .u8 y.d.k) ∧ w2.cell? ⟨w.heap.size + 1, 2, none⟩ = some (.slice y.af.p y.af.n y.af.c) ∧ w2.cell? ⟨w.heap.size + 1, 3, none⟩ = some (.string y.d.ov) ∧ w2.cell? ⟨w.heap.size + 1, 4, none⟩ = some (.int .i64 y.d.wd) ∧ w2.cell? ⟨w.heap.size + 1, 5, none⟩ = some (.int .i64 y.d.q) := by
  have hs := hb.size
  rw [alloc_size, alloc_size] at hs
  have key : ∀ k row, [(x.cells, 27), (y.cells, 27)][k]? = some row → k < 2 → ∀ j v, row.1[j]? = some v → w2.cell? ⟨w.heap.size + k, j, none⟩ = some v := fun k row hk h2 j v hv =>
    (hb.cell (p := ⟨w.heap.size + k, j, none⟩) (by rw [alloc_size, alloc_size]; show w.heap.size + k < _; omega)).trans (allocs_cell [(x.cells, 27), (y.cells, 27)] w k row hk j v hv)
  exact ⟨by omega, by omega, key 0 _ rfl (by omega) 0 _ rfl, key 0 _ rfl (by omega) 1 _ rfl, key 0 _ rfl (by omega) 2 _ rfl, key 0 _ rfl (by omega) 3 _ rfl, key 0 _ rfl (by omega) 4 _ rfl, key 0 _ rfl (by omega) 5 _ rfl,
    key 1 _ rfl (by omega) 0 _ rfl, key 1 _ rfl (by omega) 1 _ rfl, key 1 _ rfl (by omega) 2 _ rfl, key 1 _ rfl (by omega) 3 _ rfl, key 1 _ rfl (by omega) 4 _ rfl, key 1 _ rfl (by omega) 5 _ rfl⟩
theorem both_rows {W : World} {base : Nat} {v : Value} {xs ys : List It} {n m : Nat} (hn : n = xs.length) (hm : m = ys.length) (h : W.ownsRow base 27 6 v (n + m) (xs.flatMap It.cells ++ ys.flatMap It.cells)) :
    ∃ s : Sl, v = .slice s.p s.n s.c ∧ Hid (RowsAt 6 It.cells W s (xs ++ ys)) := by
  subst hn hm
  have := h
  rw [← List.flatMap_append, ← List.length_append] at this
  obtain ⟨s, h1, h2, _⟩ := RowsAt.of_owns It.cells_len this
  exact ⟨s, h1, hide h2⟩
theorem tot3 (W : World) (s : Sl) (l : List It) (v : Int) (hs : Hid (RowsAt 6 It.cells W s l)) (hf : Hid (∀ x ∈ l, fitsB x.d = true)) (hl : l.length ≤ 1000) (hv : Hid (totalZ (itemOf l) = v)) :
    Calls Tryd.prog 11 #[.slice s.p s.n s.c] W fun e w' => e = .returned (.int .i64 v) ∧ Ext W w' := by
  rw [← hv.out]
  exact total_any s.p s.n s.c l W hs.out hf.out hl
set_option maxHeartbeats 2000000 in
theorem costs_any (p : Option Addr) (n c : Nat) (q : Option Addr) (m k : Nat) (xs ys : List It) (w : World) (hx : ItemsAt w ⟨p, n, c⟩ xs) (hy : ItemsAt w ⟨q, m, k⟩ ys) :
    Calls Tryd.prog 3 #[.slice p n c, .slice q m k] w fun e w' => e = .returned (.bool true) ∧ Ext w w' := by
  have hnc := hx.rows.cap
  have hmk := hy.rows.cap
  dsimp only at hnc hmk
  have HX := hide hx
  have HY := hide hy
  have HAW := hide awake_any
  clear hx hy
  go_enter Tryd.func3, Tryd.ntmps3
  go_wp2_with fail
  go_quiet (fail)
  have hN : (min (n : Int) 30).toNat ≤ n ∧ (min (n : Int) 30).toNat ≤ 30 := by omega
  have hM : (min (m : Int) 30).toNat ≤ m ∧ (min (m : Int) 30).toNat ≤ 30 := by omega
  have HX2 := hide (HX.out.take _ hN.1)
  have HY2 := hide (HY.out.take _ hM.1)
  clear HX HY
  generalize hi : (min (n : Int) 30).toNat = n1 at *
  generalize hj : (min (m : Int) 30).toNat = m1 at *
  clear hi hj
  obtain ⟨hN, hN30⟩ := hN
  obtain ⟨hM, hM30⟩ := hM
  generalize xs.take n1 = xs1 at *
  generalize ys.take m1 = ys1 at *
  have hw0 : Ext w (w.drewN nq) := by
    clear HX2 HY2
    induction nq with
    | zero => exact Ext.refl w
    | succ k ih => exact Ext.drew ih
  generalize w.drewN nq = wd at *
  have HX := HX2
  have HY := HY2
  clear HX2 HY2
  dsimp only at HX HY
  have RX := hide (fun W (h : Ext w W) => right_any p n1 c xs1 W (HX.out.below h))
  have RY := hide (fun W (h : Ext w W) => right_any q m1 k ys1 W (HY.out.below h))
  generalize hrx : rightB (itemOf xs1) = rx at *
  generalize hry : rightB (itemOf ys1) = ry at *
  have hrxh := hide hrx
  have hryh := hide hry
  clear hrx hry
  go_wp2_with (first | (go_at_call 8; with_reducible refine (RX.out _ (by (repeat' (first | exact Below.refl _ _ | assumption | refine Ext.alloc ?_ _ | refine Ext.drew ?_ | refine Ext.trans ?_ (by assumption))))).mono ?_; rintro e w1 ⟨rfl, hb⟩; have hb : Ext w w1 := Ext.trans (by (repeat' (first | exact Below.refl _ _ | assumption | refine Ext.alloc ?_ _ | refine Ext.drew ?_ | refine Ext.trans ?_ (by assumption)))) hb) | (go_at_call 8; with_reducible refine (RY.out _ (by (repeat' (first | exact Below.refl _ _ | assumption | refine Ext.alloc ?_ _ | refine Ext.drew ?_ | refine Ext.trans ?_ (by assumption))))).mono ?_; rintro e w1 ⟨rfl, hb⟩; have hb : Ext w w1 := Ext.trans (by (repeat' (first | exact Below.refl _ _ | assumption | refine Ext.alloc ?_ _ | refine Ext.drew ?_ | refine Ext.trans ?_ (by assumption)))) hb) | (go_at_call 9; with_reducible refine (HAW.out _).mono ?_; rintro e w1 ⟨rfl, hb⟩; have hb : Ext w w1 := Ext.trans (by (repeat' (first | exact Below.refl _ _ | assumption | refine Ext.alloc ?_ _ | refine Ext.drew ?_ | refine Ext.trans ?_ (by assumption)))) hb))
  · go_ret
    exact ⟨rfl, hb⟩
  rotate_left
  · go_ret
    exact ⟨rfl, hb⟩
  have hrt : rx = true := by simp_all
  have hrs : ry = true := by simp_all
  have hw1 : Ext w w1 := hb
  subst hrt hrs
  have HFX := hide (fits_all hrxh.out)
  have HFY := hide (fits_all hryh.out)
  clear hrxh hryh RX RY hb hw0
  have hlx := HX.out.rows.len
  dsimp only at hlx
  have HLX := hide hlx
  clear hlx
  go_loopg [31] n1 (fun gg s31 wr => ∃ j : Nat, j ≤ n1 ∧ n1 - j ≤ gg ∧ s31 = .int .i64 j ∧ Aside (Ext w wr))
  case atStart => exact ⟨0, Nat.zero_le _, by omega, rfl, hw1⟩
  case round =>
    obtain ⟨j, hj, hg, rfl, BW⟩ := hrel
    by_cases hlt : j < n1
    · obtain ⟨x, hx⟩ := getElem?_of_lt (xs := xs1) (k := j) (by have := HLX.out; omega)
      obtain ⟨b, o, hsp, hblt, c0, c1, c2, c3, c4, c5⟩ := ItemsAt.cells' (HX.out.below BW.out).rows hx
      have hfx := HFX.out x (List.mem_of_getElem? hx)
      have hltz : (j : Int) < (n1 : Int) := by omega
      have hxd := fits_bd hfx
      have hcost := hide (fun W => cost_any x W (.inl hfx))
      obtain ⟨⟨nm, kd, names, ov, wid, q0⟩, ⟨sp, sn, sc⟩⟩ := x
      dsimp only at c0 c1 c2 c3 c4 c5 hxd
      clear hx hfx
      subst hsp
      have HQ := hide (fun W => cost_any ⟨⟨⟨#[116]⟩, 0, [], ⟨#[]⟩, 0, q0⟩, ⟨none, 0, 0⟩⟩ W (.inr ⟨⟨Int.le_refl 0, by show (0:Int) ≤ 40; omega⟩, hxd.1⟩))
      have hq0 := hxd.1
      have hwid := hxd.2.1
      obtain ⟨hq1, hq2⟩ := hq0
      obtain ⟨hwi1, hwi2⟩ := hwid
      have HQ2 : costZ ⟨⟨#[116]⟩, 0, [], ⟨#[]⟩, 0, q0⟩ = 1 + q0 := by simp [costZ]
      dsimp only at HQ
      rw [HQ2] at HQ
      clear HQ2
      have hmul1 : 0 ≤ wid * (1 + q0) := Int.mul_nonneg (by omega) (by omega)
      have hmul2 : wid * (1 + q0) ≤ 40 * (1 + q0) := Int.mul_le_mul_of_nonneg_right (by omega) (by omega)
      have hB := BW.out.size
      rcases hxd.2.2 with hkd | hkd
      · subst hkd
        have hc1 : costZ ⟨nm, 0, names, ov, wid, q0⟩ = 1 + q0 := by simp [costZ]
        dsimp only at hcost
        rw [hc1] at hcost
        clear hc1 hxd
        go_wp2_with (first | (go_at_call 10; (first | with_reducible refine (HQ.out _).mono ?_ | with_reducible refine (hcost.out _).mono ?_); rintro e w2 ⟨rfl, hb⟩; obtain ⟨hc, hf, hz⟩ := bcell hb))
        go_roundg (n1 - (j + 1))
        case measure => omega
        case rel => exact ⟨j + 1, by omega, by omega, by go_num, BW.out.trans (by (repeat' (first | exact Below.refl _ _ | assumption | refine Ext.alloc ?_ _ | refine Ext.drew ?_ | refine Ext.trans ?_ (by assumption))))⟩
      · subst hkd
        have hc1 : costZ ⟨nm, 1, names, ov, wid, q0⟩ = wid * (1 + q0) + 1 := by simp [costZ]
        dsimp only at hcost
        rw [hc1] at hcost
        clear hc1 hxd
        go_wp2_with (go_at_call 10; with_reducible refine (HQ.out _).mono ?_; rintro e w2 ⟨rfl, hb⟩; obtain ⟨dz0, dz1, d0, d1, d2, d3, d4, d5, e0, e1, e2, e3, e4, e5⟩ := two_items wr ⟨⟨nm, 1, names, ov, wid, q0⟩, ⟨sp, sn, sc⟩⟩ ⟨⟨⟨#[116]⟩, 0, [], ⟨#[]⟩, 0, q0⟩, ⟨none, 0, 0⟩⟩ w2 (by simpa only [It.cells] using hb); have hw2 : Ext wr w2 := Ext.trans (by (repeat' (first | exact Below.refl _ _ | assumption | refine Ext.alloc ?_ _ | refine Ext.drew ?_ | refine Ext.trans ?_ (by assumption)))) hb; have hw2' : Ext w w2 := BW.out.trans hw2; clear hb c0 c1 c2 c3 c4 c5; dsimp only at d0 d1 d2 d3 d4 d5 e0 e1 e2 e3 e4 e5)
        go_loopg [8, 45] wid.toNat (fun gg s8 s45 wi => ∃ v : Nat, (v : Int) ≤ wid ∧ wid.toNat - v ≤ gg ∧ s45 = .int .i64 v ∧ s8 = .int .i64 (1 + v * (1 + q0)) ∧ Aside (Ext w2 wi))
        case atStart => exact ⟨0, by omega, by omega, rfl, by simp, Ext.refl _⟩
        case round =>
          obtain ⟨v, hv, hgv, rfl, rfl, BI⟩ := hrel
          have hm1 : 0 ≤ (v : Int) * (1 + q0) := Int.mul_nonneg (by omega) (by omega)
          have hm2 : (v : Int) * (1 + q0) ≤ 40 * (1 + q0) := Int.mul_le_mul_of_nonneg_right (by omega) (by omega)
          obtain ⟨hc, hf, hz⟩ := bcell BI.out
          by_cases hvlt : (v : Int) < wid
          · have HS : Hid (1 + ((v + 1 : Nat) : Int) * (1 + q0) = 1 + (v : Int) * (1 + q0) + (1 + q0)) := by
              apply hide
              rw [Int.natCast_add, Int.add_mul]; omega
            generalize (v : Int) * (1 + q0) = V at *
            go_wp2_with (go_at_call 10; with_reducible refine (HQ.out _).mono ?_; rintro e w3 ⟨rfl, hb⟩)
            go_roundg (wid.toNat - (v + 1))
            case measure => omega
            case rel => exact ⟨v + 1, by omega, by omega, by go_num, by rw [HS.out], BI.out.trans (by (repeat' (first | exact Below.refl _ _ | assumption | refine Ext.alloc ?_ _ | refine Ext.drew ?_ | refine Ext.trans ?_ (by assumption))))⟩
          · obtain rfl : (v : Int) = wid := by omega
            go_wp2_with (go_at_call 10; with_reducible refine (hcost.out _).mono ?_; rintro e w3 ⟨rfl, hb⟩)
            go_roundg (n1 - (j + 1))
            case measure => omega
            case rel => exact ⟨j + 1, by omega, by omega, by go_num, BW.out.trans (hw2.trans (BI.out.trans hb))⟩
    · have hltz : ¬ (j : Int) < (n1 : Int) := by omega
      obtain ⟨i0, hiI, hz0, hz1, hz2⟩ := info_parts infoItem
      have ha : Ext w (wr.alloc (.cells #[] 27)) := Ext.alloc BW.out _
      have hlx : n1 = xs1.length := HLX.out
      have hly : m1 = ys1.length := HY.out.rows.len
      have hfxy : ∀ x ∈ xs1 ++ ys1, fitsB x.d = true := fun x hx => (List.mem_append.1 hx).elim (HFX.out x) (HFY.out x)
      have hbx := total_bd (l := itemOf xs1) (fun y hy => by obtain ⟨z, hz, rfl⟩ := List.mem_map.1 hy; exact HFX.out z hz)
      have hby := total_bd (l := itemOf ys1) (fun y hy => by obtain ⟨z, hz, rfl⟩ := List.mem_map.1 hy; exact HFY.out z hz)
      simp only [itemOf, List.length_map] at hbx hby
      have hbx1 : 0 ≤ totalZ (itemOf xs1) ∧ totalZ (itemOf xs1) ≤ 510000 := by simp only [itemOf]; omega
      have hby1 : 0 ≤ totalZ (itemOf ys1) ∧ totalZ (itemOf ys1) ≤ 510000 := by simp only [itemOf]; omega
      have hsum : totalZ (itemOf (xs1 ++ ys1)) = totalZ (itemOf xs1) + totalZ (itemOf ys1) := by simp only [itemOf, List.map_append, totalZ_append]
      have TX := hide (fun W (h : Ext w W) => total_any p n1 c xs1 W (HX.out.below h).rows HFX.out (by omega))
      have TY := hide (fun W (h : Ext w W) => total_any q m1 k ys1 W (HY.out.below h).rows HFY.out (by omega))
      have T0 := hide (fun W => total_any none 0 0 [] W (RowsAt.nil _ _ _) (fun x hx => by simp at hx) (by simp))
      have h0 : totalZ (itemOf []) = 0 := rfl
      rw [h0] at T0
      clear h0 hbx hby
      have HLy := hide hly
      have HFxy := hide hfxy
      have HSum := hide hsum
      clear hlx hly hfxy hsum
      obtain ⟨hbx1, hbx2⟩ := hbx1
      obtain ⟨hby1, hby2⟩ := hby1
      generalize hTX : totalZ (itemOf xs1) = tx at *
      generalize hTY : totalZ (itemOf ys1) = ty at *
      clear hTX hTY
      have hsz := BW.out.size
      have HL3 : (xs1 ++ ys1).length ≤ 1000 := by (have e1 := HLX.out; have e2 := HLy.out; rw [List.length_append]; omega)
      go_wp2_with (first | (go_at_call 9; with_reducible refine (HAW.out _).mono ?_; rintro e w1 ⟨rfl, hb⟩; have hb : Ext w w1 := Ext.trans (by (repeat' (first | exact Below.refl _ _ | assumption | refine Ext.alloc ?_ _ | refine Ext.drew ?_ | refine Ext.trans ?_ (by assumption)))) hb) | (go_at_call 11; with_reducible refine (T0.out _).mono ?_; rintro e w1 ⟨rfl, hb⟩; have hb : Ext w w1 := Ext.trans (by (repeat' (first | exact Below.refl _ _ | assumption | refine Ext.alloc ?_ _ | refine Ext.drew ?_ | refine Ext.trans ?_ (by assumption)))) hb) | (go_at_call 11; with_reducible refine (tot3 _ _ _ _ hsv HFxy HL3 HSum).mono ?_; rintro e w1 ⟨rfl, hb⟩; have hb : Ext w w1 := Ext.trans (by (repeat' (first | exact Below.refl _ _ | assumption | refine Ext.alloc ?_ _ | refine Ext.drew ?_ | refine Ext.trans ?_ (by assumption)))) hb) | (go_at_call 11; with_reducible refine (TX.out _ (by (repeat' (first | exact Below.refl _ _ | assumption | refine Ext.alloc ?_ _ | refine Ext.drew ?_ | refine Ext.trans ?_ (by assumption))))).mono ?_; rintro e w1 ⟨rfl, hb⟩; have hb : Ext w w1 := Ext.trans (by (repeat' (first | exact Below.refl _ _ | assumption | refine Ext.alloc ?_ _ | refine Ext.drew ?_ | refine Ext.trans ?_ (by assumption)))) hb) | (go_at_call 11; with_reducible refine (TY.out _ (by (repeat' (first | exact Below.refl _ _ | assumption | refine Ext.alloc ?_ _ | refine Ext.drew ?_ | refine Ext.trans ?_ (by assumption))))).mono ?_; rintro e w1 ⟨rfl, hb⟩; have hb : Ext w w1 := Ext.trans (by (repeat' (first | exact Below.refl _ _ | assumption | refine Ext.alloc ?_ _ | refine Ext.drew ?_ | refine Ext.trans ?_ (by assumption)))) hb) | (at_builtin; refine wpList_append_rows (cells := It.cells) rfl _ _ 22 rfl wr.heap.size 27 i0 zItem 6 80 Tryd.underlying22 hiI hz0 hz1 hz2 zItem_cells (by decide) _ _ _ rfl ho1 q m1 k ys1 rfl (HY.out.below he1).rows It.cells_len It.one (by unfold maxLen; omega) (by omega) hsa ?_; intro v2 wb ho2 hg2 _; have he2 : Ext w wb := ext_grown he1 ho1 hsz hg2; clear hg2; obtain ⟨sv, rfl, hsv⟩ := both_rows HLX.out HLy.out ho2; clear ho1 ho2) | (at_builtin; refine wpList_append_rows (cells := It.cells) rfl _ _ 22 rfl wr.heap.size 27 i0 zItem 6 80 Tryd.underlying22 hiI hz0 hz1 hz2 zItem_cells (by decide) _ _ _ rfl (owns_empty wr 27 6) p n1 c xs1 rfl (HX.out.below ha).rows It.cells_len It.one (by unfold maxLen; omega) (by omega) (by simp) ?_; intro v1 wa ho1 hg1 _; simp only [Nat.zero_add, List.nil_append] at ho1; have he1 : Ext w wa := ext_grown ha (owns_empty wr 27 6) hsz hg1; have hsa : wr.heap.size ≤ wa.heap.size := Nat.le_trans (by simp) hg1.size; clear hg1))
      all_goals go_ret
      all_goals exact ⟨rfl, hb⟩
end Go.Proofs.YtfcdohaimdodgaaDoor
