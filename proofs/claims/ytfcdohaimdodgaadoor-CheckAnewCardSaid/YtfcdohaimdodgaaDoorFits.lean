/-
  CheckFits: its walk.
-/
import Derived.Test.YtfcdohaimdodgaaDoorAwakeb
import Derived.Test.YtfcdohaimdodgaaDoorFitsP
import Derived.Test.YtfcdohaimdodgaaDoorFew
import Derived.Test.YtfcdohaimdodgaaDoorCosts
import Derived.Test.YtfcdohaimdodgaaDoorKeys
import Derived.Test.YtfcdohaimdodgaaDoorTwice
import Derived.IntWalk
namespace Go.Proofs.YtfcdohaimdodgaaDoor
open Go.RowKit Go.Shelf
set_option linter.unusedVariables false
theorem deepN_bd60 {xs : List GN} {i : Int} (hr : RightN xs) (hl : xs.length ≤ 60) : 0 ≤ deepN xs i ∧ deepN xs i ≤ 61 := by
  unfold deepN
  split
  · have := chain_len hr i.toNat; omega
  · omega
theorem nodes_of' {W w1 : World} {base : Nat} {sp : Option Addr} {sn sc : Nat} {xs : List GN} (ho : Hid (w1.ownsRow base 50 16 (.slice sp sn sc) sn (xs.flatMap GN.cells))) (hL : Hid (sn = xs.length)) (hb : Ext w1 W) : NodesAt W ⟨sp, sn, sc⟩ xs := by
  obtain ⟨s, hv, hrow⟩ := own_rows hL.out ho.out
  cases hv
  exact hrow.out.below hb
theorem strCells_one (x : ByteArray) : ∀ u ∈ strCells x, u.oneCell' = true := by simp [strCells, Value.oneCell']
/-- an item's own box -/
def XB (W : World) (B : Nat) (x : It) : Prop := ∀ j v, x.cells[j]? = some v → W.cell? ⟨B, j, none⟩ = some v
theorem XB.new (w : World) (x : It) : XB (w.alloc (.cells x.cells.toArray 27)) w.heap.size x := fun j v h => cell_one_row w x.cells 27 j v h
theorem XB.lt {W : World} {B : Nat} {x : It} (h : XB W B x) : B < W.heap.size := lt_of_cell (h 0 _ rfl)
theorem XB.grown {W W' : World} {B r : Nat} {x : It} (h : XB W B x) (hne : B ≠ r) (hg : W.grownBy W' (some r)) : XB W' B x := fun j v hv =>
  (World.cell?_of_block (w := W) (a := ⟨B, j, none⟩) (hg.block B h.lt (fun e => hne (by cases e; rfl)))).trans (h j v hv)
theorem XB.ext {W W' : World} {B : Nat} {x : It} (h : XB W B x) (hb : Ext W W') : XB W' B x := fun j v hv => (hb.cell (p := ⟨B, j, none⟩) h.lt).trans (h j v hv)
theorem XB.all {W : World} {B : Nat} {nm ov : ByteArray} {kd wd q0 : Int} {names : List ByteArray} {p : Option Addr} {n c : Nat} (h : XB W B ⟨⟨nm, kd, names, ov, wd, q0⟩, ⟨p, n, c⟩⟩) :
    B < W.heap.size ∧ W.cell? ⟨B, 0, none⟩ = some (.string nm) ∧ W.cell? ⟨B, 1, none⟩ = some (.int .u8 kd) ∧ W.cell? ⟨B, 2, none⟩ = some (.slice p n c) ∧ W.cell? ⟨B, 3, none⟩ = some (.string ov) ∧ W.cell? ⟨B, 4, none⟩ = some (.int .i64 wd) ∧ W.cell? ⟨B, 5, none⟩ = some (.int .i64 q0) :=
  ⟨h.lt, h 0 _ rfl, h 1 _ rfl, h 2 _ rfl, h 3 _ rfl, h 4 _ rfl, h 5 _ rfl⟩
theorem strAt1 (W : World) (g : Nat) (hg : W.heap.size = g) (x : ByteArray) : RowsAt 1 strCells (W.alloc (.cells #[.string x] 9)) ⟨some ⟨g, 0, none⟩, 1, 1⟩ [x] := by
  subst hg
  refine ⟨rfl, Nat.le_refl _, by simp, fun k y hy => ⟨W.heap.size, 0, rfl, by simp, fun j v hv => ?_⟩⟩
  match k, hy with
  | 0, hy =>
    obtain rfl : x = y := by simpa using hy
    rw [Nat.zero_mul, Nat.add_zero, Nat.zero_add]
    exact cell_one_row W (strCells x) 9 j v hv
  | k + 1, hy => simp at hy
theorem own_strs {W : World} {base : Nat} {v : Value} {n : Nat} {l : List ByteArray} (hn : n = l.length) (h : W.ownsRow base 9 1 v n (l.flatMap strCells)) :
    ∃ (lp : Option Addr) (ln lc : Nat), v = .slice lp ln lc ∧ Hid (ln = l.length) ∧ Hid (RowsAt 1 strCells W ⟨lp, ln, lc⟩ l) ∧ ln ≤ 9223372036854775807 ∧ Hid (∀ b o, lp = some ⟨b, o, none⟩ → base ≤ b) := by
  subst hn
  obtain ⟨⟨lp, ln, lc⟩, h1, h2, h3⟩ := RowsAt.of_owns strCells_len h
  exact ⟨lp, ln, lc, h1, hide h2.len, hide h2, Nat.le_trans h2.cap h2.big, hide h3⟩
theorem strs_at {W : World} {lp : Option Addr} {ln lc : Nat} {l : List ByteArray} {v : Nat} {s : ByteArray} (h : RowsAt 1 strCells W ⟨lp, ln, lc⟩ l) (hs : l[v]? = some s) : ∃ b o, lp = some ⟨b, o, none⟩ ∧ b < W.heap.size ∧ W.cell? ⟨b, o + v, none⟩ = some (.string s) := by
  obtain ⟨b, o, h1, h2, h3⟩ := h.at_ v s hs
  exact ⟨b, o, h1, h2, by have := h3 0 _ rfl; simpa using this⟩
def Cnt (M : List (ByteArray × Int)) (l : List ByteArray) : Prop := ∀ s, (s ∈ l → mget s M = some 1) ∧ (s ∉ l → mget s M = none)
theorem Cnt.nil : Cnt [] [] := fun s => ⟨fun h => by simp at h, fun _ => rfl⟩
theorem Cnt.put {M : List (ByteArray × Int)} {l : List ByteArray} (h : Cnt M l) (s : ByteArray) : Cnt (mput s 1 M) (l ++ [s]) := by
  intro z
  rw [mget_mput]
  by_cases e : s = z
  · subst e; simp
  · rw [if_neg e]
    refine ⟨fun hz => (h z).1 ?_, fun hz => (h z).2 fun hm => hz (List.mem_append_left _ hm)⟩
    rcases List.mem_append.1 hz with hz | hz
    · exact hz
    · exact absurd (List.mem_singleton.1 hz).symm e
theorem frag_at (ns : Sl) (q : Option Addr) (m1 k : Nat) (i : Int) (xs : List GN) (its : List It) (W : World) (cf : Cfg) (qu E : Int) (hn : NodesAt W ns xs) (hr : RightN xs) (ho : i < xs.length ∧ -1 ≤ i) (hi : ItemsAt W ⟨q, m1, k⟩ its) (hl : xs.length ≤ 1000000) (hE : fragE cf xs i qu (itemOf its) = E) :
    Calls Tryd.prog 14 #[.agg #[.int .i64 cf.quota, .int .i64 cf.depth, .int .i64 cf.width, .int .i64 cf.retry, .int .i64 cf.flows], .slice ns.p ns.n ns.c, .int .i64 i, .int .i64 qu, .slice q m1 k] W fun e w' => e = .returned (.int .i64 E) ∧ Ext W w' := by
  subst hE
  exact frag_any ⟨cf, ns, i, qu, ⟨q, m1, k⟩⟩ xs its W ⟨hn, hr, ho, hi, hl⟩
theorem wf64 {z : Int} (h : (Lit.int .i64 z).wf = true) : -9223372036854775808 ≤ z ∧ z ≤ 9223372036854775807 := by
  simp only [Lit.wf, Bool.and_eq_true, decide_eq_true_eq] at h
  exact h
theorem infoStr : (Tryd.prog.info? 9).map (fun i => (i.zero, i.size, i.bytes)) = some (some (.string ⟨#[]⟩), 1, 16) := by kernel_rfl
set_option maxHeartbeats 8000000 in
set_option maxRecDepth 8000 in
theorem fitsL_any (cf : Cfg) (p : Option Addr) (n c : Nat) (ss : List Int) (cu qu : Int) (q : Option Addr) (m k : Nat) (its : List It) (mo : Int) (w : World) (hs : RowsAt 1 intCells w ⟨p, n, c⟩ ss) (hwf : ∀ x ∈ ss, (Lit.int .i64 x).wf = true)
    (hi : ItemsAt w ⟨q, m, k⟩ its) (hmo0 : 0 ≤ mo) (hmo1 : mo ≤ 255) (hqw : (Lit.int .i64 qu).wf = true) (hcw : (Lit.int .i64 cf.width).wf = true) (hcd : (Lit.int .i64 cf.depth).wf = true) :
    Calls Tryd.prog 5 #[.agg #[.int .i64 cf.quota, .int .i64 cf.depth, .int .i64 cf.width, .int .i64 cf.retry, .int .i64 cf.flows], .slice p n c, .int .i64 cu, .int .i64 qu, .slice q m k, .int .u8 mo] w fun e w' => e = .returned (.bool true) ∧ Ext w w' := by
  have hmk := hi.rows.cap
  dsimp only at hmk
  have HOwn := hide (fun (W : World) (h : Ext w W) => owned_any p n c ss cu W (hs.below h) hwf)
  have HI := hide hi
  have HAW := hide awake_any
  have HQW := hide hqw
  have HCW := hide hcw
  have HCD := hide hcd
  clear hs hwf hi hqw hcw hcd
  obtain ⟨cq, cd, cw, cr, cfl⟩ := cf
  dsimp only at HCW HCD ⊢
  go_enter Tryd.func5, Tryd.ntmps5
  obtain ⟨w0, hw0, hx0, hz0, b0, b1, b2, b3, b4⟩ := box_cells w cq cd cw cr cfl
  have hmm := @run_makeMap Tryd.prog
  go_wp2_with (first
    | (go_at_call 12; rw [← hw0]; refine (HOwn.out _ hx0).mono ?_; rintro e w1 ⟨v, xs, i, rfl, ho, hr, hl, hil, hb⟩; obtain ⟨sp, sn, sc, rfl, HL, HO, hl1, hi1, hi2⟩ := own_nodes ho hl hil; have HR := hide hr.r; clear ho hr hl hil hw0)
    | (refine wpList_minN rfl _ _ _ rfl m 30 rfl rfl ?_; intro m1 hN hN30; have HI2 := hide (HI.out.take m1 hN))
    | (go_at_call 13; refine (few_any q m1 k (its.take m1) _ (HI2.out.below (hx0.trans hb))).mono ?_; rintro e w2 ⟨v, rfl, ⟨fb, rfl⟩, hb2⟩; have hE2 : Ext w1 w2 := hb2; obtain ⟨bz, d0, d1, d2, d3, d4⟩ := box_at (hb.trans hb2) hz0 b0 b1 b2 b3 b4; have hEw2 : Ext w w2 := hx0.trans (hb.trans hb2))
    | (go_at_call 14; refine (frag_any ⟨⟨cq, cd, cw, cr, cfl⟩, ⟨sp, sn, sc⟩, i, qu, ⟨q, m1, k⟩⟩ xs (its.take m1) _ (askAt_of HO HL HR hi1 hi2 hl1 HI2 hE2 hEw2)).mono ?_; rintro e w3 ⟨rfl, hb3⟩; have hE3 : Ext w1 w3 := hE2.trans hb3; have hE03 : Ext w0 w3 := hb.trans hE3; have hEw3 : Ext w w3 := hx0.trans hE03)
    | (go_at_call 9; with_reducible refine (HAW.out _).mono ?_; rintro e w1 ⟨rfl, hb⟩; have hb : Ext w w1 := Ext.trans (by (repeat' (first | exact Below.refl _ _ | assumption | refine Ext.alloc ?_ _ | refine Ext.drew ?_ | refine Ext.trans ?_ (by assumption)))) hb))
  · go_ret
    exact ⟨rfl, hb⟩
  rotate_left
  · go_ret
    exact ⟨rfl, hb⟩
  have h0 : (fragE ⟨cq, cd, cw, cr, cfl⟩ xs i qu (itemOf (its.take m1)) != 0) = false := by assumption
  have HF : Hid (Fine ⟨cq, cd, cw, cr, cfl⟩ xs i qu (itemOf (its.take m1))) := hide (fine_of (by simpa using h0))
  clear h0
  have hdb := deepN_bd60 (i := i) HR.out (by have := HL.out; omega)
  have HDp := hide (deep_any sp sn sc i xs w3 (nodes_of' HO HL hE3) HR.out)
  have HNm : Hid (m1 = (its.take m1).length) := hide HI2.out.rows.len
  generalize hts : its.take m1 = ts at *
  clear hts
  have HWd : Hid (∀ x ∈ itemOf ts, x.k = 1 → ¬ cw < x.wd ∧ ¬ cd < deepN xs i + 1 + 1) := hide fun x hx hk => by have := HF.out.wd x hx hk; dsimp only at this; omega
  have HDe : Hid (0 < m1 → ¬ cd < deepN xs i + 1) := hide fun hl => by
    have := HF.out.deep (by have := HNm.out; simp only [itemOf, List.length_map]; omega)
    dsimp only at this; omega
  obtain ⟨hdb0, hdb1⟩ := hdb
  generalize hD : deepN xs i = D at *
  have HD := hide hD
  clear hD
  obtain ⟨iS, hiS, hS0, hS1, hS2⟩ := info_parts infoStr
  go_wp2_with (go_at_call 19; refine HDp.out.mono ?_; rintro e w4 ⟨rfl, hb4⟩; have hE14 : Ext w1 w4 := hE3.trans hb4; have hE04 : Ext w0 w4 := hb.trans hE14; have hEw4 : Ext w w4 := hx0.trans hE04)
  have HM0 : Hid (MapAt Value.string (Value.int .i64) (w4.alloc (.map #[] 0)) w4.heap.size []) := hide (MapAt.new _ _ w4)
  have hEm : Ext w4 (w4.alloc (.map #[] 0)) := Ext.alloc (Ext.refl _) _
  clear hmm d0 d1 d2 d3 d4 bz
  go_loopg [57] m1 (fun gg s57 wr => ∃ (j : Nat) (M : List (ByteArray × Int)), j ≤ m1 ∧ m1 - j ≤ gg ∧ s57 = .int .i64 j ∧ Hid (MapAt Value.string (Value.int .i64) wr w4.heap.size M) ∧ Hid (Cnt M ((itemOf (ts.take j)).map (·.nm))) ∧ Aside (Ext w4 wr))
  case atStart => exact ⟨0, [], Nat.zero_le _, by omega, rfl, HM0, Cnt.nil, hEm⟩
  case round =>
    obtain ⟨j, M, hj, hg, rfl, HM, HCn, BW⟩ := hrel
    have BE := BW.out
    by_cases hlt : j < m1
    · obtain ⟨x, hx⟩ := getElem?_of_lt (xs := ts) (k := j) (by have := HNm.out; omega)
      obtain ⟨b, o, hsp, hblt, c0, c1, c2, c3, c4, c5⟩ := ItemsAt.cells' (HI2.out.below (hEw4.trans BE)).rows hx
      have HOK := hide (HI2.out.ok x (List.mem_of_getElem? hx))
      have HXm : Hid (x.d ∈ itemOf ts) := hide (List.mem_map_of_mem (List.mem_of_getElem? hx))
      have HXj : Hid ((itemOf ts)[j]? = some x.d) := hide (by simp [itemOf, hx])
      have HTk : Hid ((itemOf (ts.take (j + 1))).map (·.nm) = (itemOf (ts.take j)).map (·.nm) ++ [x.d.nm]) := hide (by rw [take_snoc hx]; simp [itemOf])
      have HG : Hid (mget x.d.nm M = none) := hide (by
        refine (HCn.out _).2 fun hm => ?_
        obtain ⟨y, hy, he⟩ := List.mem_map.1 hm
        exact HF.out.once j x.d (by simp [itemOf, hx]) y (by rw [itemOf, ← List.map_take]; exact hy) he)
      have hfx := fits_bd (x := x.d) (by have := HF.out.right; simp only [rightB, Bool.and_eq_true, List.all_eq_true] at this; exact this.2 _ HXm.out)
      have hnl : x.d.names.length ≤ 20 := by
        have := HF.out.right; simp only [rightB, Bool.and_eq_true, List.all_eq_true] at this
        have := this.2 _ HXm.out
        simp only [fitsB, Bool.and_eq_true, decide_eq_true_eq] at this
        exact this.1.1.1.2
      have HW1 := hide (HWd.out x.d HXm.out)
      have HRf := hide (HF.out.refs x.d HXm.out)
      have hde : D + 1 ≤ cd := by have := HDe.out (by omega); omega
      have hsl := HOK.out.len
      obtain ⟨⟨nm, kd, names, ov, wid, q0⟩, ⟨up, un, uc⟩⟩ := x
      dsimp only at c0 c1 c2 c3 c4 c5 hfx hnl HW1 HRf HG HTk hsl
      have hun : un ≤ 20 := by omega
      have HUN := hide hsl
      have hltz : (j : Int) < (m1 : Int) := by omega
      obtain ⟨k0, k1, k2, k3, k4⟩ := (box_at (hE04.trans BE) hz0 b0 b1 b2 b3 b4).2
      clear hx hsl hnl hlt
      subst hsp
      have hrz : w4.heap.size < wr.heap.size := HM.out.lt
      have HX0 := hide (XB.new wr ⟨⟨nm, kd, names, ov, wid, q0⟩, ⟨up, un, uc⟩⟩)
      by_cases hk : kd = 1
      all_goals first
        | (subst hk
           obtain ⟨hw1, hw2⟩ := HW1.out rfl
           have HMs : Hid (∀ s ∈ names ++ [ov], Meant xs i (itemOf ts) s) := hide HRf.out
           clear HW1 HRf
           generalize hL : names ++ [ov] = L at HMs
           have HLL := hide hL
           clear hL
           go_wp2_with (first
           | (at_lookup; refine wpList_lookup_at rfl _ _ 45 false rfl keyS undSI (0 : Int) (zeroI _) w4.heap.size M rfl (HM.out.below (Ext.alloc (Ext.refl _) _)) nm rfl ?_; rw [HG.out]; simp only [Option.getD_none, if_false, Bool.false_eq_true])
           | (at_mapUpdate; refine wpList_mapUpdate_at rfl _ _ _ 45 rfl keyS undSI w4.heap.size M rfl (HM.out.below (Ext.alloc (Ext.refl _) _)) nm rfl (1 : Int) rfl ?_; intro w5 hM5 hg5 hs5; have HM5 := hide hM5; have HX5 := hide (XB.grown HX0.out (by omega) hg5); obtain ⟨xz, x0, x1, x2, x3, x4, x5⟩ := HX5.out.all; have hE5 : Ext w4 w5 := Below.grown (Ext.alloc BE _) hg5 (by simp; omega) (fun k hk => by cases hk; exact Nat.le_refl _); clear hM5 hg5 hs5)
           | (at_builtin; refine wpList_append_rows (cells := strCells) rfl _ _ 25 rfl w5.heap.size 9 iS (.string ⟨#[]⟩) 1 16 Tryd.underlying25 hiS hS0 hS1 hS2 rfl (by decide) _ _ _ rfl (HO6.out.alloc _) _ 1 1 [ov] rfl (strAt1 w6 _ rfl ov) strCells_len strCells_one (by unfold maxLen; omega) (by omega) (by have := he6.size; simp; omega) ?_; intro v7 w7 ho7 hg7 _; have he7 : Ext w5 w7 := ext_grown (Ext.alloc he6 _) (HO6.out.alloc _) (Nat.le_refl _) hg7; obtain ⟨lp, ln, lc, rfl, HLn, HLr, hln, HLb⟩ := own_strs (l := L) (by rw [← HLL.out, List.length_append, ← HUN.out]) (by rw [← HLL.out, List.flatMap_append]; exact ho7); clear ho7 hg7; have HX7 := hide (HX5.out.ext he7); obtain ⟨yz, y0, y1, y2, y3, y4, y5⟩ := HX7.out.all; have hE7 : Ext w4 w7 := hE5.trans he7; have HM7 := hide (HM5.out.below he7); obtain ⟨j0, j1, j2, j3, j4⟩ := (box_at (hE04.trans hE7) hz0 b0 b1 b2 b3 b4).2)
           | (at_builtin; refine wpList_append_rows (cells := strCells) rfl _ _ 25 rfl w5.heap.size 9 iS (.string ⟨#[]⟩) 1 16 Tryd.underlying25 hiS hS0 hS1 hS2 rfl (by decide) _ _ _ rfl (owns_empty w5 9 1) up un uc names rfl (RowsAt.below HOK.out (Ext.alloc (hEw4.trans hE5) _)) strCells_len strCells_one (by unfold maxLen; omega) (by omega) (by simp) ?_; intro v6 w6 ho6 hg6 _; simp only [Nat.zero_add, List.nil_append] at ho6; have HO6 := hide ho6; have he6 : Ext w5 w6 := ext_grown (Ext.alloc (Ext.refl _) _) (owns_empty w5 9 1) (Nat.le_refl _) hg6; clear ho6 hg6; have HX6 := hide (HX5.out.ext he6); obtain ⟨u0, u1, u2, u3, u4, u5, u6⟩ := HX6.out.all)
           | fail))
        | (have HMs : Hid (∀ s ∈ names, Meant xs i (itemOf ts) s) := hide fun s hs => HRf.out s (List.mem_append_left _ hs)
           have hkb : (kd == 1) = false := beq_eq_false_iff_ne.2 hk
           clear HW1 HRf hk
           generalize hL : names = L at HMs
           have HLL := hide hL
           clear hL
           go_wp2_with (first
           | (at_lookup; refine wpList_lookup_at rfl _ _ 45 false rfl keyS undSI (0 : Int) (zeroI _) w4.heap.size M rfl (HM.out.below (Ext.alloc (Ext.refl _) _)) nm rfl ?_; rw [HG.out]; simp only [Option.getD_none, if_false, Bool.false_eq_true])
           | (at_mapUpdate; refine wpList_mapUpdate_at rfl _ _ _ 45 rfl keyS undSI w4.heap.size M rfl (HM.out.below (Ext.alloc (Ext.refl _) _)) nm rfl (1 : Int) rfl ?_; intro w5 hM5 hg5 hs5; have HM5 := hide hM5; have HX5 := hide (XB.grown HX0.out (by omega) hg5); obtain ⟨xz, x0, x1, x2, x3, x4, x5⟩ := HX5.out.all; have hE5 : Ext w4 w5 := Below.grown (Ext.alloc BE _) hg5 (by simp; omega) (fun k hk => by cases hk; exact Nat.le_refl _); clear hM5 hg5 hs5)
           | (at_builtin; refine wpList_append_rows (cells := strCells) rfl _ _ 25 rfl w5.heap.size 9 iS (.string ⟨#[]⟩) 1 16 Tryd.underlying25 hiS hS0 hS1 hS2 rfl (by decide) _ _ _ rfl (owns_empty w5 9 1) up un uc names rfl (RowsAt.below HOK.out (Ext.alloc (hEw4.trans hE5) _)) strCells_len strCells_one (by unfold maxLen; omega) (by omega) (by simp) ?_; intro v7 w7 ho7 hg7 _; simp only [Nat.zero_add, List.nil_append] at ho7; have he7 : Ext w5 w7 := ext_grown (Ext.alloc (Ext.refl _) _) (owns_empty w5 9 1) (Nat.le_refl _) hg7; obtain ⟨lp, ln, lc, rfl, HLn, HLr, hln, HLb⟩ := own_strs (l := L) (by rw [← HLL.out, ← HUN.out]) (by rw [← HLL.out]; exact ho7); clear ho7 hg7; have HX7 := hide (HX5.out.ext he7); obtain ⟨yz, y0, y1, y2, y3, y4, y5⟩ := HX7.out.all; have hE7 : Ext w4 w7 := hE5.trans he7; have HM7 := hide (HM5.out.below he7); obtain ⟨j0, j1, j2, j3, j4⟩ := (box_at (hE04.trans hE7) hz0 b0 b1 b2 b3 b4).2)
           | fail))
      all_goals
        go_loopg [92] ln (fun gg s92 wi => ∃ v : Nat, v ≤ ln ∧ ln - v ≤ gg ∧ s92 = .int .i64 v ∧ Aside (Ext w7 wi))
        case atStart => exact ⟨0, Nat.zero_le _, by omega, rfl, Ext.refl _⟩
        case round =>
          obtain ⟨v, hv, hgv, rfl, BI⟩ := hrel
          have BJ := BI.out
          by_cases hvl : v < ln
          · obtain ⟨s, hs⟩ := getElem?_of_lt (xs := L) (k := v) (by have := HLn.out; omega)
            have hMt := HMs.out s (List.mem_of_getElem? hs)
            obtain ⟨b3, o3, hlp, hb3lt, cs⟩ := strs_at (HLr.out.below BJ) hs
            have hvz : (v : Int) < (ln : Int) := by omega
            have hE1r : Ext w1 wr := hE14.trans (hE7.trans BJ)
            have hEwr : Ext w wr := hEw4.trans (hE7.trans BJ)
            have HCR := hide (fun (W : World) (h : Ext wr W) => cRefs_any sp sn sc i _ m1 k xs ts s W (nodes_of' HO HL (hE1r.trans h)) HR.out ⟨by have := HL.out; omega, hi1⟩ (HI2.out.below (hEwr.trans h)) (by have := HL.out; omega))
            obtain ⟨g1, g2, g3⟩ := hMt
            rw [g1] at HCR
            simp only [Bool.not_false] at HCR
            have hbd := refsN_bd xs i (itemOf ts) s
            clear hs g1
            subst hlp
            generalize (refsN xs i (itemOf ts) s).1 = R1 at *
            generalize (refsN xs i (itemOf ts) s).2 = R2 at *
            by_cases h1 : 0 ≤ R1
            · obtain ⟨a, rfl⟩ := Int.eq_ofNat_of_zero_le h1
              obtain ⟨y, hy, hyn⟩ := g2 h1
              rw [Int.toNat_natCast, itemOf, List.getElem?_map] at hy
              obtain ⟨z, hz, rfl⟩ := Option.map_eq_some_iff.1 hy
              have hzm : (a : Int) < (m1 : Int) := by have := (List.getElem?_eq_some_iff.1 hz).1; have := HNm.out; omega
              have HZ := hide hz
              have HYN := hide hyn
              clear hy hz hyn g2 g3 hbd
              go_wp2_with (go_at_call 16; refine (HCR.out _ (by (repeat' (first | exact Below.refl _ _ | assumption | refine Ext.alloc ?_ _ | refine Ext.drew ?_ | refine Ext.trans ?_ (by assumption))))).mono ?_; rintro e w8 ⟨rfl, hb8⟩; obtain ⟨b4, o4, hp4, hb4lt, e0, -⟩ := ItemsAt.cells' (HI2.out.below (hEwr.trans hb8)).rows HZ.out; cases hp4; rw [HYN.out] at e0)
              go_roundg (ln - (v + 1))
              case measure => omega
              case rel => exact ⟨v + 1, by omega, by omega, by go_num, BJ.trans hb8⟩
            · obtain ⟨h2, y, hy, hyn⟩ := g3 (by omega)
              obtain ⟨bN, rfl⟩ := Int.eq_ofNat_of_zero_le h2
              rw [Int.toNat_natCast] at hy
              have hzm : (bN : Int) < (sn : Int) := by have := (List.getElem?_eq_some_iff.1 hy).1; have := HL.out; omega
              obtain ⟨b4, o4, hp4, hlt4, -, n1, -⟩ := nodeAt (nodes_of' HO HL hE1r) hy
              have HYN := hide hyn
              rw [HYN.out] at n1
              clear hy hyn g2 g3 hbd
              subst hp4
              go_wp2_with (go_at_call 16; refine (HCR.out _ (by (repeat' (first | exact Below.refl _ _ | assumption | refine Ext.alloc ?_ _ | refine Ext.drew ?_ | refine Ext.trans ?_ (by assumption))))).mono ?_; rintro e w8 ⟨rfl, hb8⟩; have n1' := (hb8.cell (p := ⟨b4, o4 + bN * 16 + 1, none⟩) hlt4).trans n1)
              go_roundg (ln - (v + 1))
              case measure => omega
              case rel => exact ⟨v + 1, by omega, by omega, by go_num, BJ.trans hb8⟩
          · have hvz : ¬ (v : Int) < (ln : Int) := by omega
            have HMi := hide (HM7.out.below BJ)
            have HGi : Hid (mget nm (mput nm 1 M) = some 1) := hide (by rw [mget_mput, if_pos rfl])
            obtain ⟨tz, t0, t1, t2, t3, t4, t5⟩ := (HX7.out.ext BJ).all
            obtain ⟨i0, i1, i2, i3, i4⟩ := (box_at (hE04.trans (hE7.trans BJ)) hz0 b0 b1 b2 b3 b4).2
            go_wp2_with (at_lookup; refine wpList_lookup_at rfl _ _ 45 false rfl keyS undSI (0 : Int) (zeroI _) w4.heap.size (mput nm 1 M) rfl HMi.out nm rfl ?_; rw [HGi.out]; simp only [Option.getD_some, if_false, Bool.false_eq_true])
            go_roundg (m1 - (j + 1))
            case measure => omega
            case rel => exact ⟨j + 1, _, by omega, by omega, by go_num, HMi, hide (by rw [HTk.out]; exact HCn.out.put nm), hE7.trans BJ⟩
    · have hltz : ¬ (j : Int) < (m1 : Int) := by omega
      obtain ⟨i0, i1, i2, i3, i4⟩ := (box_at (hE04.trans BE) hz0 b0 b1 b2 b3 b4).2
      have hEwr : Ext w wr := hEw4.trans BE
      have hE1r : Ext w1 wr := hE14.trans BE
      have hR1 : rightB (itemOf ts) = true := HF.out.right
      have HRt := hide (fun (W : World) (h : Ext wr W) => right_any _ m1 k ts W (HI2.out.below (hEwr.trans h)))
      have HTo := hide (fun (W : World) (h : Ext wr W) => total_any _ m1 k ts W (HI2.out.below (hEwr.trans h)).rows (fits_all hR1) (by have := HNm.out; omega))
      have htb := total_bd (l := itemOf ts) (fun y hy => by simp only [rightB, Bool.and_eq_true, List.all_eq_true] at hR1; exact hR1.2 y hy)
      have htl : (itemOf ts).length = m1 := by have := HNm.out; simp only [itemOf, List.length_map]; omega
      have hwid : (m1 : Int) ≤ cw := by have := HF.out.width; dsimp only at this; omega
      have htq : totalZ (itemOf ts) ≤ qu := HF.out.total
      have htb2 : totalZ (itemOf ts) ≤ 510000 := by omega
      have htb1 := htb.1
      have HFa := hide (fun (W : World) (h : Ext wr W) (c' : Cfg) (q' : Int) (E : Int) (hE : fragE c' xs i q' (itemOf ts) = E) => frag_at ⟨sp, sn, sc⟩ _ m1 k i xs ts W c' q' E (nodes_of' HO HL (hE1r.trans h)) HR.out ⟨by have := HL.out; omega, hi1⟩ (HI2.out.below (hEwr.trans h)) (by have := HL.out; omega) hE)
      have HF1 := hide (fun (d : Int) (h0 : 0 ≤ d) => HF.out.mk_ok (c' := ⟨0, cd + d, cw + d, 0, 0⟩) (q' := qu + d) (by dsimp only; omega) (by dsimp only; omega) (by have := htq; omega))
      have HF2 := hide (HF.out.mk_ok (c' := ⟨cq, cd, cw, cr, cfl⟩) (q' := totalZ (itemOf ts)) (Int.le_refl _) (Int.le_refl _) (Int.le_refl _))
      have HF3 := hide HF.out.less
      clear htb htl
      rw [hR1] at HRt
      generalize totalZ (itemOf ts) = T at *
      clear hR1 HF HWd HDe HCn
      obtain ⟨hcw1, hcw2⟩ := wf64 HCW.out
      obtain ⟨hcd1, hcd2⟩ := wf64 HCD.out
      obtain ⟨hqu1, hqu2⟩ := wf64 HQW.out
      go_wp2_with (first
        | (go_at_call 8; with_reducible refine (HRt.out _ (by (repeat' (first | exact Below.refl _ _ | assumption | refine Ext.alloc ?_ _ | refine Ext.drew ?_ | refine Ext.trans ?_ (by assumption))))).mono ?_; rintro e w1 ⟨rfl, hb⟩; have hb : Ext wr w1 := Ext.trans (by (repeat' (first | exact Below.refl _ _ | assumption | refine Ext.alloc ?_ _ | refine Ext.drew ?_ | refine Ext.trans ?_ (by assumption)))) hb; obtain ⟨r0, r1, r2, r3, r4⟩ := (box_at ((hE04.trans BE).trans hb) hz0 b0 b1 b2 b3 b4).2)
        | (go_at_call 11; with_reducible refine (HTo.out _ (by (repeat' (first | exact Below.refl _ _ | assumption | refine Ext.alloc ?_ _ | refine Ext.drew ?_ | refine Ext.trans ?_ (by assumption))))).mono ?_; rintro e w1 ⟨rfl, hb⟩; have hb : Ext wr w1 := Ext.trans (by (repeat' (first | exact Below.refl _ _ | assumption | refine Ext.alloc ?_ _ | refine Ext.drew ?_ | refine Ext.trans ?_ (by assumption)))) hb; obtain ⟨r0, r1, r2, r3, r4⟩ := (box_at ((hE04.trans BE).trans hb) hz0 b0 b1 b2 b3 b4).2)
        | (go_at_call 14; refine (HFa.out _ (by (repeat' (first | exact Below.refl _ _ | assumption | refine Ext.alloc ?_ _ | refine Ext.drew ?_ | refine Ext.trans ?_ (by assumption)))) ⟨0, _, _, 0, 0⟩ _ 0 (HF1.out _ (by omega))).mono ?_; rintro e w1 ⟨rfl, hb⟩; have hb : Ext wr w1 := Ext.trans (by (repeat' (first | exact Below.refl _ _ | assumption | refine Ext.alloc ?_ _ | refine Ext.drew ?_ | refine Ext.trans ?_ (by assumption)))) hb; obtain ⟨r0, r1, r2, r3, r4⟩ := (box_at ((hE04.trans BE).trans hb) hz0 b0 b1 b2 b3 b4).2)
        | fail)
      all_goals
        have HA := hide (fun (W : World) (h : Ext w1 W) => HFa.out W (hb.trans h) ⟨cq, cd, cw, cr, cfl⟩ T 0 HF2.out)
        have HB := hide (fun (W : World) (h : Ext w1 W) => HFa.out W (hb.trans h) ⟨cq, cd, cw, cr, cfl⟩ (T - 1) 22 HF3.out)
        have HTt := hide (fun (W : World) (h : Ext w1 W) => HTo.out W (hb.trans h))
        dsimp only at HA HB
        have hbz : w.heap.size < w1.heap.size := (box_at ((hE04.trans BE).trans hb) hz0 b0 b1 b2 b3 b4).1
        have hcE : ∀ W b o, Ext w1 W → b < w1.heap.size → W.cell? ⟨b, o, none⟩ = w1.cell? ⟨b, o, none⟩ := fun W b o h hb => h.cell (p := ⟨b, o, none⟩) hb
        have hww : Ext w w1 := hEwr.trans hb
        have hwr : IntKind.i64.wrap (T - 1) = T - 1 := IntWalk.i64_in _ (by omega)
        clear HFa HTo HF1 HF2 HF3
        cases hmb : ((m1 : Int) == 0)
        all_goals
          refine wp_region_ext_lit (by kernel_rfl) (by kernel_rfl) ?_
          (repeat (first | (go_big_quiet_skip; (try simp only [Act.put, List.setIfInBounds_toArray, List.set_cons_succ, List.set_cons_zero])) | (go_big_quiet_want; apply Exists.intro; refine ⟨fun W hW => ?_, ?_⟩; (focus (unfold Oper.quietAt; go_simp; (first | done | exact rfl | exact ⟨rfl, rfl⟩ | (first | (go_at_call 11; refine (HTt.out _ hW).mono ?_; rintro e w3 ⟨rfl, hb3⟩; exact ⟨rfl, Ext.trans hW hb3⟩) | (go_at_call 9; refine (HAW.out _).mono ?_; rintro e w3 ⟨rfl, hb3⟩; exact ⟨rfl, Ext.trans hW hb3⟩) | (go_at_call 14; (first | with_reducible refine (HA.out _ hW).mono ?_ | with_reducible refine (HB.out _ hW).mono ?_); rintro e w3 ⟨rfl, hb3⟩; exact ⟨rfl, Ext.trans hW hb3⟩))))); go_big_quiet_on; (try simp only [Act.put, List.setIfInBounds_toArray, List.set_cons_succ, List.set_cons_zero]))))
          refine wpQuiet_nil ?_
          intro w3 hw3
          go_wp2
          go_ret
          exact ⟨rfl, hww.trans hw3⟩
end Go.Proofs.YtfcdohaimdodgaaDoor
