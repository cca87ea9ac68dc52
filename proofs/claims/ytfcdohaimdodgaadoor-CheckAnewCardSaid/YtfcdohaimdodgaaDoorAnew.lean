/-
  CheckAnew: its walk.
-/
import Derived.Test.YtfcdohaimdodgaaDoorAwakeb
import Derived.Test.YtfcdohaimdodgaaDoorAnewW
import Derived.Test.YtfcdohaimdodgaaDoorFits
import Derived.Deep.RegionWith
namespace Go.Proofs.YtfcdohaimdodgaaDoor
open Go.RowKit Go.Shelf
set_option linter.unusedVariables false
set_option maxHeartbeats 8000000 in
set_option maxRecDepth 8000 in
theorem anewL_any (cf : Cfg) (p : Option Addr) (n c : Nat) (ss : List Int) (cu qu : Int) (q : Option Addr) (m k : Nat) (its : List It) (w : World) (hs : RowsAt 1 intCells w ⟨p, n, c⟩ ss) (hwf : ∀ x ∈ ss, (Lit.int .i64 x).wf = true)
    (hi : ItemsAt w ⟨q, m, k⟩ its) :
    Calls Tryd.prog 7 #[.agg #[.int .i64 cf.quota, .int .i64 cf.depth, .int .i64 cf.width, .int .i64 cf.retry, .int .i64 cf.flows], .slice p n c, .int .i64 cu, .int .i64 qu, .slice q m k] w fun e w' => e = .returned (.bool true) ∧ Ext w w' := by
  have hmk := hi.rows.cap
  dsimp only at hmk
  have HOwn := hide (fun (W : World) (h : Ext w W) => owned_any p n c ss cu W (hs.below h) hwf)
  have HI := hide hi
  have HAW := hide awake_any
  clear hs hwf hi
  obtain ⟨cq, cd, cw, cr, cfl⟩ := cf
  dsimp only
  go_enter Tryd.func7, Tryd.ntmps7
  obtain ⟨w0, hw0, hx0, hz0, b0, b1, b2, b3, b4⟩ := box_cells w cq cd cw cr cfl
  have hmm := @run_makeMap Tryd.prog
  go_wp2_with (first
    | (go_at_call 12; rw [← hw0]; refine (HOwn.out _ hx0).mono ?_; rintro e w1 ⟨v, xs, i, rfl, ho, hr, hl, hil, hb⟩; obtain ⟨sp, sn, sc, rfl, HL, HO, hl1, hi1, hi2⟩ := own_nodes ho hl hil; have HR := hide hr.r; clear ho hr hl hil hw0)
    | (refine wpList_minN rfl _ _ _ rfl m 30 rfl rfl ?_; intro m1 hN hN30; have HI2 := hide (HI.out.take m1 hN))
    | (go_at_call 8; refine (right_any q m1 k (its.take m1) _ (HI2.out.below (hx0.trans hb))).mono ?_; rintro e w4 ⟨rfl, hb4⟩; have hE14 : Ext w1 w4 := hb4; have hE04 : Ext w0 w4 := hb.trans hb4; have hEw4 : Ext w w4 := hx0.trans hE04)
    | (go_at_call 9; with_reducible refine (HAW.out _).mono ?_; rintro e w1 ⟨rfl, hb⟩; have hb : Ext w w1 := Ext.trans (by (repeat' (first | exact Below.refl _ _ | assumption | refine Ext.alloc ?_ _ | refine Ext.drew ?_ | refine Ext.trans ?_ (by assumption)))) hb))
  · go_ret
    exact ⟨rfl, hb⟩
  have hR0 : (!rightB (itemOf (its.take m1))) = false := by assumption
  have hR : rightB (itemOf (its.take m1)) = true := by simpa using hR0
  simp only [hR, Bool.not_true]
  have HRt := hide hR
  have HNm : Hid (m1 = (its.take m1).length) := hide HI2.out.rows.len
  generalize hts : its.take m1 = ts at *
  clear hts hR hR0
  generalize hll : (itemOf ts).map (·.nm) = l at *
  have HLL := hide hll
  clear hll
  have HLn : Hid (l.length = m1) := hide (by have e1 := HLL.out; have e2 := HNm.out; rw [← e1]; simp only [itemOf, List.length_map]; omega)
  have HM0 : Hid (MapAt Value.string (Value.int .i64) (w4.alloc (.map #[] 0)) w4.heap.size []) := hide (MapAt.new _ _ w4)
  have hEm : Ext w4 (w4.alloc (.map #[] 0)) := Ext.alloc (Ext.refl _) _
  go_loopg [45] m1 (fun gg s45 wr => ∃ (j : Nat) (M : List (ByteArray × Int)), j ≤ m1 ∧ m1 - j ≤ gg ∧ s45 = .int .i64 j ∧ Hid (MapAt Value.string (Value.int .i64) wr w4.heap.size M) ∧ Hid (PosM M (l.take j)) ∧ Hid (Once (l.take j)) ∧ Hid (∀ s ∈ l.take j, hasNew s = false) ∧ Aside (Ext w4 wr))
  case atStart => exact ⟨0, [], Nat.zero_le _, by omega, rfl, HM0, PosM.nil, fun i j s h => by simp at h, hide (fun s h => by simp at h), hEm⟩
  case round =>
    obtain ⟨j, M, hj, hg, rfl, HM, HPm, HOn, HNw, BW⟩ := hrel
    have BE := BW.out
    by_cases hlt : j < m1
    · obtain ⟨x, hx⟩ := getElem?_of_lt (xs := ts) (k := j) (by have := HNm.out; omega)
      obtain ⟨b, o, hsp, hblt, c0, c1, c2, c3, c4, c5⟩ := ItemsAt.cells' (HI2.out.below (hEw4.trans BE)).rows hx
      have HXl : Hid (l[j]? = some x.d.nm) := hide (by rw [← HLL.out]; simp [itemOf, hx])
      obtain ⟨⟨nm, kd, names, ov, wid, q0⟩, ⟨up, un, uc⟩⟩ := x
      dsimp only at c0 c1 c2 c3 c4 c5 HXl
      have hltz : (j : Int) < (m1 : Int) := by omega
      have HTk : Hid (l.take (j + 1) = l.take j ++ [nm]) := hide (take_snoc HXl.out)
      have HTl : Hid (j = (l.take j).length) := hide (by have := HLn.out; simp; omega)
      clear hx
      subst hsp
      have hrz : w4.heap.size < wr.heap.size := HM.out.lt
      have HX0 := hide (XB.new wr ⟨⟨nm, kd, names, ov, wid, q0⟩, ⟨up, un, uc⟩⟩)
      have hww : Ext w wr := hEw4.trans BE
      cases hG : mget nm M with
      | some t =>
        have HG := hide hG
        clear hG
        go_wp2_with (first
          | (at_lookup; refine wpList_lookup_at rfl _ _ 45 true rfl keyS undSI (0 : Int) (zeroI _) w4.heap.size M rfl (HM.out.below (Ext.alloc (Ext.refl _) _)) nm rfl ?_; rw [HG.out]; simp only [Option.getD_some, Option.isSome_some, if_true])
          | (go_at_call 9; with_reducible refine (HAW.out _).mono ?_; rintro e w1 ⟨rfl, hb⟩; have hb : Ext w w1 := Ext.trans (by (repeat' (first | exact Below.refl _ _ | assumption | refine Ext.alloc ?_ _ | refine Ext.drew ?_ | refine Ext.trans ?_ (by assumption)))) hb))
        go_ret
        exact ⟨rfl, hb⟩
      | none =>
        have HG := hide hG
        clear hG
        cases hH : hasNew nm with
        | true =>
          have HH := hide hH
          clear hH
          have hHas := hide (fun W => hasNew_any nm W)
          rw [HH.out] at hHas
          go_wp2_with (first
            | (at_lookup; refine wpList_lookup_at rfl _ _ 45 true rfl keyS undSI (0 : Int) (zeroI _) w4.heap.size M rfl (HM.out.below (Ext.alloc (Ext.refl _) _)) nm rfl ?_; rw [HG.out]; simp only [Option.getD_none, Option.isSome_none, if_true])
            | (go_at_call 22; refine (hHas.out _).mono ?_; rintro e w' ⟨rfl, rfl⟩)
            | (go_at_call 9; with_reducible refine (HAW.out _).mono ?_; rintro e w1 ⟨rfl, hb⟩; have hb : Ext w w1 := Ext.trans (by (repeat' (first | exact Below.refl _ _ | assumption | refine Ext.alloc ?_ _ | refine Ext.drew ?_ | refine Ext.trans ?_ (by assumption)))) hb))
          go_ret
          exact ⟨rfl, hb⟩
        | false =>
          have HH := hide hH
          clear hH
          have hHas := hide (fun W => hasNew_any nm W)
          rw [HH.out] at hHas
          go_wp2_with (first
            | (at_lookup; refine wpList_lookup_at rfl _ _ 45 true rfl keyS undSI (0 : Int) (zeroI _) w4.heap.size M rfl (HM.out.below (Ext.alloc (Ext.refl _) _)) nm rfl ?_; rw [HG.out]; simp only [Option.getD_none, Option.isSome_none, if_true])
            | (go_at_call 22; refine (hHas.out _).mono ?_; rintro e w' ⟨rfl, rfl⟩)
            | (at_mapUpdate; refine wpList_mapUpdate_at rfl _ _ _ 45 rfl keyS undSI w4.heap.size M rfl (HM.out.below (Ext.alloc (Ext.refl _) _)) nm rfl (j : Int) rfl ?_; intro w5 hM5 hg5 hs5; have HM5 := hide hM5; have hE5 : Ext w4 w5 := Below.grown (Ext.alloc BE _) hg5 (by simp; omega) (fun k hk => by cases hk; exact Nat.le_refl _); clear hM5 hg5 hs5))
          have HPz : Hid (pos (l.take j) nm < 0) := hide (by
            rcases Int.lt_or_le (pos (l.take j) nm) 0 with h' | h'
            · exact h'
            · have := (HPm.out nm).1 h'; rw [HG.out] at this; cases this)
          go_roundg (m1 - (j + 1))
          case measure => omega
          case rel =>
            refine ⟨j + 1, _, by omega, by omega, by go_num, HM5, hide (by rw [HTk.out]; exact HPm.out.put HG.out HTl.out), hide (by rw [HTk.out]; exact HOn.out.snoc HPz.out), hide (fun s hs => ?_), hE5⟩
            rw [HTk.out] at hs
            rcases List.mem_append.1 hs with h' | h'
            · exact HNw.out s h'
            · rw [List.mem_singleton.1 h']; exact HH.out
    · have hltz : ¬ (j : Int) < (m1 : Int) := by omega
      have HTj : Hid (l.take j = l) := hide (List.take_of_length_le (by have := HLn.out; omega))
      have HPm2 : Hid (PosM M l) := hide (by have := HPm.out; rwa [HTj.out] at this)
      have HOn2 : Hid (Once l) := hide (by have := HOn.out; rwa [HTj.out] at this)
      have HNw2 : Hid (∀ s ∈ l, hasNew s = false) := hide (by have := HNw.out; rwa [HTj.out] at this)
      have HNs : Hid (∀ x ∈ ts, x.d.names.length ≤ 20) := hide fun x hx => by
        have := HRt.out; simp only [rightB, Bool.and_eq_true, List.all_eq_true] at this
        have := this.2 _ (List.mem_map_of_mem hx)
        simp only [fitsB, Bool.and_eq_true, decide_eq_true_eq] at this
        exact this.1.1.1.2
      have hEwr : Ext w wr := hEw4.trans BE
      have HCp := hide (copy_any q m1 k ts wr (HI2.out.below hEwr) (by omega) (fun x hx => Nat.le_trans (HNs.out x hx) (by decide)))
      clear HPm HOn HNw HTj hlt
      go_wp2_with (go_at_call 23; refine HCp.out.mono ?_; rintro e w5 ⟨p2, n2, c2, ys0, rfl, hn2, hi2', ho2, hb5⟩; have HN2 := hide hn2; have HI5 := hide hi2'; have HO5 := hide ho2; clear hn2 hi2' ho2)
      have hn2m : n2 = m1 := by have e1 := HN2.out; have e2 := congrArg List.length HI5.out; have e3 := HNm.out; simp only [itemOf, List.length_map] at e2; omega
      subst hn2m
      have HMc := hide (HM.out.below hb5)
      have hEw5 : Ext w w5 := hEwr.trans hb5
      have hE05 : Ext w0 w5 := (hE04.trans BE).trans hb5
      have hE15 : Ext w1 w5 := (hE14.trans BE).trans hb5
      obtain ⟨B, hB⟩ : ∃ B, B = wr.heap.size := ⟨_, rfl⟩
      rw [← hB] at HO5
      have hBm : w4.heap.size < B := by rw [hB]; exact HM.out.lt
      have hB5 : B ≤ w5.heap.size := by rw [hB]; exact hb5.size
      have hB0 : w0.heap.size ≤ B := by rw [hB]; exact (hE04.trans BE).size
      have hB1 : w1.heap.size ≤ B := by rw [hB]; exact (hE14.trans BE).size
      have hBw : w.heap.size ≤ B := by rw [hB]; exact hEwr.size
      have HTs : Hid ((itemOf ts).length = n2) := hide (by have := HNm.out; simp only [itemOf, List.length_map]; omega)
      clear hB hb5 HM BW BE hEwr HCp HM0 hEm
      go_loopg [73] n2 (fun gg s73 wi => ∃ (v : Nat) (ys : List It), v ≤ n2 ∧ n2 - v ≤ gg ∧ s73 = .int .i64 v ∧ Hid (OwnIt wi B (.slice p2 n2 c2) ys ys.length) ∧ Hid (n2 = ys.length) ∧ Hid (itemOf ys = ((itemOf ts).take v).map (renI l) ++ (itemOf ts).drop v) ∧ Hid (∀ x ∈ (itemOf ts).take v, (∀ s ∈ x.names, hasNew s = false) ∧ hasNew x.ov = false) ∧ Aside (Below B w5 wi))
      case atStart => exact ⟨0, ys0, Nat.zero_le _, by omega, rfl, HO5, HN2, hide (by simpa using HI5.out), hide (fun x hx => by simp at hx), Below.refl _ _⟩
      case round =>
        obtain ⟨v, ys, hv, hgv, rfl, HOI, HN3, HSp, HPl, BI⟩ := hrel
        have BJ := BI.out
        by_cases hvl : v < n2
        · obtain ⟨g, cap, hvv, hg0, hg1⟩ := HOI.out.row.form (by have := HN3.out; omega)
          obtain ⟨rfl, rfl⟩ : p2 = some ⟨g, 0, none⟩ ∧ c2 = cap := by simp only [Value.slice.injEq] at hvv; exact ⟨hvv.1, hvv.2.2⟩
          obtain ⟨y, hy⟩ := getElem?_of_lt (xs := ys) (k := v) (by have := HN3.out; omega)
          have hyd := split_at HSp.out (by have := HTs.out; omega) hy
          have hln : l[v]? = some y.d.nm := by rw [← HLL.out, List.getElem?_map, hyd]; rfl
          have hnl : y.d.names.length ≤ 20 := by
            have hm := List.mem_of_getElem? hyd
            obtain ⟨z, hz, he⟩ := List.mem_map.1 hm
            rw [← he]; exact HNs.out z hz
          have hrow : wr.ownsRow B 27 6 (.slice (some ⟨g, 0, none⟩) n2 c2) n2 (ys.flatMap It.cells) := by have := HOI.out.row; rwa [← HN3.out] at this
          have hsl := (HOI.out.strs v y (by have := HN3.out; omega) hy).2
          have HG : Hid (mget y.d.nm M = some (v : Int)) := hide (lookup_nm HPm2.out HOn2.out hln)
          have HRn : Hid (ren l y.d.nm = anewB v) := hide (ren_at HOn2.out hln)
          have hMr := hide (HMc.out.of_block (BJ.block _ hBm))
          have HY := hide hy
          have HYd := hide hyd
          have HRow := hide hrow
          have c0 : wr.cell? ⟨g, v * 6, none⟩ = some (.string y.d.nm) := (hrow.cellAt (v * 6 + 0) (by omega)).trans (flatG_at It.cells_len hy rfl)
          have hvz : (v : Int) < (n2 : Int) := by omega
          have HUn := hide hsl
          have hun : y.af.n ≤ 20 := by omega
          obtain ⟨⟨nm, kd, names, ov, wid, q0⟩, ⟨up, un, uc⟩⟩ := y
          dsimp only at c0 hun HUn HG HRn hnl
          clear hy hyd hln hrow hsl hvv
          go_wp2_with (first
            | (at_lookup; refine wpList_lookup_at rfl _ _ 45 false rfl keyS undSI (0 : Int) (zeroI _) w4.heap.size M rfl hMr.out nm rfl ?_; rw [HG.out]; simp only [Option.getD_some, if_false, Bool.false_eq_true])
            | (go_at_call 24; refine (anewed_any v (by omega) _).mono ?_; rintro e w' ⟨rfl, rfl⟩)
            | (refine wpList_storeG (cells := It.cells) It.cells_len rfl _ _ _ rfl s9' g v 0 _ 27 rfl rfl rfl HRow.out (by omega) HY.out (by decide) (nd' := ⟨⟨anewB v, kd, names, ov, wid, q0⟩, ⟨up, un, uc⟩⟩) rfl ?_; intro w6 ho6 hg6; have HO6 := hide (OwnIt.upd HOI.out HY.out ho6 HN3.out hg6 rfl rfl); have hB6 : Below B w5 w6 := Below.grown BJ hg6 (by omega) (fun k hk => by cases hk; exact hg0); have HR6 := hide ho6; clear ho6 hg6; have d2 : w6.cell? ⟨g, v * 6 + 2, none⟩ = some (.slice up un uc) := (HR6.out.cellAt (v * 6 + 2) (by omega)).trans (flatG_at It.cells_len (set_at_same HY.out) rfl)))
          have hvy : v < ys.length := by have := HN3.out; omega
          generalize hnl0 : ys.length = yl at *
          have HYl := hide hnl0
          clear hnl0
          go_loopg [94] un (fun gg s94 wi => ∃ (u : Nat) (ns : List ByteArray), u ≤ un ∧ un - u ≤ gg ∧ s94 = .int .i64 u ∧ Hid (OwnIt wi B (.slice (some ⟨g, 0, none⟩) n2 c2) (ys.set v ⟨⟨anewB v, kd, ns, ov, wid, q0⟩, ⟨up, un, uc⟩⟩) yl) ∧ Hid (ns = (names.take u).map (ren l) ++ names.drop u) ∧ Hid (∀ s ∈ names.take u, hasNew s = false) ∧ Aside (Below B w5 wi))
          case atStart => exact ⟨0, names, Nat.zero_le _, by omega, rfl, HO6, hide (by simp), hide (fun s h => by simp at h), hB6⟩
          case round =>
            obtain ⟨u, ns, hu, hgu, rfl, HO7, HNs7, HNw7, BL⟩ := hrel
            have BM := BL.out
            have hwr : Ext w wr := Below.trans hEw5 (Below.mono BM hBw)
            by_cases hul : u < un
            · obtain ⟨s, hs⟩ := getElem?_of_lt (xs := names) (k := u) (by have := HUn.out; omega)
              have hns : ns[u]? = some s := names_at HNs7.out (by have := HUn.out; omega) hs
              have hnsl : ns.length = un := names_len HNs7.out HUn.out
              have hst := (HO7.out.strs v _ hvy (set_at_same HY.out)).1
              obtain ⟨gb, cb, hvb, hgb0, hgb1⟩ := hst.form (by show 0 < ns.length; omega)
              obtain ⟨rfl, rfl⟩ : up = some ⟨gb, 0, none⟩ ∧ uc = cb := by simp only [afv, Value.slice.injEq] at hvb; exact ⟨hvb.1, hvb.2.2⟩
              have hst2 : wr.ownsRow B 9 1 (.slice (some ⟨gb, 0, none⟩) un uc) un (ns.flatMap strCells) := by rw [← hnsl]; rw [← hnsl] at hst; exact hst
              have cs : wr.cell? ⟨gb, u, none⟩ = some (.string s) := (hst2.cellAt u (by omega)).trans (by have := flatG_at (cells := strCells) strCells_len (j := 0) hns rfl; simpa using this)
              have fz := hst2.frozenAt u
              have hr7 : wr.ownsRow B 27 6 (.slice (some ⟨g, 0, none⟩) n2 c2) n2 ((ys.set v ⟨⟨anewB v, kd, ns, ov, wid, q0⟩, ⟨some ⟨gb, 0, none⟩, un, uc⟩⟩).flatMap It.cells) := by
                have := HO7.out.row
                rwa [List.length_set, HYl.out, ← HN3.out] at this
              have d2 : wr.cell? ⟨g, v * 6 + 2, none⟩ = some (.slice (some ⟨gb, 0, none⟩) un uc) := (hr7.cellAt (v * 6 + 2) (by omega)).trans (flatG_at It.cells_len (set_at_same HY.out) rfl)
              have hMr7 := hide (HMc.out.of_block (BM.block _ hBm))
              have huz : (u : Int) < (un : Int) := by omega
              have hgbw := hgb1
              have HS := hide hs
              have HNS := hide hns
              have HNL := hide hnsl
              clear hs hns hnsl hst hst2 hr7 hvb
              have hHas := hide (fun W => hasNew_any s W)
              cases hH : hasNew s with
              | true =>
                have HH := hide hH
                clear hH
                rw [HH.out] at hHas
                go_wp2_with (first
                  | (go_at_call 22; refine (hHas.out _).mono ?_; rintro e w' ⟨rfl, rfl⟩)
                  | (go_at_call 9; with_reducible refine (HAW.out _).mono ?_; rintro e w1 ⟨rfl, hb⟩; have hb : Ext w w1 := Ext.trans (by (repeat' (first | exact Below.refl _ _ | assumption | refine Ext.alloc ?_ _ | refine Ext.drew ?_ | refine Ext.trans ?_ (by assumption)))) hb))
                go_ret
                exact ⟨rfl, hb⟩
              | false =>
                have HH := hide hH
                clear hH
                rw [HH.out] at hHas
                cases hG2 : mget s M with
                | none =>
                  have HG2 := hide hG2
                  clear hG2
                  go_wp2_with (first
                    | (go_at_call 22; refine (hHas.out _).mono ?_; rintro e w' ⟨rfl, rfl⟩)
                    | (at_lookup; refine wpList_lookup_at rfl _ _ 45 true rfl keyS undSI (0 : Int) (zeroI _) w4.heap.size M rfl hMr7.out s rfl ?_; rw [HG2.out]; simp only [Option.getD_none, Option.isSome_none, if_true]))
                  go_roundg (un - (u + 1))
                  case measure => omega
                  case rel => exact ⟨u + 1, ns, by omega, by omega, by go_num, HO7, hide (names_stay HNs7.out HS.out (lookup_no HPm2.out HG2.out)), hide (names_new HNw7.out HS.out HH.out), BM⟩
                | some t =>
                  have HG2 := hide hG2
                  obtain ⟨tn, rfl, htn, hrt⟩ := lookup_yes HPm2.out hG2 (by have := HLn.out; omega)
                  have HRT := hide hrt
                  clear hG2 hrt
                  go_wp2_with (first
                    | (go_at_call 22; refine (hHas.out _).mono ?_; rintro e w' ⟨rfl, rfl⟩)
                    | (at_lookup; refine wpList_lookup_at rfl _ _ 45 true rfl keyS undSI (0 : Int) (zeroI _) w4.heap.size M rfl hMr7.out s rfl ?_; rw [HG2.out]; simp only [Option.getD_some, Option.isSome_some, if_true]))
                  go_region_with (go_at_call 24; refine (anewed_any tn (by omega) _).mono ?_; rintro e w' ⟨rfl, rfl⟩)
                  all_goals
                    go_wp2
                    go_roundg (un - (u + 1))
                    case measure => omega
                    case rel => exact ⟨u + 1, ns.set u (anewB tn), by omega, by omega, by go_num, hide (own_put HO7.out HY.out hvy (by have := HNL.out; omega)), hide (names_put HNs7.out HS.out HRT.out), hide (names_new HNw7.out HS.out HH.out), Below.drew (Below.setCell BM (p := ⟨gb, u, none⟩) hgb0 _)⟩
            · have huz : ¬ (u : Int) < (un : Int) := by omega
              have HUe : Hid (u = names.length) := hide (by have := HUn.out; omega)
              have HNf : Hid (ns = names.map (ren l)) := hide (by have := HNs7.out; rw [HUe.out, List.take_length, List.drop_length, List.append_nil] at this; exact this)
              have HNg : Hid (∀ s ∈ names, hasNew s = false) := hide (by have := HNw7.out; rwa [HUe.out, List.take_length] at this)
              have hr7 : wr.ownsRow B 27 6 (.slice (some ⟨g, 0, none⟩) n2 c2) n2 ((ys.set v ⟨⟨anewB v, kd, ns, ov, wid, q0⟩, ⟨up, un, uc⟩⟩).flatMap It.cells) := by
                have := HO7.out.row
                rwa [List.length_set, HYl.out, ← HN3.out] at this
              have HR7 := hide hr7
              have d3 : wr.cell? ⟨g, v * 6 + 3, none⟩ = some (.string ov) := (hr7.cellAt (v * 6 + 3) (by omega)).trans (flatG_at It.cells_len (set_at_same HY.out) rfl)
              have hMr7 := hide (HMc.out.of_block (BM.block _ hBm))
              have HYS : Hid ((ys.set v ⟨⟨anewB v, kd, ns, ov, wid, q0⟩, ⟨up, un, uc⟩⟩)[v]? = some ⟨⟨anewB v, kd, ns, ov, wid, q0⟩, ⟨up, un, uc⟩⟩) := hide (set_at_same HY.out)
              clear hr7 HNs7 HNw7 hul
              cases hG2 : mget ov M with
              | some t =>
                have HG2 := hide hG2
                obtain ⟨tn, rfl, htn, hrt⟩ := lookup_yes HPm2.out hG2 (by have := HLn.out; omega)
                have HRT := hide hrt
                have HOv : Hid (hasNew ov = false) := hide (HNw2.out ov (lookup_mem HPm2.out hG2))
                clear hG2 hrt
                go_wp2_with (first
                  | (at_lookup; refine wpList_lookup_at rfl _ _ 45 true rfl keyS undSI (0 : Int) (zeroI _) w4.heap.size M rfl hMr7.out ov rfl ?_; rw [HG2.out]; simp only [Option.getD_some, Option.isSome_some, if_true])
                  | (go_at_call 24; refine (anewed_any tn (by omega) _).mono ?_; rintro e w' ⟨rfl, rfl⟩)
                  | (refine wpList_storeG (cells := It.cells) It.cells_len rfl _ _ _ rfl s9' g v 3 _ 27 rfl rfl rfl HR7.out (by omega) HYS.out (by decide) (nd' := ⟨⟨anewB v, kd, ns, anewB tn, wid, q0⟩, ⟨up, un, uc⟩⟩) rfl ?_; intro w8 ho8 hg8; have HO8 := hide (own_ov HO7.out HY.out ho8 HYl.out HN3.out hg8); have hB8 : Below B w5 w8 := Below.grown BM hg8 (Nat.le_trans hB5 BM.size) (fun k hk => by cases hk; exact hg0); clear ho8 hg8))
                go_roundg (n2 - (v + 1))
                case measure => omega
                case rel => exact ⟨v + 1, _, by omega, by omega, by go_num, HO8, hide (by rw [List.length_set]; exact HN3.out.trans HYl.out.symm), hide (split_set HSp.out (by have := HTs.out; omega) HY.out (by simp only [renI, HRn.out, HRT.out, HNf.out])), hide (plain_next HPl.out HYd.out HNg.out HOv.out), hB8⟩
              | none =>
                have HG2 := hide hG2
                clear hG2
                have hHas := hide (fun W => hasNew_any ov W)
                cases hH : hasNew ov with
                | true =>
                  have HH := hide hH
                  clear hH
                  rw [HH.out] at hHas
                  go_wp2_with (first
                    | (at_lookup; refine wpList_lookup_at rfl _ _ 45 true rfl keyS undSI (0 : Int) (zeroI _) w4.heap.size M rfl hMr7.out ov rfl ?_; rw [HG2.out]; simp only [Option.getD_none, Option.isSome_none, if_true])
                    | (go_at_call 22; refine (hHas.out _).mono ?_; rintro e w' ⟨rfl, rfl⟩)
                    | (go_at_call 9; with_reducible refine (HAW.out _).mono ?_; rintro e w1 ⟨rfl, hb⟩; have hb : Ext w w1 := Ext.trans (by (repeat' (first | exact Below.refl _ _ | assumption | refine Ext.alloc ?_ _ | refine Ext.drew ?_ | refine Ext.trans ?_ (by assumption)))) hb))
                  go_ret
                  exact ⟨rfl, hb⟩
                | false =>
                  have HH := hide hH
                  clear hH
                  rw [HH.out] at hHas
                  go_wp2_with (first
                    | (at_lookup; refine wpList_lookup_at rfl _ _ 45 true rfl keyS undSI (0 : Int) (zeroI _) w4.heap.size M rfl hMr7.out ov rfl ?_; rw [HG2.out]; simp only [Option.getD_none, Option.isSome_none, if_true])
                    | (go_at_call 22; refine (hHas.out _).mono ?_; rintro e w' ⟨rfl, rfl⟩))
                  go_roundg (n2 - (v + 1))
                  case measure => omega
                  case rel => exact ⟨v + 1, _, by omega, by omega, by go_num, hide (by have := HO7.out; rw [List.length_set, HYl.out]; exact this), hide (by rw [List.length_set]; exact HN3.out.trans HYl.out.symm), hide (split_set HSp.out (by have := HTs.out; omega) HY.out (by simp only [renI, HRn.out, lookup_no HPm2.out HG2.out, HNf.out])), hide (plain_next HPl.out HYd.out HNg.out HH.out), BM⟩
        · have hvz : ¬ (v : Int) < (n2 : Int) := by omega
          have hve : v = (itemOf ts).length := by have := HTs.out; omega
          have hys : itemOf ys = (itemOf ts).map (renI l) := by have := HSp.out; rwa [hve, List.take_length, List.drop_length, List.append_nil] at this
          have hpl : ∀ x ∈ itemOf ts, (∀ s ∈ x.names, hasNew s = false) ∧ hasNew x.ov = false := by have := HPl.out; rwa [hve, List.take_length] at this
          have HP : Plain l (itemOf ts) := ⟨by have := HTs.out; omega, HLL.out.symm, HOn2.out, fun x hx => HNw2.out _ (by rw [← HLL.out]; exact List.mem_map_of_mem hx), fun x hx => (hpl x hx).1, fun x hx => (hpl x hx).2, HRt.out⟩
          have hEr : Ext w wr := Below.trans hEw5 (Below.mono BJ hBw)
          have hE1r : Ext w1 wr := Below.trans hE15 (Below.mono BJ hB1)
          have hE0r : Ext w0 wr := Below.trans hE05 (Below.mono BJ hB0)
          have hIt := HOI.out.items HN3.out
          have hR2 : rightB (itemOf ys) = true := by rw [hys]; exact HP.right_ren
          have hT2 : totalZ (itemOf ys) = totalZ (itemOf ts) := by rw [hys]; exact HP.total_ren
          have hF2 := HP.frag_ren ⟨cq, cd, cw, cr, cfl⟩ xs i qu
          rw [← hys] at hF2
          have hlt : its.length = its.length := rfl
          have HTa := hide (fun (W : World) (h : Ext wr W) => total_any _ n2 k ts W (HI2.out.below (hEr.trans h)).rows (fits_all HRt.out) (by have := HNm.out; omega))
          have HTb := hide (fun (W : World) (h : Ext wr W) => total_any p2 n2 c2 ys W (hIt.below h).rows (fits_all hR2) (by have := HN3.out; omega))
          rw [hT2] at HTb
          have HA := hide (fun (W : World) (h : Ext wr W) => frag_at ⟨sp, sn, sc⟩ _ n2 k i xs ts W ⟨cq, cd, cw, cr, cfl⟩ qu _ (nodes_of' HO HL (hE1r.trans h)) HR.out ⟨by have := HL.out; omega, hi1⟩ (HI2.out.below (hEr.trans h)) (by have := HL.out; omega) rfl)
          have HB := hide (fun (W : World) (h : Ext wr W) => frag_at ⟨sp, sn, sc⟩ p2 n2 c2 i xs ys W ⟨cq, cd, cw, cr, cfl⟩ qu _ (nodes_of' HO HL (hE1r.trans h)) HR.out ⟨by have := HL.out; omega, hi1⟩ (hIt.below h) (by have := HL.out; omega) hF2)
          dsimp only at HA HB
          obtain ⟨hbz, r0, r1, r2, r3, r4⟩ := box_at hE0r hz0 b0 b1 b2 b3 b4
          have hcE : ∀ W b o, Ext wr W → b < wr.heap.size → W.cell? ⟨b, o, none⟩ = wr.cell? ⟨b, o, none⟩ := fun W b o h hb => h.cell (p := ⟨b, o, none⟩) hb
          clear hve hys hpl HP hIt hR2 hT2 hF2 HOI HSp HPl hlt HPm2 HOn2 HNw2 HI5 HO5 HMc
          generalize totalZ (itemOf ts) = T at *
          generalize fragE _ _ _ _ _ = E at *
          go_wp2_with fail
          refine wp_region_ext_lit (by kernel_rfl) (by kernel_rfl) ?_
          (repeat (first | (go_big_quiet_skip; (try simp only [Act.put, List.setIfInBounds_toArray, List.set_cons_succ, List.set_cons_zero])) | (go_big_quiet_want; apply Exists.intro; refine ⟨fun W hW => ?_, ?_⟩; (focus (unfold Oper.quietAt; go_simp; (first | done | exact rfl | exact ⟨rfl, rfl⟩ | (first | (go_at_call 11; (first | with_reducible refine (HTa.out _ hW).mono ?_ | with_reducible refine (HTb.out _ hW).mono ?_); rintro e w3 ⟨rfl, hb3⟩; exact ⟨rfl, Ext.trans hW hb3⟩) | (go_at_call 9; refine (HAW.out _).mono ?_; rintro e w3 ⟨rfl, hb3⟩; exact ⟨rfl, Ext.trans hW hb3⟩) | (go_at_call 14; (first | with_reducible refine (HA.out _ hW).mono ?_ | with_reducible refine (HB.out _ hW).mono ?_); rintro e w3 ⟨rfl, hb3⟩; exact ⟨rfl, Ext.trans hW hb3⟩))))); go_big_quiet_on; (try simp only [Act.put, List.setIfInBounds_toArray, List.set_cons_succ, List.set_cons_zero]))))
          refine wpQuiet_nil ?_
          intro w3 hw3
          go_wp2
          go_ret
          exact ⟨rfl, hEr.trans hw3⟩
end Go.Proofs.YtfcdohaimdodgaaDoor
