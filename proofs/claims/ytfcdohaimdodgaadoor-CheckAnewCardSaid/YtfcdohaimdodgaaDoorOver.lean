/-
  check: over by what the document says.
-/
import Derived.Test.YtfcdohaimdodgaaDoorRefers
import Derived.Deep.QuietTactic
import Derived.BigQuiet
namespace Go.Proofs.YtfcdohaimdodgaaDoor
open Go.RowKit Go.Shelf
set_option linter.unusedVariables false
set_option linter.unusedSimpArgs false

/-- A region that draws its order, whose operations read and whose callees leave all as it was: one walk in the order of the text. -/
theorem wp_region_ext_lit {P : Program} {id : Nat} {Q : Exit → Act → World → Prop} {a : Act} {w : World} {l : List Oper} (hm : P.follows .mixedOrders = true) (hB : Region.lexB .any l.toArray = true)
    (h : wpQuiet P l.toArray (fun w' => Ext w w') (fun a' => ∀ w', Ext w w' → Q .normal a' w') l a) : (Code.region id l.toArray true).wp P Q a w :=
  wp_region_quiet (C := fun w' => Ext w w') hm hB (Ext.drew (Ext.refl w)) (by simpa using h)
theorem enters_aOver1 : ∀ args w, (callFunc 78 args).run Tryd.prog w = .ok (.enter 78 args) w := enters_of Tryd.func78 (by kernel_rfl) rfl
theorem isMapN_any (x : It) (w : World) : Calls Tryd.prog 74 #[.agg #[.string x.d.nm, .int .u8 x.d.k, .slice x.af.p x.af.n x.af.c, .string x.d.ov, .int .i64 x.d.wd, .int .i64 x.d.q]] w fun e w' => e = .returned (.bool (isMapN x.d)) ∧ Ext w w' := isMap_any x w
theorem over1_no (a : Ask) (x : It) (B : Nat) (w : World) (hx : isMapN x.d = false) :
    Calls Tryd.prog 78 #[.agg #[.string x.d.nm, .int .u8 x.d.k, .slice x.af.p x.af.n x.af.c, .string x.d.ov, .int .i64 x.d.wd, .int .i64 x.d.q], .pointer (some ⟨B, 0, none⟩)] w fun e w' =>
      e = .returned (.bool false) ∧ Ext w w' := by
  have HM := hide (fun W => isMapN_any x W)
  rw [hx] at HM
  clear hx
  go_enter Tryd.func78, Tryd.ntmps78
  go_wp2_with (go_at_call 74; refine (HM.out _).mono ?_; rintro e w' ⟨rfl, hb⟩; obtain ⟨hc, hf, hz⟩ := bcell hb; (try have zw0 := hz (w.heap.size) (by first | (simp; omega) | omega | (simp; done) | assumption)); (try have zw1 := hz (w.heap.size + 1) (by first | (simp; omega) | omega | (simp; done) | assumption)); (try have zw2 := hz (w.heap.size + 2) (by first | (simp; omega) | omega | (simp; done) | assumption)); (try have zr0 := hz (wr.heap.size) (by first | (simp; omega) | omega | (simp; done) | assumption)); (try have zr1 := hz (wr.heap.size + 1) (by first | (simp; omega) | omega | (simp; done) | assumption)); (try have zr2 := hz (wr.heap.size + 2) (by first | (simp; omega) | omega | (simp; done) | assumption)); (try have zB0 := hz (B) (by first | (simp; omega) | omega | (simp; done) | assumption)); clear hz)
  go_ret
  exact ⟨rfl, by (repeat' (first | exact Below.refl _ _ | assumption | refine Ext.alloc ?_ _ | refine Ext.drew ?_ | refine Ext.trans ?_ (by assumption)))⟩
set_option maxHeartbeats 1000000 in
theorem over1_item (a : Ask) (xs : List GN) (its : List It) (x y : It) (i : Nat) (B : Nat) (w : World) (ha : AskAt w a xs its) (hB : AskBox w B a) (hx : isMapN x.d = true) (hi : (refsN xs a.owner (itemOf its) x.d.ov).1 = i) (hy : its[i]? = some y) :
    Calls Tryd.prog 78 #[.agg #[.string x.d.nm, .int .u8 x.d.k, .slice x.af.p x.af.n x.af.c, .string x.d.ov, .int .i64 x.d.wd, .int .i64 x.d.q], .pointer (some ⟨B, 0, none⟩)] w fun e w' =>
      e = .returned (.bool (isMapN y.d && decide (x.d.wd < y.d.wd))) ∧ Ext w w' := by
  have HM := hide (fun W => isMapN_any x W)
  rw [hx] at HM
  clear hx
  have HMy := hide (fun W => isMapN_any y W)
  have HT := hide (fun (W : World) (hb : Ext w W) => refs_tup a xs its x.d.ov W (ha.below hb))
  rw [hi] at HT
  clear hi
  generalize (refsN xs a.owner (itemOf its) x.d.ov).2 = k2 at *
  generalize lostN xs a.owner (itemOf its) x.d.ov = L at *
  have hrow := ha.items.rows
  have hlen := hrow.len
  have hin : i < a.is.n := by
    rcases Nat.lt_or_ge i its.length with h | h
    · omega
    · rw [List.getElem?_eq_none h] at hy; cases hy
  have hnb := hrow.big
  have hcap := hrow.cap
  have hlt := hB.lt
  have hne : B ≠ w.heap.size := by omega
  have HB := hide (fun (W : World) (hb : Ext w W) => (hB.below hb).all)
  obtain ⟨b0, b1, b2, b3, b4, b5, b6, b7, b8⟩ := hB.all
  clear hB
  obtain ⟨⟨cq, cd, cw, cr, cf⟩, ⟨np, nn, nc⟩, owner, quota, ⟨ip, iN, ic⟩⟩ := a
  dsimp only [Ask.cells] at *
  obtain ⟨b, o, hp, hblt, -⟩ := ItemsAt.cells' hrow hy
  have HY := hide (fun (W : World) (hb : Ext w W) => ItemsAt.cells' (hrow.below hb) hy)
  clear ha hrow hlen
  subst hp
  have hiz : (i : Int) < (iN : Int) := by omega
  have hiN : (iN : Int) ≤ 9223372036854775807 := by omega
  generalize isMapN y.d = M at *
  go_enter Tryd.func78, Tryd.ntmps78
  go_wp2_with (first | (go_at_call 74; refine (HM.out _).mono ?_; rintro e w' ⟨rfl, hb⟩; obtain ⟨hc, hf, hz⟩ := bcell hb; (try have zw0 := hz (w.heap.size) (by first | (simp; omega) | omega | (simp; done) | assumption)); (try have zw1 := hz (w.heap.size + 1) (by first | (simp; omega) | omega | (simp; done) | assumption)); (try have zw2 := hz (w.heap.size + 2) (by first | (simp; omega) | omega | (simp; done) | assumption)); (try have zr0 := hz (wr.heap.size) (by first | (simp; omega) | omega | (simp; done) | assumption)); (try have zr1 := hz (wr.heap.size + 1) (by first | (simp; omega) | omega | (simp; done) | assumption)); (try have zr2 := hz (wr.heap.size + 2) (by first | (simp; omega) | omega | (simp; done) | assumption)); (try have zB0 := hz (B) (by first | (simp; omega) | omega | (simp; done) | assumption)); clear hz) | (go_at_call 36; refine (HT.out _ (by (repeat' (first | exact Below.refl _ _ | assumption | refine Ext.alloc ?_ _ | refine Ext.drew ?_ | refine Ext.trans ?_ (by assumption))))).mono ?_; rintro e w' ⟨rfl, hb⟩; obtain ⟨hc, hf, hz⟩ := bcell hb; (try have zw0 := hz (w.heap.size) (by first | (simp; omega) | omega | (simp; done) | assumption)); (try have zw1 := hz (w.heap.size + 1) (by first | (simp; omega) | omega | (simp; done) | assumption)); (try have zw2 := hz (w.heap.size + 2) (by first | (simp; omega) | omega | (simp; done) | assumption)); (try have zr0 := hz (wr.heap.size) (by first | (simp; omega) | omega | (simp; done) | assumption)); (try have zr1 := hz (wr.heap.size + 1) (by first | (simp; omega) | omega | (simp; done) | assumption)); (try have zr2 := hz (wr.heap.size + 2) (by first | (simp; omega) | omega | (simp; done) | assumption)); (try have zB0 := hz (B) (by first | (simp; omega) | omega | (simp; done) | assumption)); clear hz))
  have hB2 : Ext w w' := by (repeat' (first | exact Below.refl _ _ | assumption | refine Ext.alloc ?_ _ | refine Ext.drew ?_ | refine Ext.trans ?_ (by assumption)))
  obtain ⟨p0, p1, p2, p3, p4, p5, p6, p7, p8⟩ := HB.out w' hB2
  obtain ⟨b', o', hp', hblt', d0, d1, d2, d3, d4, d5⟩ := HY.out w' hB2
  obtain ⟨rfl, rfl⟩ : b = b' ∧ o = o' := by simpa using hp'
  clear hp'
  have hxw : w'.cell? ⟨w.heap.size, 4, none⟩ = some (.int .i64 x.d.wd) := by go_simp
  have hzz : w.heap.size < w'.heap.size := by assumption
  clear hc hf HM HT
  have hcE : ∀ W b o, Ext w' W → b < w'.heap.size → W.cell? ⟨b, o, none⟩ = w'.cell? ⟨b, o, none⟩ := fun W b o h hb => h.cell (p := ⟨b, o, none⟩) hb
  have hBz : B < w'.heap.size := Nat.lt_of_lt_of_le hlt hB2.size
  have hbz : b < w'.heap.size := Nat.lt_of_lt_of_le hblt hB2.size
  cases M
  all_goals
    refine wp_region_ext_lit (by kernel_rfl) (by kernel_rfl) ?_
    (repeat (first | (go_big_quiet_skip; (try simp only [Act.put, List.setIfInBounds_toArray, List.set_cons_succ, List.set_cons_zero])) | (go_big_quiet_want; apply Exists.intro; refine ⟨fun W hW => ?_, ?_⟩; (focus (unfold Oper.quietAt; go_simp; (first | done | exact rfl | exact ⟨rfl, rfl⟩ | (go_at_call 74; refine (HMy.out _).mono ?_; rintro e w3 ⟨rfl, hb3⟩; exact ⟨rfl, Ext.trans hW hb3⟩)))); go_big_quiet_on; (try simp only [Act.put, List.setIfInBounds_toArray, List.set_cons_succ, List.set_cons_zero]))))
    refine wpQuiet_nil ?_
    intro w3 hw3
    go_wp2
    go_ret
    exact ⟨ret_bool (by simp), hB2.trans hw3⟩
set_option maxHeartbeats 1000000 in
theorem over1_node (a : Ask) (xs : List GN) (its : List It) (x : It) (y : GN) (i : Int) (j : Nat) (B : Nat) (w : World) (ha : AskAt w a xs its) (hB : AskBox w B a) (hx : isMapN x.d = true) (hi : (refsN xs a.owner (itemOf its) x.d.ov).1 = i) (hi0 : i < 0) (hj : (refsN xs a.owner (itemOf its) x.d.ov).2 = j) (hy : xs[j]? = some y) :
    Calls Tryd.prog 78 #[.agg #[.string x.d.nm, .int .u8 x.d.k, .slice x.af.p x.af.n x.af.c, .string x.d.ov, .int .i64 x.d.wd, .int .i64 x.d.q], .pointer (some ⟨B, 0, none⟩)] w fun e w' =>
      e = .returned (.bool (y.k == 1 && decide (x.d.wd < y.wd))) ∧ Ext w w' := by
  have HM := hide (fun W => isMapN_any x W)
  rw [hx] at HM
  clear hx
  have HT := hide (fun (W : World) (hb : Ext w W) => refs_tup a xs its x.d.ov W (ha.below hb))
  rw [hi, hj] at HT
  clear hi hj
  generalize lostN xs a.owner (itemOf its) x.d.ov = L at *
  have hrow := ha.nodes
  have hlen := hrow.len
  have hjn : j < a.ns.n := by
    rcases Nat.lt_or_ge j xs.length with h | h
    · omega
    · rw [List.getElem?_eq_none h] at hy; cases hy
  have hnb := hrow.big
  have hcap := hrow.cap
  have hlt := hB.lt
  have hne : B ≠ w.heap.size := by omega
  have HB := hide (fun (W : World) (hb : Ext w W) => (hB.below hb).all)
  obtain ⟨b0, b1, b2, b3, b4, b5, b6, b7, b8⟩ := hB.all
  clear hB
  obtain ⟨⟨cq, cd, cw, cr, cf⟩, ⟨np, nn, nc⟩, owner, quota, ⟨ip, iN, ic⟩⟩ := a
  dsimp only [Ask.cells] at *
  obtain ⟨b, o, hp, hblt, -⟩ := nodeAt hrow hy
  have HY := hide (fun (W : World) (hb : Ext w W) => nodeAt (hrow.below hb) hy)
  clear ha hrow hlen
  subst hp
  have hjz : (j : Int) < (nn : Int) := by omega
  have hjN : (nn : Int) ≤ 9223372036854775807 := by omega
  have HK : (y.k == 1) = true ∨ (y.k == 1) = false := by cases (y.k == 1) <;> simp
  go_enter Tryd.func78, Tryd.ntmps78
  go_wp2_with (first | (go_at_call 74; refine (HM.out _).mono ?_; rintro e w' ⟨rfl, hb⟩; obtain ⟨hc, hf, hz⟩ := bcell hb; (try have zw0 := hz (w.heap.size) (by first | (simp; omega) | omega | (simp; done) | assumption)); (try have zw1 := hz (w.heap.size + 1) (by first | (simp; omega) | omega | (simp; done) | assumption)); (try have zw2 := hz (w.heap.size + 2) (by first | (simp; omega) | omega | (simp; done) | assumption)); (try have zr0 := hz (wr.heap.size) (by first | (simp; omega) | omega | (simp; done) | assumption)); (try have zr1 := hz (wr.heap.size + 1) (by first | (simp; omega) | omega | (simp; done) | assumption)); (try have zr2 := hz (wr.heap.size + 2) (by first | (simp; omega) | omega | (simp; done) | assumption)); (try have zB0 := hz (B) (by first | (simp; omega) | omega | (simp; done) | assumption)); clear hz) | (go_at_call 36; refine (HT.out _ (by (repeat' (first | exact Below.refl _ _ | assumption | refine Ext.alloc ?_ _ | refine Ext.drew ?_ | refine Ext.trans ?_ (by assumption))))).mono ?_; rintro e w' ⟨rfl, hb⟩; obtain ⟨hc, hf, hz⟩ := bcell hb; (try have zw0 := hz (w.heap.size) (by first | (simp; omega) | omega | (simp; done) | assumption)); (try have zw1 := hz (w.heap.size + 1) (by first | (simp; omega) | omega | (simp; done) | assumption)); (try have zw2 := hz (w.heap.size + 2) (by first | (simp; omega) | omega | (simp; done) | assumption)); (try have zr0 := hz (wr.heap.size) (by first | (simp; omega) | omega | (simp; done) | assumption)); (try have zr1 := hz (wr.heap.size + 1) (by first | (simp; omega) | omega | (simp; done) | assumption)); (try have zr2 := hz (wr.heap.size + 2) (by first | (simp; omega) | omega | (simp; done) | assumption)); (try have zB0 := hz (B) (by first | (simp; omega) | omega | (simp; done) | assumption)); clear hz))
  have hB2 : Ext w w' := by (repeat' (first | exact Below.refl _ _ | assumption | refine Ext.alloc ?_ _ | refine Ext.drew ?_ | refine Ext.trans ?_ (by assumption)))
  obtain ⟨p0, p1, p2, p3, p4, p5, p6, p7, p8⟩ := HB.out w' hB2
  obtain ⟨b', o', hp', hblt', d0, d1, d2, d3, d4, d5, d6, d7, -⟩ := HY.out w' hB2
  obtain ⟨rfl, rfl⟩ : b = b' ∧ o = o' := by simpa using hp'
  clear hp'
  have hxw : w'.cell? ⟨w.heap.size, 4, none⟩ = some (.int .i64 x.d.wd) := by go_simp
  have hzz : w.heap.size < w'.heap.size := by assumption
  clear hc hf HM HT
  have hcE : ∀ W b o, Ext w' W → b < w'.heap.size → W.cell? ⟨b, o, none⟩ = w'.cell? ⟨b, o, none⟩ := fun W b o h hb => h.cell (p := ⟨b, o, none⟩) hb
  have hBz : B < w'.heap.size := Nat.lt_of_lt_of_le hlt hB2.size
  have hbz : b < w'.heap.size := Nat.lt_of_lt_of_le hblt hB2.size
  rcases HK with hk | hk
  all_goals
    refine wp_region_ext_lit (by kernel_rfl) (by kernel_rfl) ?_
    (repeat (first | (go_big_quiet_skip; (try simp only [Act.put, List.setIfInBounds_toArray, List.set_cons_succ, List.set_cons_zero])) | (go_big_quiet_want; apply Exists.intro; refine ⟨fun W hW => ?_, ?_⟩; (focus (unfold Oper.quietAt; go_simp; (first | done | exact rfl | exact ⟨rfl, rfl⟩ | (fail)))); go_big_quiet_on; (try simp only [Act.put, List.setIfInBounds_toArray, List.set_cons_succ, List.set_cons_zero]))))
    refine wpQuiet_nil ?_
    intro w3 hw3
    go_wp2
    go_ret
    exact ⟨ret_bool (by simp [hk]), hB2.trans hw3⟩
theorem over1_none (a : Ask) (xs : List GN) (its : List It) (x : It) (i j : Int) (B : Nat) (w : World) (ha : AskAt w a xs its) (hB : AskBox w B a) (hx : isMapN x.d = true) (hi : (refsN xs a.owner (itemOf its) x.d.ov).1 = i) (hi0 : i < 0) (hj : (refsN xs a.owner (itemOf its) x.d.ov).2 = j) (hj0 : j < 0) :
    Calls Tryd.prog 78 #[.agg #[.string x.d.nm, .int .u8 x.d.k, .slice x.af.p x.af.n x.af.c, .string x.d.ov, .int .i64 x.d.wd, .int .i64 x.d.q], .pointer (some ⟨B, 0, none⟩)] w fun e w' =>
      e = .returned (.bool false) ∧ Ext w w' := by
  have HM := hide (fun W => isMapN_any x W)
  rw [hx] at HM
  clear hx
  have HT := hide (fun (W : World) (hb : Ext w W) => refs_tup a xs its x.d.ov W (ha.below hb))
  rw [hi, hj] at HT
  clear hi hj
  generalize lostN xs a.owner (itemOf its) x.d.ov = L at *
  have hlt := hB.lt
  have hne : B ≠ w.heap.size := by omega
  obtain ⟨b0, b1, b2, b3, b4, b5, b6, b7, b8⟩ := hB.all
  clear hB ha
  obtain ⟨⟨cq, cd, cw, cr, cf⟩, ⟨np, nn, nc⟩, owner, quota, ⟨ip, iN, ic⟩⟩ := a
  dsimp only [Ask.cells] at *
  go_enter Tryd.func78, Tryd.ntmps78
  go_wp2_with (first | (go_at_call 74; refine (HM.out _).mono ?_; rintro e w' ⟨rfl, hb⟩; obtain ⟨hc, hf, hz⟩ := bcell hb; (try have zw0 := hz (w.heap.size) (by first | (simp; omega) | omega | (simp; done) | assumption)); (try have zw1 := hz (w.heap.size + 1) (by first | (simp; omega) | omega | (simp; done) | assumption)); (try have zw2 := hz (w.heap.size + 2) (by first | (simp; omega) | omega | (simp; done) | assumption)); (try have zr0 := hz (wr.heap.size) (by first | (simp; omega) | omega | (simp; done) | assumption)); (try have zr1 := hz (wr.heap.size + 1) (by first | (simp; omega) | omega | (simp; done) | assumption)); (try have zr2 := hz (wr.heap.size + 2) (by first | (simp; omega) | omega | (simp; done) | assumption)); (try have zB0 := hz (B) (by first | (simp; omega) | omega | (simp; done) | assumption)); clear hz) | (go_at_call 36; refine (HT.out _ (by (repeat' (first | exact Below.refl _ _ | assumption | refine Ext.alloc ?_ _ | refine Ext.drew ?_ | refine Ext.trans ?_ (by assumption))))).mono ?_; rintro e w' ⟨rfl, hb⟩; obtain ⟨hc, hf, hz⟩ := bcell hb; (try have zw0 := hz (w.heap.size) (by first | (simp; omega) | omega | (simp; done) | assumption)); (try have zw1 := hz (w.heap.size + 1) (by first | (simp; omega) | omega | (simp; done) | assumption)); (try have zw2 := hz (w.heap.size + 2) (by first | (simp; omega) | omega | (simp; done) | assumption)); (try have zr0 := hz (wr.heap.size) (by first | (simp; omega) | omega | (simp; done) | assumption)); (try have zr1 := hz (wr.heap.size + 1) (by first | (simp; omega) | omega | (simp; done) | assumption)); (try have zr2 := hz (wr.heap.size + 2) (by first | (simp; omega) | omega | (simp; done) | assumption)); (try have zB0 := hz (B) (by first | (simp; omega) | omega | (simp; done) | assumption)); clear hz))
  go_ret
  exact ⟨rfl, by (repeat' (first | exact Below.refl _ _ | assumption | refine Ext.alloc ?_ _ | refine Ext.drew ?_ | refine Ext.trans ?_ (by assumption)))⟩
theorem over1_any (a : Ask) (xs : List GN) (its : List It) (x : It) (B : Nat) (w : World) (ha : AskAt w a xs its) (hB : AskBox w B a) :
    Calls Tryd.prog 78 #[.agg #[.string x.d.nm, .int .u8 x.d.k, .slice x.af.p x.af.n x.af.c, .string x.d.ov, .int .i64 x.d.wd, .int .i64 x.d.q], .pointer (some ⟨B, 0, none⟩)] w fun e w' =>
      e = .returned (.bool (overItem xs a.owner (itemOf its) x.d)) ∧ Ext w w' := by
  cases hx : isMapN x.d with
  | false =>
    have : overItem xs a.owner (itemOf its) x.d = false := by simp [overItem, hx]
    rw [this]; exact over1_no a x B w hx
  | true =>
    have hbd := refsN_bd xs a.owner (itemOf its) x.d.ov
    by_cases hi : 0 ≤ (refsN xs a.owner (itemOf its) x.d.ov).1
    · obtain ⟨i, hi2⟩ := Int.eq_ofNat_of_zero_le hi
      have hlt : i < its.length := by have : (itemOf its).length = its.length := by simp [itemOf]
                                      omega
      obtain ⟨y, hy⟩ := getElem?_of_lt hlt
      have : overItem xs a.owner (itemOf its) x.d = (isMapN y.d && decide (x.d.wd < y.d.wd)) := by
        simp only [overItem, hx, Bool.true_and, if_pos hi, hi2]
        simp [itemOf, hy]
      rw [this]; exact over1_item a xs its x y i B w ha hB hx hi2 hy
    · by_cases hj : 0 ≤ (refsN xs a.owner (itemOf its) x.d.ov).2
      · obtain ⟨j, hj2⟩ := Int.eq_ofNat_of_zero_le hj
        have hlt : j < xs.length := by omega
        obtain ⟨y, hy⟩ := getElem?_of_lt hlt
        have : overItem xs a.owner (itemOf its) x.d = (y.k == 1 && decide (x.d.wd < y.wd)) := by
          simp only [overItem, hx, Bool.true_and, if_neg hi, if_pos hj, hj2]
          simp [hy]
        rw [this]; exact over1_node a xs its x y _ j B w ha hB hx rfl (by omega) hj2 hy
      · have : overItem xs a.owner (itemOf its) x.d = false := by
          simp only [overItem, hx, Bool.true_and, if_neg hi, if_neg hj]
        rw [this]; exact over1_none a xs its x _ _ B w ha hB hx rfl (by omega) rfl (by omega)
theorem over_any (a : Ask) (xs : List GN) (its : List It) (w : World) (ha : AskAt w a xs its) :
    Calls Tryd.prog 59 #[.agg a.cells.toArray] w fun e w' => e = .returned (.bool (overN xs a.owner (itemOf its))) ∧ Ext w w' := by
  have HR : Hid (overN xs a.owner (itemOf its) = its.any fun x => overItem xs a.owner (itemOf its) x.d) := by
    apply hide; unfold overN
    conv => lhs; arg 1; unfold itemOf
    rw [List.any_map]; rfl
  have H := hide (fun (W : World) (hb : Ext w W) (hB : AskBox W w.heap.size a) => has_any a its (fun x => overItem xs a.owner (itemOf its) x.d) 78 #[] #[.pointer (some ⟨w.heap.size, 0, none⟩)] W enters_aOver1 (ha.items.below hb) (fun x hx W' hb' => over1_any a xs its x w.heap.size W' (ha.below (hb.trans hb')) (hB.below hb')))
  have hB := hide (AskBox.new w a 67)
  clear ha
  obtain ⟨⟨cq, cd, cw, cr, cf⟩, ⟨np, nn, nc⟩, owner, quota, ⟨ip, iN, ic⟩⟩ := a
  dsimp only [Ask.cells] at *
  rw [HR.out]; clear HR
  generalize (its.any fun x => overItem xs owner (itemOf its) x.d) = A at *
  go_enter Tryd.func59, Tryd.ntmps59
  go_wp2_with (go_at_call 72; refine (H.out _ (by (repeat' (first | exact Below.refl _ _ | assumption | refine Ext.alloc ?_ _ | refine Ext.drew ?_ | refine Ext.trans ?_ (by assumption)))) hB.out).mono ?_; rintro e w' ⟨rfl, hb⟩; obtain ⟨hc, hf, hz⟩ := bcell hb; (try have zw0 := hz (w.heap.size) (by first | (simp; omega) | omega | (simp; done) | assumption)); (try have zw1 := hz (w.heap.size + 1) (by first | (simp; omega) | omega | (simp; done) | assumption)); (try have zw2 := hz (w.heap.size + 2) (by first | (simp; omega) | omega | (simp; done) | assumption)); (try have zr0 := hz (wr.heap.size) (by first | (simp; omega) | omega | (simp; done) | assumption)); (try have zr1 := hz (wr.heap.size + 1) (by first | (simp; omega) | omega | (simp; done) | assumption)); (try have zr2 := hz (wr.heap.size + 2) (by first | (simp; omega) | omega | (simp; done) | assumption)); (try have zB0 := hz (B) (by first | (simp; omega) | omega | (simp; done) | assumption)); clear hz)
  go_ret
  exact ⟨rfl, by (repeat' (first | exact Below.refl _ _ | assumption | refine Ext.alloc ?_ _ | refine Ext.drew ?_ | refine Ext.trans ?_ (by assumption)))⟩
end Go.Proofs.YtfcdohaimdodgaaDoor
