-- PRINTED BY print.sh 35421559b90ae4d0a3588c463048766b98c2df88dd9212a6774a882060cdf62d: not written by this session
import Derived.Test.YtfcdohaimdodgaaDoorPFragx0
namespace Go.Proofs.YtfcdohaimdodgaaDoor.PFrag
open Go.RowKit Go.Proofs.YtfcdohaimdodgaaDoorW.PrintWords Go.Proofs.YtfcdohaimdodgaaDoorW.PrintLast Go.Proofs.YtfcdohaimdodgaaDoorW.PrintMore
attribute [local go_sem] max2_int min2_int max_two min_two max_three min_three max_four min_four   -- for this text's walks alone
set_option linter.unusedVariables false
set_option linter.unusedSimpArgs false

/-! ### foremanref17_first: function 66 -/
def foremanref17_first.l0 : Nat → List (S50) → List Int → ByteArray → Int → Option (Int)
  | 0, _, _, _, _ => none
  | k + 1, x0, x1, x2, x7 => if x7 < (x1.length : Int) then (if x2.toList = ([] : List UInt8) then (foremanref17_first.l0 k x0 x1 x2 (wrap64 (x7 + 1))) else (if 0 ≤ x7 then (if 0 ≤ (rd x1 x7) then (if (rd x1 x7) < (x0.length : Int) then (if ((rd_T50 x0 (rd x1 x7)).f1).toList = x2.toList then (some (rd x1 x7)) else (foremanref17_first.l0 k x0 x1 x2 (wrap64 (x7 + 1)))) else (none)) else (none)) else (none))) else (some (-1))
def foremanref17_first.f (k : Nat) (l0 : List (S50)) (l1 : List Int) (a2 : ByteArray) : Option (Int) := foremanref17_first.l0 k l0 l1 a2 0
theorem foremanref17_first.mono_l : ∀ k, (∀ y0 y1 y2 y3, LeO (foremanref17_first.l0 k y0 y1 y2 y3) (foremanref17_first.l0 (k + 1) y0 y1 y2 y3))
  | 0 => fun _ _ _ _ r h => by simp [foremanref17_first.l0] at h
  | k + 1 => by
    have ih0 := foremanref17_first.mono_l k
    · intro y0 y1 y2 y3
      unfold foremanref17_first.l0
      repeat' first
      | (with_reducible exact ih0 _ _ _ _)
      | (with_reducible exact LeO.refl _)
      | (with_reducible exact LeO.none _)
      | (with_reducible refine LeO.ite ?_ ?_)
      | (with_reducible refine LeO.bind ?_ (fun _ => ?_))
      | exact ih0 _ _ _ _
      | exact LeO.none _
      | refine LeO.ite ?_ ?_
      | refine LeO.bind ?_ (fun _ => ?_)
theorem foremanref17_first.mono : ∀ a0 a1 a2 k, LeO (foremanref17_first.f k a0 a1 a2) (foremanref17_first.f (k + 1) a0 a1 a2) := by
  intro a0 a1 a2 k
  have ih0 := foremanref17_first.mono_l k
  unfold foremanref17_first.f
  repeat' first
      | (with_reducible exact ih0 _ _ _ _)
      | (with_reducible exact LeO.refl _)
      | (with_reducible exact LeO.none _)
      | (with_reducible refine LeO.ite ?_ ?_)
      | (with_reducible refine LeO.bind ?_ (fun _ => ?_))
      | exact ih0 _ _ _ _
      | exact LeO.none _
      | refine LeO.ite ?_ ?_
      | refine LeO.bind ?_ (fun _ => ?_)
set_option maxHeartbeats 8000000 in
set_option maxRecDepth 100000 in
theorem foremanref17_first.calls (k : Nat) (A0 : Option Addr) (c0 : Nat) (l0 : List (S50)) (A1 : Option Addr) (c1 : Nat) (l1 : List Int) (a2 : ByteArray) (r : Int) (w : World) (hr0 : Kd.C k50 w A0 l0.length l0) (hc0 : l0.length ≤ c0) (hr1 : Kd.C (Kd.int .i64) w A1 l1.length l1) (hc1 : l1.length ≤ c1) (h : foremanref17_first.f k l0 l1 a2 = some r) :
    Calls Tryd.prog 66 #[.slice A0 l0.length c0, .slice A1 l1.length c1, .string a2] w fun e w' => e = .returned (.int .i64 r) ∧ Drawn0 w w' := by
  have HR0 := Aside0.mk hr0
  have HC0 := Aside0.mk hc0
  clear hr0 hc0
  have HR1 := Aside0.mk hr1
  have HC1 := Aside0.mk hc1
  clear hr1 hc1
  have H : (foremanref17_first.l0 k l0 l1 a2 0) = some r := h
  clear h
  have H' := Aside0.mk H
  clear H
  go_enter Tryd.func66, Tryd.ntmps66
  go_wp2
  go_loopg [7] k (fun kq v7 w' => ∃ (x7_1 : Int), v7 = .int .i64 x7_1 ∧ Aside0 (foremanref17_first.l0 kq l0 l1 a2 x7_1 = some r) ∧ Aside0 (kq ≤ k) ∧ Drawn0 w w')
  case atStart => exact ⟨(0), (by first | rfl | (simp; done) | (simp [*]; done)), H', ⟨Nat.le_refl _⟩, by repeat (first | exact Drawn0.refl _ | apply Drawn0.step)⟩
  case round =>
    clear H'
    try clear c1
    try clear p2
    obtain ⟨x7_1, rfl, HA, HK1, ⟨m1, rfl⟩⟩ := hrel
    cases gk with
    | zero => exact absurd HA.out (by simp [foremanref17_first.l0])
    | succ k1 =>
      have H := HA.out
      clear HA
      simp only [foremanref17_first.l0] at H
      by_cases c4 : x7_1 < (l1.length : Int)
      · rw [if_pos c4] at H
        have c4b0 : decide (x7_1 < (l1.length : Int)) = true := decide_eq_true c4
        clear c4
        by_cases c5 : a2.toList = ([] : List UInt8)
        · rw [if_pos c5] at H
          have c5b0 : (a2.toList == ([] : List UInt8)) = true := beq_iff_eq.mpr c5
          have c5b1 : (a2.toList != ([] : List UInt8)) = false := bne_eq_false_iff_eq.mpr c5
          clear c5
          have H' := Aside0.mk H
          clear H
          go_wp2
          go_roundg k1
          case measure => have := HK1.out; omega
          case rel => exact ⟨(wrap64 (x7_1 + 1)), (by first | rfl | (simp; done) | (simp [*]; done)), H', ⟨by have := HK1.out; omega⟩, by repeat (first | exact Drawn0.refl _ | apply Drawn0.step)⟩
        · rw [if_neg c5] at H
          have c5b0 : (a2.toList == ([] : List UInt8)) = false := beq_eq_false_iff_ne.mpr c5
          have c5b1 : (a2.toList != ([] : List UInt8)) = true := bne_iff_ne.mpr c5
          by_cases c6 : 0 ≤ x7_1
          · rw [if_pos c6] at H
            have c6b0 : decide (0 ≤ x7_1) = true := decide_eq_true c6
            clear c6
            by_cases c7 : 0 ≤ (rd l1 x7_1)
            · rw [if_pos c7] at H
              have c7b0 : decide (0 ≤ (rd l1 x7_1)) = true := decide_eq_true c7
              clear c7
              by_cases c8 : (rd l1 x7_1) < (l0.length : Int)
              · rw [if_pos c8] at H
                have c8b0 : decide ((rd l1 x7_1) < (l0.length : Int)) = true := decide_eq_true c8
                clear c8
                by_cases c9 : ((rd_T50 l0 (rd l1 x7_1)).f1).toList = a2.toList
                · rw [if_pos c9] at H
                  have c9b0 : (((rd_T50 l0 (rd l1 x7_1)).f1).toList == a2.toList) = true := beq_iff_eq.mpr c9
                  have c9b1 : (((rd_T50 l0 (rd l1 x7_1)).f1).toList != a2.toList) = false := bne_eq_false_iff_eq.mpr c9
                  clear c9
                  obtain rfl := Option.some.inj H
                  have p134 : 0 ≤ (x7_1 : Int) := of_decide_eq_true (by first | (with_reducible assumption) | assumption)
                  have q134 : x7_1 < (l1.length : Int) := of_decide_eq_true (by first | (with_reducible assumption) | assumption)
                  obtain ⟨ad134, e134, hx134_0⟩ := Kd.at_int HR1.out x7_1 p134 q134
                  cases e134
                  replace p134 := eq_true p134
                  replace q134 := eq_true q134
                  have p135 : 0 ≤ ((rd l1 x7_1) : Int) := of_decide_eq_true (by first | (with_reducible assumption) | assumption)
                  have q135 : (rd l1 x7_1) < (l0.length : Int) := of_decide_eq_true (by first | (with_reducible assumption) | assumption)
                  obtain ⟨ad135, A135_6, c135_6, A135_15, c135_15, e135, hx135_0, hx135_1, hx135_2, hx135_3, hx135_4, hx135_5, hx135_6, hx135_7, hx135_8, hx135_9, hx135_10, hx135_11, hx135_12, hx135_13, hx135_14, hx135_15, hl135_6, hi135_6, hl135_15, hi135_15⟩ := at_T50 HR0.out (rd l1 x7_1) p135 q135
                  cases e135
                  have HR135_6 := Aside0.mk hi135_6
                  have HC135_6 := Aside0.mk hl135_6
                  clear hi135_6 hl135_6
                  have HR135_15 := Aside0.mk hi135_15
                  have HC135_15 := Aside0.mk hl135_15
                  clear hi135_15 hl135_15
                  replace p135 := eq_true p135
                  replace q135 := eq_true q135
                  have p136 : 0 ≤ (x7_1 : Int) := of_decide_eq_true (by first | (with_reducible assumption) | assumption)
                  have q136 : x7_1 < (l1.length : Int) := of_decide_eq_true (by first | (with_reducible assumption) | assumption)
                  obtain ⟨ad136, e136, hx136_0⟩ := Kd.at_int HR1.out x7_1 p136 q136
                  obtain rfl : ad134 = ad136 := (by injection e136)
                  replace p136 := eq_true p136
                  replace q136 := eq_true q136
                  go_wp2
                  go_ret
                  exact ⟨by first | rfl | (simp; done) | (simp [*]; done), by repeat (first | exact Drawn0.refl _ | apply Drawn0.step)⟩
                · rw [if_neg c9] at H
                  have c9b0 : (((rd_T50 l0 (rd l1 x7_1)).f1).toList == a2.toList) = false := beq_eq_false_iff_ne.mpr c9
                  have c9b1 : (((rd_T50 l0 (rd l1 x7_1)).f1).toList != a2.toList) = true := bne_iff_ne.mpr c9
                  have H' := Aside0.mk H
                  clear H
                  have p134 : 0 ≤ (x7_1 : Int) := of_decide_eq_true (by first | (with_reducible assumption) | assumption)
                  have q134 : x7_1 < (l1.length : Int) := of_decide_eq_true (by first | (with_reducible assumption) | assumption)
                  obtain ⟨ad134, e134, hx134_0⟩ := Kd.at_int HR1.out x7_1 p134 q134
                  cases e134
                  replace p134 := eq_true p134
                  replace q134 := eq_true q134
                  have p135 : 0 ≤ ((rd l1 x7_1) : Int) := of_decide_eq_true (by first | (with_reducible assumption) | assumption)
                  have q135 : (rd l1 x7_1) < (l0.length : Int) := of_decide_eq_true (by first | (with_reducible assumption) | assumption)
                  obtain ⟨ad135, A135_6, c135_6, A135_15, c135_15, e135, hx135_0, hx135_1, hx135_2, hx135_3, hx135_4, hx135_5, hx135_6, hx135_7, hx135_8, hx135_9, hx135_10, hx135_11, hx135_12, hx135_13, hx135_14, hx135_15, hl135_6, hi135_6, hl135_15, hi135_15⟩ := at_T50 HR0.out (rd l1 x7_1) p135 q135
                  cases e135
                  have HR135_6 := Aside0.mk hi135_6
                  have HC135_6 := Aside0.mk hl135_6
                  clear hi135_6 hl135_6
                  have HR135_15 := Aside0.mk hi135_15
                  have HC135_15 := Aside0.mk hl135_15
                  clear hi135_15 hl135_15
                  replace p135 := eq_true p135
                  replace q135 := eq_true q135
                  go_wp2
                  go_roundg k1
                  case measure => have := HK1.out; omega
                  case rel => exact ⟨(wrap64 (x7_1 + 1)), (by first | rfl | (simp; done) | (simp [*]; done)), H', ⟨by have := HK1.out; omega⟩, by repeat (first | exact Drawn0.refl _ | apply Drawn0.step)⟩
              · rw [if_neg c8] at H
                exact absurd H (by simp)
            · rw [if_neg c7] at H
              exact absurd H (by simp)
          · rw [if_neg c6] at H
            exact absurd H (by simp)
      · rw [if_neg c4] at H
        have c4b0 : decide (x7_1 < (l1.length : Int)) = false := decide_eq_false c4
        clear c4
        obtain rfl := Option.some.inj H
        go_wp2
        go_ret
        exact ⟨by first | rfl | (simp; done) | (simp [*]; done), by repeat (first | exact Drawn0.refl _ | apply Drawn0.step)⟩

/-! ### foremanref16_Own: function 83 -/
def foremanref16_Own.l0 : Nat → List (S50) → Int → Int → List Int → Int → Option (List Int)
  | 0, _, _, _, _, _ => none
  | k + 1, x0, x1, x2, x7, x8 => if x8 < (x0.length : Int) then (if 0 ≤ x8 then (if ((rd_T50 x0 x8).f3) = x1 then (if ((rd_T50 x0 x8).f4) = x2 then (if x7.length < 17592186044416 then (foremanref16_Own.l0 k x0 x1 x2 (x7 ++ [x8]) (wrap64 (x8 + 1))) else (none)) else (foremanref16_Own.l0 k x0 x1 x2 x7 (wrap64 (x8 + 1)))) else (foremanref16_Own.l0 k x0 x1 x2 x7 (wrap64 (x8 + 1)))) else (none)) else (some x7)
def foremanref16_Own.f (k : Nat) (l0 : List (S50)) (a1 : Int) (a2 : Int) : Option (List Int) := foremanref16_Own.l0 k l0 a1 a2 ([] : List Int) 0
theorem foremanref16_Own.mono_l : ∀ k, (∀ y0 y1 y2 y3 y4, LeO (foremanref16_Own.l0 k y0 y1 y2 y3 y4) (foremanref16_Own.l0 (k + 1) y0 y1 y2 y3 y4))
  | 0 => fun _ _ _ _ _ r h => by simp [foremanref16_Own.l0] at h
  | k + 1 => by
    have ih0 := foremanref16_Own.mono_l k
    · intro y0 y1 y2 y3 y4
      unfold foremanref16_Own.l0
      repeat' first
      | (with_reducible exact ih0 _ _ _ _ _)
      | (with_reducible exact LeO.refl _)
      | (with_reducible exact LeO.none _)
      | (with_reducible refine LeO.ite ?_ ?_)
      | (with_reducible refine LeO.bind ?_ (fun _ => ?_))
      | exact ih0 _ _ _ _ _
      | exact LeO.none _
      | refine LeO.ite ?_ ?_
      | refine LeO.bind ?_ (fun _ => ?_)
theorem foremanref16_Own.mono : ∀ a0 a1 a2 k, LeO (foremanref16_Own.f k a0 a1 a2) (foremanref16_Own.f (k + 1) a0 a1 a2) := by
  intro a0 a1 a2 k
  have ih0 := foremanref16_Own.mono_l k
  unfold foremanref16_Own.f
  repeat' first
      | (with_reducible exact ih0 _ _ _ _ _)
      | (with_reducible exact LeO.refl _)
      | (with_reducible exact LeO.none _)
      | (with_reducible refine LeO.ite ?_ ?_)
      | (with_reducible refine LeO.bind ?_ (fun _ => ?_))
      | exact ih0 _ _ _ _ _
      | exact LeO.none _
      | refine LeO.ite ?_ ?_
      | refine LeO.bind ?_ (fun _ => ?_)
set_option maxHeartbeats 8000000 in
set_option maxRecDepth 100000 in
theorem foremanref16_Own.calls (k : Nat) (A0 : Option Addr) (c0 : Nat) (l0 : List (S50)) (a1 : Int) (a2 : Int) (r : List Int) (w : World) (hr0 : Kd.C k50 w A0 l0.length l0) (hc0 : l0.length ≤ c0) (h : foremanref16_Own.f k l0 a1 a2 = some r) :
    Calls Tryd.prog 83 #[.slice A0 l0.length c0, .int .i64 a1, .int .i64 a2] w fun e w' => ∃ v0_ : Value, e = .returned (v0_) ∧ Kd.R (Kd.int .i64) 3 w' w.heap.size (fun _ => True) v0_ r ∧ Below w.heap.size w w' := by
  have HR0 := Aside0.mk hr0
  have HC0 := Aside0.mk hc0
  clear hr0 hc0
  have HB := Aside0.mk (Below.refl w.heap.size w)
  have H : (foremanref16_Own.l0 k l0 a1 a2 ([] : List Int) 0) = some r := h
  clear h
  have H' := Aside0.mk H
  clear H
  go_enter Tryd.func83, Tryd.ntmps83
  go_wp2
  go_loopg [7, 8] k (fun kq v7 v8 w' => ∃ (x7_1 : List Int) (x8_1 : Int), v8 = .int .i64 x8_1 ∧ Aside0 (foremanref16_Own.l0 kq l0 a1 a2 x7_1 x8_1 = some r) ∧ Aside0 (kq ≤ k) ∧ Aside0 (Kd.R (Kd.int .i64) 3 w' w.heap.size (fun _ => True) v7 x7_1) ∧ Aside0 (Below w.heap.size w w'))
  case atStart => exact ⟨(([] : List Int)), (0), (by first | rfl | (simp; done) | (simp [*]; done)), H', ⟨Nat.le_refl _⟩, ⟨by first | exact Kd.R_nil _ _ _ _ _ | exact Kd.N_nil _ _ _ _ _ | exact Kd.V_nil _ _ _ _ _ | exact Kd.Q_nil _ _ _ _ _ | exact Kd.S_nil _ _ _ _ _⟩, ⟨by repeat (first | (with_reducible first | exact HB.out | apply below_alloc | apply pw_below_drewN | apply below_drew1) | exact HB.out)⟩⟩
  case round =>
    clear H'
    try clear p2
    obtain ⟨x7_1, x8_1, rfl, HA, HK1, HO_7, HB⟩ := hrel
    cases gk with
    | zero => exact absurd HA.out (by simp [foremanref16_Own.l0])
    | succ k1 =>
      have H := HA.out
      clear HA
      simp only [foremanref16_Own.l0] at H
      by_cases c4 : x8_1 < (l0.length : Int)
      · rw [if_pos c4] at H
        have c4b0 : decide (x8_1 < (l0.length : Int)) = true := decide_eq_true c4
        clear c4
        by_cases c5 : 0 ≤ x8_1
        · rw [if_pos c5] at H
          have c5b0 : decide (0 ≤ x8_1) = true := decide_eq_true c5
          clear c5
          by_cases c6 : ((rd_T50 l0 x8_1).f3) = a1
          · rw [if_pos c6] at H
            have c6b0 : (((rd_T50 l0 x8_1).f3) == a1) = true := beq_iff_eq.mpr c6
            have c6b1 : (((rd_T50 l0 x8_1).f3) != a1) = false := bne_eq_false_iff_eq.mpr c6
            clear c6
            by_cases c7 : ((rd_T50 l0 x8_1).f4) = a2
            · rw [if_pos c7] at H
              have c7b0 : (((rd_T50 l0 x8_1).f4) == a2) = true := beq_iff_eq.mpr c7
              have c7b1 : (((rd_T50 l0 x8_1).f4) != a2) = false := bne_eq_false_iff_eq.mpr c7
              clear c7
              by_cases c8 : x7_1.length < 17592186044416
              · rw [if_pos c8] at H
                have LMc8 := Aside0.mk c8
                clear c8
                obtain ⟨y139, hy139⟩ : ∃ y_ : List Int, y_ = (x7_1 ++ [x8_1]) := ⟨_, rfl⟩
                replace H : (foremanref16_Own.l0 k1 l0 a1 a2 y139 (wrap64 (x8_1 + 1))) = some r := by first | (rw [hy139]; with_reducible exact H) | (have H2_ := (Option.bind_some _ _).symm.trans H; rw [hy139]; with_reducible exact H2_) | (have H2_ := (Option.bind_some _ _).symm.trans H; with_reducible exact H2_) | with_reducible exact H | (rw [hy139]; exact H) | exact H
                have Ny139 := Aside0.mk hy139
                clear hy139
                have H' := Aside0.mk H
                clear H
                have p137 : 0 ≤ (x8_1 : Int) := of_decide_eq_true (by first | (with_reducible assumption) | assumption)
                have q137 : x8_1 < (l0.length : Int) := of_decide_eq_true (by first | (with_reducible assumption) | assumption)
                obtain ⟨ad137, A137_6, c137_6, A137_15, c137_15, e137, hx137_0, hx137_1, hx137_2, hx137_3, hx137_4, hx137_5, hx137_6, hx137_7, hx137_8, hx137_9, hx137_10, hx137_11, hx137_12, hx137_13, hx137_14, hx137_15, hl137_6, hi137_6, hl137_15, hi137_15⟩ := at_T50 HR0.out x8_1 p137 q137
                cases e137
                replace hx137_0 := (HB.out.cell (World.block_lt_of_cell? w _ hx137_0)).trans hx137_0
                replace hx137_1 := (HB.out.cell (World.block_lt_of_cell? w _ hx137_1)).trans hx137_1
                replace hx137_2 := (HB.out.cell (World.block_lt_of_cell? w _ hx137_2)).trans hx137_2
                replace hx137_3 := (HB.out.cell (World.block_lt_of_cell? w _ hx137_3)).trans hx137_3
                replace hx137_4 := (HB.out.cell (World.block_lt_of_cell? w _ hx137_4)).trans hx137_4
                replace hx137_5 := (HB.out.cell (World.block_lt_of_cell? w _ hx137_5)).trans hx137_5
                replace hx137_6 := (HB.out.cell (World.block_lt_of_cell? w _ hx137_6)).trans hx137_6
                replace hx137_7 := (HB.out.cell (World.block_lt_of_cell? w _ hx137_7)).trans hx137_7
                replace hx137_8 := (HB.out.cell (World.block_lt_of_cell? w _ hx137_8)).trans hx137_8
                replace hx137_9 := (HB.out.cell (World.block_lt_of_cell? w _ hx137_9)).trans hx137_9
                replace hx137_10 := (HB.out.cell (World.block_lt_of_cell? w _ hx137_10)).trans hx137_10
                replace hx137_11 := (HB.out.cell (World.block_lt_of_cell? w _ hx137_11)).trans hx137_11
                replace hx137_12 := (HB.out.cell (World.block_lt_of_cell? w _ hx137_12)).trans hx137_12
                replace hx137_13 := (HB.out.cell (World.block_lt_of_cell? w _ hx137_13)).trans hx137_13
                replace hx137_14 := (HB.out.cell (World.block_lt_of_cell? w _ hx137_14)).trans hx137_14
                replace hx137_15 := (HB.out.cell (World.block_lt_of_cell? w _ hx137_15)).trans hx137_15
                have HR137_6 := Aside0.mk hi137_6
                have HC137_6 := Aside0.mk hl137_6
                clear hi137_6 hl137_6
                have HR137_15 := Aside0.mk hi137_15
                have HC137_15 := Aside0.mk hl137_15
                clear hi137_15 hl137_15
                replace p137 := eq_true p137
                replace q137 := eq_true q137
                have p138 : 0 ≤ (x8_1 : Int) := of_decide_eq_true (by first | (with_reducible assumption) | assumption)
                have q138 : x8_1 < (l0.length : Int) := of_decide_eq_true (by first | (with_reducible assumption) | assumption)
                obtain ⟨ad138, A138_6, c138_6, A138_15, c138_15, e138, hx138_0, hx138_1, hx138_2, hx138_3, hx138_4, hx138_5, hx138_6, hx138_7, hx138_8, hx138_9, hx138_10, hx138_11, hx138_12, hx138_13, hx138_14, hx138_15, hl138_6, hi138_6, hl138_15, hi138_15⟩ := at_T50 HR0.out x8_1 p138 q138
                obtain rfl : ad137 = ad138 := (by injection e138)
                replace hx138_0 := (HB.out.cell (World.block_lt_of_cell? w _ hx138_0)).trans hx138_0
                replace hx138_1 := (HB.out.cell (World.block_lt_of_cell? w _ hx138_1)).trans hx138_1
                replace hx138_2 := (HB.out.cell (World.block_lt_of_cell? w _ hx138_2)).trans hx138_2
                replace hx138_3 := (HB.out.cell (World.block_lt_of_cell? w _ hx138_3)).trans hx138_3
                replace hx138_4 := (HB.out.cell (World.block_lt_of_cell? w _ hx138_4)).trans hx138_4
                replace hx138_5 := (HB.out.cell (World.block_lt_of_cell? w _ hx138_5)).trans hx138_5
                replace hx138_6 := (HB.out.cell (World.block_lt_of_cell? w _ hx138_6)).trans hx138_6
                replace hx138_7 := (HB.out.cell (World.block_lt_of_cell? w _ hx138_7)).trans hx138_7
                replace hx138_8 := (HB.out.cell (World.block_lt_of_cell? w _ hx138_8)).trans hx138_8
                replace hx138_9 := (HB.out.cell (World.block_lt_of_cell? w _ hx138_9)).trans hx138_9
                replace hx138_10 := (HB.out.cell (World.block_lt_of_cell? w _ hx138_10)).trans hx138_10
                replace hx138_11 := (HB.out.cell (World.block_lt_of_cell? w _ hx138_11)).trans hx138_11
                replace hx138_12 := (HB.out.cell (World.block_lt_of_cell? w _ hx138_12)).trans hx138_12
                replace hx138_13 := (HB.out.cell (World.block_lt_of_cell? w _ hx138_13)).trans hx138_13
                replace hx138_14 := (HB.out.cell (World.block_lt_of_cell? w _ hx138_14)).trans hx138_14
                replace hx138_15 := (HB.out.cell (World.block_lt_of_cell? w _ hx138_15)).trans hx138_15
                have HR138_6 := Aside0.mk hi138_6
                have HC138_6 := Aside0.mk hl138_6
                clear hi138_6 hl138_6
                have HR138_15 := Aside0.mk hi138_15
                have HC138_15 := Aside0.mk hl138_15
                clear hi138_15 hl138_15
                replace p138 := eq_true p138
                replace q138 := eq_true q138
                have ea_ := Option.some.inj (hx137_6.symm.trans hx138_6)
                injection ea_ with ea_ en_ ec_
                subst ea_
                subst ec_
                clear en_
                have ea_ := Option.some.inj (hx137_15.symm.trans hx138_15)
                injection ea_ with ea_ en_ ec_
                subst ea_
                subst ec_
                clear en_
                go_wp2_with (first | ((with_reducible refine gate_builtin (b := .append) (xs := #[.tmp 31, .tmp 33]) rfl ?_); at_builtin; refine Kd.R_append (Kd.int .i64) (w0 := w) w.heap.size rfl (.tmp 31) (.tmp 33) 33 3 (.int .i64 0) 8 rfl Tryd.underlying33 info3 rfl (by decide) (by omega) u7 x7_1 x8_1 [.int .i64 x8_1] (fun _ => True) (fun _ => False) rfl rfl ?aP (fun _ hk => hk.elim) ?aF ?aO ?aB ?aS ?aL ?_; (case aP => exact rfl); (case aB => exact (by repeat (first | (with_reducible first | exact HB.out | apply below_alloc | apply pw_below_drewN | apply below_drew1) | exact HB.out))); (case aF => exact (fun _ _ => trivial)); (case aO => exact (by (with_reducible repeat (first | apply Kd.R_alloc | apply Kd.R_drewN | apply Kd.R_drew)); exact HO_7.out)); (case aS => exact (below_size (by repeat (first | (with_reducible first | exact HB.out | apply below_alloc | apply pw_below_drewN | apply below_drew1) | exact HB.out)))); (case aL => have := LMc8.out; omega); intro v140 w9 ho hb hg hat; rw [← Ny139.out] at ho; have n0_ := Aside0.mk (hb); have n1_ := Aside0.mk (ho); clear HB; clear HO_7; have HB := n0_; have HO141 := n1_; clear n0_ n1_; clear ho hb hg hat))
                go_roundg k1
                case measure => have := HK1.out; omega
                case rel => exact ⟨(y139), (wrap64 (x8_1 + 1)), (by first | rfl | (simp; done) | (simp [*]; done)), H', ⟨by have := HK1.out; omega⟩, ⟨by (with_reducible repeat (first | apply Kd.R_alloc | apply Kd.R_drewN | apply Kd.R_drew)); exact HO141.out⟩, ⟨by repeat (first | (with_reducible first | exact HB.out | apply below_alloc | apply pw_below_drewN | apply below_drew1) | exact HB.out)⟩⟩
              · rw [if_neg c8] at H
                exact absurd H (by simp)
            · rw [if_neg c7] at H
              have c7b0 : (((rd_T50 l0 x8_1).f4) == a2) = false := beq_eq_false_iff_ne.mpr c7
              have c7b1 : (((rd_T50 l0 x8_1).f4) != a2) = true := bne_iff_ne.mpr c7
              have H' := Aside0.mk H
              clear H
              have p137 : 0 ≤ (x8_1 : Int) := of_decide_eq_true (by first | (with_reducible assumption) | assumption)
              have q137 : x8_1 < (l0.length : Int) := of_decide_eq_true (by first | (with_reducible assumption) | assumption)
              obtain ⟨ad137, A137_6, c137_6, A137_15, c137_15, e137, hx137_0, hx137_1, hx137_2, hx137_3, hx137_4, hx137_5, hx137_6, hx137_7, hx137_8, hx137_9, hx137_10, hx137_11, hx137_12, hx137_13, hx137_14, hx137_15, hl137_6, hi137_6, hl137_15, hi137_15⟩ := at_T50 HR0.out x8_1 p137 q137
              cases e137
              replace hx137_0 := (HB.out.cell (World.block_lt_of_cell? w _ hx137_0)).trans hx137_0
              replace hx137_1 := (HB.out.cell (World.block_lt_of_cell? w _ hx137_1)).trans hx137_1
              replace hx137_2 := (HB.out.cell (World.block_lt_of_cell? w _ hx137_2)).trans hx137_2
              replace hx137_3 := (HB.out.cell (World.block_lt_of_cell? w _ hx137_3)).trans hx137_3
              replace hx137_4 := (HB.out.cell (World.block_lt_of_cell? w _ hx137_4)).trans hx137_4
              replace hx137_5 := (HB.out.cell (World.block_lt_of_cell? w _ hx137_5)).trans hx137_5
              replace hx137_6 := (HB.out.cell (World.block_lt_of_cell? w _ hx137_6)).trans hx137_6
              replace hx137_7 := (HB.out.cell (World.block_lt_of_cell? w _ hx137_7)).trans hx137_7
              replace hx137_8 := (HB.out.cell (World.block_lt_of_cell? w _ hx137_8)).trans hx137_8
              replace hx137_9 := (HB.out.cell (World.block_lt_of_cell? w _ hx137_9)).trans hx137_9
              replace hx137_10 := (HB.out.cell (World.block_lt_of_cell? w _ hx137_10)).trans hx137_10
              replace hx137_11 := (HB.out.cell (World.block_lt_of_cell? w _ hx137_11)).trans hx137_11
              replace hx137_12 := (HB.out.cell (World.block_lt_of_cell? w _ hx137_12)).trans hx137_12
              replace hx137_13 := (HB.out.cell (World.block_lt_of_cell? w _ hx137_13)).trans hx137_13
              replace hx137_14 := (HB.out.cell (World.block_lt_of_cell? w _ hx137_14)).trans hx137_14
              replace hx137_15 := (HB.out.cell (World.block_lt_of_cell? w _ hx137_15)).trans hx137_15
              have HR137_6 := Aside0.mk hi137_6
              have HC137_6 := Aside0.mk hl137_6
              clear hi137_6 hl137_6
              have HR137_15 := Aside0.mk hi137_15
              have HC137_15 := Aside0.mk hl137_15
              clear hi137_15 hl137_15
              replace p137 := eq_true p137
              replace q137 := eq_true q137
              have p138 : 0 ≤ (x8_1 : Int) := of_decide_eq_true (by first | (with_reducible assumption) | assumption)
              have q138 : x8_1 < (l0.length : Int) := of_decide_eq_true (by first | (with_reducible assumption) | assumption)
              obtain ⟨ad138, A138_6, c138_6, A138_15, c138_15, e138, hx138_0, hx138_1, hx138_2, hx138_3, hx138_4, hx138_5, hx138_6, hx138_7, hx138_8, hx138_9, hx138_10, hx138_11, hx138_12, hx138_13, hx138_14, hx138_15, hl138_6, hi138_6, hl138_15, hi138_15⟩ := at_T50 HR0.out x8_1 p138 q138
              obtain rfl : ad137 = ad138 := (by injection e138)
              replace hx138_0 := (HB.out.cell (World.block_lt_of_cell? w _ hx138_0)).trans hx138_0
              replace hx138_1 := (HB.out.cell (World.block_lt_of_cell? w _ hx138_1)).trans hx138_1
              replace hx138_2 := (HB.out.cell (World.block_lt_of_cell? w _ hx138_2)).trans hx138_2
              replace hx138_3 := (HB.out.cell (World.block_lt_of_cell? w _ hx138_3)).trans hx138_3
              replace hx138_4 := (HB.out.cell (World.block_lt_of_cell? w _ hx138_4)).trans hx138_4
              replace hx138_5 := (HB.out.cell (World.block_lt_of_cell? w _ hx138_5)).trans hx138_5
              replace hx138_6 := (HB.out.cell (World.block_lt_of_cell? w _ hx138_6)).trans hx138_6
              replace hx138_7 := (HB.out.cell (World.block_lt_of_cell? w _ hx138_7)).trans hx138_7
              replace hx138_8 := (HB.out.cell (World.block_lt_of_cell? w _ hx138_8)).trans hx138_8
              replace hx138_9 := (HB.out.cell (World.block_lt_of_cell? w _ hx138_9)).trans hx138_9
              replace hx138_10 := (HB.out.cell (World.block_lt_of_cell? w _ hx138_10)).trans hx138_10
              replace hx138_11 := (HB.out.cell (World.block_lt_of_cell? w _ hx138_11)).trans hx138_11
              replace hx138_12 := (HB.out.cell (World.block_lt_of_cell? w _ hx138_12)).trans hx138_12
              replace hx138_13 := (HB.out.cell (World.block_lt_of_cell? w _ hx138_13)).trans hx138_13
              replace hx138_14 := (HB.out.cell (World.block_lt_of_cell? w _ hx138_14)).trans hx138_14
              replace hx138_15 := (HB.out.cell (World.block_lt_of_cell? w _ hx138_15)).trans hx138_15
              have HR138_6 := Aside0.mk hi138_6
              have HC138_6 := Aside0.mk hl138_6
              clear hi138_6 hl138_6
              have HR138_15 := Aside0.mk hi138_15
              have HC138_15 := Aside0.mk hl138_15
              clear hi138_15 hl138_15
              replace p138 := eq_true p138
              replace q138 := eq_true q138
              have ea_ := Option.some.inj (hx137_6.symm.trans hx138_6)
              injection ea_ with ea_ en_ ec_
              subst ea_
              subst ec_
              clear en_
              have ea_ := Option.some.inj (hx137_15.symm.trans hx138_15)
              injection ea_ with ea_ en_ ec_
              subst ea_
              subst ec_
              clear en_
              go_wp2
              go_roundg k1
              case measure => have := HK1.out; omega
              case rel => exact ⟨(x7_1), (wrap64 (x8_1 + 1)), (by first | rfl | (simp; done) | (simp [*]; done)), H', ⟨by have := HK1.out; omega⟩, ⟨by (with_reducible repeat (first | apply Kd.R_alloc | apply Kd.R_drewN | apply Kd.R_drew)); exact HO_7.out⟩, ⟨by repeat (first | (with_reducible first | exact HB.out | apply below_alloc | apply pw_below_drewN | apply below_drew1) | exact HB.out)⟩⟩
          · rw [if_neg c6] at H
            have c6b0 : (((rd_T50 l0 x8_1).f3) == a1) = false := beq_eq_false_iff_ne.mpr c6
            have c6b1 : (((rd_T50 l0 x8_1).f3) != a1) = true := bne_iff_ne.mpr c6
            have H' := Aside0.mk H
            clear H
            have p137 : 0 ≤ (x8_1 : Int) := of_decide_eq_true (by first | (with_reducible assumption) | assumption)
            have q137 : x8_1 < (l0.length : Int) := of_decide_eq_true (by first | (with_reducible assumption) | assumption)
            obtain ⟨ad137, A137_6, c137_6, A137_15, c137_15, e137, hx137_0, hx137_1, hx137_2, hx137_3, hx137_4, hx137_5, hx137_6, hx137_7, hx137_8, hx137_9, hx137_10, hx137_11, hx137_12, hx137_13, hx137_14, hx137_15, hl137_6, hi137_6, hl137_15, hi137_15⟩ := at_T50 HR0.out x8_1 p137 q137
            cases e137
            replace hx137_0 := (HB.out.cell (World.block_lt_of_cell? w _ hx137_0)).trans hx137_0
            replace hx137_1 := (HB.out.cell (World.block_lt_of_cell? w _ hx137_1)).trans hx137_1
            replace hx137_2 := (HB.out.cell (World.block_lt_of_cell? w _ hx137_2)).trans hx137_2
            replace hx137_3 := (HB.out.cell (World.block_lt_of_cell? w _ hx137_3)).trans hx137_3
            replace hx137_4 := (HB.out.cell (World.block_lt_of_cell? w _ hx137_4)).trans hx137_4
            replace hx137_5 := (HB.out.cell (World.block_lt_of_cell? w _ hx137_5)).trans hx137_5
            replace hx137_6 := (HB.out.cell (World.block_lt_of_cell? w _ hx137_6)).trans hx137_6
            replace hx137_7 := (HB.out.cell (World.block_lt_of_cell? w _ hx137_7)).trans hx137_7
            replace hx137_8 := (HB.out.cell (World.block_lt_of_cell? w _ hx137_8)).trans hx137_8
            replace hx137_9 := (HB.out.cell (World.block_lt_of_cell? w _ hx137_9)).trans hx137_9
            replace hx137_10 := (HB.out.cell (World.block_lt_of_cell? w _ hx137_10)).trans hx137_10
            replace hx137_11 := (HB.out.cell (World.block_lt_of_cell? w _ hx137_11)).trans hx137_11
            replace hx137_12 := (HB.out.cell (World.block_lt_of_cell? w _ hx137_12)).trans hx137_12
            replace hx137_13 := (HB.out.cell (World.block_lt_of_cell? w _ hx137_13)).trans hx137_13
            replace hx137_14 := (HB.out.cell (World.block_lt_of_cell? w _ hx137_14)).trans hx137_14
            replace hx137_15 := (HB.out.cell (World.block_lt_of_cell? w _ hx137_15)).trans hx137_15
            have HR137_6 := Aside0.mk hi137_6
            have HC137_6 := Aside0.mk hl137_6
            clear hi137_6 hl137_6
            have HR137_15 := Aside0.mk hi137_15
            have HC137_15 := Aside0.mk hl137_15
            clear hi137_15 hl137_15
            replace p137 := eq_true p137
            replace q137 := eq_true q137
            go_wp2
            go_roundg k1
            case measure => have := HK1.out; omega
            case rel => exact ⟨(x7_1), (wrap64 (x8_1 + 1)), (by first | rfl | (simp; done) | (simp [*]; done)), H', ⟨by have := HK1.out; omega⟩, ⟨by (with_reducible repeat (first | apply Kd.R_alloc | apply Kd.R_drewN | apply Kd.R_drew)); exact HO_7.out⟩, ⟨by repeat (first | (with_reducible first | exact HB.out | apply below_alloc | apply pw_below_drewN | apply below_drew1) | exact HB.out)⟩⟩
        · rw [if_neg c5] at H
          exact absurd H (by simp)
      · rw [if_neg c4] at H
        have c4b0 : decide (x8_1 < (l0.length : Int)) = false := decide_eq_false c4
        clear c4
        obtain rfl := Option.some.inj H
        go_wp2
        go_ret
        exact ⟨_, by first | rfl | (simp [errW_none, errW_some] <;> rfl) | (simp [*, errW_none, errW_some] <;> rfl), by (with_reducible repeat (first | apply Kd.R_alloc | apply Kd.R_drewN | apply Kd.R_drew)); exact HO_7.out, by repeat (first | (with_reducible first | exact HB.out | apply below_alloc | apply pw_below_drewN | apply below_drew1) | exact HB.out)⟩

/-! ### foremanref17_Scope: function 67 -/
def foremanref17_Scope.f (k : Nat) (l0 : List (S50)) (a1 : Int) : Option (List Int) := if a1 < 0 then (some ([] : List Int)) else (if a1 ≥ (l0.length : Int) then (some ([] : List Int)) else (if 0 ≤ a1 then (if a1 < (l0.length : Int) then ((foremanref16_Own.f k l0 ((rd_T50 l0 a1).f3) ((rd_T50 l0 a1).f4)).bind fun t144 => (some t144)) else (none)) else (none)))
theorem foremanref17_Scope.mono : ∀ a0 a1 k, LeO (foremanref17_Scope.f k a0 a1) (foremanref17_Scope.f (k + 1) a0 a1) := by
  intro a0 a1 k
  unfold foremanref17_Scope.f
  repeat' first
      | (with_reducible exact foremanref16_Own.mono _ _ _ _)
      | (with_reducible exact LeO.refl _)
      | (with_reducible exact LeO.none _)
      | (with_reducible refine LeO.ite ?_ ?_)
      | (with_reducible refine LeO.bind ?_ (fun _ => ?_))
      | exact foremanref16_Own.mono _ _ _ _
      | exact LeO.none _
      | refine LeO.ite ?_ ?_
      | refine LeO.bind ?_ (fun _ => ?_)
def foremanref17_Scope.T3 : Bool × List (List Nat × List Nat) := (true, [([], []), ([], []), ([], []), ([1, 2], [1, 2]), ([3], [3]), ([4], [4]), ([], []), ([], []), ([6, 7], [6, 7]), ([8], [8]), ([9], [9]), ([0, 5, 10], [0, 5, 10]), ([11, 11, 0, 1, 2, 3, 4, 5, 6, 7, 8, 9, 10, 11], [11])])
def foremanref17_Scope.B3 : List Nat := [0, 0, 0, 6, 14, 30, 0, 0, 192, 448, 960, 2047, 4095]
theorem foremanref17_Scope.tab3 : rtab .any (opsOf Tryd.f67 3) = foremanref17_Scope.T3 := by kernel_rfl
theorem foremanref17_Scope.bits3 : waitsOk foremanref17_Scope.T3.2 foremanref17_Scope.B3 = true := by kernel_rfl
set_option maxHeartbeats 8000000 in
set_option maxRecDepth 100000 in
theorem foremanref17_Scope.calls (k : Nat) (A0 : Option Addr) (c0 : Nat) (l0 : List (S50)) (a1 : Int) (r : List Int) (w : World) (hr0 : Kd.C k50 w A0 l0.length l0) (hc0 : l0.length ≤ c0) (h : foremanref17_Scope.f k l0 a1 = some r) :
    Calls Tryd.prog 67 #[.slice A0 l0.length c0, .int .i64 a1] w fun e w' => ∃ v0_ : Value, e = .returned (v0_) ∧ Kd.R (Kd.int .i64) 3 w' w.heap.size (fun _ => True) v0_ r ∧ Below w.heap.size w w' := by
  have HR0 := Aside0.mk hr0
  have HC0 := Aside0.mk hc0
  clear hr0 hc0
  have HB := Aside0.mk (Below.refl w.heap.size w)
  have H : (if a1 < 0 then (some ([] : List Int)) else (if a1 ≥ (l0.length : Int) then (some ([] : List Int)) else (if 0 ≤ a1 then (if a1 < (l0.length : Int) then ((foremanref16_Own.f k l0 ((rd_T50 l0 a1).f3) ((rd_T50 l0 a1).f4)).bind fun t144 => (some t144)) else (none)) else (none)))) = some r := h
  clear h
  by_cases c3 : a1 < 0
  · rw [if_pos c3] at H
    have c3b0 : decide (a1 < 0) = true := decide_eq_true c3
    clear c3
    obtain rfl := Option.some.inj H
    go_enter Tryd.func67, Tryd.ntmps67
    go_wp2
    go_ret
    exact ⟨_, by first | rfl | (simp [errW_none, errW_some] <;> rfl) | (simp [*, errW_none, errW_some] <;> rfl), by first | exact Kd.R_nil _ _ _ _ _ | exact Kd.N_nil _ _ _ _ _ | exact Kd.V_nil _ _ _ _ _ | exact Kd.Q_nil _ _ _ _ _ | exact Kd.S_nil _ _ _ _ _, by repeat (first | (with_reducible first | exact HB.out | apply below_alloc | apply pw_below_drewN | apply below_drew1) | exact HB.out)⟩
  · rw [if_neg c3] at H
    have c3b0 : decide (a1 < 0) = false := decide_eq_false c3
    clear c3
    by_cases c4 : a1 ≥ (l0.length : Int)
    · rw [if_pos c4] at H
      have c4b0 : decide ((l0.length : Int) ≤ a1) = true := decide_eq_true c4
      clear c4
      obtain rfl := Option.some.inj H
      go_enter Tryd.func67, Tryd.ntmps67
      go_wp2
      go_ret
      exact ⟨_, by first | rfl | (simp [errW_none, errW_some] <;> rfl) | (simp [*, errW_none, errW_some] <;> rfl), by first | exact Kd.R_nil _ _ _ _ _ | exact Kd.N_nil _ _ _ _ _ | exact Kd.V_nil _ _ _ _ _ | exact Kd.Q_nil _ _ _ _ _ | exact Kd.S_nil _ _ _ _ _, by repeat (first | (with_reducible first | exact HB.out | apply below_alloc | apply pw_below_drewN | apply below_drew1) | exact HB.out)⟩
    · rw [if_neg c4] at H
      have c4b0 : decide ((l0.length : Int) ≤ a1) = false := decide_eq_false c4
      clear c4
      by_cases c5 : 0 ≤ a1
      · rw [if_pos c5] at H
        have c5b0 : decide (0 ≤ a1) = true := decide_eq_true c5
        clear c5
        by_cases c6 : a1 < (l0.length : Int)
        · rw [if_pos c6] at H
          have c6b0 : decide (a1 < (l0.length : Int)) = true := decide_eq_true c6
          clear c6
          replace H := Option.bind_eq_some_iff.mp H
          obtain ⟨t144, A70, H⟩ := H
          replace H : (some t144) = some r := H
          have A7 := Aside0.mk A70
          clear A70
          obtain rfl := Option.some.inj H
          go_enter Tryd.func67, Tryd.ntmps67
          try go_wp2
          have n0_ := Aside0.mk (below_drew1 HB.out)
          clear HB
          have HB := n0_
          clear n0_
          have p142 : 0 ≤ (a1 : Int) := of_decide_eq_true (by first | (with_reducible assumption) | assumption)
          have q142 : a1 < (l0.length : Int) := of_decide_eq_true (by first | (with_reducible assumption) | assumption)
          obtain ⟨ad142, A142_6, c142_6, A142_15, c142_15, e142, hx142_0, hx142_1, hx142_2, hx142_3, hx142_4, hx142_5, hx142_6, hx142_7, hx142_8, hx142_9, hx142_10, hx142_11, hx142_12, hx142_13, hx142_14, hx142_15, hl142_6, hi142_6, hl142_15, hi142_15⟩ := at_T50 HR0.out a1 p142 q142
          have hw142_15 := hx142_15
          have hw142_14 := hx142_14
          have hw142_13 := hx142_13
          have hw142_12 := hx142_12
          have hw142_11 := hx142_11
          have hw142_10 := hx142_10
          have hw142_9 := hx142_9
          have hw142_8 := hx142_8
          have hw142_7 := hx142_7
          have hw142_6 := hx142_6
          have hw142_5 := hx142_5
          have hw142_4 := hx142_4
          have hw142_3 := hx142_3
          have hw142_2 := hx142_2
          have hw142_1 := hx142_1
          have hw142_0 := hx142_0
          cases e142
          replace hx142_0 := (HB.out.cell (World.block_lt_of_cell? w _ hx142_0)).trans hx142_0
          replace hx142_1 := (HB.out.cell (World.block_lt_of_cell? w _ hx142_1)).trans hx142_1
          replace hx142_2 := (HB.out.cell (World.block_lt_of_cell? w _ hx142_2)).trans hx142_2
          replace hx142_3 := (HB.out.cell (World.block_lt_of_cell? w _ hx142_3)).trans hx142_3
          replace hx142_4 := (HB.out.cell (World.block_lt_of_cell? w _ hx142_4)).trans hx142_4
          replace hx142_5 := (HB.out.cell (World.block_lt_of_cell? w _ hx142_5)).trans hx142_5
          replace hx142_6 := (HB.out.cell (World.block_lt_of_cell? w _ hx142_6)).trans hx142_6
          replace hx142_7 := (HB.out.cell (World.block_lt_of_cell? w _ hx142_7)).trans hx142_7
          replace hx142_8 := (HB.out.cell (World.block_lt_of_cell? w _ hx142_8)).trans hx142_8
          replace hx142_9 := (HB.out.cell (World.block_lt_of_cell? w _ hx142_9)).trans hx142_9
          replace hx142_10 := (HB.out.cell (World.block_lt_of_cell? w _ hx142_10)).trans hx142_10
          replace hx142_11 := (HB.out.cell (World.block_lt_of_cell? w _ hx142_11)).trans hx142_11
          replace hx142_12 := (HB.out.cell (World.block_lt_of_cell? w _ hx142_12)).trans hx142_12
          replace hx142_13 := (HB.out.cell (World.block_lt_of_cell? w _ hx142_13)).trans hx142_13
          replace hx142_14 := (HB.out.cell (World.block_lt_of_cell? w _ hx142_14)).trans hx142_14
          replace hx142_15 := (HB.out.cell (World.block_lt_of_cell? w _ hx142_15)).trans hx142_15
          have HR142_6 := Aside0.mk hi142_6
          have HC142_6 := Aside0.mk hl142_6
          clear hi142_6 hl142_6
          have HR142_15 := Aside0.mk hi142_15
          have HC142_15 := Aside0.mk hl142_15
          clear hi142_15 hl142_15
          replace p142 := eq_true p142
          replace q142 := eq_true q142
          have p143 : 0 ≤ (a1 : Int) := of_decide_eq_true (by first | (with_reducible assumption) | assumption)
          have q143 : a1 < (l0.length : Int) := of_decide_eq_true (by first | (with_reducible assumption) | assumption)
          obtain ⟨ad143, A143_6, c143_6, A143_15, c143_15, e143, hx143_0, hx143_1, hx143_2, hx143_3, hx143_4, hx143_5, hx143_6, hx143_7, hx143_8, hx143_9, hx143_10, hx143_11, hx143_12, hx143_13, hx143_14, hx143_15, hl143_6, hi143_6, hl143_15, hi143_15⟩ := at_T50 HR0.out a1 p143 q143
          have hw143_15 := hx143_15
          have hw143_14 := hx143_14
          have hw143_13 := hx143_13
          have hw143_12 := hx143_12
          have hw143_11 := hx143_11
          have hw143_10 := hx143_10
          have hw143_9 := hx143_9
          have hw143_8 := hx143_8
          have hw143_7 := hx143_7
          have hw143_6 := hx143_6
          have hw143_5 := hx143_5
          have hw143_4 := hx143_4
          have hw143_3 := hx143_3
          have hw143_2 := hx143_2
          have hw143_1 := hx143_1
          have hw143_0 := hx143_0
          obtain rfl : ad142 = ad143 := (by injection e143)
          replace hx143_0 := (HB.out.cell (World.block_lt_of_cell? w _ hx143_0)).trans hx143_0
          replace hx143_1 := (HB.out.cell (World.block_lt_of_cell? w _ hx143_1)).trans hx143_1
          replace hx143_2 := (HB.out.cell (World.block_lt_of_cell? w _ hx143_2)).trans hx143_2
          replace hx143_3 := (HB.out.cell (World.block_lt_of_cell? w _ hx143_3)).trans hx143_3
          replace hx143_4 := (HB.out.cell (World.block_lt_of_cell? w _ hx143_4)).trans hx143_4
          replace hx143_5 := (HB.out.cell (World.block_lt_of_cell? w _ hx143_5)).trans hx143_5
          replace hx143_6 := (HB.out.cell (World.block_lt_of_cell? w _ hx143_6)).trans hx143_6
          replace hx143_7 := (HB.out.cell (World.block_lt_of_cell? w _ hx143_7)).trans hx143_7
          replace hx143_8 := (HB.out.cell (World.block_lt_of_cell? w _ hx143_8)).trans hx143_8
          replace hx143_9 := (HB.out.cell (World.block_lt_of_cell? w _ hx143_9)).trans hx143_9
          replace hx143_10 := (HB.out.cell (World.block_lt_of_cell? w _ hx143_10)).trans hx143_10
          replace hx143_11 := (HB.out.cell (World.block_lt_of_cell? w _ hx143_11)).trans hx143_11
          replace hx143_12 := (HB.out.cell (World.block_lt_of_cell? w _ hx143_12)).trans hx143_12
          replace hx143_13 := (HB.out.cell (World.block_lt_of_cell? w _ hx143_13)).trans hx143_13
          replace hx143_14 := (HB.out.cell (World.block_lt_of_cell? w _ hx143_14)).trans hx143_14
          replace hx143_15 := (HB.out.cell (World.block_lt_of_cell? w _ hx143_15)).trans hx143_15
          have HR143_6 := Aside0.mk hi143_6
          have HC143_6 := Aside0.mk hl143_6
          clear hi143_6 hl143_6
          have HR143_15 := Aside0.mk hi143_15
          have HC143_15 := Aside0.mk hl143_15
          clear hi143_15 hl143_15
          replace p143 := eq_true p143
          replace q143 := eq_true q143
          have ea_ := Option.some.inj (hx142_6.symm.trans hx143_6)
          injection ea_ with ea_ en_ ec_
          subst ea_
          subst ec_
          clear en_
          have ea_ := Option.some.inj (hx142_15.symm.trans hx143_15)
          injection ea_ with ea_ en_ ec_
          subst ea_
          subst ec_
          clear en_
          refine start_ (n := 13) (S := fun w' => w'.cell? (ad142.add ((a1).toNat * 16)) = some (.string ((rd_T50 l0 a1).f0)) ∧ w'.cell? ⟨(ad142.add ((a1).toNat * 16)).block, (ad142.add ((a1).toNat * 16)).off + 1, none⟩ = some (.string ((rd_T50 l0 a1).f1)) ∧ w'.cell? ⟨(ad142.add ((a1).toNat * 16)).block, (ad142.add ((a1).toNat * 16)).off + 2, none⟩ = some (.int .u8 ((rd_T50 l0 a1).f2)) ∧ w'.cell? ⟨(ad142.add ((a1).toNat * 16)).block, (ad142.add ((a1).toNat * 16)).off + 3, none⟩ = some (.int .i64 ((rd_T50 l0 a1).f3)) ∧ w'.cell? ⟨(ad142.add ((a1).toNat * 16)).block, (ad142.add ((a1).toNat * 16)).off + 4, none⟩ = some (.int .i64 ((rd_T50 l0 a1).f4)) ∧ w'.cell? ⟨(ad142.add ((a1).toNat * 16)).block, (ad142.add ((a1).toNat * 16)).off + 5, none⟩ = some (.int .i64 ((rd_T50 l0 a1).f5)) ∧ w'.cell? ⟨(ad142.add ((a1).toNat * 16)).block, (ad142.add ((a1).toNat * 16)).off + 6, none⟩ = some (.slice A142_6 ((rd_T50 l0 a1).f6).length c142_6) ∧ w'.cell? ⟨(ad142.add ((a1).toNat * 16)).block, (ad142.add ((a1).toNat * 16)).off + 7, none⟩ = some (.int .i64 ((rd_T50 l0 a1).f7)) ∧ w'.cell? ⟨(ad142.add ((a1).toNat * 16)).block, (ad142.add ((a1).toNat * 16)).off + 8, none⟩ = some (.int .i64 ((rd_T50 l0 a1).f8)) ∧ w'.cell? ⟨(ad142.add ((a1).toNat * 16)).block, (ad142.add ((a1).toNat * 16)).off + 9, none⟩ = some (.int .u8 ((rd_T50 l0 a1).f9)) ∧ w'.cell? ⟨(ad142.add ((a1).toNat * 16)).block, (ad142.add ((a1).toNat * 16)).off + 10, none⟩ = some (.int .i64 ((rd_T50 l0 a1).f10)) ∧ w'.cell? ⟨(ad142.add ((a1).toNat * 16)).block, (ad142.add ((a1).toNat * 16)).off + 11, none⟩ = some (.int .i64 ((rd_T50 l0 a1).f11)) ∧ w'.cell? ⟨(ad142.add ((a1).toNat * 16)).block, (ad142.add ((a1).toNat * 16)).off + 12, none⟩ = some (.int .u8 ((rd_T50 l0 a1).f12.f0)) ∧ w'.cell? ⟨(ad142.add ((a1).toNat * 16)).block, (ad142.add ((a1).toNat * 16)).off + 13, none⟩ = some (.int .i64 ((rd_T50 l0 a1).f12.f1)) ∧ w'.cell? ⟨(ad142.add ((a1).toNat * 16)).block, (ad142.add ((a1).toNat * 16)).off + 14, none⟩ = some (.string ((rd_T50 l0 a1).f12.f2)) ∧ w'.cell? ⟨(ad142.add ((a1).toNat * 16)).block, (ad142.add ((a1).toNat * 16)).off + 15, none⟩ = some (.slice A142_15 ((rd_T50 l0 a1).f12.f3).length c142_15) ∧ w'.cell? (ad142.add ((a1).toNat * 16)) = some (.string ((rd_T50 l0 a1).f0)) ∧ w'.cell? ⟨(ad142.add ((a1).toNat * 16)).block, (ad142.add ((a1).toNat * 16)).off + 1, none⟩ = some (.string ((rd_T50 l0 a1).f1)) ∧ w'.cell? ⟨(ad142.add ((a1).toNat * 16)).block, (ad142.add ((a1).toNat * 16)).off + 2, none⟩ = some (.int .u8 ((rd_T50 l0 a1).f2)) ∧ w'.cell? ⟨(ad142.add ((a1).toNat * 16)).block, (ad142.add ((a1).toNat * 16)).off + 3, none⟩ = some (.int .i64 ((rd_T50 l0 a1).f3)) ∧ w'.cell? ⟨(ad142.add ((a1).toNat * 16)).block, (ad142.add ((a1).toNat * 16)).off + 4, none⟩ = some (.int .i64 ((rd_T50 l0 a1).f4)) ∧ w'.cell? ⟨(ad142.add ((a1).toNat * 16)).block, (ad142.add ((a1).toNat * 16)).off + 5, none⟩ = some (.int .i64 ((rd_T50 l0 a1).f5)) ∧ w'.cell? ⟨(ad142.add ((a1).toNat * 16)).block, (ad142.add ((a1).toNat * 16)).off + 6, none⟩ = some (.slice A142_6 ((rd_T50 l0 a1).f6).length c142_6) ∧ w'.cell? ⟨(ad142.add ((a1).toNat * 16)).block, (ad142.add ((a1).toNat * 16)).off + 7, none⟩ = some (.int .i64 ((rd_T50 l0 a1).f7)) ∧ w'.cell? ⟨(ad142.add ((a1).toNat * 16)).block, (ad142.add ((a1).toNat * 16)).off + 8, none⟩ = some (.int .i64 ((rd_T50 l0 a1).f8)) ∧ w'.cell? ⟨(ad142.add ((a1).toNat * 16)).block, (ad142.add ((a1).toNat * 16)).off + 9, none⟩ = some (.int .u8 ((rd_T50 l0 a1).f9)) ∧ w'.cell? ⟨(ad142.add ((a1).toNat * 16)).block, (ad142.add ((a1).toNat * 16)).off + 10, none⟩ = some (.int .i64 ((rd_T50 l0 a1).f10)) ∧ w'.cell? ⟨(ad142.add ((a1).toNat * 16)).block, (ad142.add ((a1).toNat * 16)).off + 11, none⟩ = some (.int .i64 ((rd_T50 l0 a1).f11)) ∧ w'.cell? ⟨(ad142.add ((a1).toNat * 16)).block, (ad142.add ((a1).toNat * 16)).off + 12, none⟩ = some (.int .u8 ((rd_T50 l0 a1).f12.f0)) ∧ w'.cell? ⟨(ad142.add ((a1).toNat * 16)).block, (ad142.add ((a1).toNat * 16)).off + 13, none⟩ = some (.int .i64 ((rd_T50 l0 a1).f12.f1)) ∧ w'.cell? ⟨(ad142.add ((a1).toNat * 16)).block, (ad142.add ((a1).toNat * 16)).off + 14, none⟩ = some (.string ((rd_T50 l0 a1).f12.f2)) ∧ w'.cell? ⟨(ad142.add ((a1).toNat * 16)).block, (ad142.add ((a1).toNat * 16)).off + 15, none⟩ = some (.slice A142_15 ((rd_T50 l0 a1).f12.f3).length c142_15)) (ds := []) #[false, false, false, false, false, false, false, false, false, false, false, false, false] (by kernel_rfl) rfl rfl ⟨((HB.out.cell (World.block_lt_of_cell? w _ hw142_0)).trans hw142_0), ((HB.out.cell (World.block_lt_of_cell? w _ hw142_1)).trans hw142_1), ((HB.out.cell (World.block_lt_of_cell? w _ hw142_2)).trans hw142_2), ((HB.out.cell (World.block_lt_of_cell? w _ hw142_3)).trans hw142_3), ((HB.out.cell (World.block_lt_of_cell? w _ hw142_4)).trans hw142_4), ((HB.out.cell (World.block_lt_of_cell? w _ hw142_5)).trans hw142_5), ((HB.out.cell (World.block_lt_of_cell? w _ hw142_6)).trans hw142_6), ((HB.out.cell (World.block_lt_of_cell? w _ hw142_7)).trans hw142_7), ((HB.out.cell (World.block_lt_of_cell? w _ hw142_8)).trans hw142_8), ((HB.out.cell (World.block_lt_of_cell? w _ hw142_9)).trans hw142_9), ((HB.out.cell (World.block_lt_of_cell? w _ hw142_10)).trans hw142_10), ((HB.out.cell (World.block_lt_of_cell? w _ hw142_11)).trans hw142_11), ((HB.out.cell (World.block_lt_of_cell? w _ hw142_12)).trans hw142_12), ((HB.out.cell (World.block_lt_of_cell? w _ hw142_13)).trans hw142_13), ((HB.out.cell (World.block_lt_of_cell? w _ hw142_14)).trans hw142_14), ((HB.out.cell (World.block_lt_of_cell? w _ hw142_15)).trans hw142_15), ((HB.out.cell (World.block_lt_of_cell? w _ hw143_0)).trans hw143_0), ((HB.out.cell (World.block_lt_of_cell? w _ hw143_1)).trans hw143_1), ((HB.out.cell (World.block_lt_of_cell? w _ hw143_2)).trans hw143_2), ((HB.out.cell (World.block_lt_of_cell? w _ hw143_3)).trans hw143_3), ((HB.out.cell (World.block_lt_of_cell? w _ hw143_4)).trans hw143_4), ((HB.out.cell (World.block_lt_of_cell? w _ hw143_5)).trans hw143_5), ((HB.out.cell (World.block_lt_of_cell? w _ hw143_6)).trans hw143_6), ((HB.out.cell (World.block_lt_of_cell? w _ hw143_7)).trans hw143_7), ((HB.out.cell (World.block_lt_of_cell? w _ hw143_8)).trans hw143_8), ((HB.out.cell (World.block_lt_of_cell? w _ hw143_9)).trans hw143_9), ((HB.out.cell (World.block_lt_of_cell? w _ hw143_10)).trans hw143_10), ((HB.out.cell (World.block_lt_of_cell? w _ hw143_11)).trans hw143_11), ((HB.out.cell (World.block_lt_of_cell? w _ hw143_12)).trans hw143_12), ((HB.out.cell (World.block_lt_of_cell? w _ hw143_13)).trans hw143_13), ((HB.out.cell (World.block_lt_of_cell? w _ hw143_14)).trans hw143_14), ((HB.out.cell (World.block_lt_of_cell? w _ hw143_15)).trans hw143_15)⟩ (fun hHeld => ?_); refine with_tabW foremanref17_Scope.tab3 foremanref17_Scope.bits3 (fun HT_ HW_ => ?_)
          generalize w.drew = w8 at HB HR142_15 HR142_6 HR143_15 HR143_6 hx142_0 hx142_1 hx142_10 hx142_11 hx142_12 hx142_13 hx142_14 hx142_15 hx142_2 hx142_3 hx142_4 hx142_5 hx142_6 hx142_7 hx142_8 hx142_9 hx143_0 hx143_1 hx143_10 hx143_11 hx143_12 hx143_13 hx143_14 hx143_15 hx143_2 hx143_3 hx143_4 hx143_5 hx143_6 hx143_7 hx143_8 hx143_9 hHeld ⊢
          refine pure_ (i := 0) (N := some 13) (v := ?_) (a' := ?_) #[true, false, false, false, false, false, false, false, false, false, false, false, false] rfl rfl (any_of HT_.out (by kernel_rfl)) (fun _ _ _ h => h) (Or.inl ⟨by rfl, ?_⟩) ?_ ?_
          rotate_left
          · intro w'
            go_simp
            with_reducible rfl
          rotate_left
          · simp only [Act.put, List.setIfInBounds_toArray, List.set_cons_zero, List.set_cons_succ, i64_w, i32_w]
            rfl
          refine pure_ (i := 1) (N := some 14) (v := ?_) (a' := ?_) #[true, true, false, false, false, false, false, false, false, false, false, false, false] rfl rfl (any_of HT_.out (by kernel_rfl)) (fun _ _ _ h => h) (Or.inl ⟨by rfl, ?_⟩) ?_ ?_
          rotate_left
          · intro w'
            go_simp
            with_reducible rfl
          rotate_left
          · simp only [Act.put, List.setIfInBounds_toArray, List.set_cons_zero, List.set_cons_succ, i64_w, i32_w]
            rfl
          refine pure_ (i := 2) (N := some 15) (v := ?_) (a' := ?_) #[true, true, true, false, false, false, false, false, false, false, false, false, false] rfl rfl (any_of HT_.out (by kernel_rfl)) (fun _ _ _ h => h) (Or.inl ⟨by rfl, ?_⟩) ?_ ?_
          rotate_left
          · intro w'
            go_simp
            with_reducible rfl
          rotate_left
          · simp only [Act.put, List.setIfInBounds_toArray, List.set_cons_zero, List.set_cons_succ, i64_w, i32_w]
            rfl
          refine pure_ (i := 3) (N := some 16) (v := ?_) (a' := ?_) #[true, true, true, true, false, false, false, false, false, false, false, false, false] rfl rfl (any_of HT_.out (by kernel_rfl)) (fun _ _ _ h => h) (Or.inl ⟨by rfl, ?_⟩) ?_ ?_
          rotate_left
          · intro w'
            go_simp
            with_reducible rfl
          rotate_left
          · simp only [Act.put, List.setIfInBounds_toArray, List.set_cons_zero, List.set_cons_succ, i64_w, i32_w]
            rfl
          refine pure_ (i := 4) (N := some 17) (v := ?_) (a' := ?_) #[true, true, true, true, true, false, false, false, false, false, false, false, false] rfl rfl (any_of HT_.out (by kernel_rfl)) (fun _ _ _ h => h) (Or.inl ⟨by rfl, ?_⟩) ?_ ?_
          rotate_left
          · intro w'
            go_simp
            with_reducible rfl
          rotate_left
          · simp only [Act.put, List.setIfInBounds_toArray, List.set_cons_zero, List.set_cons_succ, i64_w, i32_w]
            rfl
          refine pure_ (i := 6) (N := some 19) (v := ?_) (a' := ?_) #[true, true, true, true, true, false, true, false, false, false, false, false, false] rfl rfl (any_of HT_.out (by kernel_rfl)) (fun _ _ _ h => h) (Or.inl ⟨by rfl, ?_⟩) ?_ ?_
          rotate_left
          · intro w'
            go_simp
            with_reducible rfl
          rotate_left
          · simp only [Act.put, List.setIfInBounds_toArray, List.set_cons_zero, List.set_cons_succ, i64_w, i32_w]
            rfl
          refine pure_ (i := 7) (N := some 20) (v := ?_) (a' := ?_) #[true, true, true, true, true, false, true, true, false, false, false, false, false] rfl rfl (any_of HT_.out (by kernel_rfl)) (fun _ _ _ h => h) (Or.inl ⟨by rfl, ?_⟩) ?_ ?_
          rotate_left
          · intro w'
            go_simp
            with_reducible rfl
          rotate_left
          · simp only [Act.put, List.setIfInBounds_toArray, List.set_cons_zero, List.set_cons_succ, i64_w, i32_w]
            rfl
          refine pure_ (i := 8) (N := some 21) (v := ?_) (a' := ?_) #[true, true, true, true, true, false, true, true, true, false, false, false, false] rfl rfl (any_of HT_.out (by kernel_rfl)) (fun _ _ _ h => h) (Or.inl ⟨by rfl, ?_⟩) ?_ ?_
          rotate_left
          · intro w'
            go_simp
            with_reducible rfl
          rotate_left
          · simp only [Act.put, List.setIfInBounds_toArray, List.set_cons_zero, List.set_cons_succ, i64_w, i32_w]
            rfl
          refine pure_ (i := 9) (N := some 22) (v := ?_) (a' := ?_) #[true, true, true, true, true, false, true, true, true, true, false, false, false] rfl rfl (any_of HT_.out (by kernel_rfl)) (fun _ _ _ h => h) (Or.inl ⟨by rfl, ?_⟩) ?_ ?_
          rotate_left
          · intro w'
            go_simp
            with_reducible rfl
          rotate_left
          · simp only [Act.put, List.setIfInBounds_toArray, List.set_cons_zero, List.set_cons_succ, i64_w, i32_w]
            rfl
          refine take_ (i := 5) (N := some 18) (v := ?_) (a' := ?_) #[true, true, true, true, true, true, true, true, true, true, false, false, false] rfl rfl (take_ofW HT_.out HW_.out (by kernel_rfl)) (fun _ _ _ h => h) (Or.inl ⟨by rfl, ?_⟩) hHeld ?_ ?_
          rotate_left
          · rintro w' ⟨s0, s1, s2, s3, s4, s5, s6, s7, s8, s9, s10, s11, s12, s13, s14, s15, s16, s17, s18, s19, s20, s21, s22, s23, s24, s25, s26, s27, s28, s29, s30, s31⟩
            go_simp
            with_reducible rfl
          rotate_left
          · simp only [Act.put, List.setIfInBounds_toArray, List.set_cons_zero, List.set_cons_succ, i64_w, i32_w]
            rfl
          refine take_ (i := 10) (N := some 23) (v := ?_) (a' := ?_) #[true, true, true, true, true, true, true, true, true, true, true, false, false] rfl rfl (take_ofW HT_.out HW_.out (by kernel_rfl)) (fun _ _ _ h => h) (Or.inl ⟨by rfl, ?_⟩) hHeld ?_ ?_
          rotate_left
          · rintro w' ⟨s0, s1, s2, s3, s4, s5, s6, s7, s8, s9, s10, s11, s12, s13, s14, s15, s16, s17, s18, s19, s20, s21, s22, s23, s24, s25, s26, s27, s28, s29, s30, s31⟩
            go_simp
            with_reducible rfl
          rotate_left
          · simp only [Act.put, List.setIfInBounds_toArray, List.set_cons_zero, List.set_cons_succ, i64_w, i32_w]
            rfl
          refine one_ (i := 11) (N := some 24) #[true, true, true, true, true, true, true, true, true, true, true, true, false] rfl rfl (one_of HT_.out (by kernel_rfl)) (by decide) (fun K hK => ?_)
          refine goes_ Tryd.func83 (by kernel_rfl) rfl #[.slice (some ad142) l0.length c0, .int .i64 ((rd_T50 l0 a1).f3), .int .i64 ((rd_T50 l0 a1).f4)] (by rfl) rfl rfl (by (try simp only [List.map_toArray, List.map_cons, List.map_nil]); first | done | rfl | (simp only [List.length_drop, List.length_take]; rfl)) ?_
          with_reducible refine (foremanref16_Own.calls k _ _ l0 ((rd_T50 l0 a1).f3) ((rd_T50 l0 a1).f4) t144 _ ?side1 ?side2 A7.out).mono ?_
          (case side1 => repeat (first | exact (Kd.C_below HR0.out HB.out) | (with_reducible refine Kd.C_alloc ?_ _) | (with_reducible refine Kd.C_drewN ?_ _) | (with_reducible refine Kd.C_drew ?_)))
          (case side2 => exact HC0.out)
          rintro e w9 ⟨v145, rfl, ho0, hb⟩
          refine ⟨_, rfl, ?_⟩
          have n0_ := Aside0.mk (Kd.R_lower ho0 (below_size (by repeat (first | (with_reducible first | exact HB.out | apply below_alloc | apply pw_below_drewN | apply below_drew1) | exact HB.out))))
          have n1_ := Aside0.mk (below_step (by repeat (first | (with_reducible first | exact HB.out | apply below_alloc | apply pw_below_drewN | apply below_drew1) | exact HB.out)) hb)
          clear HB
          have HO146 := n0_
          have HB := n1_
          clear n0_ n1_
          (try clear hb)
          (try clear hb2)
          (try clear hk)
          (try clear hi)
          (try clear ho0)
          refine hK.out _ _ ⟨((HB.out.cell (World.block_lt_of_cell? w _ hw142_0)).trans hw142_0), ((HB.out.cell (World.block_lt_of_cell? w _ hw142_1)).trans hw142_1), ((HB.out.cell (World.block_lt_of_cell? w _ hw142_2)).trans hw142_2), ((HB.out.cell (World.block_lt_of_cell? w _ hw142_3)).trans hw142_3), ((HB.out.cell (World.block_lt_of_cell? w _ hw142_4)).trans hw142_4), ((HB.out.cell (World.block_lt_of_cell? w _ hw142_5)).trans hw142_5), ((HB.out.cell (World.block_lt_of_cell? w _ hw142_6)).trans hw142_6), ((HB.out.cell (World.block_lt_of_cell? w _ hw142_7)).trans hw142_7), ((HB.out.cell (World.block_lt_of_cell? w _ hw142_8)).trans hw142_8), ((HB.out.cell (World.block_lt_of_cell? w _ hw142_9)).trans hw142_9), ((HB.out.cell (World.block_lt_of_cell? w _ hw142_10)).trans hw142_10), ((HB.out.cell (World.block_lt_of_cell? w _ hw142_11)).trans hw142_11), ((HB.out.cell (World.block_lt_of_cell? w _ hw142_12)).trans hw142_12), ((HB.out.cell (World.block_lt_of_cell? w _ hw142_13)).trans hw142_13), ((HB.out.cell (World.block_lt_of_cell? w _ hw142_14)).trans hw142_14), ((HB.out.cell (World.block_lt_of_cell? w _ hw142_15)).trans hw142_15), ((HB.out.cell (World.block_lt_of_cell? w _ hw143_0)).trans hw143_0), ((HB.out.cell (World.block_lt_of_cell? w _ hw143_1)).trans hw143_1), ((HB.out.cell (World.block_lt_of_cell? w _ hw143_2)).trans hw143_2), ((HB.out.cell (World.block_lt_of_cell? w _ hw143_3)).trans hw143_3), ((HB.out.cell (World.block_lt_of_cell? w _ hw143_4)).trans hw143_4), ((HB.out.cell (World.block_lt_of_cell? w _ hw143_5)).trans hw143_5), ((HB.out.cell (World.block_lt_of_cell? w _ hw143_6)).trans hw143_6), ((HB.out.cell (World.block_lt_of_cell? w _ hw143_7)).trans hw143_7), ((HB.out.cell (World.block_lt_of_cell? w _ hw143_8)).trans hw143_8), ((HB.out.cell (World.block_lt_of_cell? w _ hw143_9)).trans hw143_9), ((HB.out.cell (World.block_lt_of_cell? w _ hw143_10)).trans hw143_10), ((HB.out.cell (World.block_lt_of_cell? w _ hw143_11)).trans hw143_11), ((HB.out.cell (World.block_lt_of_cell? w _ hw143_12)).trans hw143_12), ((HB.out.cell (World.block_lt_of_cell? w _ hw143_13)).trans hw143_13), ((HB.out.cell (World.block_lt_of_cell? w _ hw143_14)).trans hw143_14), ((HB.out.cell (World.block_lt_of_cell? w _ hw143_15)).trans hw143_15)⟩ (fun hHeld => ?_)
          clear hK K
          refine norm_ (a' := ?_) ?_ ?_
          rotate_left
          · show Act.put _ (some 24) _ = _
            simp only [Act.put, List.setIfInBounds_toArray, List.set_cons_zero, List.set_cons_succ, i64_w, i32_w]
            rfl
          refine pure_ (i := 12) (N := some 4) (v := ?_) (a' := ?_) #[true, true, true, true, true, true, true, true, true, true, true, true, true] rfl rfl (any_of HT_.out (by kernel_rfl)) (fun _ _ _ h => h) (Or.inl ⟨by rfl, ?_⟩) ?_ ?_
          rotate_left
          · intro w'
            go_simp
            with_reducible rfl
          rotate_left
          · simp only [Act.put, List.setIfInBounds_toArray, List.set_cons_zero, List.set_cons_succ, i64_w, i32_w]
            rfl
          refine done_ (done_of HT_.out (by kernel_rfl)) ?_
          try go_wp2
          go_ret
          exact ⟨_, by first | rfl | (simp [errW_none, errW_some] <;> rfl) | (simp [*, errW_none, errW_some] <;> rfl), by (with_reducible repeat (first | apply Kd.R_alloc | apply Kd.R_drewN | apply Kd.R_drew)); exact HO146.out, by repeat (first | (with_reducible first | exact HB.out | apply below_alloc | apply pw_below_drewN | apply below_drew1) | exact HB.out)⟩
        · rw [if_neg c6] at H
          exact absurd H (by simp)
      · rw [if_neg c5] at H
        exact absurd H (by simp)

end Go.Proofs.YtfcdohaimdodgaaDoor.PFrag
