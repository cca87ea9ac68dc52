-- PRINTED BY print.sh 35421559b90ae4d0a3588c463048766b98c2df88dd9212a6774a882060cdf62d: not written by this session
import Derived.Test.YtfcdohaimdodgaaDoorPFragx0
namespace Go.Proofs.YtfcdohaimdodgaaDoor.PFrag
open Go.RowKit Go.Proofs.YtfcdohaimdodgaaDoorW.PrintWords Go.Proofs.YtfcdohaimdodgaaDoorW.PrintLast Go.Proofs.YtfcdohaimdodgaaDoorW.PrintMore
attribute [local go_sem] max2_int min2_int max_two min_two max_three min_three max_four min_four   -- for this text's walks alone
set_option linter.unusedVariables false
set_option linter.unusedSimpArgs false

/-! ### foremanref16_Chain: function 80 -/
def foremanref16_Chain.f : Nat → List (S50) → Int → Option (List Int)
  | 0, _, _ => none
  | k + 1, l0, a1 => if a1 < 0 then (some ([] : List Int)) else (if a1 ≥ (l0.length : Int) then (some ([] : List Int)) else (if 0 ≤ a1 then (if a1 < (l0.length : Int) then (if ((rd_T50 l0 a1).f4) < 0 then (some ([] : List Int)) else ((some (([(rd_T50 l0 a1).f4] : List Int) : List Int)).bind fun y118 => ((foremanref16_Chain.f k l0 ((rd_T50 l0 a1).f4)).bind fun t122 => (if y118.length + t122.length < 17592186044416 then (some (y118 ++ t122)) else (none))))) else (none)) else (none)))
theorem foremanref16_Chain.mono_l : ∀ k, (∀ y0 y1, LeO (foremanref16_Chain.f k y0 y1) (foremanref16_Chain.f (k + 1) y0 y1))
  | 0 => fun _ _ r h => by simp [foremanref16_Chain.f] at h
  | k + 1 => by
    have ih0 := foremanref16_Chain.mono_l k
    · intro y0 y1
      unfold foremanref16_Chain.f
      repeat' first
      | (with_reducible exact ih0 _ _)
      | (with_reducible exact LeO.refl _)
      | (with_reducible exact LeO.none _)
      | (with_reducible refine LeO.ite ?_ ?_)
      | (with_reducible refine LeO.bind ?_ (fun _ => ?_))
      | exact ih0 _ _
      | exact LeO.none _
      | refine LeO.ite ?_ ?_
      | refine LeO.bind ?_ (fun _ => ?_)
theorem foremanref16_Chain.mono : ∀ a0 a1 k, LeO (foremanref16_Chain.f k a0 a1) (foremanref16_Chain.f (k + 1) a0 a1) := by
  intro a0 a1 k
  have ih0 := foremanref16_Chain.mono_l k
  exact ih0 a0 a1
def foremanref16_Chain.T3 : Bool × List (List Nat × List Nat) := (true, [([], []), ([], []), ([0, 1], [0, 1]), ([2], [2]), ([3], [3]), ([4], [4]), ([], []), ([], []), ([], []), ([7, 8], [7, 8]), ([9], [9]), ([10], [10]), ([6, 11], [6, 11]), ([5, 12, 12], [5, 12]), ([13, 13, 0, 1, 2, 3, 4, 5, 6, 7, 8, 9, 10, 11, 12, 13], [13])])
def foremanref16_Chain.B3 : List Nat := [0, 0, 3, 7, 15, 31, 0, 0, 0, 384, 896, 1920, 4032, 8191, 16383]
theorem foremanref16_Chain.tab3 : rtab .any (opsOf Tryd.f80 3) = foremanref16_Chain.T3 := by kernel_rfl
theorem foremanref16_Chain.bits3 : waitsOk foremanref16_Chain.T3.2 foremanref16_Chain.B3 = true := by kernel_rfl
set_option maxHeartbeats 8000000 in
set_option maxRecDepth 100000 in
theorem foremanref16_Chain.calls (k : Nat) : ∀ (A0 : Option Addr) (c0 : Nat) (l0 : List (S50)) (a1 : Int) (r : List Int) (w : World) (hr0 : Kd.C k50 w A0 l0.length l0) (hc0 : l0.length ≤ c0) (h : foremanref16_Chain.f k l0 a1 = some r),
    Calls Tryd.prog 80 #[.slice A0 l0.length c0, .int .i64 a1] w fun e w' => ∃ v0_ : Value, e = .returned (v0_) ∧ Kd.R (Kd.int .i64) 3 w' w.heap.size (fun _ => True) v0_ r ∧ Below w.heap.size w w' := by
  induction k using Nat.strongRecOn with
  | _ k ih =>
  intro A0 c0 l0 a1 r w hr0 hc0 h
  cases k with
  | zero => exact absurd h (by simp [foremanref16_Chain.f])
  | succ k =>
  simp only [foremanref16_Chain.f] at h
  have HR0 := Aside0.mk hr0
  have HC0 := Aside0.mk hc0
  clear hr0 hc0
  have HB := Aside0.mk (Below.refl w.heap.size w)
  have H : (if a1 < 0 then (some ([] : List Int)) else (if a1 ≥ (l0.length : Int) then (some ([] : List Int)) else (if 0 ≤ a1 then (if a1 < (l0.length : Int) then (if ((rd_T50 l0 a1).f4) < 0 then (some ([] : List Int)) else ((some (([(rd_T50 l0 a1).f4] : List Int) : List Int)).bind fun y118 => ((foremanref16_Chain.f k l0 ((rd_T50 l0 a1).f4)).bind fun t122 => (if y118.length + t122.length < 17592186044416 then (some (y118 ++ t122)) else (none))))) else (none)) else (none)))) = some r := h
  clear h
  by_cases c3 : a1 < 0
  · rw [if_pos c3] at H
    have c3b0 : decide (a1 < 0) = true := decide_eq_true c3
    clear c3
    obtain rfl := Option.some.inj H
    go_enter Tryd.func80, Tryd.ntmps80
    go_wp2
    go_ret
    exact ⟨_, by first | rfl | (simp [errW_none, errW_some] <;> rfl) | (simp [*, errW_none, errW_some] <;> rfl), by first | exact Kd.R_nil _ _ _ _ _ | exact Kd.N_nil _ _ _ _ _ | exact Kd.V_nil _ _ _ _ _ | exact Kd.Q_nil _ _ _ _ _ | exact Kd.S_nil _ _ _ _ _, by repeat (first | (with_reducible first | exact HB.out | apply below_alloc | apply pw_below_drewN | apply below_drew1) | exact HB.out)⟩
  · rw [if_neg c3] at H
    have c3b0 : decide (a1 < 0) = false := decide_eq_false c3
    clear c3
    by_cases c4 : a1 ≥ (l0.length : Int)
    · rw [if_pos c4] at H
      have c4b0 : decide ((l0.length : Int) ≤ a1) = true := decide_eq_true c4
      clear c4
      obtain rfl := Option.some.inj H
      go_enter Tryd.func80, Tryd.ntmps80
      go_wp2
      go_ret
      exact ⟨_, by first | rfl | (simp [errW_none, errW_some] <;> rfl) | (simp [*, errW_none, errW_some] <;> rfl), by first | exact Kd.R_nil _ _ _ _ _ | exact Kd.N_nil _ _ _ _ _ | exact Kd.V_nil _ _ _ _ _ | exact Kd.Q_nil _ _ _ _ _ | exact Kd.S_nil _ _ _ _ _, by repeat (first | (with_reducible first | exact HB.out | apply below_alloc | apply pw_below_drewN | apply below_drew1) | exact HB.out)⟩
    · rw [if_neg c4] at H
      have c4b0 : decide ((l0.length : Int) ≤ a1) = false := decide_eq_false c4
      clear c4
      by_cases c5 : 0 ≤ a1
      · rw [if_pos c5] at H
        have c5b0 : decide (0 ≤ a1) = true := decide_eq_true c5
        clear c5
        by_cases c6 : a1 < (l0.length : Int)
        · rw [if_pos c6] at H
          have c6b0 : decide (a1 < (l0.length : Int)) = true := decide_eq_true c6
          clear c6
          by_cases c7 : ((rd_T50 l0 a1).f4) < 0
          · rw [if_pos c7] at H
            have c7b0 : decide (((rd_T50 l0 a1).f4) < 0) = true := decide_eq_true c7
            clear c7
            obtain rfl := Option.some.inj H
            have p116 : 0 ≤ (a1 : Int) := of_decide_eq_true (by first | (with_reducible assumption) | assumption)
            have q116 : a1 < (l0.length : Int) := of_decide_eq_true (by first | (with_reducible assumption) | assumption)
            obtain ⟨ad116, A116_6, c116_6, A116_15, c116_15, e116, hx116_0, hx116_1, hx116_2, hx116_3, hx116_4, hx116_5, hx116_6, hx116_7, hx116_8, hx116_9, hx116_10, hx116_11, hx116_12, hx116_13, hx116_14, hx116_15, hl116_6, hi116_6, hl116_15, hi116_15⟩ := at_T50 HR0.out a1 p116 q116
            cases e116
            have HR116_6 := Aside0.mk hi116_6
            have HC116_6 := Aside0.mk hl116_6
            clear hi116_6 hl116_6
            have HR116_15 := Aside0.mk hi116_15
            have HC116_15 := Aside0.mk hl116_15
            clear hi116_15 hl116_15
            replace p116 := eq_true p116
            replace q116 := eq_true q116
            go_enter Tryd.func80, Tryd.ntmps80
            go_wp2
            go_ret
            exact ⟨_, by first | rfl | (simp [errW_none, errW_some] <;> rfl) | (simp [*, errW_none, errW_some] <;> rfl), by first | exact Kd.R_nil _ _ _ _ _ | exact Kd.N_nil _ _ _ _ _ | exact Kd.V_nil _ _ _ _ _ | exact Kd.Q_nil _ _ _ _ _ | exact Kd.S_nil _ _ _ _ _, by repeat (first | (with_reducible first | exact HB.out | apply below_alloc | apply pw_below_drewN | apply below_drew1) | exact HB.out)⟩
          · rw [if_neg c7] at H
            have c7b0 : decide (((rd_T50 l0 a1).f4) < 0) = false := decide_eq_false c7
            clear c7
            obtain ⟨y118, hy118⟩ : ∃ y_ : List Int, y_ = (([(rd_T50 l0 a1).f4] : List Int)) := ⟨_, rfl⟩
            replace H : ((foremanref16_Chain.f k l0 ((rd_T50 l0 a1).f4)).bind fun t122 => (if y118.length + t122.length < 17592186044416 then (some (y118 ++ t122)) else (none))) = some r := by first | (rw [hy118]; with_reducible exact H) | (have H2_ := (Option.bind_some _ _).symm.trans H; rw [hy118]; with_reducible exact H2_) | (have H2_ := (Option.bind_some _ _).symm.trans H; with_reducible exact H2_) | with_reducible exact H | (rw [hy118]; exact H) | exact H
            have Ny118 := Aside0.mk hy118
            clear hy118
            replace H := Option.bind_eq_some_iff.mp H
            obtain ⟨t122, A80, H⟩ := H
            replace H : (if y118.length + t122.length < 17592186044416 then (some (y118 ++ t122)) else (none)) = some r := H
            have A8 := Aside0.mk A80
            clear A80
            by_cases c9 : y118.length + t122.length < 17592186044416
            · rw [if_pos c9] at H
              have LMc9 := Aside0.mk c9
              clear c9
              obtain ⟨y125, hy125⟩ : ∃ y_ : List Int, y_ = (y118 ++ t122) := ⟨_, rfl⟩
              replace H : (some y125) = some r := by first | (rw [hy125]; with_reducible exact H) | (have H2_ := (Option.bind_some _ _).symm.trans H; rw [hy125]; with_reducible exact H2_) | (have H2_ := (Option.bind_some _ _).symm.trans H; with_reducible exact H2_) | with_reducible exact H | (rw [hy125]; exact H) | exact H
              have Ny125 := Aside0.mk hy125
              clear hy125
              obtain rfl := Option.some.inj H
              have p116 : 0 ≤ (a1 : Int) := of_decide_eq_true (by first | (with_reducible assumption) | assumption)
              have q116 : a1 < (l0.length : Int) := of_decide_eq_true (by first | (with_reducible assumption) | assumption)
              obtain ⟨ad116, A116_6, c116_6, A116_15, c116_15, e116, hx116_0, hx116_1, hx116_2, hx116_3, hx116_4, hx116_5, hx116_6, hx116_7, hx116_8, hx116_9, hx116_10, hx116_11, hx116_12, hx116_13, hx116_14, hx116_15, hl116_6, hi116_6, hl116_15, hi116_15⟩ := at_T50 HR0.out a1 p116 q116
              cases e116
              have HR116_6 := Aside0.mk hi116_6
              have HC116_6 := Aside0.mk hl116_6
              clear hi116_6 hl116_6
              have HR116_15 := Aside0.mk hi116_15
              have HC116_15 := Aside0.mk hl116_15
              clear hi116_15 hl116_15
              replace p116 := eq_true p116
              replace q116 := eq_true q116
              go_enter Tryd.func80, Tryd.ntmps80
              try go_wp2
              have n0_ := Aside0.mk (below_drew1 HB.out)
              clear HB
              have HB := n0_
              clear n0_
              have p117 : 0 ≤ (a1 : Int) := of_decide_eq_true (by first | (with_reducible assumption) | assumption)
              have q117 : a1 < (l0.length : Int) := of_decide_eq_true (by first | (with_reducible assumption) | assumption)
              obtain ⟨ad117, A117_6, c117_6, A117_15, c117_15, e117, hx117_0, hx117_1, hx117_2, hx117_3, hx117_4, hx117_5, hx117_6, hx117_7, hx117_8, hx117_9, hx117_10, hx117_11, hx117_12, hx117_13, hx117_14, hx117_15, hl117_6, hi117_6, hl117_15, hi117_15⟩ := at_T50 HR0.out a1 p117 q117
              have hw117_15 := hx117_15
              have hw117_14 := hx117_14
              have hw117_13 := hx117_13
              have hw117_12 := hx117_12
              have hw117_11 := hx117_11
              have hw117_10 := hx117_10
              have hw117_9 := hx117_9
              have hw117_8 := hx117_8
              have hw117_7 := hx117_7
              have hw117_6 := hx117_6
              have hw117_5 := hx117_5
              have hw117_4 := hx117_4
              have hw117_3 := hx117_3
              have hw117_2 := hx117_2
              have hw117_1 := hx117_1
              have hw117_0 := hx117_0
              obtain rfl : ad116 = ad117 := (by injection e117)
              replace hx117_0 := (HB.out.cell (World.block_lt_of_cell? w _ hx117_0)).trans hx117_0
              replace hx117_1 := (HB.out.cell (World.block_lt_of_cell? w _ hx117_1)).trans hx117_1
              replace hx117_2 := (HB.out.cell (World.block_lt_of_cell? w _ hx117_2)).trans hx117_2
              replace hx117_3 := (HB.out.cell (World.block_lt_of_cell? w _ hx117_3)).trans hx117_3
              replace hx117_4 := (HB.out.cell (World.block_lt_of_cell? w _ hx117_4)).trans hx117_4
              replace hx117_5 := (HB.out.cell (World.block_lt_of_cell? w _ hx117_5)).trans hx117_5
              replace hx117_6 := (HB.out.cell (World.block_lt_of_cell? w _ hx117_6)).trans hx117_6
              replace hx117_7 := (HB.out.cell (World.block_lt_of_cell? w _ hx117_7)).trans hx117_7
              replace hx117_8 := (HB.out.cell (World.block_lt_of_cell? w _ hx117_8)).trans hx117_8
              replace hx117_9 := (HB.out.cell (World.block_lt_of_cell? w _ hx117_9)).trans hx117_9
              replace hx117_10 := (HB.out.cell (World.block_lt_of_cell? w _ hx117_10)).trans hx117_10
              replace hx117_11 := (HB.out.cell (World.block_lt_of_cell? w _ hx117_11)).trans hx117_11
              replace hx117_12 := (HB.out.cell (World.block_lt_of_cell? w _ hx117_12)).trans hx117_12
              replace hx117_13 := (HB.out.cell (World.block_lt_of_cell? w _ hx117_13)).trans hx117_13
              replace hx117_14 := (HB.out.cell (World.block_lt_of_cell? w _ hx117_14)).trans hx117_14
              replace hx117_15 := (HB.out.cell (World.block_lt_of_cell? w _ hx117_15)).trans hx117_15
              have HR117_6 := Aside0.mk hi117_6
              have HC117_6 := Aside0.mk hl117_6
              clear hi117_6 hl117_6
              have HR117_15 := Aside0.mk hi117_15
              have HC117_15 := Aside0.mk hl117_15
              clear hi117_15 hl117_15
              replace p117 := eq_true p117
              replace q117 := eq_true q117
              have p121 : 0 ≤ (a1 : Int) := of_decide_eq_true (by first | (with_reducible assumption) | assumption)
              have q121 : a1 < (l0.length : Int) := of_decide_eq_true (by first | (with_reducible assumption) | assumption)
              obtain ⟨ad121, A121_6, c121_6, A121_15, c121_15, e121, hx121_0, hx121_1, hx121_2, hx121_3, hx121_4, hx121_5, hx121_6, hx121_7, hx121_8, hx121_9, hx121_10, hx121_11, hx121_12, hx121_13, hx121_14, hx121_15, hl121_6, hi121_6, hl121_15, hi121_15⟩ := at_T50 HR0.out a1 p121 q121
              have hw121_15 := hx121_15
              have hw121_14 := hx121_14
              have hw121_13 := hx121_13
              have hw121_12 := hx121_12
              have hw121_11 := hx121_11
              have hw121_10 := hx121_10
              have hw121_9 := hx121_9
              have hw121_8 := hx121_8
              have hw121_7 := hx121_7
              have hw121_6 := hx121_6
              have hw121_5 := hx121_5
              have hw121_4 := hx121_4
              have hw121_3 := hx121_3
              have hw121_2 := hx121_2
              have hw121_1 := hx121_1
              have hw121_0 := hx121_0
              obtain rfl : ad116 = ad121 := (by injection e121)
              replace hx121_0 := (HB.out.cell (World.block_lt_of_cell? w _ hx121_0)).trans hx121_0
              replace hx121_1 := (HB.out.cell (World.block_lt_of_cell? w _ hx121_1)).trans hx121_1
              replace hx121_2 := (HB.out.cell (World.block_lt_of_cell? w _ hx121_2)).trans hx121_2
              replace hx121_3 := (HB.out.cell (World.block_lt_of_cell? w _ hx121_3)).trans hx121_3
              replace hx121_4 := (HB.out.cell (World.block_lt_of_cell? w _ hx121_4)).trans hx121_4
              replace hx121_5 := (HB.out.cell (World.block_lt_of_cell? w _ hx121_5)).trans hx121_5
              replace hx121_6 := (HB.out.cell (World.block_lt_of_cell? w _ hx121_6)).trans hx121_6
              replace hx121_7 := (HB.out.cell (World.block_lt_of_cell? w _ hx121_7)).trans hx121_7
              replace hx121_8 := (HB.out.cell (World.block_lt_of_cell? w _ hx121_8)).trans hx121_8
              replace hx121_9 := (HB.out.cell (World.block_lt_of_cell? w _ hx121_9)).trans hx121_9
              replace hx121_10 := (HB.out.cell (World.block_lt_of_cell? w _ hx121_10)).trans hx121_10
              replace hx121_11 := (HB.out.cell (World.block_lt_of_cell? w _ hx121_11)).trans hx121_11
              replace hx121_12 := (HB.out.cell (World.block_lt_of_cell? w _ hx121_12)).trans hx121_12
              replace hx121_13 := (HB.out.cell (World.block_lt_of_cell? w _ hx121_13)).trans hx121_13
              replace hx121_14 := (HB.out.cell (World.block_lt_of_cell? w _ hx121_14)).trans hx121_14
              replace hx121_15 := (HB.out.cell (World.block_lt_of_cell? w _ hx121_15)).trans hx121_15
              have HR121_6 := Aside0.mk hi121_6
              have HC121_6 := Aside0.mk hl121_6
              clear hi121_6 hl121_6
              have HR121_15 := Aside0.mk hi121_15
              have HC121_15 := Aside0.mk hl121_15
              clear hi121_15 hl121_15
              replace p121 := eq_true p121
              replace q121 := eq_true q121
              have ea_ := Option.some.inj (hx117_6.symm.trans hx121_6)
              injection ea_ with ea_ en_ ec_
              subst ea_
              subst ec_
              clear en_
              have ea_ := Option.some.inj (hx117_15.symm.trans hx121_15)
              injection ea_ with ea_ en_ ec_
              subst ea_
              subst ec_
              clear en_
              refine start_ (n := 15) (S := fun w' => w'.cell? (ad116.add ((a1).toNat * 16)) = some (.string ((rd_T50 l0 a1).f0)) ∧ w'.cell? ⟨(ad116.add ((a1).toNat * 16)).block, (ad116.add ((a1).toNat * 16)).off + 1, none⟩ = some (.string ((rd_T50 l0 a1).f1)) ∧ w'.cell? ⟨(ad116.add ((a1).toNat * 16)).block, (ad116.add ((a1).toNat * 16)).off + 2, none⟩ = some (.int .u8 ((rd_T50 l0 a1).f2)) ∧ w'.cell? ⟨(ad116.add ((a1).toNat * 16)).block, (ad116.add ((a1).toNat * 16)).off + 3, none⟩ = some (.int .i64 ((rd_T50 l0 a1).f3)) ∧ w'.cell? ⟨(ad116.add ((a1).toNat * 16)).block, (ad116.add ((a1).toNat * 16)).off + 4, none⟩ = some (.int .i64 ((rd_T50 l0 a1).f4)) ∧ w'.cell? ⟨(ad116.add ((a1).toNat * 16)).block, (ad116.add ((a1).toNat * 16)).off + 5, none⟩ = some (.int .i64 ((rd_T50 l0 a1).f5)) ∧ w'.cell? ⟨(ad116.add ((a1).toNat * 16)).block, (ad116.add ((a1).toNat * 16)).off + 6, none⟩ = some (.slice A117_6 ((rd_T50 l0 a1).f6).length c117_6) ∧ w'.cell? ⟨(ad116.add ((a1).toNat * 16)).block, (ad116.add ((a1).toNat * 16)).off + 7, none⟩ = some (.int .i64 ((rd_T50 l0 a1).f7)) ∧ w'.cell? ⟨(ad116.add ((a1).toNat * 16)).block, (ad116.add ((a1).toNat * 16)).off + 8, none⟩ = some (.int .i64 ((rd_T50 l0 a1).f8)) ∧ w'.cell? ⟨(ad116.add ((a1).toNat * 16)).block, (ad116.add ((a1).toNat * 16)).off + 9, none⟩ = some (.int .u8 ((rd_T50 l0 a1).f9)) ∧ w'.cell? ⟨(ad116.add ((a1).toNat * 16)).block, (ad116.add ((a1).toNat * 16)).off + 10, none⟩ = some (.int .i64 ((rd_T50 l0 a1).f10)) ∧ w'.cell? ⟨(ad116.add ((a1).toNat * 16)).block, (ad116.add ((a1).toNat * 16)).off + 11, none⟩ = some (.int .i64 ((rd_T50 l0 a1).f11)) ∧ w'.cell? ⟨(ad116.add ((a1).toNat * 16)).block, (ad116.add ((a1).toNat * 16)).off + 12, none⟩ = some (.int .u8 ((rd_T50 l0 a1).f12.f0)) ∧ w'.cell? ⟨(ad116.add ((a1).toNat * 16)).block, (ad116.add ((a1).toNat * 16)).off + 13, none⟩ = some (.int .i64 ((rd_T50 l0 a1).f12.f1)) ∧ w'.cell? ⟨(ad116.add ((a1).toNat * 16)).block, (ad116.add ((a1).toNat * 16)).off + 14, none⟩ = some (.string ((rd_T50 l0 a1).f12.f2)) ∧ w'.cell? ⟨(ad116.add ((a1).toNat * 16)).block, (ad116.add ((a1).toNat * 16)).off + 15, none⟩ = some (.slice A117_15 ((rd_T50 l0 a1).f12.f3).length c117_15) ∧ w'.cell? (ad116.add ((a1).toNat * 16)) = some (.string ((rd_T50 l0 a1).f0)) ∧ w'.cell? ⟨(ad116.add ((a1).toNat * 16)).block, (ad116.add ((a1).toNat * 16)).off + 1, none⟩ = some (.string ((rd_T50 l0 a1).f1)) ∧ w'.cell? ⟨(ad116.add ((a1).toNat * 16)).block, (ad116.add ((a1).toNat * 16)).off + 2, none⟩ = some (.int .u8 ((rd_T50 l0 a1).f2)) ∧ w'.cell? ⟨(ad116.add ((a1).toNat * 16)).block, (ad116.add ((a1).toNat * 16)).off + 3, none⟩ = some (.int .i64 ((rd_T50 l0 a1).f3)) ∧ w'.cell? ⟨(ad116.add ((a1).toNat * 16)).block, (ad116.add ((a1).toNat * 16)).off + 4, none⟩ = some (.int .i64 ((rd_T50 l0 a1).f4)) ∧ w'.cell? ⟨(ad116.add ((a1).toNat * 16)).block, (ad116.add ((a1).toNat * 16)).off + 5, none⟩ = some (.int .i64 ((rd_T50 l0 a1).f5)) ∧ w'.cell? ⟨(ad116.add ((a1).toNat * 16)).block, (ad116.add ((a1).toNat * 16)).off + 6, none⟩ = some (.slice A117_6 ((rd_T50 l0 a1).f6).length c117_6) ∧ w'.cell? ⟨(ad116.add ((a1).toNat * 16)).block, (ad116.add ((a1).toNat * 16)).off + 7, none⟩ = some (.int .i64 ((rd_T50 l0 a1).f7)) ∧ w'.cell? ⟨(ad116.add ((a1).toNat * 16)).block, (ad116.add ((a1).toNat * 16)).off + 8, none⟩ = some (.int .i64 ((rd_T50 l0 a1).f8)) ∧ w'.cell? ⟨(ad116.add ((a1).toNat * 16)).block, (ad116.add ((a1).toNat * 16)).off + 9, none⟩ = some (.int .u8 ((rd_T50 l0 a1).f9)) ∧ w'.cell? ⟨(ad116.add ((a1).toNat * 16)).block, (ad116.add ((a1).toNat * 16)).off + 10, none⟩ = some (.int .i64 ((rd_T50 l0 a1).f10)) ∧ w'.cell? ⟨(ad116.add ((a1).toNat * 16)).block, (ad116.add ((a1).toNat * 16)).off + 11, none⟩ = some (.int .i64 ((rd_T50 l0 a1).f11)) ∧ w'.cell? ⟨(ad116.add ((a1).toNat * 16)).block, (ad116.add ((a1).toNat * 16)).off + 12, none⟩ = some (.int .u8 ((rd_T50 l0 a1).f12.f0)) ∧ w'.cell? ⟨(ad116.add ((a1).toNat * 16)).block, (ad116.add ((a1).toNat * 16)).off + 13, none⟩ = some (.int .i64 ((rd_T50 l0 a1).f12.f1)) ∧ w'.cell? ⟨(ad116.add ((a1).toNat * 16)).block, (ad116.add ((a1).toNat * 16)).off + 14, none⟩ = some (.string ((rd_T50 l0 a1).f12.f2)) ∧ w'.cell? ⟨(ad116.add ((a1).toNat * 16)).block, (ad116.add ((a1).toNat * 16)).off + 15, none⟩ = some (.slice A117_15 ((rd_T50 l0 a1).f12.f3).length c117_15)) (ds := []) #[false, false, false, false, false, false, false, false, false, false, false, false, false, false, false] (by kernel_rfl) rfl rfl ⟨((HB.out.cell (World.block_lt_of_cell? w _ hw117_0)).trans hw117_0), ((HB.out.cell (World.block_lt_of_cell? w _ hw117_1)).trans hw117_1), ((HB.out.cell (World.block_lt_of_cell? w _ hw117_2)).trans hw117_2), ((HB.out.cell (World.block_lt_of_cell? w _ hw117_3)).trans hw117_3), ((HB.out.cell (World.block_lt_of_cell? w _ hw117_4)).trans hw117_4), ((HB.out.cell (World.block_lt_of_cell? w _ hw117_5)).trans hw117_5), ((HB.out.cell (World.block_lt_of_cell? w _ hw117_6)).trans hw117_6), ((HB.out.cell (World.block_lt_of_cell? w _ hw117_7)).trans hw117_7), ((HB.out.cell (World.block_lt_of_cell? w _ hw117_8)).trans hw117_8), ((HB.out.cell (World.block_lt_of_cell? w _ hw117_9)).trans hw117_9), ((HB.out.cell (World.block_lt_of_cell? w _ hw117_10)).trans hw117_10), ((HB.out.cell (World.block_lt_of_cell? w _ hw117_11)).trans hw117_11), ((HB.out.cell (World.block_lt_of_cell? w _ hw117_12)).trans hw117_12), ((HB.out.cell (World.block_lt_of_cell? w _ hw117_13)).trans hw117_13), ((HB.out.cell (World.block_lt_of_cell? w _ hw117_14)).trans hw117_14), ((HB.out.cell (World.block_lt_of_cell? w _ hw117_15)).trans hw117_15), ((HB.out.cell (World.block_lt_of_cell? w _ hw121_0)).trans hw121_0), ((HB.out.cell (World.block_lt_of_cell? w _ hw121_1)).trans hw121_1), ((HB.out.cell (World.block_lt_of_cell? w _ hw121_2)).trans hw121_2), ((HB.out.cell (World.block_lt_of_cell? w _ hw121_3)).trans hw121_3), ((HB.out.cell (World.block_lt_of_cell? w _ hw121_4)).trans hw121_4), ((HB.out.cell (World.block_lt_of_cell? w _ hw121_5)).trans hw121_5), ((HB.out.cell (World.block_lt_of_cell? w _ hw121_6)).trans hw121_6), ((HB.out.cell (World.block_lt_of_cell? w _ hw121_7)).trans hw121_7), ((HB.out.cell (World.block_lt_of_cell? w _ hw121_8)).trans hw121_8), ((HB.out.cell (World.block_lt_of_cell? w _ hw121_9)).trans hw121_9), ((HB.out.cell (World.block_lt_of_cell? w _ hw121_10)).trans hw121_10), ((HB.out.cell (World.block_lt_of_cell? w _ hw121_11)).trans hw121_11), ((HB.out.cell (World.block_lt_of_cell? w _ hw121_12)).trans hw121_12), ((HB.out.cell (World.block_lt_of_cell? w _ hw121_13)).trans hw121_13), ((HB.out.cell (World.block_lt_of_cell? w _ hw121_14)).trans hw121_14), ((HB.out.cell (World.block_lt_of_cell? w _ hw121_15)).trans hw121_15)⟩ (fun hHeld => ?_); refine with_tabW foremanref16_Chain.tab3 foremanref16_Chain.bits3 (fun HT_ HW_ => ?_)
              generalize w.drew = w10 at HB HR117_15 HR117_6 HR121_15 HR121_6 hx117_0 hx117_1 hx117_10 hx117_11 hx117_12 hx117_13 hx117_14 hx117_15 hx117_2 hx117_3 hx117_4 hx117_5 hx117_6 hx117_7 hx117_8 hx117_9 hx121_0 hx121_1 hx121_10 hx121_11 hx121_12 hx121_13 hx121_14 hx121_15 hx121_2 hx121_3 hx121_4 hx121_5 hx121_6 hx121_7 hx121_8 hx121_9 hHeld ⊢
              refine pure_ (i := 0) (N := some 21) (v := ?_) (a' := ?_) #[true, false, false, false, false, false, false, false, false, false, false, false, false, false, false] rfl rfl (any_of HT_.out (by kernel_rfl)) (fun _ _ _ h => h) (Or.inl ⟨by rfl, ?_⟩) ?_ ?_
              rotate_left
              · intro w'
                go_simp
                with_reducible rfl
              rotate_left
              · simp only [Act.put, List.setIfInBounds_toArray, List.set_cons_zero, List.set_cons_succ, i64_w, i32_w]
                rfl
              refine pure_ (i := 1) (N := some 22) (v := ?_) (a' := ?_) #[true, true, false, false, false, false, false, false, false, false, false, false, false, false, false] rfl rfl (any_of HT_.out (by kernel_rfl)) (fun _ _ _ h => h) (Or.inl ⟨by rfl, ?_⟩) ?_ ?_
              rotate_left
              · intro w'
                go_simp
                with_reducible rfl
              rotate_left
              · simp only [Act.put, List.setIfInBounds_toArray, List.set_cons_zero, List.set_cons_succ, i64_w, i32_w]
                rfl
              refine pure_ (i := 2) (N := some 23) (v := ?_) (a' := ?_) #[true, true, true, false, false, false, false, false, false, false, false, false, false, false, false] rfl rfl (any_of HT_.out (by kernel_rfl)) (fun _ _ _ h => h) (Or.inl ⟨by rfl, ?_⟩) ?_ ?_
              rotate_left
              · intro w'
                go_simp
                with_reducible rfl
              rotate_left
              · simp only [Act.put, List.setIfInBounds_toArray, List.set_cons_zero, List.set_cons_succ, i64_w, i32_w]
                rfl
              refine pure_ (i := 3) (N := some 24) (v := ?_) (a' := ?_) #[true, true, true, true, false, false, false, false, false, false, false, false, false, false, false] rfl rfl (any_of HT_.out (by kernel_rfl)) (fun _ _ _ h => h) (Or.inl ⟨by rfl, ?_⟩) ?_ ?_
              rotate_left
              · intro w'
                go_simp
                with_reducible rfl
              rotate_left
              · simp only [Act.put, List.setIfInBounds_toArray, List.set_cons_zero, List.set_cons_succ, i64_w, i32_w]
                rfl
              refine pure_ (i := 6) (N := some 27) (v := ?_) (a' := ?_) #[true, true, true, true, false, false, true, false, false, false, false, false, false, false, false] rfl rfl (any_of HT_.out (by kernel_rfl)) (fun _ _ _ h => h) (Or.inl ⟨by rfl, ?_⟩) ?_ ?_
              rotate_left
              · intro w'
                go_simp
                with_reducible rfl
              rotate_left
              · simp only [Act.put, List.setIfInBounds_toArray, List.set_cons_zero, List.set_cons_succ, i64_w, i32_w]
                rfl
              refine pure_ (i := 7) (N := some 28) (v := ?_) (a' := ?_) #[true, true, true, true, false, false, true, true, false, false, false, false, false, false, false] rfl rfl (any_of HT_.out (by kernel_rfl)) (fun _ _ _ h => h) (Or.inl ⟨by rfl, ?_⟩) ?_ ?_
              rotate_left
              · intro w'
                go_simp
                with_reducible rfl
              rotate_left
              · simp only [Act.put, List.setIfInBounds_toArray, List.set_cons_zero, List.set_cons_succ, i64_w, i32_w]
                rfl
              refine pure_ (i := 8) (N := some 29) (v := ?_) (a' := ?_) #[true, true, true, true, false, false, true, true, true, false, false, false, false, false, false] rfl rfl (any_of HT_.out (by kernel_rfl)) (fun _ _ _ h => h) (Or.inl ⟨by rfl, ?_⟩) ?_ ?_
              rotate_left
              · intro w'
                go_simp
                with_reducible rfl
              rotate_left
              · simp only [Act.put, List.setIfInBounds_toArray, List.set_cons_zero, List.set_cons_succ, i64_w, i32_w]
                rfl
              refine pure_ (i := 9) (N := some 30) (v := ?_) (a' := ?_) #[true, true, true, true, false, false, true, true, true, true, false, false, false, false, false] rfl rfl (any_of HT_.out (by kernel_rfl)) (fun _ _ _ h => h) (Or.inl ⟨by rfl, ?_⟩) ?_ ?_
              rotate_left
              · intro w'
                go_simp
                with_reducible rfl
              rotate_left
              · simp only [Act.put, List.setIfInBounds_toArray, List.set_cons_zero, List.set_cons_succ, i64_w, i32_w]
                rfl
              refine pure_ (i := 10) (N := some 31) (v := ?_) (a' := ?_) #[true, true, true, true, false, false, true, true, true, true, true, false, false, false, false] rfl rfl (any_of HT_.out (by kernel_rfl)) (fun _ _ _ h => h) (Or.inl ⟨by rfl, ?_⟩) ?_ ?_
              rotate_left
              · intro w'
                go_simp
                with_reducible rfl
              rotate_left
              · simp only [Act.put, List.setIfInBounds_toArray, List.set_cons_zero, List.set_cons_succ, i64_w, i32_w]
                rfl
              refine take_ (i := 4) (N := some 25) (v := ?_) (a' := ?_) #[true, true, true, true, true, false, true, true, true, true, true, false, false, false, false] rfl rfl (take_ofW HT_.out HW_.out (by kernel_rfl)) (fun _ _ _ h => h) (Or.inl ⟨by rfl, ?_⟩) hHeld ?_ ?_
              rotate_left
              · rintro w' ⟨s0, s1, s2, s3, s4, s5, s6, s7, s8, s9, s10, s11, s12, s13, s14, s15, s16, s17, s18, s19, s20, s21, s22, s23, s24, s25, s26, s27, s28, s29, s30, s31⟩
                go_simp
                with_reducible rfl
              rotate_left
              · simp only [Act.put, List.setIfInBounds_toArray, List.set_cons_zero, List.set_cons_succ, i64_w, i32_w]
                rfl
              refine take_ (i := 11) (N := some 32) (v := ?_) (a' := ?_) #[true, true, true, true, true, false, true, true, true, true, true, true, false, false, false] rfl rfl (take_ofW HT_.out HW_.out (by kernel_rfl)) (fun _ _ _ h => h) (Or.inl ⟨by rfl, ?_⟩) hHeld ?_ ?_
              rotate_left
              · rintro w' ⟨s0, s1, s2, s3, s4, s5, s6, s7, s8, s9, s10, s11, s12, s13, s14, s15, s16, s17, s18, s19, s20, s21, s22, s23, s24, s25, s26, s27, s28, s29, s30, s31⟩
                go_simp
                with_reducible rfl
              rotate_left
              · simp only [Act.put, List.setIfInBounds_toArray, List.set_cons_zero, List.set_cons_succ, i64_w, i32_w]
                rfl
              refine join_ (σ := Value × Value) 2 #[true, true, true, true, true, true, true, true, true, true, true, true, true, false, false] (fun s_ => [(26, s_.1), (33, s_.2)]) (fun s_ w' => (w'.cell? (ad116.add ((a1).toNat * 16)) = some (.string ((rd_T50 l0 a1).f0)) ∧ w'.cell? ⟨(ad116.add ((a1).toNat * 16)).block, (ad116.add ((a1).toNat * 16)).off + 1, none⟩ = some (.string ((rd_T50 l0 a1).f1)) ∧ w'.cell? ⟨(ad116.add ((a1).toNat * 16)).block, (ad116.add ((a1).toNat * 16)).off + 2, none⟩ = some (.int .u8 ((rd_T50 l0 a1).f2)) ∧ w'.cell? ⟨(ad116.add ((a1).toNat * 16)).block, (ad116.add ((a1).toNat * 16)).off + 3, none⟩ = some (.int .i64 ((rd_T50 l0 a1).f3)) ∧ w'.cell? ⟨(ad116.add ((a1).toNat * 16)).block, (ad116.add ((a1).toNat * 16)).off + 4, none⟩ = some (.int .i64 ((rd_T50 l0 a1).f4)) ∧ w'.cell? ⟨(ad116.add ((a1).toNat * 16)).block, (ad116.add ((a1).toNat * 16)).off + 5, none⟩ = some (.int .i64 ((rd_T50 l0 a1).f5)) ∧ w'.cell? ⟨(ad116.add ((a1).toNat * 16)).block, (ad116.add ((a1).toNat * 16)).off + 6, none⟩ = some (.slice A117_6 ((rd_T50 l0 a1).f6).length c117_6) ∧ w'.cell? ⟨(ad116.add ((a1).toNat * 16)).block, (ad116.add ((a1).toNat * 16)).off + 7, none⟩ = some (.int .i64 ((rd_T50 l0 a1).f7)) ∧ w'.cell? ⟨(ad116.add ((a1).toNat * 16)).block, (ad116.add ((a1).toNat * 16)).off + 8, none⟩ = some (.int .i64 ((rd_T50 l0 a1).f8)) ∧ w'.cell? ⟨(ad116.add ((a1).toNat * 16)).block, (ad116.add ((a1).toNat * 16)).off + 9, none⟩ = some (.int .u8 ((rd_T50 l0 a1).f9)) ∧ w'.cell? ⟨(ad116.add ((a1).toNat * 16)).block, (ad116.add ((a1).toNat * 16)).off + 10, none⟩ = some (.int .i64 ((rd_T50 l0 a1).f10)) ∧ w'.cell? ⟨(ad116.add ((a1).toNat * 16)).block, (ad116.add ((a1).toNat * 16)).off + 11, none⟩ = some (.int .i64 ((rd_T50 l0 a1).f11)) ∧ w'.cell? ⟨(ad116.add ((a1).toNat * 16)).block, (ad116.add ((a1).toNat * 16)).off + 12, none⟩ = some (.int .u8 ((rd_T50 l0 a1).f12.f0)) ∧ w'.cell? ⟨(ad116.add ((a1).toNat * 16)).block, (ad116.add ((a1).toNat * 16)).off + 13, none⟩ = some (.int .i64 ((rd_T50 l0 a1).f12.f1)) ∧ w'.cell? ⟨(ad116.add ((a1).toNat * 16)).block, (ad116.add ((a1).toNat * 16)).off + 14, none⟩ = some (.string ((rd_T50 l0 a1).f12.f2)) ∧ w'.cell? ⟨(ad116.add ((a1).toNat * 16)).block, (ad116.add ((a1).toNat * 16)).off + 15, none⟩ = some (.slice A117_15 ((rd_T50 l0 a1).f12.f3).length c117_15) ∧ w'.cell? (ad116.add ((a1).toNat * 16)) = some (.string ((rd_T50 l0 a1).f0)) ∧ w'.cell? ⟨(ad116.add ((a1).toNat * 16)).block, (ad116.add ((a1).toNat * 16)).off + 1, none⟩ = some (.string ((rd_T50 l0 a1).f1)) ∧ w'.cell? ⟨(ad116.add ((a1).toNat * 16)).block, (ad116.add ((a1).toNat * 16)).off + 2, none⟩ = some (.int .u8 ((rd_T50 l0 a1).f2)) ∧ w'.cell? ⟨(ad116.add ((a1).toNat * 16)).block, (ad116.add ((a1).toNat * 16)).off + 3, none⟩ = some (.int .i64 ((rd_T50 l0 a1).f3)) ∧ w'.cell? ⟨(ad116.add ((a1).toNat * 16)).block, (ad116.add ((a1).toNat * 16)).off + 4, none⟩ = some (.int .i64 ((rd_T50 l0 a1).f4)) ∧ w'.cell? ⟨(ad116.add ((a1).toNat * 16)).block, (ad116.add ((a1).toNat * 16)).off + 5, none⟩ = some (.int .i64 ((rd_T50 l0 a1).f5)) ∧ w'.cell? ⟨(ad116.add ((a1).toNat * 16)).block, (ad116.add ((a1).toNat * 16)).off + 6, none⟩ = some (.slice A117_6 ((rd_T50 l0 a1).f6).length c117_6) ∧ w'.cell? ⟨(ad116.add ((a1).toNat * 16)).block, (ad116.add ((a1).toNat * 16)).off + 7, none⟩ = some (.int .i64 ((rd_T50 l0 a1).f7)) ∧ w'.cell? ⟨(ad116.add ((a1).toNat * 16)).block, (ad116.add ((a1).toNat * 16)).off + 8, none⟩ = some (.int .i64 ((rd_T50 l0 a1).f8)) ∧ w'.cell? ⟨(ad116.add ((a1).toNat * 16)).block, (ad116.add ((a1).toNat * 16)).off + 9, none⟩ = some (.int .u8 ((rd_T50 l0 a1).f9)) ∧ w'.cell? ⟨(ad116.add ((a1).toNat * 16)).block, (ad116.add ((a1).toNat * 16)).off + 10, none⟩ = some (.int .i64 ((rd_T50 l0 a1).f10)) ∧ w'.cell? ⟨(ad116.add ((a1).toNat * 16)).block, (ad116.add ((a1).toNat * 16)).off + 11, none⟩ = some (.int .i64 ((rd_T50 l0 a1).f11)) ∧ w'.cell? ⟨(ad116.add ((a1).toNat * 16)).block, (ad116.add ((a1).toNat * 16)).off + 12, none⟩ = some (.int .u8 ((rd_T50 l0 a1).f12.f0)) ∧ w'.cell? ⟨(ad116.add ((a1).toNat * 16)).block, (ad116.add ((a1).toNat * 16)).off + 13, none⟩ = some (.int .i64 ((rd_T50 l0 a1).f12.f1)) ∧ w'.cell? ⟨(ad116.add ((a1).toNat * 16)).block, (ad116.add ((a1).toNat * 16)).off + 14, none⟩ = some (.string ((rd_T50 l0 a1).f12.f2)) ∧ w'.cell? ⟨(ad116.add ((a1).toNat * 16)).block, (ad116.add ((a1).toNat * 16)).off + 15, none⟩ = some (.slice A117_15 ((rd_T50 l0 a1).f12.f3).length c117_15)) ∧ (Kd.R (Kd.int .i64) 3 w' w.heap.size (fun k_ => some k_ ≠ (s_.2 : Value).ownBlock) s_.1 y118) ∧ (Kd.R (Kd.int .i64) 3 w' w.heap.size (fun k_ => some k_ ≠ (s_.1 : Value).ownBlock) s_.2 t122) ∧ (Below w.heap.size w w')) ?_ ?_
              rotate_left
              · intro hCont
                refine two_ (i := 5) (j := 12) (Ni := some 26) (Nj := some 33) #[true, true, true, true, true, true, true, true, true, true, true, true, false, false, false] #[true, true, true, true, true, false, true, true, true, true, true, true, true, false, false] rfl rfl rfl rfl (two_of HT_.out (by kernel_rfl)) (by decide) (by decide) (fun K hK => ?_) (fun K hK => ?_)
                · skip
                  refine Kd.R_lit_step (Kd.int .i64) _ 3 ?hg (N := 26) ?hd (xs := ([(rd_T50 l0 a1).f4] : List Int)) (inner := [.int .i64 ((rd_T50 l0 a1).f4)]) (ok := fun _ => True) (okp := fun _ => True) ?hr ?hp (fun _ hk => hk) trivial (Below.refl _ _) (Nat.le_refl _) (by simp) ?_; (case hd => rfl); (case hg => rfl); (case hr => first | (go_simp; done) | (go_simp; rfl)); (case hp => exact (Reps.one (show Kd.M (Kd.int .i64) _ _ _ ((rd_T50 l0 a1).f4) [.int .i64 ((rd_T50 l0 a1).f4)] from rfl) (Reps.none _ _)))
                  intro v119 w11 ho12 hb hg_ hnew_
                  clear hg_ hnew_
                  (first | rw [← Ny118.out] at ho12 | (simp only [Int.reduceToNat] at ho12; rw [← Ny118.out] at ho12))
                  have n0_ := Aside0.mk (Kd.R_lower ho12 (below_size (by repeat (first | (with_reducible first | exact HB.out | apply below_alloc | apply pw_below_drewN | apply below_drew1) | exact HB.out))))
                  have n1_ := Aside0.mk (below_step (by repeat (first | (with_reducible first | exact HB.out | apply below_alloc | apply pw_below_drewN | apply below_drew1) | exact HB.out)) hb)
                  clear HB
                  have HO120 := n0_
                  have HB := n1_
                  clear n0_ n1_
                  clear hb ho12
                  refine hK.out _ _ ⟨((HB.out.cell (World.block_lt_of_cell? w _ hw117_0)).trans hw117_0), ((HB.out.cell (World.block_lt_of_cell? w _ hw117_1)).trans hw117_1), ((HB.out.cell (World.block_lt_of_cell? w _ hw117_2)).trans hw117_2), ((HB.out.cell (World.block_lt_of_cell? w _ hw117_3)).trans hw117_3), ((HB.out.cell (World.block_lt_of_cell? w _ hw117_4)).trans hw117_4), ((HB.out.cell (World.block_lt_of_cell? w _ hw117_5)).trans hw117_5), ((HB.out.cell (World.block_lt_of_cell? w _ hw117_6)).trans hw117_6), ((HB.out.cell (World.block_lt_of_cell? w _ hw117_7)).trans hw117_7), ((HB.out.cell (World.block_lt_of_cell? w _ hw117_8)).trans hw117_8), ((HB.out.cell (World.block_lt_of_cell? w _ hw117_9)).trans hw117_9), ((HB.out.cell (World.block_lt_of_cell? w _ hw117_10)).trans hw117_10), ((HB.out.cell (World.block_lt_of_cell? w _ hw117_11)).trans hw117_11), ((HB.out.cell (World.block_lt_of_cell? w _ hw117_12)).trans hw117_12), ((HB.out.cell (World.block_lt_of_cell? w _ hw117_13)).trans hw117_13), ((HB.out.cell (World.block_lt_of_cell? w _ hw117_14)).trans hw117_14), ((HB.out.cell (World.block_lt_of_cell? w _ hw117_15)).trans hw117_15), ((HB.out.cell (World.block_lt_of_cell? w _ hw121_0)).trans hw121_0), ((HB.out.cell (World.block_lt_of_cell? w _ hw121_1)).trans hw121_1), ((HB.out.cell (World.block_lt_of_cell? w _ hw121_2)).trans hw121_2), ((HB.out.cell (World.block_lt_of_cell? w _ hw121_3)).trans hw121_3), ((HB.out.cell (World.block_lt_of_cell? w _ hw121_4)).trans hw121_4), ((HB.out.cell (World.block_lt_of_cell? w _ hw121_5)).trans hw121_5), ((HB.out.cell (World.block_lt_of_cell? w _ hw121_6)).trans hw121_6), ((HB.out.cell (World.block_lt_of_cell? w _ hw121_7)).trans hw121_7), ((HB.out.cell (World.block_lt_of_cell? w _ hw121_8)).trans hw121_8), ((HB.out.cell (World.block_lt_of_cell? w _ hw121_9)).trans hw121_9), ((HB.out.cell (World.block_lt_of_cell? w _ hw121_10)).trans hw121_10), ((HB.out.cell (World.block_lt_of_cell? w _ hw121_11)).trans hw121_11), ((HB.out.cell (World.block_lt_of_cell? w _ hw121_12)).trans hw121_12), ((HB.out.cell (World.block_lt_of_cell? w _ hw121_13)).trans hw121_13), ((HB.out.cell (World.block_lt_of_cell? w _ hw121_14)).trans hw121_14), ((HB.out.cell (World.block_lt_of_cell? w _ hw121_15)).trans hw121_15)⟩ (fun hHeld => ?_)
                  clear hK K
                  refine norm_ (a' := ?_) ?_ ?_
                  rotate_left
                  · show Act.put _ (some 26) _ = _
                    simp only [Act.put, List.setIfInBounds_toArray, List.set_cons_zero, List.set_cons_succ, i64_w, i32_w]
                    rfl
                  refine one_ (i := 12) (N := some 33) #[true, true, true, true, true, true, true, true, true, true, true, true, true, false, false] rfl rfl (one_of HT_.out (by kernel_rfl)) (by decide) (fun K hK => ?_)
                  refine goes_ Tryd.func80 (by kernel_rfl) rfl #[.slice (some ad116) l0.length c0, .int .i64 ((rd_T50 l0 a1).f4)] (by rfl) rfl rfl (by (try simp only [List.map_toArray, List.map_cons, List.map_nil]); first | done | rfl | (simp only [List.length_drop, List.length_take]; rfl)) ?_
                  with_reducible refine (ih k (by omega) _ _ l0 ((rd_T50 l0 a1).f4) t122 _ ?side1 ?side2 A8.out).mono ?_
                  (case side1 => repeat (first | exact (Kd.C_below HR0.out HB.out) | (with_reducible refine Kd.C_alloc ?_ _) | (with_reducible refine Kd.C_drewN ?_ _) | (with_reducible refine Kd.C_drew ?_)))
                  (case side2 => exact HC0.out)
                  rintro e w13 ⟨v123, rfl, ho0, hb⟩
                  refine ⟨_, rfl, ?_⟩
                  have n0_ := Aside0.mk (Kd.R_elder' (by (with_reducible repeat (first | apply Kd.R_alloc | apply Kd.R_drewN | apply Kd.R_drew)); exact HO120.out) (Kd.R_base ho0) hb)
                  have n1_ := Aside0.mk (Kd.R_lower (Kd.R_new' ho0 (Kd.R_lt (by (with_reducible repeat (first | apply Kd.R_alloc | apply Kd.R_drewN | apply Kd.R_drew)); exact HO120.out))) (below_size (by repeat (first | (with_reducible first | exact HB.out | apply below_alloc | apply pw_below_drewN | apply below_drew1) | exact HB.out))))
                  have n2_ := Aside0.mk (below_step (by repeat (first | (with_reducible first | exact HB.out | apply below_alloc | apply pw_below_drewN | apply below_drew1) | exact HB.out)) hb)
                  clear HO120
                  clear HB
                  have HO120 := n0_
                  have HO124 := n1_
                  have HB := n2_
                  clear n0_ n1_ n2_
                  (try clear hb)
                  (try clear hb2)
                  (try clear hk)
                  (try clear hi)
                  (try clear ho0)
                  refine hK.out _ _ ⟨((HB.out.cell (World.block_lt_of_cell? w _ hw117_0)).trans hw117_0), ((HB.out.cell (World.block_lt_of_cell? w _ hw117_1)).trans hw117_1), ((HB.out.cell (World.block_lt_of_cell? w _ hw117_2)).trans hw117_2), ((HB.out.cell (World.block_lt_of_cell? w _ hw117_3)).trans hw117_3), ((HB.out.cell (World.block_lt_of_cell? w _ hw117_4)).trans hw117_4), ((HB.out.cell (World.block_lt_of_cell? w _ hw117_5)).trans hw117_5), ((HB.out.cell (World.block_lt_of_cell? w _ hw117_6)).trans hw117_6), ((HB.out.cell (World.block_lt_of_cell? w _ hw117_7)).trans hw117_7), ((HB.out.cell (World.block_lt_of_cell? w _ hw117_8)).trans hw117_8), ((HB.out.cell (World.block_lt_of_cell? w _ hw117_9)).trans hw117_9), ((HB.out.cell (World.block_lt_of_cell? w _ hw117_10)).trans hw117_10), ((HB.out.cell (World.block_lt_of_cell? w _ hw117_11)).trans hw117_11), ((HB.out.cell (World.block_lt_of_cell? w _ hw117_12)).trans hw117_12), ((HB.out.cell (World.block_lt_of_cell? w _ hw117_13)).trans hw117_13), ((HB.out.cell (World.block_lt_of_cell? w _ hw117_14)).trans hw117_14), ((HB.out.cell (World.block_lt_of_cell? w _ hw117_15)).trans hw117_15), ((HB.out.cell (World.block_lt_of_cell? w _ hw121_0)).trans hw121_0), ((HB.out.cell (World.block_lt_of_cell? w _ hw121_1)).trans hw121_1), ((HB.out.cell (World.block_lt_of_cell? w _ hw121_2)).trans hw121_2), ((HB.out.cell (World.block_lt_of_cell? w _ hw121_3)).trans hw121_3), ((HB.out.cell (World.block_lt_of_cell? w _ hw121_4)).trans hw121_4), ((HB.out.cell (World.block_lt_of_cell? w _ hw121_5)).trans hw121_5), ((HB.out.cell (World.block_lt_of_cell? w _ hw121_6)).trans hw121_6), ((HB.out.cell (World.block_lt_of_cell? w _ hw121_7)).trans hw121_7), ((HB.out.cell (World.block_lt_of_cell? w _ hw121_8)).trans hw121_8), ((HB.out.cell (World.block_lt_of_cell? w _ hw121_9)).trans hw121_9), ((HB.out.cell (World.block_lt_of_cell? w _ hw121_10)).trans hw121_10), ((HB.out.cell (World.block_lt_of_cell? w _ hw121_11)).trans hw121_11), ((HB.out.cell (World.block_lt_of_cell? w _ hw121_12)).trans hw121_12), ((HB.out.cell (World.block_lt_of_cell? w _ hw121_13)).trans hw121_13), ((HB.out.cell (World.block_lt_of_cell? w _ hw121_14)).trans hw121_14), ((HB.out.cell (World.block_lt_of_cell? w _ hw121_15)).trans hw121_15)⟩ (fun hHeld => ?_)
                  clear hK K
                  refine norm_ (a' := ?_) ?_ ?_
                  rotate_left
                  · show Act.put _ (some 33) _ = _
                    simp only [Act.put, List.setIfInBounds_toArray, List.set_cons_zero, List.set_cons_succ, i64_w, i32_w]
                    rfl
                  exact norm_ (by simp only [putAll, Act.put, List.setIfInBounds_toArray, List.set_cons_zero, List.set_cons_succ]) (hCont (v119, v123) _ ⟨hHeld, (by (with_reducible repeat (first | apply Kd.R_alloc | apply Kd.R_drewN | apply Kd.R_drew)); exact Kd.R_mono HO120.out (fun _ hk => hk.2)), (by (with_reducible repeat (first | apply Kd.R_alloc | apply Kd.R_drewN | apply Kd.R_drew)); exact Kd.R_mono HO124.out (fun _ hk => hk.2)), (by repeat (first | (with_reducible first | exact HB.out | apply below_alloc | apply pw_below_drewN | apply below_drew1) | exact HB.out))⟩)
                · skip
                  refine goes_ Tryd.func80 (by kernel_rfl) rfl #[.slice (some ad116) l0.length c0, .int .i64 ((rd_T50 l0 a1).f4)] (by rfl) rfl rfl (by (try simp only [List.map_toArray, List.map_cons, List.map_nil]); first | done | rfl | (simp only [List.length_drop, List.length_take]; rfl)) ?_
                  with_reducible refine (ih k (by omega) _ _ l0 ((rd_T50 l0 a1).f4) t122 _ ?side1 ?side2 A8.out).mono ?_
                  (case side1 => repeat (first | exact (Kd.C_below HR0.out HB.out) | (with_reducible refine Kd.C_alloc ?_ _) | (with_reducible refine Kd.C_drewN ?_ _) | (with_reducible refine Kd.C_drew ?_)))
                  (case side2 => exact HC0.out)
                  rintro e w11 ⟨v123, rfl, ho0, hb⟩
                  refine ⟨_, rfl, ?_⟩
                  have n0_ := Aside0.mk (Kd.R_lower ho0 (below_size (by repeat (first | (with_reducible first | exact HB.out | apply below_alloc | apply pw_below_drewN | apply below_drew1) | exact HB.out))))
                  have n1_ := Aside0.mk (below_step (by repeat (first | (with_reducible first | exact HB.out | apply below_alloc | apply pw_below_drewN | apply below_drew1) | exact HB.out)) hb)
                  clear HB
                  have HO124 := n0_
                  have HB := n1_
                  clear n0_ n1_
                  (try clear hb)
                  (try clear hb2)
                  (try clear hk)
                  (try clear hi)
                  (try clear ho0)
                  refine hK.out _ _ ⟨((HB.out.cell (World.block_lt_of_cell? w _ hw117_0)).trans hw117_0), ((HB.out.cell (World.block_lt_of_cell? w _ hw117_1)).trans hw117_1), ((HB.out.cell (World.block_lt_of_cell? w _ hw117_2)).trans hw117_2), ((HB.out.cell (World.block_lt_of_cell? w _ hw117_3)).trans hw117_3), ((HB.out.cell (World.block_lt_of_cell? w _ hw117_4)).trans hw117_4), ((HB.out.cell (World.block_lt_of_cell? w _ hw117_5)).trans hw117_5), ((HB.out.cell (World.block_lt_of_cell? w _ hw117_6)).trans hw117_6), ((HB.out.cell (World.block_lt_of_cell? w _ hw117_7)).trans hw117_7), ((HB.out.cell (World.block_lt_of_cell? w _ hw117_8)).trans hw117_8), ((HB.out.cell (World.block_lt_of_cell? w _ hw117_9)).trans hw117_9), ((HB.out.cell (World.block_lt_of_cell? w _ hw117_10)).trans hw117_10), ((HB.out.cell (World.block_lt_of_cell? w _ hw117_11)).trans hw117_11), ((HB.out.cell (World.block_lt_of_cell? w _ hw117_12)).trans hw117_12), ((HB.out.cell (World.block_lt_of_cell? w _ hw117_13)).trans hw117_13), ((HB.out.cell (World.block_lt_of_cell? w _ hw117_14)).trans hw117_14), ((HB.out.cell (World.block_lt_of_cell? w _ hw117_15)).trans hw117_15), ((HB.out.cell (World.block_lt_of_cell? w _ hw121_0)).trans hw121_0), ((HB.out.cell (World.block_lt_of_cell? w _ hw121_1)).trans hw121_1), ((HB.out.cell (World.block_lt_of_cell? w _ hw121_2)).trans hw121_2), ((HB.out.cell (World.block_lt_of_cell? w _ hw121_3)).trans hw121_3), ((HB.out.cell (World.block_lt_of_cell? w _ hw121_4)).trans hw121_4), ((HB.out.cell (World.block_lt_of_cell? w _ hw121_5)).trans hw121_5), ((HB.out.cell (World.block_lt_of_cell? w _ hw121_6)).trans hw121_6), ((HB.out.cell (World.block_lt_of_cell? w _ hw121_7)).trans hw121_7), ((HB.out.cell (World.block_lt_of_cell? w _ hw121_8)).trans hw121_8), ((HB.out.cell (World.block_lt_of_cell? w _ hw121_9)).trans hw121_9), ((HB.out.cell (World.block_lt_of_cell? w _ hw121_10)).trans hw121_10), ((HB.out.cell (World.block_lt_of_cell? w _ hw121_11)).trans hw121_11), ((HB.out.cell (World.block_lt_of_cell? w _ hw121_12)).trans hw121_12), ((HB.out.cell (World.block_lt_of_cell? w _ hw121_13)).trans hw121_13), ((HB.out.cell (World.block_lt_of_cell? w _ hw121_14)).trans hw121_14), ((HB.out.cell (World.block_lt_of_cell? w _ hw121_15)).trans hw121_15)⟩ (fun hHeld => ?_)
                  clear hK K
                  refine norm_ (a' := ?_) ?_ ?_
                  rotate_left
                  · show Act.put _ (some 33) _ = _
                    simp only [Act.put, List.setIfInBounds_toArray, List.set_cons_zero, List.set_cons_succ, i64_w, i32_w]
                    rfl
                  refine one_ (i := 5) (N := some 26) #[true, true, true, true, true, true, true, true, true, true, true, true, true, false, false] rfl rfl (one_of HT_.out (by kernel_rfl)) (by decide) (fun K hK => ?_)
                  refine Kd.R_lit_step (Kd.int .i64) _ 3 ?hg (N := 26) ?hd (xs := ([(rd_T50 l0 a1).f4] : List Int)) (inner := [.int .i64 ((rd_T50 l0 a1).f4)]) (ok := fun _ => True) (okp := fun _ => True) ?hr ?hp (fun _ hk => hk) trivial (Below.refl _ _) (Nat.le_refl _) (by simp) ?_; (case hd => rfl); (case hg => rfl); (case hr => first | (go_simp; done) | (go_simp; rfl)); (case hp => exact (Reps.one (show Kd.M (Kd.int .i64) _ _ _ ((rd_T50 l0 a1).f4) [.int .i64 ((rd_T50 l0 a1).f4)] from rfl) (Reps.none _ _)))
                  intro v119 w12 ho13 hb hg_ hnew_
                  clear hg_ hnew_
                  (first | rw [← Ny118.out] at ho13 | (simp only [Int.reduceToNat] at ho13; rw [← Ny118.out] at ho13))
                  have n0_ := Aside0.mk (Kd.R_elder' (by (with_reducible repeat (first | apply Kd.R_alloc | apply Kd.R_drewN | apply Kd.R_drew)); exact HO124.out) (Kd.R_base ho13) hb)
                  have n1_ := Aside0.mk (Kd.R_lower (Kd.R_new' ho13 (Kd.R_lt (by (with_reducible repeat (first | apply Kd.R_alloc | apply Kd.R_drewN | apply Kd.R_drew)); exact HO124.out))) (below_size (by repeat (first | (with_reducible first | exact HB.out | apply below_alloc | apply pw_below_drewN | apply below_drew1) | exact HB.out))))
                  have n2_ := Aside0.mk (below_step (by repeat (first | (with_reducible first | exact HB.out | apply below_alloc | apply pw_below_drewN | apply below_drew1) | exact HB.out)) hb)
                  clear HO124
                  clear HB
                  have HO124 := n0_
                  have HO120 := n1_
                  have HB := n2_
                  clear n0_ n1_ n2_
                  clear hb ho13
                  refine hK.out _ _ ⟨((HB.out.cell (World.block_lt_of_cell? w _ hw117_0)).trans hw117_0), ((HB.out.cell (World.block_lt_of_cell? w _ hw117_1)).trans hw117_1), ((HB.out.cell (World.block_lt_of_cell? w _ hw117_2)).trans hw117_2), ((HB.out.cell (World.block_lt_of_cell? w _ hw117_3)).trans hw117_3), ((HB.out.cell (World.block_lt_of_cell? w _ hw117_4)).trans hw117_4), ((HB.out.cell (World.block_lt_of_cell? w _ hw117_5)).trans hw117_5), ((HB.out.cell (World.block_lt_of_cell? w _ hw117_6)).trans hw117_6), ((HB.out.cell (World.block_lt_of_cell? w _ hw117_7)).trans hw117_7), ((HB.out.cell (World.block_lt_of_cell? w _ hw117_8)).trans hw117_8), ((HB.out.cell (World.block_lt_of_cell? w _ hw117_9)).trans hw117_9), ((HB.out.cell (World.block_lt_of_cell? w _ hw117_10)).trans hw117_10), ((HB.out.cell (World.block_lt_of_cell? w _ hw117_11)).trans hw117_11), ((HB.out.cell (World.block_lt_of_cell? w _ hw117_12)).trans hw117_12), ((HB.out.cell (World.block_lt_of_cell? w _ hw117_13)).trans hw117_13), ((HB.out.cell (World.block_lt_of_cell? w _ hw117_14)).trans hw117_14), ((HB.out.cell (World.block_lt_of_cell? w _ hw117_15)).trans hw117_15), ((HB.out.cell (World.block_lt_of_cell? w _ hw121_0)).trans hw121_0), ((HB.out.cell (World.block_lt_of_cell? w _ hw121_1)).trans hw121_1), ((HB.out.cell (World.block_lt_of_cell? w _ hw121_2)).trans hw121_2), ((HB.out.cell (World.block_lt_of_cell? w _ hw121_3)).trans hw121_3), ((HB.out.cell (World.block_lt_of_cell? w _ hw121_4)).trans hw121_4), ((HB.out.cell (World.block_lt_of_cell? w _ hw121_5)).trans hw121_5), ((HB.out.cell (World.block_lt_of_cell? w _ hw121_6)).trans hw121_6), ((HB.out.cell (World.block_lt_of_cell? w _ hw121_7)).trans hw121_7), ((HB.out.cell (World.block_lt_of_cell? w _ hw121_8)).trans hw121_8), ((HB.out.cell (World.block_lt_of_cell? w _ hw121_9)).trans hw121_9), ((HB.out.cell (World.block_lt_of_cell? w _ hw121_10)).trans hw121_10), ((HB.out.cell (World.block_lt_of_cell? w _ hw121_11)).trans hw121_11), ((HB.out.cell (World.block_lt_of_cell? w _ hw121_12)).trans hw121_12), ((HB.out.cell (World.block_lt_of_cell? w _ hw121_13)).trans hw121_13), ((HB.out.cell (World.block_lt_of_cell? w _ hw121_14)).trans hw121_14), ((HB.out.cell (World.block_lt_of_cell? w _ hw121_15)).trans hw121_15)⟩ (fun hHeld => ?_)
                  clear hK K
                  refine norm_ (a' := ?_) ?_ ?_
                  rotate_left
                  · show Act.put _ (some 26) _ = _
                    simp only [Act.put, List.setIfInBounds_toArray, List.set_cons_zero, List.set_cons_succ, i64_w, i32_w]
                    rfl
                  exact norm_ (by simp only [putAll, Act.put, List.setIfInBounds_toArray, List.set_cons_zero, List.set_cons_succ]) (hCont (v119, v123) _ ⟨hHeld, (by (with_reducible repeat (first | apply Kd.R_alloc | apply Kd.R_drewN | apply Kd.R_drew)); exact Kd.R_mono HO120.out (fun _ hk => hk.2)), (by (with_reducible repeat (first | apply Kd.R_alloc | apply Kd.R_drewN | apply Kd.R_drew)); exact Kd.R_mono HO124.out (fun _ hk => hk.2)), (by repeat (first | (with_reducible first | exact HB.out | apply below_alloc | apply pw_below_drewN | apply below_drew1) | exact HB.out))⟩)
              rintro ⟨v119, v123⟩ w14 ⟨hS_, h0_, h1_, h2_⟩
              have n0_ : Aside0 (Kd.R (Kd.int .i64) 3 w14 w.heap.size (fun k_ => some k_ ≠ (v123 : Value).ownBlock) v119 y118) := ⟨h0_⟩
              have n1_ : Aside0 (Kd.R (Kd.int .i64) 3 w14 w.heap.size (fun k_ => some k_ ≠ (v119 : Value).ownBlock) v123 t122) := ⟨h1_⟩
              have n2_ : Aside0 (Below w.heap.size w w14) := ⟨h2_⟩
              clear HB
              clear h0_ h1_ h2_
              have HO120 := n0_
              have HO124 := n1_
              have HB := n2_
              clear n0_ n1_ n2_
              have hHeld : w14.cell? (ad116.add ((a1).toNat * 16)) = some (.string ((rd_T50 l0 a1).f0)) ∧ w14.cell? ⟨(ad116.add ((a1).toNat * 16)).block, (ad116.add ((a1).toNat * 16)).off + 1, none⟩ = some (.string ((rd_T50 l0 a1).f1)) ∧ w14.cell? ⟨(ad116.add ((a1).toNat * 16)).block, (ad116.add ((a1).toNat * 16)).off + 2, none⟩ = some (.int .u8 ((rd_T50 l0 a1).f2)) ∧ w14.cell? ⟨(ad116.add ((a1).toNat * 16)).block, (ad116.add ((a1).toNat * 16)).off + 3, none⟩ = some (.int .i64 ((rd_T50 l0 a1).f3)) ∧ w14.cell? ⟨(ad116.add ((a1).toNat * 16)).block, (ad116.add ((a1).toNat * 16)).off + 4, none⟩ = some (.int .i64 ((rd_T50 l0 a1).f4)) ∧ w14.cell? ⟨(ad116.add ((a1).toNat * 16)).block, (ad116.add ((a1).toNat * 16)).off + 5, none⟩ = some (.int .i64 ((rd_T50 l0 a1).f5)) ∧ w14.cell? ⟨(ad116.add ((a1).toNat * 16)).block, (ad116.add ((a1).toNat * 16)).off + 6, none⟩ = some (.slice A117_6 ((rd_T50 l0 a1).f6).length c117_6) ∧ w14.cell? ⟨(ad116.add ((a1).toNat * 16)).block, (ad116.add ((a1).toNat * 16)).off + 7, none⟩ = some (.int .i64 ((rd_T50 l0 a1).f7)) ∧ w14.cell? ⟨(ad116.add ((a1).toNat * 16)).block, (ad116.add ((a1).toNat * 16)).off + 8, none⟩ = some (.int .i64 ((rd_T50 l0 a1).f8)) ∧ w14.cell? ⟨(ad116.add ((a1).toNat * 16)).block, (ad116.add ((a1).toNat * 16)).off + 9, none⟩ = some (.int .u8 ((rd_T50 l0 a1).f9)) ∧ w14.cell? ⟨(ad116.add ((a1).toNat * 16)).block, (ad116.add ((a1).toNat * 16)).off + 10, none⟩ = some (.int .i64 ((rd_T50 l0 a1).f10)) ∧ w14.cell? ⟨(ad116.add ((a1).toNat * 16)).block, (ad116.add ((a1).toNat * 16)).off + 11, none⟩ = some (.int .i64 ((rd_T50 l0 a1).f11)) ∧ w14.cell? ⟨(ad116.add ((a1).toNat * 16)).block, (ad116.add ((a1).toNat * 16)).off + 12, none⟩ = some (.int .u8 ((rd_T50 l0 a1).f12.f0)) ∧ w14.cell? ⟨(ad116.add ((a1).toNat * 16)).block, (ad116.add ((a1).toNat * 16)).off + 13, none⟩ = some (.int .i64 ((rd_T50 l0 a1).f12.f1)) ∧ w14.cell? ⟨(ad116.add ((a1).toNat * 16)).block, (ad116.add ((a1).toNat * 16)).off + 14, none⟩ = some (.string ((rd_T50 l0 a1).f12.f2)) ∧ w14.cell? ⟨(ad116.add ((a1).toNat * 16)).block, (ad116.add ((a1).toNat * 16)).off + 15, none⟩ = some (.slice A117_15 ((rd_T50 l0 a1).f12.f3).length c117_15) ∧ w14.cell? (ad116.add ((a1).toNat * 16)) = some (.string ((rd_T50 l0 a1).f0)) ∧ w14.cell? ⟨(ad116.add ((a1).toNat * 16)).block, (ad116.add ((a1).toNat * 16)).off + 1, none⟩ = some (.string ((rd_T50 l0 a1).f1)) ∧ w14.cell? ⟨(ad116.add ((a1).toNat * 16)).block, (ad116.add ((a1).toNat * 16)).off + 2, none⟩ = some (.int .u8 ((rd_T50 l0 a1).f2)) ∧ w14.cell? ⟨(ad116.add ((a1).toNat * 16)).block, (ad116.add ((a1).toNat * 16)).off + 3, none⟩ = some (.int .i64 ((rd_T50 l0 a1).f3)) ∧ w14.cell? ⟨(ad116.add ((a1).toNat * 16)).block, (ad116.add ((a1).toNat * 16)).off + 4, none⟩ = some (.int .i64 ((rd_T50 l0 a1).f4)) ∧ w14.cell? ⟨(ad116.add ((a1).toNat * 16)).block, (ad116.add ((a1).toNat * 16)).off + 5, none⟩ = some (.int .i64 ((rd_T50 l0 a1).f5)) ∧ w14.cell? ⟨(ad116.add ((a1).toNat * 16)).block, (ad116.add ((a1).toNat * 16)).off + 6, none⟩ = some (.slice A117_6 ((rd_T50 l0 a1).f6).length c117_6) ∧ w14.cell? ⟨(ad116.add ((a1).toNat * 16)).block, (ad116.add ((a1).toNat * 16)).off + 7, none⟩ = some (.int .i64 ((rd_T50 l0 a1).f7)) ∧ w14.cell? ⟨(ad116.add ((a1).toNat * 16)).block, (ad116.add ((a1).toNat * 16)).off + 8, none⟩ = some (.int .i64 ((rd_T50 l0 a1).f8)) ∧ w14.cell? ⟨(ad116.add ((a1).toNat * 16)).block, (ad116.add ((a1).toNat * 16)).off + 9, none⟩ = some (.int .u8 ((rd_T50 l0 a1).f9)) ∧ w14.cell? ⟨(ad116.add ((a1).toNat * 16)).block, (ad116.add ((a1).toNat * 16)).off + 10, none⟩ = some (.int .i64 ((rd_T50 l0 a1).f10)) ∧ w14.cell? ⟨(ad116.add ((a1).toNat * 16)).block, (ad116.add ((a1).toNat * 16)).off + 11, none⟩ = some (.int .i64 ((rd_T50 l0 a1).f11)) ∧ w14.cell? ⟨(ad116.add ((a1).toNat * 16)).block, (ad116.add ((a1).toNat * 16)).off + 12, none⟩ = some (.int .u8 ((rd_T50 l0 a1).f12.f0)) ∧ w14.cell? ⟨(ad116.add ((a1).toNat * 16)).block, (ad116.add ((a1).toNat * 16)).off + 13, none⟩ = some (.int .i64 ((rd_T50 l0 a1).f12.f1)) ∧ w14.cell? ⟨(ad116.add ((a1).toNat * 16)).block, (ad116.add ((a1).toNat * 16)).off + 14, none⟩ = some (.string ((rd_T50 l0 a1).f12.f2)) ∧ w14.cell? ⟨(ad116.add ((a1).toNat * 16)).block, (ad116.add ((a1).toNat * 16)).off + 15, none⟩ = some (.slice A117_15 ((rd_T50 l0 a1).f12.f3).length c117_15) := hS_
              obtain ⟨Ao16, co16, eo16⟩ := Kd.R_slice HO124.out
              (first | subst eo16 | (injection eo16 with f1_ f2_ f3_; have f4_ := f1_.symm; have f5_ := f3_.symm; clear f1_ f2_ f3_; subst f4_; subst f5_))
              refine norm_ (a' := ?_) ?_ ?_
              rotate_left
              · simp only [putAll, Act.put, List.setIfInBounds_toArray, List.set_cons_zero, List.set_cons_succ]
                rfl
              refine one_ (i := 13) (N := some 34) #[true, true, true, true, true, true, true, true, true, true, true, true, true, true, false] rfl rfl (one_of HT_.out (by kernel_rfl)) (by decide) (fun K hK => ?_)
              refine Kd.R_append_rows_step (Kd.int .i64) (w0 := w) w.heap.size (by rfl) (.tmp 26) (.tmp 33) 33 3 (.int .i64 0) 8 rfl Tryd.underlying33 info3 rfl (by decide) (by omega) v119 y118 t122 _ _ _ (fun k_ => some k_ ≠ (.slice Ao16 t122.length co16 : Value).ownBlock) (fun _ => False) rfl rfl ?aO ?aR (fun _ _ h => h) (fun _ h => h.elim) ?aF ?aB ?aS ?aL ?_
              (case aR => repeat (first | exact (Kd.R_reads' HO124.out).2.2 | (with_reducible refine Kd.C_alloc ?_ _) | (with_reducible refine Kd.C_drewN ?_ _) | (with_reducible refine Kd.C_drew ?_)))
              (case aB => exact (by repeat (first | (with_reducible first | exact HB.out | apply below_alloc | apply pw_below_drewN | apply below_drew1) | exact HB.out)))
              (case aF => exact (fun k_ hk => Kd.fresh' (Kd.R_lt (by (with_reducible repeat (first | apply Kd.R_alloc | apply Kd.R_drewN | apply Kd.R_drew)); exact HO124.out)) k_ hk))
              (case aO => exact (by (with_reducible repeat (first | apply Kd.R_alloc | apply Kd.R_drewN | apply Kd.R_drew)); exact HO120.out))
              (case aS => exact (below_size (by repeat (first | (with_reducible first | exact HB.out | apply below_alloc | apply pw_below_drewN | apply below_drew1) | exact HB.out))))
              (case aL => have := LMc9.out; omega)
              intro v126 w15 ho hb hg hat
              rw [← Ny125.out] at ho
              have n0_ := Aside0.mk (Kd.R_after (ok := (fun _ => True)) (by (with_reducible repeat (first | apply Kd.R_alloc | apply Kd.R_drewN | apply Kd.R_drew)); exact Kd.R_mono HO124.out (fun _ hk => ⟨trivial, hk⟩)) hg hat)
              have n1_ := Aside0.mk (hb)
              have n2_ := Aside0.mk (ho)
              clear HO124
              clear HB
              clear HO120
              have HO124 := n0_
              have HB := n1_
              have HO127 := n2_
              clear n0_ n1_ n2_
              clear ho hb hg hat
              refine hK.out _ _ ⟨((HB.out.cell (World.block_lt_of_cell? w _ hw117_0)).trans hw117_0), ((HB.out.cell (World.block_lt_of_cell? w _ hw117_1)).trans hw117_1), ((HB.out.cell (World.block_lt_of_cell? w _ hw117_2)).trans hw117_2), ((HB.out.cell (World.block_lt_of_cell? w _ hw117_3)).trans hw117_3), ((HB.out.cell (World.block_lt_of_cell? w _ hw117_4)).trans hw117_4), ((HB.out.cell (World.block_lt_of_cell? w _ hw117_5)).trans hw117_5), ((HB.out.cell (World.block_lt_of_cell? w _ hw117_6)).trans hw117_6), ((HB.out.cell (World.block_lt_of_cell? w _ hw117_7)).trans hw117_7), ((HB.out.cell (World.block_lt_of_cell? w _ hw117_8)).trans hw117_8), ((HB.out.cell (World.block_lt_of_cell? w _ hw117_9)).trans hw117_9), ((HB.out.cell (World.block_lt_of_cell? w _ hw117_10)).trans hw117_10), ((HB.out.cell (World.block_lt_of_cell? w _ hw117_11)).trans hw117_11), ((HB.out.cell (World.block_lt_of_cell? w _ hw117_12)).trans hw117_12), ((HB.out.cell (World.block_lt_of_cell? w _ hw117_13)).trans hw117_13), ((HB.out.cell (World.block_lt_of_cell? w _ hw117_14)).trans hw117_14), ((HB.out.cell (World.block_lt_of_cell? w _ hw117_15)).trans hw117_15), ((HB.out.cell (World.block_lt_of_cell? w _ hw121_0)).trans hw121_0), ((HB.out.cell (World.block_lt_of_cell? w _ hw121_1)).trans hw121_1), ((HB.out.cell (World.block_lt_of_cell? w _ hw121_2)).trans hw121_2), ((HB.out.cell (World.block_lt_of_cell? w _ hw121_3)).trans hw121_3), ((HB.out.cell (World.block_lt_of_cell? w _ hw121_4)).trans hw121_4), ((HB.out.cell (World.block_lt_of_cell? w _ hw121_5)).trans hw121_5), ((HB.out.cell (World.block_lt_of_cell? w _ hw121_6)).trans hw121_6), ((HB.out.cell (World.block_lt_of_cell? w _ hw121_7)).trans hw121_7), ((HB.out.cell (World.block_lt_of_cell? w _ hw121_8)).trans hw121_8), ((HB.out.cell (World.block_lt_of_cell? w _ hw121_9)).trans hw121_9), ((HB.out.cell (World.block_lt_of_cell? w _ hw121_10)).trans hw121_10), ((HB.out.cell (World.block_lt_of_cell? w _ hw121_11)).trans hw121_11), ((HB.out.cell (World.block_lt_of_cell? w _ hw121_12)).trans hw121_12), ((HB.out.cell (World.block_lt_of_cell? w _ hw121_13)).trans hw121_13), ((HB.out.cell (World.block_lt_of_cell? w _ hw121_14)).trans hw121_14), ((HB.out.cell (World.block_lt_of_cell? w _ hw121_15)).trans hw121_15)⟩ (fun hHeld => ?_)
              clear hK K
              refine norm_ (a' := ?_) ?_ ?_
              rotate_left
              · show Act.put _ (some 34) _ = _
                simp only [Act.put, List.setIfInBounds_toArray, List.set_cons_zero, List.set_cons_succ, i64_w, i32_w]
                rfl
              refine pure_ (i := 14) (N := some 4) (v := ?_) (a' := ?_) #[true, true, true, true, true, true, true, true, true, true, true, true, true, true, true] rfl rfl (any_of HT_.out (by kernel_rfl)) (fun _ _ _ h => h) (Or.inl ⟨by rfl, ?_⟩) ?_ ?_
              rotate_left
              · intro w'
                go_simp
                with_reducible rfl
              rotate_left
              · simp only [Act.put, List.setIfInBounds_toArray, List.set_cons_zero, List.set_cons_succ, i64_w, i32_w]
                rfl
              refine done_ (done_of HT_.out (by kernel_rfl)) ?_
              try go_wp2
              go_ret
              exact ⟨_, by first | rfl | (simp [errW_none, errW_some] <;> rfl) | (simp [*, errW_none, errW_some] <;> rfl), by (with_reducible repeat (first | apply Kd.R_alloc | apply Kd.R_drewN | apply Kd.R_drew)); exact Kd.R_mono HO127.out (fun _ hk => trivial), by repeat (first | (with_reducible first | exact HB.out | apply below_alloc | apply pw_below_drewN | apply below_drew1) | exact HB.out)⟩
            · rw [if_neg c9] at H
              exact absurd H (by simp)
        · rw [if_neg c6] at H
          exact absurd H (by simp)
      · rw [if_neg c5] at H
        exact absurd H (by simp)

/-! ### foremanref16_Deep: function 62 -/
def foremanref16_Deep.f (k : Nat) (l0 : List (S50)) (a1 : Int) : Option (Int) := if a1 < 0 then (some 0) else (if a1 ≥ (l0.length : Int) then (some 0) else ((foremanref16_Chain.f k l0 a1).bind fun t128 => (some (wrap64 ((t128.length : Int) + 1)))))
theorem foremanref16_Deep.mono : ∀ a0 a1 k, LeO (foremanref16_Deep.f k a0 a1) (foremanref16_Deep.f (k + 1) a0 a1) := by
  intro a0 a1 k
  unfold foremanref16_Deep.f
  repeat' first
      | (with_reducible exact foremanref16_Chain.mono _ _ _)
      | (with_reducible exact LeO.refl _)
      | (with_reducible exact LeO.none _)
      | (with_reducible refine LeO.ite ?_ ?_)
      | (with_reducible refine LeO.bind ?_ (fun _ => ?_))
      | exact foremanref16_Chain.mono _ _ _
      | exact LeO.none _
      | refine LeO.ite ?_ ?_
      | refine LeO.bind ?_ (fun _ => ?_)
set_option maxHeartbeats 8000000 in
set_option maxRecDepth 100000 in
theorem foremanref16_Deep.calls (k : Nat) (A0 : Option Addr) (c0 : Nat) (l0 : List (S50)) (a1 : Int) (r : Int) (w : World) (hr0 : Kd.C k50 w A0 l0.length l0) (hc0 : l0.length ≤ c0) (h : foremanref16_Deep.f k l0 a1 = some r) :
    Calls Tryd.prog 62 #[.slice A0 l0.length c0, .int .i64 a1] w fun e w' => e = .returned (.int .i64 r) ∧ Below w.heap.size w w' := by
  have HR0 := Aside0.mk hr0
  have HC0 := Aside0.mk hc0
  clear hr0 hc0
  have HB := Aside0.mk (Below.refl w.heap.size w)
  have H : (if a1 < 0 then (some 0) else (if a1 ≥ (l0.length : Int) then (some 0) else ((foremanref16_Chain.f k l0 a1).bind fun t128 => (some (wrap64 ((t128.length : Int) + 1)))))) = some r := h
  clear h
  by_cases c3 : a1 < 0
  · rw [if_pos c3] at H
    have c3b0 : decide (a1 < 0) = true := decide_eq_true c3
    clear c3
    obtain rfl := Option.some.inj H
    go_enter Tryd.func62, Tryd.ntmps62
    go_wp2
    go_ret
    exact ⟨by first | rfl | (simp [errW_none, errW_some] <;> rfl) | (simp [*, errW_none, errW_some] <;> rfl), by repeat (first | (with_reducible first | exact HB.out | apply below_alloc | apply pw_below_drewN | apply below_drew1) | exact HB.out)⟩
  · rw [if_neg c3] at H
    have c3b0 : decide (a1 < 0) = false := decide_eq_false c3
    clear c3
    by_cases c4 : a1 ≥ (l0.length : Int)
    · rw [if_pos c4] at H
      have c4b0 : decide ((l0.length : Int) ≤ a1) = true := decide_eq_true c4
      clear c4
      obtain rfl := Option.some.inj H
      go_enter Tryd.func62, Tryd.ntmps62
      go_wp2
      go_ret
      exact ⟨by first | rfl | (simp [errW_none, errW_some] <;> rfl) | (simp [*, errW_none, errW_some] <;> rfl), by repeat (first | (with_reducible first | exact HB.out | apply below_alloc | apply pw_below_drewN | apply below_drew1) | exact HB.out)⟩
    · rw [if_neg c4] at H
      have c4b0 : decide ((l0.length : Int) ≤ a1) = false := decide_eq_false c4
      clear c4
      replace H := Option.bind_eq_some_iff.mp H
      obtain ⟨t128, A50, H⟩ := H
      replace H : (some (wrap64 ((t128.length : Int) + 1))) = some r := H
      have A5 := Aside0.mk A50
      clear A50
      obtain rfl := Option.some.inj H
      go_enter Tryd.func62, Tryd.ntmps62
      go_wp2_with (first | ((with_reducible refine gate_callee (f := 80) rfl ?_); refine goesL_ (some 15) rfl rfl Tryd.func80 (by kernel_rfl) rfl #[.slice A0 l0.length c0, .int .i64 a1] rfl (by (try simp only [List.map_toArray, List.map_cons, List.map_nil]); first | done | rfl | (simp only [List.length_drop, List.length_take]; rfl)) ?_; (with_reducible refine (foremanref16_Chain.calls k _ _ l0 a1 t128 _ ?side1 ?side2 A5.out).mono ?_); (case side1 => repeat (first | exact HR0.out | (with_reducible refine Kd.C_alloc ?_ _) | (with_reducible refine Kd.C_drewN ?_ _) | (with_reducible refine Kd.C_drew ?_))); (case side2 => exact HC0.out); rintro e w6 ⟨v129, rfl, ho0, hb⟩; refine ⟨_, rfl, ?_⟩; have n0_ := Aside0.mk (Kd.R_lower ho0 (below_size (by repeat (first | (with_reducible first | exact HB.out | apply below_alloc | apply pw_below_drewN | apply below_drew1) | exact HB.out)))); have n1_ := Aside0.mk (below_step (by repeat (first | (with_reducible first | exact HB.out | apply below_alloc | apply pw_below_drewN | apply below_drew1) | exact HB.out)) hb); clear HB; have HO130 := n0_; have HB := n1_; clear n0_ n1_; (try clear hb); (try clear hb2); (try clear hk); (try clear hi); (try clear ho0); obtain ⟨Ao7, co7, eo7⟩ := Kd.R_slice HO130.out; subst eo7))
      go_ret
      exact ⟨by first | rfl | (simp [errW_none, errW_some] <;> rfl) | (simp [*, errW_none, errW_some] <;> rfl), by repeat (first | (with_reducible first | exact HB.out | apply below_alloc | apply pw_below_drewN | apply below_drew1) | exact HB.out)⟩

/-! ### foremanref20_deep: function 33 -/
mutual
def foremanref20_deep.j0 : Nat → List (S27) → Int → Int → Int → Int → Int → Int → Option (Bool)
  | 0, _, _, _, _, _, _, _ => none
  | k + 1, x3, x9, x132000, x132001, x132002, x132003, x132004 => foremanref20_deep.l0 k x3 x9 0 x132000 x132001 x132002 x132003 x132004
def foremanref20_deep.l0 : Nat → List (S27) → Int → Int → Int → Int → Int → Int → Int → Option (Bool)
  | 0, _, _, _, _, _, _, _, _ => none
  | k + 1, x3, x9, x10, x132000, x132001, x132002, x132003, x132004 => if x10 < (x3.length : Int) then (if x9 > x132001 then (some true) else (if 0 ≤ x10 then (if ((rd_T27 x3 x10).f1) = 1 then (if (wrap64 (x9 + 1)) > x132001 then (some true) else (foremanref20_deep.l0 k x3 x9 (wrap64 (x10 + 1)) x132000 x132001 x132002 x132003 x132004)) else (foremanref20_deep.l0 k x3 x9 (wrap64 (x10 + 1)) x132000 x132001 x132002 x132003 x132004)) else (none))) else (some false)
end
def foremanref20_deep.f (k : Nat) (a0_0 : Int) (a0_1 : Int) (a0_2 : Int) (a0_3 : Int) (a0_4 : Int) (l1 : List (S50)) (a2 : Int) (l3 : List (S27)) : Option (Bool) := if a2 ≥ 0 then ((foremanref16_Deep.f k l1 a2).bind fun t132 => (foremanref20_deep.j0 k l3 (wrap64 (t132 + 1)) a0_0 a0_1 a0_2 a0_3 a0_4)) else (foremanref20_deep.j0 k l3 1 a0_0 a0_1 a0_2 a0_3 a0_4)
theorem foremanref20_deep.mono_l : ∀ k, (∀ y0 y1 y2 y3 y4 y5 y6, LeO (foremanref20_deep.j0 k y0 y1 y2 y3 y4 y5 y6) (foremanref20_deep.j0 (k + 1) y0 y1 y2 y3 y4 y5 y6)) ∧ (∀ y0 y1 y2 y3 y4 y5 y6 y7, LeO (foremanref20_deep.l0 k y0 y1 y2 y3 y4 y5 y6 y7) (foremanref20_deep.l0 (k + 1) y0 y1 y2 y3 y4 y5 y6 y7))
  | 0 => ⟨fun _ _ _ _ _ _ _ r h => by simp [foremanref20_deep.j0] at h, fun _ _ _ _ _ _ _ _ r h => by simp [foremanref20_deep.l0] at h⟩
  | k + 1 => by
    obtain ⟨ih0, ih1⟩ := foremanref20_deep.mono_l k
    refine ⟨?_, ?_⟩
    · intro y0 y1 y2 y3 y4 y5 y6
      unfold foremanref20_deep.j0
      repeat' first
      | (with_reducible exact ih0 _ _ _ _ _ _ _)
      | (with_reducible exact ih1 _ _ _ _ _ _ _ _)
      | (with_reducible exact foremanref16_Deep.mono _ _ _)
      | (with_reducible exact LeO.refl _)
      | (with_reducible exact LeO.none _)
      | (with_reducible refine LeO.ite ?_ ?_)
      | (with_reducible refine LeO.bind ?_ (fun _ => ?_))
      | exact ih0 _ _ _ _ _ _ _
      | exact ih1 _ _ _ _ _ _ _ _
      | exact foremanref16_Deep.mono _ _ _
      | exact LeO.none _
      | refine LeO.ite ?_ ?_
      | refine LeO.bind ?_ (fun _ => ?_)
    · intro y0 y1 y2 y3 y4 y5 y6 y7
      unfold foremanref20_deep.l0
      repeat' first
      | (with_reducible exact ih0 _ _ _ _ _ _ _)
      | (with_reducible exact ih1 _ _ _ _ _ _ _ _)
      | (with_reducible exact foremanref16_Deep.mono _ _ _)
      | (with_reducible exact LeO.refl _)
      | (with_reducible exact LeO.none _)
      | (with_reducible refine LeO.ite ?_ ?_)
      | (with_reducible refine LeO.bind ?_ (fun _ => ?_))
      | exact ih0 _ _ _ _ _ _ _
      | exact ih1 _ _ _ _ _ _ _ _
      | exact foremanref16_Deep.mono _ _ _
      | exact LeO.none _
      | refine LeO.ite ?_ ?_
      | refine LeO.bind ?_ (fun _ => ?_)
theorem foremanref20_deep.mono : ∀ a0 a1 a2 a3 a4 a5 a6 a7 k, LeO (foremanref20_deep.f k a0 a1 a2 a3 a4 a5 a6 a7) (foremanref20_deep.f (k + 1) a0 a1 a2 a3 a4 a5 a6 a7) := by
  intro a0 a1 a2 a3 a4 a5 a6 a7 k
  obtain ⟨ih0, ih1⟩ := foremanref20_deep.mono_l k
  unfold foremanref20_deep.f
  repeat' first
      | (with_reducible exact ih0 _ _ _ _ _ _ _)
      | (with_reducible exact ih1 _ _ _ _ _ _ _ _)
      | (with_reducible exact foremanref16_Deep.mono _ _ _)
      | (with_reducible exact LeO.refl _)
      | (with_reducible exact LeO.none _)
      | (with_reducible refine LeO.ite ?_ ?_)
      | (with_reducible refine LeO.bind ?_ (fun _ => ?_))
      | exact ih0 _ _ _ _ _ _ _
      | exact ih1 _ _ _ _ _ _ _ _
      | exact foremanref16_Deep.mono _ _ _
      | exact LeO.none _
      | refine LeO.ite ?_ ?_
      | refine LeO.bind ?_ (fun _ => ?_)
set_option maxHeartbeats 8000000 in
set_option maxRecDepth 100000 in
theorem foremanref20_deep.calls (k : Nat) (a0_0 : Int) (a0_1 : Int) (a0_2 : Int) (a0_3 : Int) (a0_4 : Int) (A1 : Option Addr) (c1 : Nat) (l1 : List (S50)) (a2 : Int) (A3 : Option Addr) (c3 : Nat) (l3 : List (S27)) (r : Bool) (w : World) (hr1 : Kd.C k50 w A1 l1.length l1) (hc1 : l1.length ≤ c1) (hr3 : Kd.C k27 w A3 l3.length l3) (hc3 : l3.length ≤ c3) (h : foremanref20_deep.f k a0_0 a0_1 a0_2 a0_3 a0_4 l1 a2 l3 = some r) :
    Calls Tryd.prog 33 #[.agg #[.int .i64 a0_0, .int .i64 a0_1, .int .i64 a0_2, .int .i64 a0_3, .int .i64 a0_4], .slice A1 l1.length c1, .int .i64 a2, .slice A3 l3.length c3] w fun e w' => e = .returned (.bool r) ∧ Below w.heap.size w w' := by
  have hu32 := Tryd.underlying32
  have HR1 := Aside0.mk hr1
  have HC1 := Aside0.mk hc1
  clear hr1 hc1
  have HR3 := Aside0.mk hr3
  have HC3 := Aside0.mk hc3
  clear hr3 hc3
  have HB := Aside0.mk (Below.refl w.heap.size w)
  have H : (if a2 ≥ 0 then ((foremanref16_Deep.f k l1 a2).bind fun t132 => (foremanref20_deep.j0 k l3 (wrap64 (t132 + 1)) a0_0 a0_1 a0_2 a0_3 a0_4)) else (foremanref20_deep.j0 k l3 1 a0_0 a0_1 a0_2 a0_3 a0_4)) = some r := h
  clear h
  have HC5 := Aside0.mk H
  clear H
  go_enter Tryd.func33, Tryd.ntmps33
  go_upto_if 12 with (first | ((with_reducible refine gate_dst (N := 4) rfl ?_); refine box_event ?hg (N := 4) ?hd (cs := #[.int .i64 a0_0, .int .i64 a0_1, .int .i64 a0_2, .int .i64 a0_3, .int .i64 a0_4]) (t := 32) ?hr ?_; (case hd => rfl); (case hg => rfl); (case hr => first | (go_simp; done) | (go_simp; rfl)); intro gb131 hg w6 hbox hb; have n0_ := Aside0.mk (below_step (by repeat (first | (with_reducible first | exact HB.out | apply below_alloc | apply pw_below_drewN | apply below_drew1) | exact HB.out)) hb); have n1_ := Aside0.mk (hbox); have n2_ := Aside0.mk ((by rw [hg]; exact (below_size (by repeat (first | (with_reducible first | exact HB.out | apply below_alloc | apply pw_below_drewN | apply below_drew1) | exact HB.out))) : w.heap.size ≤ gb131)); have n3_ := Aside0.mk ((by rw [hg]; exact (below_size (by repeat (first | (with_reducible first | exact HB.out | apply below_alloc | apply pw_below_drewN | apply below_drew1) | exact HB.out))) : w.heap.size ≤ gb131)); clear HB; have HB := n0_; have BK131 := n1_; have GW131 := n2_; have GE131 := n3_; clear n0_ n1_ n2_ n3_; clear hb hbox hg))
  (try simp only [Act.put, List.setIfInBounds_toArray, List.set_cons_zero, List.set_cons_succ])
  go_cut [9] (fun v9 wc => ∃ (kq : Nat) (x9_4 : Int), v9 = .int .i64 x9_4 ∧ Aside0 (foremanref20_deep.j0 kq l3 x9_4 a0_0 a0_1 a0_2 a0_3 a0_4 = some r) ∧ Aside0 (kq ≤ k) ∧ Aside0 (wc.heap[gb131]? = some (.cells #[.int .i64 a0_0, .int .i64 a0_1, .int .i64 a0_2, .int .i64 a0_3, .int .i64 a0_4] 32 (0, 0))) ∧ Aside0 (Below w.heap.size w wc))
  case first =>
    have H := HC5.out
    clear HC5
    by_cases c7 : a2 ≥ 0
    · rw [if_pos c7] at H
      have c7b0 : decide (0 ≤ a2) = true := decide_eq_true c7
      clear c7
      (first | rw [c7b0] | (simp only [i64_w, i32_w]; rw [c7b0]) | skip)
      replace H := Option.bind_eq_some_iff.mp H
      obtain ⟨t132, A80, H⟩ := H
      replace H : (foremanref20_deep.j0 k l3 (wrap64 (t132 + 1)) a0_0 a0_1 a0_2 a0_3 a0_4) = some r := H
      have A8 := Aside0.mk A80
      clear A80
      have H' := Aside0.mk H
      clear H
      go_wp2_with (first | ((with_reducible refine gate_callee (f := 62) rfl ?_); refine goesL_ (some 15) rfl rfl Tryd.func62 (by kernel_rfl) rfl #[.slice A1 l1.length c1, .int .i64 a2] rfl (by (try simp only [List.map_toArray, List.map_cons, List.map_nil]); first | done | rfl | (simp only [List.length_drop, List.length_take]; rfl)) ?_; (with_reducible refine (foremanref16_Deep.calls k _ _ l1 a2 t132 _ ?side1 ?side2 A8.out).mono ?_); (case side1 => repeat (first | exact (Kd.C_below HR1.out HB.out) | (with_reducible refine Kd.C_alloc ?_ _) | (with_reducible refine Kd.C_drewN ?_ _) | (with_reducible refine Kd.C_drew ?_))); (case side2 => exact HC1.out); rintro e w9 ⟨rfl, hb⟩; refine ⟨_, rfl, ?_⟩; have n0_ := Aside0.mk (blk_below (g := gb131) (o := .cells #[.int .i64 a0_0, .int .i64 a0_1, .int .i64 a0_2, .int .i64 a0_3, .int .i64 a0_4] 32 (0, 0)) (by (with_reducible repeat (first | refine blk_drewN ?_ _ | refine blk_drew ?_ | refine blk_alloc ?_ _)); exact BK131.out) hb); have n1_ := Aside0.mk (below_step (by repeat (first | (with_reducible first | exact HB.out | apply below_alloc | apply pw_below_drewN | apply below_drew1 | refine below_set ?_ GE131.out) | exact HB.out)) hb); clear BK131; clear HB; have BK131 := n0_; have HB := n1_; clear n0_ n1_; (try clear hb); (try clear hb2); (try clear hk); (try clear hi)))
      go_meet
      case rel => exact ⟨_, (wrap64 (t132 + 1)), (by first | rfl | (simp; done) | (simp [*]; done)), H', ⟨by first | omega | exact Nat.le_refl _⟩, ⟨by (with_reducible repeat (first | refine blk_drewN ?_ _ | refine blk_drew ?_ | refine blk_alloc ?_ _)); exact BK131.out⟩, ⟨by repeat (first | (with_reducible first | exact HB.out | apply below_alloc | apply pw_below_drewN | apply below_drew1 | refine below_set ?_ GE131.out) | exact HB.out)⟩⟩
    · rw [if_neg c7] at H
      have c7b0 : decide (0 ≤ a2) = false := decide_eq_false c7
      clear c7
      (first | rw [c7b0] | (simp only [i64_w, i32_w]; rw [c7b0]) | skip)
      have H' := Aside0.mk H
      clear H
      go_wp2
      go_meet
      case rel => exact ⟨_, (1), (by first | rfl | (simp; done) | (simp [*]; done)), H', ⟨by first | omega | exact Nat.le_refl _⟩, ⟨by (with_reducible repeat (first | refine blk_drewN ?_ _ | refine blk_drew ?_ | refine blk_alloc ?_ _)); exact BK131.out⟩, ⟨by repeat (first | (with_reducible first | exact HB.out | apply below_alloc | apply pw_below_drewN | apply below_drew1 | refine below_set ?_ GE131.out) | exact HB.out)⟩⟩
  case rest =>
    clear HC5
    try clear c1
    try clear p2
    try clear c3
    try clear c6
    try clear p6
    try clear c7
    try clear c7b0
    obtain ⟨kq, x9_4, rfl, HA, HJ4, BK131, HB⟩ := hcut
    cases kq with
    | zero => exact absurd HA.out (by simp [foremanref20_deep.j0])
    | succ kj4 =>
      have H := HA.out
      clear HA
      simp only [foremanref20_deep.j0] at H
      have H' := Aside0.mk H
      clear H
      go_wp2
      go_loopg [10] kj4 (fun kq v10 w' => ∃ (x10_2 : Int), v10 = .int .i64 x10_2 ∧ Aside0 (foremanref20_deep.l0 kq l3 x9_4 x10_2 a0_0 a0_1 a0_2 a0_3 a0_4 = some r) ∧ Aside0 (kq ≤ kj4) ∧ Aside0 (w'.heap[gb131]? = some (.cells #[.int .i64 a0_0, .int .i64 a0_1, .int .i64 a0_2, .int .i64 a0_3, .int .i64 a0_4] 32 (0, 0))) ∧ Aside0 (Below w.heap.size w w'))
      case atStart => exact ⟨(0), (by first | rfl | (simp; done) | (simp [*]; done)), H', ⟨Nat.le_refl _⟩, ⟨by (with_reducible repeat (first | refine blk_drewN ?_ _ | refine blk_drew ?_ | refine blk_alloc ?_ _)); exact BK131.out⟩, ⟨by repeat (first | (with_reducible first | exact HB.out | apply below_alloc | apply pw_below_drewN | apply below_drew1 | refine below_set ?_ GE131.out) | exact HB.out)⟩⟩
      case round =>
        clear H'
        try clear c1
        try clear p2
        try clear c3
        try clear c6
        try clear p6
        try clear c7
        try clear c7b0
        try clear p2
        try clear p6
        obtain ⟨x10_2, rfl, HA, HK2, BK131, HB⟩ := hrel
        cases gk with
        | zero => exact absurd HA.out (by simp [foremanref20_deep.l0])
        | succ k2 =>
          have H := HA.out
          clear HA
          simp only [foremanref20_deep.l0] at H
          by_cases c10 : x10_2 < (l3.length : Int)
          · rw [if_pos c10] at H
            have c10b0 : decide (x10_2 < (l3.length : Int)) = true := decide_eq_true c10
            clear c10
            by_cases c11 : x9_4 > a0_1
            · rw [if_pos c11] at H
              have c11b0 : decide (a0_1 < x9_4) = true := decide_eq_true c11
              clear c11
              obtain rfl := Option.some.inj H
              have hcz12_0 : wr.cell? ⟨gb131, 0, none⟩ = some (.int .i64 a0_0) := (blk_cell BK131.out 0).trans rfl
              have hcz12_1 : wr.cell? ⟨gb131, 1, none⟩ = some (.int .i64 a0_1) := (blk_cell BK131.out 1).trans rfl
              have hcz12_2 : wr.cell? ⟨gb131, 2, none⟩ = some (.int .i64 a0_2) := (blk_cell BK131.out 2).trans rfl
              have hcz12_3 : wr.cell? ⟨gb131, 3, none⟩ = some (.int .i64 a0_3) := (blk_cell BK131.out 3).trans rfl
              have hcz12_4 : wr.cell? ⟨gb131, 4, none⟩ = some (.int .i64 a0_4) := (blk_cell BK131.out 4).trans rfl
              have hfz12_0 := blk_frozen BK131.out 0
              have hfz12_1 := blk_frozen BK131.out 1
              have hfz12_2 := blk_frozen BK131.out 2
              have hfz12_3 := blk_frozen BK131.out 3
              have hfz12_4 := blk_frozen BK131.out 4
              go_wp2
              go_ret
              exact ⟨by first | rfl | (simp [errW_none, errW_some] <;> rfl) | (simp [*, errW_none, errW_some] <;> rfl), by repeat (first | (with_reducible first | exact HB.out | apply below_alloc | apply pw_below_drewN | apply below_drew1 | refine below_set ?_ GE131.out) | exact HB.out)⟩
            · rw [if_neg c11] at H
              have c11b0 : decide (a0_1 < x9_4) = false := decide_eq_false c11
              clear c11
              by_cases c13 : 0 ≤ x10_2
              · rw [if_pos c13] at H
                have c13b0 : decide (0 ≤ x10_2) = true := decide_eq_true c13
                clear c13
                by_cases c14 : ((rd_T27 l3 x10_2).f1) = 1
                · rw [if_pos c14] at H
                  have c14b0 : (((rd_T27 l3 x10_2).f1) == 1) = true := beq_iff_eq.mpr c14
                  have c14b1 : (((rd_T27 l3 x10_2).f1) != 1) = false := bne_eq_false_iff_eq.mpr c14
                  clear c14
                  by_cases c15 : (wrap64 (x9_4 + 1)) > a0_1
                  · rw [if_pos c15] at H
                    have c15b0 : decide (a0_1 < (wrap64 (x9_4 + 1))) = true := decide_eq_true c15
                    clear c15
                    obtain rfl := Option.some.inj H
                    have hcz16_0 : wr.cell? ⟨gb131, 0, none⟩ = some (.int .i64 a0_0) := (blk_cell BK131.out 0).trans rfl
                    have hcz16_1 : wr.cell? ⟨gb131, 1, none⟩ = some (.int .i64 a0_1) := (blk_cell BK131.out 1).trans rfl
                    have hcz16_2 : wr.cell? ⟨gb131, 2, none⟩ = some (.int .i64 a0_2) := (blk_cell BK131.out 2).trans rfl
                    have hcz16_3 : wr.cell? ⟨gb131, 3, none⟩ = some (.int .i64 a0_3) := (blk_cell BK131.out 3).trans rfl
                    have hcz16_4 : wr.cell? ⟨gb131, 4, none⟩ = some (.int .i64 a0_4) := (blk_cell BK131.out 4).trans rfl
                    have hfz16_0 := blk_frozen BK131.out 0
                    have hfz16_1 := blk_frozen BK131.out 1
                    have hfz16_2 := blk_frozen BK131.out 2
                    have hfz16_3 := blk_frozen BK131.out 3
                    have hfz16_4 := blk_frozen BK131.out 4
                    have p133 : 0 ≤ (x10_2 : Int) := of_decide_eq_true (by first | (with_reducible assumption) | assumption)
                    have q133 : x10_2 < (l3.length : Int) := of_decide_eq_true (by first | (with_reducible assumption) | assumption)
                    obtain ⟨ad133, A133_2, c133_2, e133, hx133_0, hx133_1, hx133_2, hx133_3, hx133_4, hx133_5, hl133_2, hi133_2⟩ := at_T27 HR3.out x10_2 p133 q133
                    cases e133
                    replace hx133_0 := (HB.out.cell (World.block_lt_of_cell? w _ hx133_0)).trans hx133_0
                    replace hx133_1 := (HB.out.cell (World.block_lt_of_cell? w _ hx133_1)).trans hx133_1
                    replace hx133_2 := (HB.out.cell (World.block_lt_of_cell? w _ hx133_2)).trans hx133_2
                    replace hx133_3 := (HB.out.cell (World.block_lt_of_cell? w _ hx133_3)).trans hx133_3
                    replace hx133_4 := (HB.out.cell (World.block_lt_of_cell? w _ hx133_4)).trans hx133_4
                    replace hx133_5 := (HB.out.cell (World.block_lt_of_cell? w _ hx133_5)).trans hx133_5
                    have HR133_2 := Aside0.mk hi133_2
                    have HC133_2 := Aside0.mk hl133_2
                    clear hi133_2 hl133_2
                    replace p133 := eq_true p133
                    replace q133 := eq_true q133
                    go_wp2
                    go_ret
                    exact ⟨by first | rfl | (simp [errW_none, errW_some] <;> rfl) | (simp [*, errW_none, errW_some] <;> rfl), by repeat (first | (with_reducible first | exact HB.out | apply below_alloc | apply pw_below_drewN | apply below_drew1 | refine below_set ?_ GE131.out) | exact HB.out)⟩
                  · rw [if_neg c15] at H
                    have c15b0 : decide (a0_1 < (wrap64 (x9_4 + 1))) = false := decide_eq_false c15
                    clear c15
                    have H' := Aside0.mk H
                    clear H
                    have hcz17_0 : wr.cell? ⟨gb131, 0, none⟩ = some (.int .i64 a0_0) := (blk_cell BK131.out 0).trans rfl
                    have hcz17_1 : wr.cell? ⟨gb131, 1, none⟩ = some (.int .i64 a0_1) := (blk_cell BK131.out 1).trans rfl
                    have hcz17_2 : wr.cell? ⟨gb131, 2, none⟩ = some (.int .i64 a0_2) := (blk_cell BK131.out 2).trans rfl
                    have hcz17_3 : wr.cell? ⟨gb131, 3, none⟩ = some (.int .i64 a0_3) := (blk_cell BK131.out 3).trans rfl
                    have hcz17_4 : wr.cell? ⟨gb131, 4, none⟩ = some (.int .i64 a0_4) := (blk_cell BK131.out 4).trans rfl
                    have hfz17_0 := blk_frozen BK131.out 0
                    have hfz17_1 := blk_frozen BK131.out 1
                    have hfz17_2 := blk_frozen BK131.out 2
                    have hfz17_3 := blk_frozen BK131.out 3
                    have hfz17_4 := blk_frozen BK131.out 4
                    have p133 : 0 ≤ (x10_2 : Int) := of_decide_eq_true (by first | (with_reducible assumption) | assumption)
                    have q133 : x10_2 < (l3.length : Int) := of_decide_eq_true (by first | (with_reducible assumption) | assumption)
                    obtain ⟨ad133, A133_2, c133_2, e133, hx133_0, hx133_1, hx133_2, hx133_3, hx133_4, hx133_5, hl133_2, hi133_2⟩ := at_T27 HR3.out x10_2 p133 q133
                    cases e133
                    replace hx133_0 := (HB.out.cell (World.block_lt_of_cell? w _ hx133_0)).trans hx133_0
                    replace hx133_1 := (HB.out.cell (World.block_lt_of_cell? w _ hx133_1)).trans hx133_1
                    replace hx133_2 := (HB.out.cell (World.block_lt_of_cell? w _ hx133_2)).trans hx133_2
                    replace hx133_3 := (HB.out.cell (World.block_lt_of_cell? w _ hx133_3)).trans hx133_3
                    replace hx133_4 := (HB.out.cell (World.block_lt_of_cell? w _ hx133_4)).trans hx133_4
                    replace hx133_5 := (HB.out.cell (World.block_lt_of_cell? w _ hx133_5)).trans hx133_5
                    have HR133_2 := Aside0.mk hi133_2
                    have HC133_2 := Aside0.mk hl133_2
                    clear hi133_2 hl133_2
                    replace p133 := eq_true p133
                    replace q133 := eq_true q133
                    go_wp2
                    go_roundg k2
                    case measure => have := HJ4.out; have := HK2.out; omega
                    case rel => exact ⟨(wrap64 (x10_2 + 1)), (by first | rfl | (simp; done) | (simp [*]; done)), H', ⟨by have := HJ4.out; have := HK2.out; omega⟩, ⟨by (with_reducible repeat (first | refine blk_drewN ?_ _ | refine blk_drew ?_ | refine blk_alloc ?_ _)); exact BK131.out⟩, ⟨by repeat (first | (with_reducible first | exact HB.out | apply below_alloc | apply pw_below_drewN | apply below_drew1 | refine below_set ?_ GE131.out) | exact HB.out)⟩⟩
                · rw [if_neg c14] at H
                  have c14b0 : (((rd_T27 l3 x10_2).f1) == 1) = false := beq_eq_false_iff_ne.mpr c14
                  have c14b1 : (((rd_T27 l3 x10_2).f1) != 1) = true := bne_iff_ne.mpr c14
                  have H' := Aside0.mk H
                  clear H
                  have hcz18_0 : wr.cell? ⟨gb131, 0, none⟩ = some (.int .i64 a0_0) := (blk_cell BK131.out 0).trans rfl
                  have hcz18_1 : wr.cell? ⟨gb131, 1, none⟩ = some (.int .i64 a0_1) := (blk_cell BK131.out 1).trans rfl
                  have hcz18_2 : wr.cell? ⟨gb131, 2, none⟩ = some (.int .i64 a0_2) := (blk_cell BK131.out 2).trans rfl
                  have hcz18_3 : wr.cell? ⟨gb131, 3, none⟩ = some (.int .i64 a0_3) := (blk_cell BK131.out 3).trans rfl
                  have hcz18_4 : wr.cell? ⟨gb131, 4, none⟩ = some (.int .i64 a0_4) := (blk_cell BK131.out 4).trans rfl
                  have hfz18_0 := blk_frozen BK131.out 0
                  have hfz18_1 := blk_frozen BK131.out 1
                  have hfz18_2 := blk_frozen BK131.out 2
                  have hfz18_3 := blk_frozen BK131.out 3
                  have hfz18_4 := blk_frozen BK131.out 4
                  have p133 : 0 ≤ (x10_2 : Int) := of_decide_eq_true (by first | (with_reducible assumption) | assumption)
                  have q133 : x10_2 < (l3.length : Int) := of_decide_eq_true (by first | (with_reducible assumption) | assumption)
                  obtain ⟨ad133, A133_2, c133_2, e133, hx133_0, hx133_1, hx133_2, hx133_3, hx133_4, hx133_5, hl133_2, hi133_2⟩ := at_T27 HR3.out x10_2 p133 q133
                  cases e133
                  replace hx133_0 := (HB.out.cell (World.block_lt_of_cell? w _ hx133_0)).trans hx133_0
                  replace hx133_1 := (HB.out.cell (World.block_lt_of_cell? w _ hx133_1)).trans hx133_1
                  replace hx133_2 := (HB.out.cell (World.block_lt_of_cell? w _ hx133_2)).trans hx133_2
                  replace hx133_3 := (HB.out.cell (World.block_lt_of_cell? w _ hx133_3)).trans hx133_3
                  replace hx133_4 := (HB.out.cell (World.block_lt_of_cell? w _ hx133_4)).trans hx133_4
                  replace hx133_5 := (HB.out.cell (World.block_lt_of_cell? w _ hx133_5)).trans hx133_5
                  have HR133_2 := Aside0.mk hi133_2
                  have HC133_2 := Aside0.mk hl133_2
                  clear hi133_2 hl133_2
                  replace p133 := eq_true p133
                  replace q133 := eq_true q133
                  go_wp2
                  go_roundg k2
                  case measure => have := HJ4.out; have := HK2.out; omega
                  case rel => exact ⟨(wrap64 (x10_2 + 1)), (by first | rfl | (simp; done) | (simp [*]; done)), H', ⟨by have := HJ4.out; have := HK2.out; omega⟩, ⟨by (with_reducible repeat (first | refine blk_drewN ?_ _ | refine blk_drew ?_ | refine blk_alloc ?_ _)); exact BK131.out⟩, ⟨by repeat (first | (with_reducible first | exact HB.out | apply below_alloc | apply pw_below_drewN | apply below_drew1 | refine below_set ?_ GE131.out) | exact HB.out)⟩⟩
              · rw [if_neg c13] at H
                exact absurd H (by simp)
          · rw [if_neg c10] at H
            have c10b0 : decide (x10_2 < (l3.length : Int)) = false := decide_eq_false c10
            clear c10
            obtain rfl := Option.some.inj H
            go_wp2
            go_ret
            exact ⟨by first | rfl | (simp [errW_none, errW_some] <;> rfl) | (simp [*, errW_none, errW_some] <;> rfl), by repeat (first | (with_reducible first | exact HB.out | apply below_alloc | apply pw_below_drewN | apply below_drew1 | refine below_set ?_ GE131.out) | exact HB.out)⟩

end Go.Proofs.YtfcdohaimdodgaaDoor.PFrag
