-- PRINTED BY print.sh 35421559b90ae4d0a3588c463048766b98c2df88dd9212a6774a882060cdf62d: not written by this session
import Derived.Test.YtfcdohaimdodgaaDoorPFragx0
import Derived.Test.YtfcdohaimdodgaaDoorPFragx5
namespace Go.Proofs.YtfcdohaimdodgaaDoor.PFrag
open Go.RowKit Go.Proofs.YtfcdohaimdodgaaDoorW.PrintWords Go.Proofs.YtfcdohaimdodgaaDoorW.PrintLast Go.Proofs.YtfcdohaimdodgaaDoorW.PrintMore
attribute [local go_sem] max2_int min2_int max_two min_two max_three min_three max_four min_four   -- for this text's walks alone
set_option linter.unusedVariables false
set_option linter.unusedSimpArgs false

/-! ### foremanref17_Seen: function 37 -/
mutual
def foremanref17_Seen.j0 : Nat → List (S50) → Int → ByteArray → Bool → Option (Int)
  | 0, _, _, _, _ => none
  | k + 1, x0, x1, x2, x15 => if x15 = true then (some (-1)) else ((foremanref17_Scope.f k x0 x1).bind fun t147 => ((foremanref17_first.f k x0 t147 x2).bind fun t150 => (if t150 ≥ 0 then (some t150) else (if 0 ≤ x1 then (if x1 < (x0.length : Int) then (if ((rd_T50 x0 x1).f4) < 0 then (some t150) else ((foremanref17_Seen.f k x0 ((rd_T50 x0 x1).f4) x2).bind fun t153 => (some t153))) else (none)) else (none)))))
def foremanref17_Seen.f : Nat → List (S50) → Int → ByteArray → Option (Int)
  | 0, _, _, _ => none
  | k + 1, l0, a1, a2 => if a1 < 0 then (foremanref17_Seen.j0 k l0 a1 a2 true) else (foremanref17_Seen.j0 k l0 a1 a2 (decide (a1 ≥ (l0.length : Int))))
end
theorem foremanref17_Seen.mono_l : ∀ k, (∀ y0 y1 y2, LeO (foremanref17_Seen.f k y0 y1 y2) (foremanref17_Seen.f (k + 1) y0 y1 y2)) ∧ (∀ y0 y1 y2 y3, LeO (foremanref17_Seen.j0 k y0 y1 y2 y3) (foremanref17_Seen.j0 (k + 1) y0 y1 y2 y3))
  | 0 => ⟨fun _ _ _ r h => by simp [foremanref17_Seen.f] at h, fun _ _ _ _ r h => by simp [foremanref17_Seen.j0] at h⟩
  | k + 1 => by
    obtain ⟨ih0, ih1⟩ := foremanref17_Seen.mono_l k
    refine ⟨?_, ?_⟩
    · intro y0 y1 y2
      unfold foremanref17_Seen.f
      repeat' first
      | (with_reducible exact ih0 _ _ _)
      | (with_reducible exact ih1 _ _ _ _)
      | (with_reducible exact foremanref17_Scope.mono _ _ _)
      | (with_reducible exact foremanref17_first.mono _ _ _ _)
      | (with_reducible exact LeO.refl _)
      | (with_reducible exact LeO.none _)
      | (with_reducible refine LeO.ite ?_ ?_)
      | (with_reducible refine LeO.bind ?_ (fun _ => ?_))
      | exact ih0 _ _ _
      | exact ih1 _ _ _ _
      | exact foremanref17_Scope.mono _ _ _
      | exact foremanref17_first.mono _ _ _ _
      | exact LeO.none _
      | refine LeO.ite ?_ ?_
      | refine LeO.bind ?_ (fun _ => ?_)
    · intro y0 y1 y2 y3
      unfold foremanref17_Seen.j0
      repeat' first
      | (with_reducible exact ih0 _ _ _)
      | (with_reducible exact ih1 _ _ _ _)
      | (with_reducible exact foremanref17_Scope.mono _ _ _)
      | (with_reducible exact foremanref17_first.mono _ _ _ _)
      | (with_reducible exact LeO.refl _)
      | (with_reducible exact LeO.none _)
      | (with_reducible refine LeO.ite ?_ ?_)
      | (with_reducible refine LeO.bind ?_ (fun _ => ?_))
      | exact ih0 _ _ _
      | exact ih1 _ _ _ _
      | exact foremanref17_Scope.mono _ _ _
      | exact foremanref17_first.mono _ _ _ _
      | exact LeO.none _
      | refine LeO.ite ?_ ?_
      | refine LeO.bind ?_ (fun _ => ?_)
theorem foremanref17_Seen.mono : ∀ a0 a1 a2 k, LeO (foremanref17_Seen.f k a0 a1 a2) (foremanref17_Seen.f (k + 1) a0 a1 a2) := by
  intro a0 a1 a2 k
  obtain ⟨ih0, ih1⟩ := foremanref17_Seen.mono_l k
  exact ih0 a0 a1 a2
set_option maxHeartbeats 8000000 in
set_option maxRecDepth 100000 in
theorem foremanref17_Seen.calls (k : Nat) : ∀ (A0 : Option Addr) (c0 : Nat) (l0 : List (S50)) (a1 : Int) (a2 : ByteArray) (r : Int) (w : World) (hr0 : Kd.C k50 w A0 l0.length l0) (hc0 : l0.length ≤ c0) (h : foremanref17_Seen.f k l0 a1 a2 = some r),
    Calls Tryd.prog 37 #[.slice A0 l0.length c0, .int .i64 a1, .string a2] w fun e w' => e = .returned (.int .i64 r) ∧ Below w.heap.size w w' := by
  induction k using Nat.strongRecOn with
  | _ k ih =>
  intro A0 c0 l0 a1 a2 r w hr0 hc0 h
  cases k with
  | zero => exact absurd h (by simp [foremanref17_Seen.f])
  | succ k =>
  simp only [foremanref17_Seen.f] at h
  have HR0 := Aside0.mk hr0
  have HC0 := Aside0.mk hc0
  clear hr0 hc0
  have HB := Aside0.mk (Below.refl w.heap.size w)
  have H : (if a1 < 0 then (foremanref17_Seen.j0 k l0 a1 a2 true) else (foremanref17_Seen.j0 k l0 a1 a2 (decide (a1 ≥ (l0.length : Int))))) = some r := h
  clear h
  have HC4 := Aside0.mk H
  clear H
  go_enter Tryd.func37, Tryd.ntmps37
  go_upto_region 1 with (fail)
  go_cut [15] (fun v15 wc => ∃ (kq : Nat) (x15_3 : Bool), v15 = .bool x15_3 ∧ Aside0 (foremanref17_Seen.j0 kq l0 a1 a2 x15_3 = some r) ∧ Aside0 (kq ≤ k) ∧ Aside0 (Below w.heap.size w wc))
  case first =>
    have H := HC4.out
    clear HC4
    by_cases c5 : a1 < 0
    · rw [if_pos c5] at H
      have c5b0 : decide (a1 < 0) = true := decide_eq_true c5
      clear c5
      (first | rw [c5b0] | (simp only [i64_w, i32_w]; rw [c5b0]) | skip)
      have H' := Aside0.mk H
      clear H
      go_wp2
      go_meet
      case rel => exact ⟨_, (true), (by first | rfl | (simp; done) | (simp [*]; done)), H', ⟨by first | omega | exact Nat.le_refl _⟩, ⟨by repeat (first | (with_reducible first | exact HB.out | apply below_alloc | apply pw_below_drewN | apply below_drew1) | exact HB.out)⟩⟩
    · rw [if_neg c5] at H
      have c5b0 : decide (a1 < 0) = false := decide_eq_false c5
      clear c5
      (first | rw [c5b0] | (simp only [i64_w, i32_w]; rw [c5b0]) | skip)
      have H' := Aside0.mk H
      clear H
      go_wp2
      go_meet
      case rel => exact ⟨_, (decide (a1 ≥ (l0.length : Int))), (by first | rfl | (simp; done) | (simp [*]; done)), H', ⟨by first | omega | exact Nat.le_refl _⟩, ⟨by repeat (first | (with_reducible first | exact HB.out | apply below_alloc | apply pw_below_drewN | apply below_drew1) | exact HB.out)⟩⟩
  case rest =>
    clear HC4
    try clear p2
    try clear c3
    try clear c5
    try clear c5b0
    obtain ⟨kq, x15_3, rfl, HA, HJ3, HB⟩ := hcut
    cases kq with
    | zero => exact absurd HA.out (by simp [foremanref17_Seen.j0])
    | succ kj3 =>
      have H := HA.out
      clear HA
      simp only [foremanref17_Seen.j0] at H
      by_cases c6 : x15_3 = true
      · subst c6
        have H1 : (some (-1)) = some r := by rw [if_pos rfl] at H; exact H
        clear H
        have H := H1
        clear H1
        obtain rfl := Option.some.inj H
        go_wp2
        go_ret
        exact ⟨by first | rfl | (simp [errW_none, errW_some] <;> rfl) | (simp [*, errW_none, errW_some] <;> rfl), by repeat (first | (with_reducible first | exact HB.out | apply below_alloc | apply pw_below_drewN | apply below_drew1) | exact HB.out)⟩
      · replace c6 := Bool.eq_false_iff.mpr c6
        subst c6
        have H1 : ((foremanref17_Scope.f kj3 l0 a1).bind fun t147 => ((foremanref17_first.f kj3 l0 t147 a2).bind fun t150 => (if t150 ≥ 0 then (some t150) else (if 0 ≤ a1 then (if a1 < (l0.length : Int) then (if ((rd_T50 l0 a1).f4) < 0 then (some t150) else ((foremanref17_Seen.f kj3 l0 ((rd_T50 l0 a1).f4) a2).bind fun t153 => (some t153))) else (none)) else (none))))) = some r := by rw [if_neg (show ¬ (false = true) by decide)] at H; exact H
        clear H
        have H := H1
        clear H1
        replace H := Option.bind_eq_some_iff.mp H
        obtain ⟨t147, A70, H⟩ := H
        replace H : ((foremanref17_first.f kj3 l0 t147 a2).bind fun t150 => (if t150 ≥ 0 then (some t150) else (if 0 ≤ a1 then (if a1 < (l0.length : Int) then (if ((rd_T50 l0 a1).f4) < 0 then (some t150) else ((foremanref17_Seen.f kj3 l0 ((rd_T50 l0 a1).f4) a2).bind fun t153 => (some t153))) else (none)) else (none)))) = some r := H
        have A7 := Aside0.mk A70
        clear A70
        replace H := Option.bind_eq_some_iff.mp H
        obtain ⟨t150, A80, H⟩ := H
        replace H : (if t150 ≥ 0 then (some t150) else (if 0 ≤ a1 then (if a1 < (l0.length : Int) then (if ((rd_T50 l0 a1).f4) < 0 then (some t150) else ((foremanref17_Seen.f kj3 l0 ((rd_T50 l0 a1).f4) a2).bind fun t153 => (some t153))) else (none)) else (none))) = some r := H
        have A8 := Aside0.mk A80
        clear A80
        by_cases c9 : t150 ≥ 0
        · rw [if_pos c9] at H
          have c9b0 : decide (0 ≤ t150) = true := decide_eq_true c9
          clear c9
          obtain rfl := Option.some.inj H
          go_wp2_with (first | ((with_reducible refine gate_callee (f := 67) rfl ?_); refine goesL_ (some 19) rfl rfl Tryd.func67 (by kernel_rfl) rfl #[.slice A0 l0.length c0, .int .i64 a1] rfl (by (try simp only [List.map_toArray, List.map_cons, List.map_nil]); first | done | rfl | (simp only [List.length_drop, List.length_take]; rfl)) ?_; (with_reducible refine (foremanref17_Scope.calls kj3 _ _ l0 a1 t147 _ ?side1 ?side2 A7.out).mono ?_); (case side1 => repeat (first | exact (Kd.C_below HR0.out HB.out) | (with_reducible refine Kd.C_alloc ?_ _) | (with_reducible refine Kd.C_drewN ?_ _) | (with_reducible refine Kd.C_drew ?_))); (case side2 => exact HC0.out); rintro e w10 ⟨v148, rfl, ho0, hb⟩; refine ⟨_, rfl, ?_⟩; have n0_ := Aside0.mk (Kd.R_lower ho0 (below_size (by repeat (first | (with_reducible first | exact HB.out | apply below_alloc | apply pw_below_drewN | apply below_drew1) | exact HB.out)))); have n1_ := Aside0.mk (below_step (by repeat (first | (with_reducible first | exact HB.out | apply below_alloc | apply pw_below_drewN | apply below_drew1) | exact HB.out)) hb); clear HB; have HO149 := n0_; have HB := n1_; clear n0_ n1_; (try clear hb); (try clear hb2); (try clear hk); (try clear hi); (try clear ho0); obtain ⟨Ao11, co11, eo11⟩ := Kd.R_slice HO149.out; subst eo11) | ((with_reducible refine gate_callee (f := 66) rfl ?_); refine goesL_ (some 21) rfl rfl Tryd.func66 (by kernel_rfl) rfl #[.slice A0 l0.length c0, .slice Ao11 t147.length co11, .string a2] rfl (by (try simp only [List.map_toArray, List.map_cons, List.map_nil]); first | done | rfl | (simp only [List.length_drop, List.length_take]; rfl)) ?_; (with_reducible refine (foremanref17_first.calls kj3 _ _ l0 _ _ t147 a2 t150 _ ?side1 ?side2 ?side3 ?side4 A8.out).mono ?_); (case side1 => repeat (first | exact (Kd.C_below HR0.out HB.out) | (with_reducible refine Kd.C_alloc ?_ _) | (with_reducible refine Kd.C_drewN ?_ _) | (with_reducible refine Kd.C_drew ?_))); (case side2 => exact HC0.out); (case side3 => repeat (first | exact (Kd.R_reads' HO149.out).2.2 | (with_reducible refine Kd.C_alloc ?_ _) | (with_reducible refine Kd.C_drewN ?_ _) | (with_reducible refine Kd.C_drew ?_))); (case side4 => exact (Kd.R_reads' HO149.out).2.1); rintro e w' ⟨rfl, ⟨nd, rfl⟩⟩; refine ⟨_, rfl, ?_⟩))
          go_ret
          exact ⟨by first | rfl | (simp [errW_none, errW_some] <;> rfl) | (simp [*, errW_none, errW_some] <;> rfl), by repeat (first | (with_reducible first | exact HB.out | apply below_alloc | apply pw_below_drewN | apply below_drew1) | exact HB.out)⟩
        · rw [if_neg c9] at H
          have c9b0 : decide (0 ≤ t150) = false := decide_eq_false c9
          clear c9
          by_cases c12 : 0 ≤ a1
          · rw [if_pos c12] at H
            have c12b0 : decide (0 ≤ a1) = true := decide_eq_true c12
            clear c12
            by_cases c13 : a1 < (l0.length : Int)
            · rw [if_pos c13] at H
              have c13b0 : decide (a1 < (l0.length : Int)) = true := decide_eq_true c13
              clear c13
              by_cases c14 : ((rd_T50 l0 a1).f4) < 0
              · rw [if_pos c14] at H
                have c14b0 : decide (((rd_T50 l0 a1).f4) < 0) = true := decide_eq_true c14
                clear c14
                obtain rfl := Option.some.inj H
                go_wp2_with (first | ((with_reducible refine gate_callee (f := 67) rfl ?_); refine goesL_ (some 19) rfl rfl Tryd.func67 (by kernel_rfl) rfl #[.slice A0 l0.length c0, .int .i64 a1] rfl (by (try simp only [List.map_toArray, List.map_cons, List.map_nil]); first | done | rfl | (simp only [List.length_drop, List.length_take]; rfl)) ?_; (with_reducible refine (foremanref17_Scope.calls kj3 _ _ l0 a1 t147 _ ?side1 ?side2 A7.out).mono ?_); (case side1 => repeat (first | exact (Kd.C_below HR0.out HB.out) | (with_reducible refine Kd.C_alloc ?_ _) | (with_reducible refine Kd.C_drewN ?_ _) | (with_reducible refine Kd.C_drew ?_))); (case side2 => exact HC0.out); rintro e w15 ⟨v148, rfl, ho0, hb⟩; refine ⟨_, rfl, ?_⟩; have n0_ := Aside0.mk (Kd.R_lower ho0 (below_size (by repeat (first | (with_reducible first | exact HB.out | apply below_alloc | apply pw_below_drewN | apply below_drew1) | exact HB.out)))); have n1_ := Aside0.mk (below_step (by repeat (first | (with_reducible first | exact HB.out | apply below_alloc | apply pw_below_drewN | apply below_drew1) | exact HB.out)) hb); clear HB; have HO149 := n0_; have HB := n1_; clear n0_ n1_; (try clear hb); (try clear hb2); (try clear hk); (try clear hi); (try clear ho0); obtain ⟨Ao16, co16, eo16⟩ := Kd.R_slice HO149.out; subst eo16) | ((with_reducible refine gate_callee (f := 66) rfl ?_); refine goesL_ (some 21) rfl rfl Tryd.func66 (by kernel_rfl) rfl #[.slice A0 l0.length c0, .slice Ao16 t147.length co16, .string a2] rfl (by (try simp only [List.map_toArray, List.map_cons, List.map_nil]); first | done | rfl | (simp only [List.length_drop, List.length_take]; rfl)) ?_; (with_reducible refine (foremanref17_first.calls kj3 _ _ l0 _ _ t147 a2 t150 _ ?side1 ?side2 ?side3 ?side4 A8.out).mono ?_); (case side1 => repeat (first | exact (Kd.C_below HR0.out HB.out) | (with_reducible refine Kd.C_alloc ?_ _) | (with_reducible refine Kd.C_drewN ?_ _) | (with_reducible refine Kd.C_drew ?_))); (case side2 => exact HC0.out); (case side3 => repeat (first | exact (Kd.R_reads' HO149.out).2.2 | (with_reducible refine Kd.C_alloc ?_ _) | (with_reducible refine Kd.C_drewN ?_ _) | (with_reducible refine Kd.C_drew ?_))); (case side4 => exact (Kd.R_reads' HO149.out).2.1); rintro e w' ⟨rfl, ⟨nd, rfl⟩⟩; refine ⟨_, rfl, ?_⟩; have p151 : 0 ≤ (a1 : Int) := of_decide_eq_true (by first | (with_reducible assumption) | assumption); have q151 : a1 < (l0.length : Int) := of_decide_eq_true (by first | (with_reducible assumption) | assumption); obtain ⟨ad151, A151_6, c151_6, A151_15, c151_15, e151, hx151_0, hx151_1, hx151_2, hx151_3, hx151_4, hx151_5, hx151_6, hx151_7, hx151_8, hx151_9, hx151_10, hx151_11, hx151_12, hx151_13, hx151_14, hx151_15, hl151_6, hi151_6, hl151_15, hi151_15⟩ := at_T50 HR0.out a1 p151 q151; cases e151; replace hx151_0 := (HB.out.cell (World.block_lt_of_cell? w _ hx151_0)).trans hx151_0; replace hx151_1 := (HB.out.cell (World.block_lt_of_cell? w _ hx151_1)).trans hx151_1; replace hx151_2 := (HB.out.cell (World.block_lt_of_cell? w _ hx151_2)).trans hx151_2; replace hx151_3 := (HB.out.cell (World.block_lt_of_cell? w _ hx151_3)).trans hx151_3; replace hx151_4 := (HB.out.cell (World.block_lt_of_cell? w _ hx151_4)).trans hx151_4; replace hx151_5 := (HB.out.cell (World.block_lt_of_cell? w _ hx151_5)).trans hx151_5; replace hx151_6 := (HB.out.cell (World.block_lt_of_cell? w _ hx151_6)).trans hx151_6; replace hx151_7 := (HB.out.cell (World.block_lt_of_cell? w _ hx151_7)).trans hx151_7; replace hx151_8 := (HB.out.cell (World.block_lt_of_cell? w _ hx151_8)).trans hx151_8; replace hx151_9 := (HB.out.cell (World.block_lt_of_cell? w _ hx151_9)).trans hx151_9; replace hx151_10 := (HB.out.cell (World.block_lt_of_cell? w _ hx151_10)).trans hx151_10; replace hx151_11 := (HB.out.cell (World.block_lt_of_cell? w _ hx151_11)).trans hx151_11; replace hx151_12 := (HB.out.cell (World.block_lt_of_cell? w _ hx151_12)).trans hx151_12; replace hx151_13 := (HB.out.cell (World.block_lt_of_cell? w _ hx151_13)).trans hx151_13; replace hx151_14 := (HB.out.cell (World.block_lt_of_cell? w _ hx151_14)).trans hx151_14; replace hx151_15 := (HB.out.cell (World.block_lt_of_cell? w _ hx151_15)).trans hx151_15; have HR151_6 := Aside0.mk hi151_6; have HC151_6 := Aside0.mk hl151_6; clear hi151_6 hl151_6; have HR151_15 := Aside0.mk hi151_15; have HC151_15 := Aside0.mk hl151_15; clear hi151_15 hl151_15; replace p151 := eq_true p151; replace q151 := eq_true q151))
                go_ret
                exact ⟨by first | rfl | (simp [errW_none, errW_some] <;> rfl) | (simp [*, errW_none, errW_some] <;> rfl), by repeat (first | (with_reducible first | exact HB.out | apply below_alloc | apply pw_below_drewN | apply below_drew1) | exact HB.out)⟩
              · rw [if_neg c14] at H
                have c14b0 : decide (((rd_T50 l0 a1).f4) < 0) = false := decide_eq_false c14
                clear c14
                replace H := Option.bind_eq_some_iff.mp H
                obtain ⟨t153, A170, H⟩ := H
                replace H : (some t153) = some r := H
                have A17 := Aside0.mk A170
                clear A170
                obtain rfl := Option.some.inj H
                go_wp2_with (first | ((with_reducible refine gate_callee (f := 67) rfl ?_); refine goesL_ (some 19) rfl rfl Tryd.func67 (by kernel_rfl) rfl #[.slice A0 l0.length c0, .int .i64 a1] rfl (by (try simp only [List.map_toArray, List.map_cons, List.map_nil]); first | done | rfl | (simp only [List.length_drop, List.length_take]; rfl)) ?_; (with_reducible refine (foremanref17_Scope.calls kj3 _ _ l0 a1 t147 _ ?side1 ?side2 A7.out).mono ?_); (case side1 => repeat (first | exact (Kd.C_below HR0.out HB.out) | (with_reducible refine Kd.C_alloc ?_ _) | (with_reducible refine Kd.C_drewN ?_ _) | (with_reducible refine Kd.C_drew ?_))); (case side2 => exact HC0.out); rintro e w18 ⟨v148, rfl, ho0, hb⟩; refine ⟨_, rfl, ?_⟩; have n0_ := Aside0.mk (Kd.R_lower ho0 (below_size (by repeat (first | (with_reducible first | exact HB.out | apply below_alloc | apply pw_below_drewN | apply below_drew1) | exact HB.out)))); have n1_ := Aside0.mk (below_step (by repeat (first | (with_reducible first | exact HB.out | apply below_alloc | apply pw_below_drewN | apply below_drew1) | exact HB.out)) hb); clear HB; have HO149 := n0_; have HB := n1_; clear n0_ n1_; (try clear hb); (try clear hb2); (try clear hk); (try clear hi); (try clear ho0); obtain ⟨Ao19, co19, eo19⟩ := Kd.R_slice HO149.out; subst eo19) | ((with_reducible refine gate_callee (f := 66) rfl ?_); refine goesL_ (some 21) rfl rfl Tryd.func66 (by kernel_rfl) rfl #[.slice A0 l0.length c0, .slice Ao19 t147.length co19, .string a2] rfl (by (try simp only [List.map_toArray, List.map_cons, List.map_nil]); first | done | rfl | (simp only [List.length_drop, List.length_take]; rfl)) ?_; (with_reducible refine (foremanref17_first.calls kj3 _ _ l0 _ _ t147 a2 t150 _ ?side1 ?side2 ?side3 ?side4 A8.out).mono ?_); (case side1 => repeat (first | exact (Kd.C_below HR0.out HB.out) | (with_reducible refine Kd.C_alloc ?_ _) | (with_reducible refine Kd.C_drewN ?_ _) | (with_reducible refine Kd.C_drew ?_))); (case side2 => exact HC0.out); (case side3 => repeat (first | exact (Kd.R_reads' HO149.out).2.2 | (with_reducible refine Kd.C_alloc ?_ _) | (with_reducible refine Kd.C_drewN ?_ _) | (with_reducible refine Kd.C_drew ?_))); (case side4 => exact (Kd.R_reads' HO149.out).2.1); rintro e w' ⟨rfl, ⟨nd, rfl⟩⟩; refine ⟨_, rfl, ?_⟩; have p151 : 0 ≤ (a1 : Int) := of_decide_eq_true (by first | (with_reducible assumption) | assumption); have q151 : a1 < (l0.length : Int) := of_decide_eq_true (by first | (with_reducible assumption) | assumption); obtain ⟨ad151, A151_6, c151_6, A151_15, c151_15, e151, hx151_0, hx151_1, hx151_2, hx151_3, hx151_4, hx151_5, hx151_6, hx151_7, hx151_8, hx151_9, hx151_10, hx151_11, hx151_12, hx151_13, hx151_14, hx151_15, hl151_6, hi151_6, hl151_15, hi151_15⟩ := at_T50 HR0.out a1 p151 q151; cases e151; replace hx151_0 := (HB.out.cell (World.block_lt_of_cell? w _ hx151_0)).trans hx151_0; replace hx151_1 := (HB.out.cell (World.block_lt_of_cell? w _ hx151_1)).trans hx151_1; replace hx151_2 := (HB.out.cell (World.block_lt_of_cell? w _ hx151_2)).trans hx151_2; replace hx151_3 := (HB.out.cell (World.block_lt_of_cell? w _ hx151_3)).trans hx151_3; replace hx151_4 := (HB.out.cell (World.block_lt_of_cell? w _ hx151_4)).trans hx151_4; replace hx151_5 := (HB.out.cell (World.block_lt_of_cell? w _ hx151_5)).trans hx151_5; replace hx151_6 := (HB.out.cell (World.block_lt_of_cell? w _ hx151_6)).trans hx151_6; replace hx151_7 := (HB.out.cell (World.block_lt_of_cell? w _ hx151_7)).trans hx151_7; replace hx151_8 := (HB.out.cell (World.block_lt_of_cell? w _ hx151_8)).trans hx151_8; replace hx151_9 := (HB.out.cell (World.block_lt_of_cell? w _ hx151_9)).trans hx151_9; replace hx151_10 := (HB.out.cell (World.block_lt_of_cell? w _ hx151_10)).trans hx151_10; replace hx151_11 := (HB.out.cell (World.block_lt_of_cell? w _ hx151_11)).trans hx151_11; replace hx151_12 := (HB.out.cell (World.block_lt_of_cell? w _ hx151_12)).trans hx151_12; replace hx151_13 := (HB.out.cell (World.block_lt_of_cell? w _ hx151_13)).trans hx151_13; replace hx151_14 := (HB.out.cell (World.block_lt_of_cell? w _ hx151_14)).trans hx151_14; replace hx151_15 := (HB.out.cell (World.block_lt_of_cell? w _ hx151_15)).trans hx151_15; have HR151_6 := Aside0.mk hi151_6; have HC151_6 := Aside0.mk hl151_6; clear hi151_6 hl151_6; have HR151_15 := Aside0.mk hi151_15; have HC151_15 := Aside0.mk hl151_15; clear hi151_15 hl151_15; replace p151 := eq_true p151; replace q151 := eq_true q151; have p152 : 0 ≤ (a1 : Int) := of_decide_eq_true (by first | (with_reducible assumption) | assumption); have q152 : a1 < (l0.length : Int) := of_decide_eq_true (by first | (with_reducible assumption) | assumption); obtain ⟨ad152, A152_6, c152_6, A152_15, c152_15, e152, hx152_0, hx152_1, hx152_2, hx152_3, hx152_4, hx152_5, hx152_6, hx152_7, hx152_8, hx152_9, hx152_10, hx152_11, hx152_12, hx152_13, hx152_14, hx152_15, hl152_6, hi152_6, hl152_15, hi152_15⟩ := at_T50 HR0.out a1 p152 q152; obtain rfl : ad151 = ad152 := (by injection e152); replace hx152_0 := (HB.out.cell (World.block_lt_of_cell? w _ hx152_0)).trans hx152_0; replace hx152_1 := (HB.out.cell (World.block_lt_of_cell? w _ hx152_1)).trans hx152_1; replace hx152_2 := (HB.out.cell (World.block_lt_of_cell? w _ hx152_2)).trans hx152_2; replace hx152_3 := (HB.out.cell (World.block_lt_of_cell? w _ hx152_3)).trans hx152_3; replace hx152_4 := (HB.out.cell (World.block_lt_of_cell? w _ hx152_4)).trans hx152_4; replace hx152_5 := (HB.out.cell (World.block_lt_of_cell? w _ hx152_5)).trans hx152_5; replace hx152_6 := (HB.out.cell (World.block_lt_of_cell? w _ hx152_6)).trans hx152_6; replace hx152_7 := (HB.out.cell (World.block_lt_of_cell? w _ hx152_7)).trans hx152_7; replace hx152_8 := (HB.out.cell (World.block_lt_of_cell? w _ hx152_8)).trans hx152_8; replace hx152_9 := (HB.out.cell (World.block_lt_of_cell? w _ hx152_9)).trans hx152_9; replace hx152_10 := (HB.out.cell (World.block_lt_of_cell? w _ hx152_10)).trans hx152_10; replace hx152_11 := (HB.out.cell (World.block_lt_of_cell? w _ hx152_11)).trans hx152_11; replace hx152_12 := (HB.out.cell (World.block_lt_of_cell? w _ hx152_12)).trans hx152_12; replace hx152_13 := (HB.out.cell (World.block_lt_of_cell? w _ hx152_13)).trans hx152_13; replace hx152_14 := (HB.out.cell (World.block_lt_of_cell? w _ hx152_14)).trans hx152_14; replace hx152_15 := (HB.out.cell (World.block_lt_of_cell? w _ hx152_15)).trans hx152_15; have HR152_6 := Aside0.mk hi152_6; have HC152_6 := Aside0.mk hl152_6; clear hi152_6 hl152_6; have HR152_15 := Aside0.mk hi152_15; have HC152_15 := Aside0.mk hl152_15; clear hi152_15 hl152_15; replace p152 := eq_true p152; replace q152 := eq_true q152; have ea_ := Option.some.inj (hx151_6.symm.trans hx152_6); injection ea_ with ea_ en_ ec_; subst ea_; subst ec_; clear en_; have ea_ := Option.some.inj (hx151_15.symm.trans hx152_15); injection ea_ with ea_ en_ ec_; subst ea_; subst ec_; clear en_) | ((with_reducible refine gate_callee (f := 37) rfl ?_); refine goesL_ (some 40) rfl rfl Tryd.func37 (by kernel_rfl) rfl #[.slice (some ad151) l0.length c0, .int .i64 ((rd_T50 l0 a1).f4), .string a2] rfl (by (try simp only [List.map_toArray, List.map_cons, List.map_nil]); first | done | rfl | (simp only [List.length_drop, List.length_take]; rfl)) ?_; (with_reducible refine (ih kj3 (by have := HJ3.out; omega) _ _ l0 ((rd_T50 l0 a1).f4) a2 t153 _ ?side1 ?side2 A17.out).mono ?_); (case side1 => repeat (first | exact (Kd.C_below HR0.out (by repeat (first | (with_reducible first | exact HB.out | apply below_alloc | apply pw_below_drewN | apply below_drew1) | exact HB.out))) | (with_reducible refine Kd.C_alloc ?_ _) | (with_reducible refine Kd.C_drewN ?_ _) | (with_reducible refine Kd.C_drew ?_))); (case side2 => exact HC0.out); rintro e w20 ⟨rfl, hb⟩; refine ⟨_, rfl, ?_⟩; have n0_ := Aside0.mk (Kd.R_below (by (with_reducible repeat (first | apply Kd.R_alloc | apply Kd.R_drewN | apply Kd.R_drew)); exact HO149.out) hb); have n1_ := Aside0.mk (below_step (by repeat (first | (with_reducible first | exact HB.out | apply below_alloc | apply pw_below_drewN | apply below_drew1) | exact HB.out)) hb); clear HO149; clear HB; have HO149 := n0_; have HB := n1_; clear n0_ n1_; (try clear hb); (try clear hb2); (try clear hk); (try clear hi)))
                go_ret
                exact ⟨by first | rfl | (simp [errW_none, errW_some] <;> rfl) | (simp [*, errW_none, errW_some] <;> rfl), by repeat (first | (with_reducible first | exact HB.out | apply below_alloc | apply pw_below_drewN | apply below_drew1) | exact HB.out)⟩
            · rw [if_neg c13] at H
              exact absurd H (by simp)
          · rw [if_neg c12] at H
            exact absurd H (by simp)

/-! ### foremanref20_Refs: function 17 -/
def foremanref20_Refs.l0 : Nat → List (S50) → Int → List (S27) → ByteArray → Int → Option (Int × Int)
  | 0, _, _, _, _, _ => none
  | k + 1, x0, x1, x2, x3, x10 => if x10 < (x2.length : Int) then (if 0 ≤ x10 then (if ((rd_T27 x2 x10).f0).toList = x3.toList then (if x3.toList = ([] : List UInt8) then (foremanref20_Refs.l0 k x0 x1 x2 x3 (wrap64 (x10 + 1))) else (some (x10, (-1)))) else (foremanref20_Refs.l0 k x0 x1 x2 x3 (wrap64 (x10 + 1)))) else (none)) else (if x1 < 0 then (some ((-1), (-1))) else ((foremanref17_Seen.f k x0 x1 x3).bind fun t155 => (some ((-1), t155))))
def foremanref20_Refs.f (k : Nat) (l0 : List (S50)) (a1 : Int) (l2 : List (S27)) (a3 : ByteArray) : Option (Int × Int) := foremanref20_Refs.l0 k l0 a1 l2 a3 0
theorem foremanref20_Refs.mono_l : ∀ k, (∀ y0 y1 y2 y3 y4, LeO (foremanref20_Refs.l0 k y0 y1 y2 y3 y4) (foremanref20_Refs.l0 (k + 1) y0 y1 y2 y3 y4))
  | 0 => fun _ _ _ _ _ r h => by simp [foremanref20_Refs.l0] at h
  | k + 1 => by
    have ih0 := foremanref20_Refs.mono_l k
    · intro y0 y1 y2 y3 y4
      unfold foremanref20_Refs.l0
      repeat' first
      | (with_reducible exact ih0 _ _ _ _ _)
      | (with_reducible exact foremanref17_Seen.mono _ _ _ _)
      | (with_reducible exact LeO.refl _)
      | (with_reducible exact LeO.none _)
      | (with_reducible refine LeO.ite ?_ ?_)
      | (with_reducible refine LeO.bind ?_ (fun _ => ?_))
      | exact ih0 _ _ _ _ _
      | exact foremanref17_Seen.mono _ _ _ _
      | exact LeO.none _
      | refine LeO.ite ?_ ?_
      | refine LeO.bind ?_ (fun _ => ?_)
theorem foremanref20_Refs.mono : ∀ a0 a1 a2 a3 k, LeO (foremanref20_Refs.f k a0 a1 a2 a3) (foremanref20_Refs.f (k + 1) a0 a1 a2 a3) := by
  intro a0 a1 a2 a3 k
  have ih0 := foremanref20_Refs.mono_l k
  unfold foremanref20_Refs.f
  repeat' first
      | (with_reducible exact ih0 _ _ _ _ _)
      | (with_reducible exact foremanref17_Seen.mono _ _ _ _)
      | (with_reducible exact LeO.refl _)
      | (with_reducible exact LeO.none _)
      | (with_reducible refine LeO.ite ?_ ?_)
      | (with_reducible refine LeO.bind ?_ (fun _ => ?_))
      | exact ih0 _ _ _ _ _
      | exact foremanref17_Seen.mono _ _ _ _
      | exact LeO.none _
      | refine LeO.ite ?_ ?_
      | refine LeO.bind ?_ (fun _ => ?_)
set_option maxHeartbeats 8000000 in
set_option maxRecDepth 100000 in
theorem foremanref20_Refs.calls (k : Nat) (A0 : Option Addr) (c0 : Nat) (l0 : List (S50)) (a1 : Int) (A2 : Option Addr) (c2 : Nat) (l2 : List (S27)) (a3 : ByteArray) (r1 : Int) (r2 : Int) (w : World) (hr0 : Kd.C k50 w A0 l0.length l0) (hc0 : l0.length ≤ c0) (hr2 : Kd.C k27 w A2 l2.length l2) (hc2 : l2.length ≤ c2) (h : foremanref20_Refs.f k l0 a1 l2 a3 = some (r1, r2)) :
    Calls Tryd.prog 17 #[.slice A0 l0.length c0, .int .i64 a1, .slice A2 l2.length c2, .string a3] w fun e w' => e = .returned (.tuple #[.int .i64 r1, .int .i64 r2]) ∧ Below w.heap.size w w' := by
  have HR0 := Aside0.mk hr0
  have HC0 := Aside0.mk hc0
  clear hr0 hc0
  have HR2 := Aside0.mk hr2
  have HC2 := Aside0.mk hc2
  clear hr2 hc2
  have HB := Aside0.mk (Below.refl w.heap.size w)
  have H : (foremanref20_Refs.l0 k l0 a1 l2 a3 0) = some (r1, r2) := h
  clear h
  have H' := Aside0.mk H
  clear H
  go_enter Tryd.func17, Tryd.ntmps17
  go_wp2
  go_loopg [10] k (fun kq v10 w' => ∃ (x10_1 : Int), v10 = .int .i64 x10_1 ∧ Aside0 (foremanref20_Refs.l0 kq l0 a1 l2 a3 x10_1 = some (r1, r2)) ∧ Aside0 (kq ≤ k) ∧ Aside0 (Below w.heap.size w w'))
  case atStart => exact ⟨(0), (by first | rfl | (simp; done) | (simp [*]; done)), H', ⟨Nat.le_refl _⟩, ⟨by repeat (first | (with_reducible first | exact HB.out | apply below_alloc | apply pw_below_drewN | apply below_drew1) | exact HB.out)⟩⟩
  case round =>
    clear H'
    try clear c1
    try clear c2
    try clear p2
    obtain ⟨x10_1, rfl, HA, HK1, HB⟩ := hrel
    cases gk with
    | zero => exact absurd HA.out (by simp [foremanref20_Refs.l0])
    | succ k1 =>
      have H := HA.out
      clear HA
      simp only [foremanref20_Refs.l0] at H
      by_cases c5 : x10_1 < (l2.length : Int)
      · rw [if_pos c5] at H
        have c5b0 : decide (x10_1 < (l2.length : Int)) = true := decide_eq_true c5
        clear c5
        by_cases c6 : 0 ≤ x10_1
        · rw [if_pos c6] at H
          have c6b0 : decide (0 ≤ x10_1) = true := decide_eq_true c6
          clear c6
          by_cases c7 : ((rd_T27 l2 x10_1).f0).toList = a3.toList
          · rw [if_pos c7] at H
            have c7b0 : (((rd_T27 l2 x10_1).f0).toList == a3.toList) = true := beq_iff_eq.mpr c7
            have c7b1 : (((rd_T27 l2 x10_1).f0).toList != a3.toList) = false := bne_eq_false_iff_eq.mpr c7
            clear c7
            by_cases c8 : a3.toList = ([] : List UInt8)
            · rw [if_pos c8] at H
              have c8b0 : (a3.toList == ([] : List UInt8)) = true := beq_iff_eq.mpr c8
              have c8b1 : (a3.toList != ([] : List UInt8)) = false := bne_eq_false_iff_eq.mpr c8
              clear c8
              have H' := Aside0.mk H
              clear H
              have p154 : 0 ≤ (x10_1 : Int) := of_decide_eq_true (by first | (with_reducible assumption) | assumption)
              have q154 : x10_1 < (l2.length : Int) := of_decide_eq_true (by first | (with_reducible assumption) | assumption)
              obtain ⟨ad154, A154_2, c154_2, e154, hx154_0, hx154_1, hx154_2, hx154_3, hx154_4, hx154_5, hl154_2, hi154_2⟩ := at_T27 HR2.out x10_1 p154 q154
              cases e154
              replace hx154_0 := (HB.out.cell (World.block_lt_of_cell? w _ hx154_0)).trans hx154_0
              replace hx154_1 := (HB.out.cell (World.block_lt_of_cell? w _ hx154_1)).trans hx154_1
              replace hx154_2 := (HB.out.cell (World.block_lt_of_cell? w _ hx154_2)).trans hx154_2
              replace hx154_3 := (HB.out.cell (World.block_lt_of_cell? w _ hx154_3)).trans hx154_3
              replace hx154_4 := (HB.out.cell (World.block_lt_of_cell? w _ hx154_4)).trans hx154_4
              replace hx154_5 := (HB.out.cell (World.block_lt_of_cell? w _ hx154_5)).trans hx154_5
              have HR154_2 := Aside0.mk hi154_2
              have HC154_2 := Aside0.mk hl154_2
              clear hi154_2 hl154_2
              replace p154 := eq_true p154
              replace q154 := eq_true q154
              go_wp2
              go_roundg k1
              case measure => have := HK1.out; omega
              case rel => exact ⟨(wrap64 (x10_1 + 1)), (by first | rfl | (simp; done) | (simp [*]; done)), H', ⟨by have := HK1.out; omega⟩, ⟨by repeat (first | (with_reducible first | exact HB.out | apply below_alloc | apply pw_below_drewN | apply below_drew1) | exact HB.out)⟩⟩
            · rw [if_neg c8] at H
              have c8b0 : (a3.toList == ([] : List UInt8)) = false := beq_eq_false_iff_ne.mpr c8
              have c8b1 : (a3.toList != ([] : List UInt8)) = true := bne_iff_ne.mpr c8
              simp only [Option.some.injEq, Prod.mk.injEq] at H
              obtain ⟨rfl, rfl⟩ := H
              have p154 : 0 ≤ (x10_1 : Int) := of_decide_eq_true (by first | (with_reducible assumption) | assumption)
              have q154 : x10_1 < (l2.length : Int) := of_decide_eq_true (by first | (with_reducible assumption) | assumption)
              obtain ⟨ad154, A154_2, c154_2, e154, hx154_0, hx154_1, hx154_2, hx154_3, hx154_4, hx154_5, hl154_2, hi154_2⟩ := at_T27 HR2.out x10_1 p154 q154
              cases e154
              replace hx154_0 := (HB.out.cell (World.block_lt_of_cell? w _ hx154_0)).trans hx154_0
              replace hx154_1 := (HB.out.cell (World.block_lt_of_cell? w _ hx154_1)).trans hx154_1
              replace hx154_2 := (HB.out.cell (World.block_lt_of_cell? w _ hx154_2)).trans hx154_2
              replace hx154_3 := (HB.out.cell (World.block_lt_of_cell? w _ hx154_3)).trans hx154_3
              replace hx154_4 := (HB.out.cell (World.block_lt_of_cell? w _ hx154_4)).trans hx154_4
              replace hx154_5 := (HB.out.cell (World.block_lt_of_cell? w _ hx154_5)).trans hx154_5
              have HR154_2 := Aside0.mk hi154_2
              have HC154_2 := Aside0.mk hl154_2
              clear hi154_2 hl154_2
              replace p154 := eq_true p154
              replace q154 := eq_true q154
              go_wp2
              go_ret2
              exact ⟨by first | rfl | (simp [errW_none, errW_some] <;> rfl) | (simp [*, errW_none, errW_some] <;> rfl), by repeat (first | (with_reducible first | exact HB.out | apply below_alloc | apply pw_below_drewN | apply below_drew1) | exact HB.out)⟩
          · rw [if_neg c7] at H
            have c7b0 : (((rd_T27 l2 x10_1).f0).toList == a3.toList) = false := beq_eq_false_iff_ne.mpr c7
            have c7b1 : (((rd_T27 l2 x10_1).f0).toList != a3.toList) = true := bne_iff_ne.mpr c7
            have H' := Aside0.mk H
            clear H
            have p154 : 0 ≤ (x10_1 : Int) := of_decide_eq_true (by first | (with_reducible assumption) | assumption)
            have q154 : x10_1 < (l2.length : Int) := of_decide_eq_true (by first | (with_reducible assumption) | assumption)
            obtain ⟨ad154, A154_2, c154_2, e154, hx154_0, hx154_1, hx154_2, hx154_3, hx154_4, hx154_5, hl154_2, hi154_2⟩ := at_T27 HR2.out x10_1 p154 q154
            cases e154
            replace hx154_0 := (HB.out.cell (World.block_lt_of_cell? w _ hx154_0)).trans hx154_0
            replace hx154_1 := (HB.out.cell (World.block_lt_of_cell? w _ hx154_1)).trans hx154_1
            replace hx154_2 := (HB.out.cell (World.block_lt_of_cell? w _ hx154_2)).trans hx154_2
            replace hx154_3 := (HB.out.cell (World.block_lt_of_cell? w _ hx154_3)).trans hx154_3
            replace hx154_4 := (HB.out.cell (World.block_lt_of_cell? w _ hx154_4)).trans hx154_4
            replace hx154_5 := (HB.out.cell (World.block_lt_of_cell? w _ hx154_5)).trans hx154_5
            have HR154_2 := Aside0.mk hi154_2
            have HC154_2 := Aside0.mk hl154_2
            clear hi154_2 hl154_2
            replace p154 := eq_true p154
            replace q154 := eq_true q154
            go_wp2
            go_roundg k1
            case measure => have := HK1.out; omega
            case rel => exact ⟨(wrap64 (x10_1 + 1)), (by first | rfl | (simp; done) | (simp [*]; done)), H', ⟨by have := HK1.out; omega⟩, ⟨by repeat (first | (with_reducible first | exact HB.out | apply below_alloc | apply pw_below_drewN | apply below_drew1) | exact HB.out)⟩⟩
        · rw [if_neg c6] at H
          exact absurd H (by simp)
      · rw [if_neg c5] at H
        have c5b0 : decide (x10_1 < (l2.length : Int)) = false := decide_eq_false c5
        clear c5
        by_cases c9 : a1 < 0
        · rw [if_pos c9] at H
          have c9b0 : decide (a1 < 0) = true := decide_eq_true c9
          clear c9
          simp only [Option.some.injEq, Prod.mk.injEq] at H
          obtain ⟨rfl, rfl⟩ := H
          go_wp2
          go_ret2
          exact ⟨by first | rfl | (simp [errW_none, errW_some] <;> rfl) | (simp [*, errW_none, errW_some] <;> rfl), by repeat (first | (with_reducible first | exact HB.out | apply below_alloc | apply pw_below_drewN | apply below_drew1) | exact HB.out)⟩
        · rw [if_neg c9] at H
          have c9b0 : decide (a1 < 0) = false := decide_eq_false c9
          clear c9
          replace H := Option.bind_eq_some_iff.mp H
          obtain ⟨t155, A100, H⟩ := H
          replace H : (some ((-1), t155)) = some (r1, r2) := H
          have A10 := Aside0.mk A100
          clear A100
          simp only [Option.some.injEq, Prod.mk.injEq] at H
          obtain ⟨rfl, rfl⟩ := H
          go_wp2_with (first | ((with_reducible refine gate_callee (f := 37) rfl ?_); refine goesL_ (some 34) rfl rfl Tryd.func37 (by kernel_rfl) rfl #[.slice A0 l0.length c0, .int .i64 a1, .string a3] rfl (by (try simp only [List.map_toArray, List.map_cons, List.map_nil]); first | done | rfl | (simp only [List.length_drop, List.length_take]; rfl)) ?_; (with_reducible refine (foremanref17_Seen.calls k1 _ _ l0 a1 a3 t155 _ ?side1 ?side2 A10.out).mono ?_); (case side1 => repeat (first | exact (Kd.C_below HR0.out HB.out) | (with_reducible refine Kd.C_alloc ?_ _) | (with_reducible refine Kd.C_drewN ?_ _) | (with_reducible refine Kd.C_drew ?_))); (case side2 => exact HC0.out); rintro e w11 ⟨rfl, hb⟩; refine ⟨_, rfl, ?_⟩; have n0_ := Aside0.mk (below_step (by repeat (first | (with_reducible first | exact HB.out | apply below_alloc | apply pw_below_drewN | apply below_drew1) | exact HB.out)) hb); clear HB; have HB := n0_; clear n0_; (try clear hb); (try clear hb2); (try clear hk); (try clear hi)))
          go_ret2
          exact ⟨by first | rfl | (simp [errW_none, errW_some] <;> rfl) | (simp [*, errW_none, errW_some] <;> rfl), by repeat (first | (with_reducible first | exact HB.out | apply below_alloc | apply pw_below_drewN | apply below_drew1) | exact HB.out)⟩

/-! ### foremanref20_nobody: function 63 -/
def foremanref20_nobody.f (k : Nat) (l0 : List (S50)) (a1 : Int) (l2 : List (S27)) (a3 : ByteArray) : Option (Bool) := (foremanref20_Refs.f k l0 a1 l2 a3).bind fun bt156 => (if bt156.1 < 0 then (some (decide (bt156.2 < 0))) else (some false))
theorem foremanref20_nobody.mono : ∀ a0 a1 a2 a3 k, LeO (foremanref20_nobody.f k a0 a1 a2 a3) (foremanref20_nobody.f (k + 1) a0 a1 a2 a3) := by
  intro a0 a1 a2 a3 k
  unfold foremanref20_nobody.f
  repeat' first
      | (with_reducible exact foremanref20_Refs.mono _ _ _ _ _)
      | (with_reducible exact LeO.refl _)
      | (with_reducible exact LeO.none _)
      | (with_reducible refine LeO.ite ?_ ?_)
      | (with_reducible refine LeO.bind ?_ (fun _ => ?_))
      | exact foremanref20_Refs.mono _ _ _ _ _
      | exact LeO.none _
      | refine LeO.ite ?_ ?_
      | refine LeO.bind ?_ (fun _ => ?_)
set_option maxHeartbeats 8000000 in
set_option maxRecDepth 100000 in
theorem foremanref20_nobody.calls (k : Nat) (A0 : Option Addr) (c0 : Nat) (l0 : List (S50)) (a1 : Int) (A2 : Option Addr) (c2 : Nat) (l2 : List (S27)) (a3 : ByteArray) (r : Bool) (w : World) (hr0 : Kd.C k50 w A0 l0.length l0) (hc0 : l0.length ≤ c0) (hr2 : Kd.C k27 w A2 l2.length l2) (hc2 : l2.length ≤ c2) (h : foremanref20_nobody.f k l0 a1 l2 a3 = some r) :
    Calls Tryd.prog 63 #[.slice A0 l0.length c0, .int .i64 a1, .slice A2 l2.length c2, .string a3] w fun e w' => e = .returned (.bool r) ∧ Below w.heap.size w w' := by
  have HR0 := Aside0.mk hr0
  have HC0 := Aside0.mk hc0
  clear hr0 hc0
  have HR2 := Aside0.mk hr2
  have HC2 := Aside0.mk hc2
  clear hr2 hc2
  have HB := Aside0.mk (Below.refl w.heap.size w)
  have H : ((foremanref20_Refs.f k l0 a1 l2 a3).bind fun bt156 => (if bt156.1 < 0 then (some (decide (bt156.2 < 0))) else (some false))) = some r := h
  clear h
  replace H := Option.bind_eq_some_iff.mp H
  obtain ⟨⟨t156, t157⟩, A50, H⟩ := H
  replace H : (if t156 < 0 then (some (decide (t157 < 0))) else (some false)) = some r := H
  have A5 := Aside0.mk A50
  clear A50
  by_cases c6 : t156 < 0
  · rw [if_pos c6] at H
    have c6b0 : decide (t156 < 0) = true := decide_eq_true c6
    clear c6
    obtain rfl := Option.some.inj H
    go_enter Tryd.func63, Tryd.ntmps63
    go_wp2_with (first | ((with_reducible refine gate_callee (f := 17) rfl ?_); refine goesL_ (some 16) rfl rfl Tryd.func17 (by kernel_rfl) rfl #[.slice A0 l0.length c0, .int .i64 a1, .slice A2 l2.length c2, .string a3] rfl (by (try simp only [List.map_toArray, List.map_cons, List.map_nil]); first | done | rfl | (simp only [List.length_drop, List.length_take]; rfl)) ?_; (with_reducible refine (foremanref20_Refs.calls k _ _ l0 a1 _ _ l2 a3 t156 t157 _ ?side1 ?side2 ?side3 ?side4 A5.out).mono ?_); (case side1 => repeat (first | exact HR0.out | (with_reducible refine Kd.C_alloc ?_ _) | (with_reducible refine Kd.C_drewN ?_ _) | (with_reducible refine Kd.C_drew ?_))); (case side2 => exact HC0.out); (case side3 => repeat (first | exact HR2.out | (with_reducible refine Kd.C_alloc ?_ _) | (with_reducible refine Kd.C_drewN ?_ _) | (with_reducible refine Kd.C_drew ?_))); (case side4 => exact HC2.out); rintro e w7 ⟨rfl, hb⟩; refine ⟨_, rfl, ?_⟩; have n0_ := Aside0.mk (below_step (by repeat (first | (with_reducible first | exact HB.out | apply below_alloc | apply pw_below_drewN | apply below_drew1) | exact HB.out)) hb); clear HB; have HB := n0_; clear n0_; (try clear hb); (try clear hb2); (try clear hk); (try clear hi)))
    go_ret
    exact ⟨by first | rfl | (simp [errW_none, errW_some] <;> rfl) | (simp [*, errW_none, errW_some] <;> rfl), by repeat (first | (with_reducible first | exact HB.out | apply below_alloc | apply pw_below_drewN | apply below_drew1) | exact HB.out)⟩
  · rw [if_neg c6] at H
    have c6b0 : decide (t156 < 0) = false := decide_eq_false c6
    clear c6
    obtain rfl := Option.some.inj H
    go_enter Tryd.func63, Tryd.ntmps63
    go_wp2_with (first | ((with_reducible refine gate_callee (f := 17) rfl ?_); refine goesL_ (some 16) rfl rfl Tryd.func17 (by kernel_rfl) rfl #[.slice A0 l0.length c0, .int .i64 a1, .slice A2 l2.length c2, .string a3] rfl (by (try simp only [List.map_toArray, List.map_cons, List.map_nil]); first | done | rfl | (simp only [List.length_drop, List.length_take]; rfl)) ?_; (with_reducible refine (foremanref20_Refs.calls k _ _ l0 a1 _ _ l2 a3 t156 t157 _ ?side1 ?side2 ?side3 ?side4 A5.out).mono ?_); (case side1 => repeat (first | exact HR0.out | (with_reducible refine Kd.C_alloc ?_ _) | (with_reducible refine Kd.C_drewN ?_ _) | (with_reducible refine Kd.C_drew ?_))); (case side2 => exact HC0.out); (case side3 => repeat (first | exact HR2.out | (with_reducible refine Kd.C_alloc ?_ _) | (with_reducible refine Kd.C_drewN ?_ _) | (with_reducible refine Kd.C_drew ?_))); (case side4 => exact HC2.out); rintro e w8 ⟨rfl, hb⟩; refine ⟨_, rfl, ?_⟩; have n0_ := Aside0.mk (below_step (by repeat (first | (with_reducible first | exact HB.out | apply below_alloc | apply pw_below_drewN | apply below_drew1) | exact HB.out)) hb); clear HB; have HB := n0_; clear n0_; (try clear hb); (try clear hb2); (try clear hk); (try clear hi)))
    go_ret
    exact ⟨by first | rfl | (simp [errW_none, errW_some] <;> rfl) | (simp [*, errW_none, errW_some] <;> rfl), by repeat (first | (with_reducible first | exact HB.out | apply below_alloc | apply pw_below_drewN | apply below_drew1) | exact HB.out)⟩

/-! ### foremanref20_refs: function 34 -/
mutual
def foremanref20_refs.l0 : Nat → List (S50) → Int → List (S27) → Int → Option (Bool)
  | 0, _, _, _, _ => none
  | k + 1, x0, x1, x2, x7 => if x7 < (x2.length : Int) then (if 0 ≤ x7 then (foremanref20_refs.l1 k x0 x1 x2 x7 0 ((rd_T27 x2 x7).f0) ((rd_T27 x2 x7).f1) ((rd_T27 x2 x7).f2) ((rd_T27 x2 x7).f3) ((rd_T27 x2 x7).f4) ((rd_T27 x2 x7).f5)) else (none)) else (some false)
def foremanref20_refs.l1 : Nat → List (S50) → Int → List (S27) → Int → Int → ByteArray → Int → List ByteArray → ByteArray → Int → Int → Option (Bool)
  | 0, _, _, _, _, _, _, _, _, _, _, _ => none
  | k + 1, x0, x1, x2, x7, x9, x160000, x160001, x160002, x160003, x160004, x160005 => if x9 < (x160002.length : Int) then (if 0 ≤ x9 then ((foremanref20_nobody.f k x0 x1 x2 (rdOf ByteArray.empty x160002 x9)).bind fun t161 => (if t161 = true then (some true) else (foremanref20_refs.l1 k x0 x1 x2 x7 (wrap64 (x9 + 1)) x160000 x160001 x160002 x160003 x160004 x160005))) else (none)) else (if x160001 = 1 then ((foremanref20_nobody.f k x0 x1 x2 x160003).bind fun t162 => (if t162 = true then (some true) else (foremanref20_refs.l0 k x0 x1 x2 (wrap64 (x7 + 1))))) else (foremanref20_refs.l0 k x0 x1 x2 (wrap64 (x7 + 1))))
end
def foremanref20_refs.f (k : Nat) (l0 : List (S50)) (a1 : Int) (l2 : List (S27)) : Option (Bool) := foremanref20_refs.l0 k l0 a1 l2 0
theorem foremanref20_refs.mono_l : ∀ k, (∀ y0 y1 y2 y3, LeO (foremanref20_refs.l0 k y0 y1 y2 y3) (foremanref20_refs.l0 (k + 1) y0 y1 y2 y3)) ∧ (∀ y0 y1 y2 y3 y4 y5 y6 y7 y8 y9 y10, LeO (foremanref20_refs.l1 k y0 y1 y2 y3 y4 y5 y6 y7 y8 y9 y10) (foremanref20_refs.l1 (k + 1) y0 y1 y2 y3 y4 y5 y6 y7 y8 y9 y10))
  | 0 => ⟨fun _ _ _ _ r h => by simp [foremanref20_refs.l0] at h, fun _ _ _ _ _ _ _ _ _ _ _ r h => by simp [foremanref20_refs.l1] at h⟩
  | k + 1 => by
    obtain ⟨ih0, ih1⟩ := foremanref20_refs.mono_l k
    refine ⟨?_, ?_⟩
    · intro y0 y1 y2 y3
      unfold foremanref20_refs.l0
      repeat' first
      | (with_reducible exact ih0 _ _ _ _)
      | (with_reducible exact ih1 _ _ _ _ _ _ _ _ _ _ _)
      | (with_reducible exact foremanref20_nobody.mono _ _ _ _ _)
      | (with_reducible exact LeO.refl _)
      | (with_reducible exact LeO.none _)
      | (with_reducible refine LeO.ite ?_ ?_)
      | (with_reducible refine LeO.bind ?_ (fun _ => ?_))
      | exact ih0 _ _ _ _
      | exact ih1 _ _ _ _ _ _ _ _ _ _ _
      | exact foremanref20_nobody.mono _ _ _ _ _
      | exact LeO.none _
      | refine LeO.ite ?_ ?_
      | refine LeO.bind ?_ (fun _ => ?_)
    · intro y0 y1 y2 y3 y4 y5 y6 y7 y8 y9 y10
      unfold foremanref20_refs.l1
      repeat' first
      | (with_reducible exact ih0 _ _ _ _)
      | (with_reducible exact ih1 _ _ _ _ _ _ _ _ _ _ _)
      | (with_reducible exact foremanref20_nobody.mono _ _ _ _ _)
      | (with_reducible exact LeO.refl _)
      | (with_reducible exact LeO.none _)
      | (with_reducible refine LeO.ite ?_ ?_)
      | (with_reducible refine LeO.bind ?_ (fun _ => ?_))
      | exact ih0 _ _ _ _
      | exact ih1 _ _ _ _ _ _ _ _ _ _ _
      | exact foremanref20_nobody.mono _ _ _ _ _
      | exact LeO.none _
      | refine LeO.ite ?_ ?_
      | refine LeO.bind ?_ (fun _ => ?_)
theorem foremanref20_refs.mono : ∀ a0 a1 a2 k, LeO (foremanref20_refs.f k a0 a1 a2) (foremanref20_refs.f (k + 1) a0 a1 a2) := by
  intro a0 a1 a2 k
  obtain ⟨ih0, ih1⟩ := foremanref20_refs.mono_l k
  unfold foremanref20_refs.f
  repeat' first
      | (with_reducible exact ih0 _ _ _ _)
      | (with_reducible exact ih1 _ _ _ _ _ _ _ _ _ _ _)
      | (with_reducible exact foremanref20_nobody.mono _ _ _ _ _)
      | (with_reducible exact LeO.refl _)
      | (with_reducible exact LeO.none _)
      | (with_reducible refine LeO.ite ?_ ?_)
      | (with_reducible refine LeO.bind ?_ (fun _ => ?_))
      | exact ih0 _ _ _ _
      | exact ih1 _ _ _ _ _ _ _ _ _ _ _
      | exact foremanref20_nobody.mono _ _ _ _ _
      | exact LeO.none _
      | refine LeO.ite ?_ ?_
      | refine LeO.bind ?_ (fun _ => ?_)
set_option maxHeartbeats 8000000 in
set_option maxRecDepth 100000 in
theorem foremanref20_refs.calls (k : Nat) (A0 : Option Addr) (c0 : Nat) (l0 : List (S50)) (a1 : Int) (A2 : Option Addr) (c2 : Nat) (l2 : List (S27)) (r : Bool) (w : World) (hr0 : Kd.C k50 w A0 l0.length l0) (hc0 : l0.length ≤ c0) (hr2 : Kd.C k27 w A2 l2.length l2) (hc2 : l2.length ≤ c2) (h : foremanref20_refs.f k l0 a1 l2 = some r) :
    Calls Tryd.prog 34 #[.slice A0 l0.length c0, .int .i64 a1, .slice A2 l2.length c2] w fun e w' => e = .returned (.bool r) ∧ Below w.heap.size w w' := by
  have hu27 := Tryd.underlying27
  have HR0 := Aside0.mk hr0
  have HC0 := Aside0.mk hc0
  clear hr0 hc0
  have HR2 := Aside0.mk hr2
  have HC2 := Aside0.mk hc2
  clear hr2 hc2
  have HB := Aside0.mk (Below.refl w.heap.size w)
  have H : (foremanref20_refs.l0 k l0 a1 l2 0) = some r := h
  clear h
  have H' := Aside0.mk H
  clear H
  go_enter Tryd.func34, Tryd.ntmps34
  go_wp2
  go_loopg [7] k (fun kq v7 w' => ∃ (x7_1 : Int), v7 = .int .i64 x7_1 ∧ Aside0 (foremanref20_refs.l0 kq l0 a1 l2 x7_1 = some r) ∧ Aside0 (kq ≤ k) ∧ Aside0 (Below w.heap.size w w'))
  case atStart => exact ⟨(0), (by first | rfl | (simp; done) | (simp [*]; done)), H', ⟨Nat.le_refl _⟩, ⟨by repeat (first | (with_reducible first | exact HB.out | apply below_alloc | apply pw_below_drewN | apply below_drew1) | exact HB.out)⟩⟩
  case round =>
    clear H'
    try clear c2
    try clear p2
    try clear c3
    obtain ⟨x7_1, rfl, HA, HK1, HB⟩ := hrel
    cases gk with
    | zero => exact absurd HA.out (by simp [foremanref20_refs.l0])
    | succ k1 =>
      have H := HA.out
      clear HA
      simp only [foremanref20_refs.l0] at H
      by_cases c4 : x7_1 < (l2.length : Int)
      · rw [if_pos c4] at H
        have c4b0 : decide (x7_1 < (l2.length : Int)) = true := decide_eq_true c4
        clear c4
        by_cases c5 : 0 ≤ x7_1
        · rw [if_pos c5] at H
          have c5b0 : decide (0 ≤ x7_1) = true := decide_eq_true c5
          clear c5
          have H' := Aside0.mk H
          clear H
          have p158 : 0 ≤ (x7_1 : Int) := of_decide_eq_true (by first | (with_reducible assumption) | assumption)
          have q158 : x7_1 < (l2.length : Int) := of_decide_eq_true (by first | (with_reducible assumption) | assumption)
          obtain ⟨ad158, A158_2, c158_2, e158, hx158_0, hx158_1, hx158_2, hx158_3, hx158_4, hx158_5, hl158_2, hi158_2⟩ := at_T27 HR2.out x7_1 p158 q158
          cases e158
          replace hx158_0 := (HB.out.cell (World.block_lt_of_cell? w _ hx158_0)).trans hx158_0
          replace hx158_1 := (HB.out.cell (World.block_lt_of_cell? w _ hx158_1)).trans hx158_1
          replace hx158_2 := (HB.out.cell (World.block_lt_of_cell? w _ hx158_2)).trans hx158_2
          replace hx158_3 := (HB.out.cell (World.block_lt_of_cell? w _ hx158_3)).trans hx158_3
          replace hx158_4 := (HB.out.cell (World.block_lt_of_cell? w _ hx158_4)).trans hx158_4
          replace hx158_5 := (HB.out.cell (World.block_lt_of_cell? w _ hx158_5)).trans hx158_5
          have HR158_2 := Aside0.mk hi158_2
          have HC158_2 := Aside0.mk hl158_2
          clear hi158_2 hl158_2
          replace p158 := eq_true p158
          replace q158 := eq_true q158
          go_wp2_with (first | ((with_reducible refine gate_dst (N := 8) rfl ?_); refine box_event ?hg (N := 8) ?hd (cs := #[.string (⟨#[]⟩ : ByteArray), .int .u8 0, .slice none 0 0, .string (⟨#[]⟩ : ByteArray), .int .i64 0, .int .i64 0]) (t := 27) ?hr ?_; (case hd => rfl); (case hg => rfl); (case hr => first | (go_simp; done) | (go_simp; rfl)); intro gb159 hg w6 hbox hb; have n0_ := Aside0.mk (below_step (by repeat (first | (with_reducible first | exact HB.out | apply below_alloc | apply pw_below_drewN | apply below_drew1) | exact HB.out)) hb); have n1_ := Aside0.mk (hbox); have n2_ := Aside0.mk ((by rw [hg]; exact (below_size (by repeat (first | (with_reducible first | exact HB.out | apply below_alloc | apply pw_below_drewN | apply below_drew1) | exact HB.out))) : w.heap.size ≤ gb159)); have n3_ := Aside0.mk ((by rw [hg]; exact (below_size (by repeat (first | (with_reducible first | exact HB.out | apply below_alloc | apply pw_below_drewN | apply below_drew1) | exact HB.out))) : w.heap.size ≤ gb159)); clear HB; have HB := n0_; have BK159 := n1_; have GW159 := n2_; have GE159 := n3_; clear n0_ n1_ n2_ n3_; clear hb hbox hg; have hcz7_0 : w6.cell? ⟨gb159, 0, none⟩ = some (.string (⟨#[]⟩ : ByteArray)) := (blk_cell BK159.out 0).trans rfl; have hcz7_1 : w6.cell? ⟨gb159, 1, none⟩ = some (.int .u8 0) := (blk_cell BK159.out 1).trans rfl; have hcz7_2 : w6.cell? ⟨gb159, 2, none⟩ = some (.slice none 0 0) := (blk_cell BK159.out 2).trans rfl; have hcz7_3 : w6.cell? ⟨gb159, 3, none⟩ = some (.string (⟨#[]⟩ : ByteArray)) := (blk_cell BK159.out 3).trans rfl; have hcz7_4 : w6.cell? ⟨gb159, 4, none⟩ = some (.int .i64 0) := (blk_cell BK159.out 4).trans rfl; have hcz7_5 : w6.cell? ⟨gb159, 5, none⟩ = some (.int .i64 0) := (blk_cell BK159.out 5).trans rfl; have hfz7_0 := blk_frozen BK159.out 0; have hfz7_1 := blk_frozen BK159.out 1; have hfz7_2 := blk_frozen BK159.out 2; have hfz7_3 := blk_frozen BK159.out 3; have hfz7_4 := blk_frozen BK159.out 4; have hfz7_5 := blk_frozen BK159.out 5))
          go_loopg [9] k1 (fun kq v9 w' => ∃ (x9_2 : Int), v9 = .int .i64 x9_2 ∧ Aside0 (foremanref20_refs.l1 kq l0 a1 l2 x7_1 x9_2 ((rd_T27 l2 x7_1).f0) ((rd_T27 l2 x7_1).f1) ((rd_T27 l2 x7_1).f2) ((rd_T27 l2 x7_1).f3) ((rd_T27 l2 x7_1).f4) ((rd_T27 l2 x7_1).f5) = some r) ∧ Aside0 (kq ≤ k1) ∧ Aside0 (w'.heap[gb159]? = some (.cells #[.string ((rd_T27 l2 x7_1).f0), .int .u8 ((rd_T27 l2 x7_1).f1), (.slice A158_2 ((rd_T27 l2 x7_1).f2).length c158_2), .string ((rd_T27 l2 x7_1).f3), .int .i64 ((rd_T27 l2 x7_1).f4), .int .i64 ((rd_T27 l2 x7_1).f5)] 27 (0, 0))) ∧ Aside0 (Below w.heap.size w w'))
          case atStart => exact ⟨(0), (by first | rfl | (simp; done) | (simp [*]; done)), H', ⟨Nat.le_refl _⟩, ⟨by (with_reducible repeat (first | refine blk_drewN ?_ _ | refine blk_drew ?_ | refine blk_alloc ?_ _)); refine blk_put (cs := #[.string ((rd_T27 l2 x7_1).f0), .int .u8 ((rd_T27 l2 x7_1).f1), .slice A158_2 ((rd_T27 l2 x7_1).f2).length c158_2, .string ((rd_T27 l2 x7_1).f3), .int .i64 ((rd_T27 l2 x7_1).f4), .int .i64 0]) ?_ 5 _ rfl; (with_reducible repeat (first | refine blk_drewN ?_ _ | refine blk_drew ?_ | refine blk_alloc ?_ _)); refine blk_put (cs := #[.string ((rd_T27 l2 x7_1).f0), .int .u8 ((rd_T27 l2 x7_1).f1), .slice A158_2 ((rd_T27 l2 x7_1).f2).length c158_2, .string ((rd_T27 l2 x7_1).f3), .int .i64 0, .int .i64 0]) ?_ 4 _ rfl; (with_reducible repeat (first | refine blk_drewN ?_ _ | refine blk_drew ?_ | refine blk_alloc ?_ _)); refine blk_put (cs := #[.string ((rd_T27 l2 x7_1).f0), .int .u8 ((rd_T27 l2 x7_1).f1), .slice A158_2 ((rd_T27 l2 x7_1).f2).length c158_2, .string (⟨#[]⟩ : ByteArray), .int .i64 0, .int .i64 0]) ?_ 3 _ rfl; (with_reducible repeat (first | refine blk_drewN ?_ _ | refine blk_drew ?_ | refine blk_alloc ?_ _)); refine blk_put (cs := #[.string ((rd_T27 l2 x7_1).f0), .int .u8 ((rd_T27 l2 x7_1).f1), .slice none 0 0, .string (⟨#[]⟩ : ByteArray), .int .i64 0, .int .i64 0]) ?_ 2 _ rfl; (with_reducible repeat (first | refine blk_drewN ?_ _ | refine blk_drew ?_ | refine blk_alloc ?_ _)); refine blk_put (cs := #[.string ((rd_T27 l2 x7_1).f0), .int .u8 0, .slice none 0 0, .string (⟨#[]⟩ : ByteArray), .int .i64 0, .int .i64 0]) ?_ 1 _ rfl; (with_reducible repeat (first | refine blk_drewN ?_ _ | refine blk_drew ?_ | refine blk_alloc ?_ _)); refine blk_put (cs := #[.string (⟨#[]⟩ : ByteArray), .int .u8 0, .slice none 0 0, .string (⟨#[]⟩ : ByteArray), .int .i64 0, .int .i64 0]) ?_ 0 _ rfl; (with_reducible repeat (first | refine blk_drewN ?_ _ | refine blk_drew ?_ | refine blk_alloc ?_ _)); exact BK159.out⟩, ⟨by repeat (first | (with_reducible first | exact HB.out | apply below_alloc | apply pw_below_drewN | apply below_drew1 | refine below_set ?_ GE159.out) | exact HB.out)⟩⟩
          case round =>
            clear H'
            try clear c1
            try clear p1
            try clear q1
            try clear hx1
            try clear c2
            try clear p2
            try clear c3
            try clear c4
            try clear c4b0
            try clear c5
            try clear c5b0
            try clear hcz7_0
            try clear hcz7_1
            try clear hcz7_2
            try clear hcz7_3
            try clear hcz7_4
            try clear hcz7_5
            try clear hfz7_0
            try clear hfz7_1
            try clear hfz7_2
            try clear hfz7_3
            try clear hfz7_4
            try clear hfz7_5
            try clear hx158_0
            try clear hx158_1
            try clear hx158_2
            try clear hx158_3
            try clear hx158_4
            try clear hx158_5
            try clear p158
            try clear p2
            try clear q158
            obtain ⟨x9_2, rfl, HA, HK2, BK159, HB⟩ := hrel
            cases gk with
            | zero => exact absurd HA.out (by simp [foremanref20_refs.l1])
            | succ k2 =>
              have H := HA.out
              clear HA
              simp only [foremanref20_refs.l1] at H
              by_cases c8 : x9_2 < (((rd_T27 l2 x7_1).f2).length : Int)
              · rw [if_pos c8] at H
                have c8b0 : decide (x9_2 < (((rd_T27 l2 x7_1).f2).length : Int)) = true := decide_eq_true c8
                clear c8
                by_cases c9 : 0 ≤ x9_2
                · rw [if_pos c9] at H
                  have c9b0 : decide (0 ≤ x9_2) = true := decide_eq_true c9
                  clear c9
                  replace H := Option.bind_eq_some_iff.mp H
                  obtain ⟨t161, A100, H⟩ := H
                  replace H : (if t161 = true then (some true) else (foremanref20_refs.l1 k2 l0 a1 l2 x7_1 (wrap64 (x9_2 + 1)) ((rd_T27 l2 x7_1).f0) ((rd_T27 l2 x7_1).f1) ((rd_T27 l2 x7_1).f2) ((rd_T27 l2 x7_1).f3) ((rd_T27 l2 x7_1).f4) ((rd_T27 l2 x7_1).f5))) = some r := H
                  have A10 := Aside0.mk A100
                  clear A100
                  by_cases c11 : t161 = true
                  · subst c11
                    have H1 : (some true) = some r := by rw [if_pos rfl] at H; exact H
                    clear H
                    have H := H1
                    clear H1
                    obtain rfl := Option.some.inj H
                    have hcz12_0 : wr.cell? ⟨gb159, 0, none⟩ = some (.string ((rd_T27 l2 x7_1).f0)) := (blk_cell BK159.out 0).trans rfl
                    have hcz12_1 : wr.cell? ⟨gb159, 1, none⟩ = some (.int .u8 ((rd_T27 l2 x7_1).f1)) := (blk_cell BK159.out 1).trans rfl
                    have hcz12_2 : wr.cell? ⟨gb159, 2, none⟩ = some (.slice A158_2 ((rd_T27 l2 x7_1).f2).length c158_2) := (blk_cell BK159.out 2).trans rfl
                    have hcz12_3 : wr.cell? ⟨gb159, 3, none⟩ = some (.string ((rd_T27 l2 x7_1).f3)) := (blk_cell BK159.out 3).trans rfl
                    have hcz12_4 : wr.cell? ⟨gb159, 4, none⟩ = some (.int .i64 ((rd_T27 l2 x7_1).f4)) := (blk_cell BK159.out 4).trans rfl
                    have hcz12_5 : wr.cell? ⟨gb159, 5, none⟩ = some (.int .i64 ((rd_T27 l2 x7_1).f5)) := (blk_cell BK159.out 5).trans rfl
                    have hfz12_0 := blk_frozen BK159.out 0
                    have hfz12_1 := blk_frozen BK159.out 1
                    have hfz12_2 := blk_frozen BK159.out 2
                    have hfz12_3 := blk_frozen BK159.out 3
                    have hfz12_4 := blk_frozen BK159.out 4
                    have hfz12_5 := blk_frozen BK159.out 5
                    have p160 : 0 ≤ (x9_2 : Int) := of_decide_eq_true (by first | (with_reducible assumption) | assumption)
                    have q160 : x9_2 < (((rd_T27 l2 x7_1).f2).length : Int) := of_decide_eq_true (by first | (with_reducible assumption) | assumption)
                    obtain ⟨ad160, e160, hx160_0⟩ := Kd.at_string HR158_2.out x9_2 p160 q160
                    cases e160
                    replace hx160_0 := (HB.out.cell (World.block_lt_of_cell? w _ hx160_0)).trans hx160_0
                    replace p160 := eq_true p160
                    replace q160 := eq_true q160
                    go_wp2_with (first | ((with_reducible refine gate_callee (f := 63) rfl ?_); refine goesL_ (some 35) rfl rfl Tryd.func63 (by kernel_rfl) rfl #[.slice A0 l0.length c0, .int .i64 a1, .slice (some ad158) l2.length c2, .string (rdOf ByteArray.empty ((rd_T27 l2 x7_1).f2) x9_2)] rfl (by (try simp only [List.map_toArray, List.map_cons, List.map_nil]); first | done | rfl | (simp only [List.length_drop, List.length_take]; rfl)) ?_; (with_reducible refine (foremanref20_nobody.calls k2 _ _ l0 a1 _ _ l2 (rdOf ByteArray.empty ((rd_T27 l2 x7_1).f2) x9_2) true _ ?side1 ?side2 ?side3 ?side4 A10.out).mono ?_); (case side1 => repeat (first | exact (Kd.C_below HR0.out HB.out) | (with_reducible refine Kd.C_alloc ?_ _) | (with_reducible refine Kd.C_drewN ?_ _) | (with_reducible refine Kd.C_drew ?_))); (case side2 => exact HC0.out); (case side3 => repeat (first | exact (Kd.C_below HR2.out HB.out) | (with_reducible refine Kd.C_alloc ?_ _) | (with_reducible refine Kd.C_drewN ?_ _) | (with_reducible refine Kd.C_drew ?_))); (case side4 => exact HC2.out); rintro e w13 ⟨rfl, hb⟩; refine ⟨_, rfl, ?_⟩; have n0_ := Aside0.mk (blk_below (g := gb159) (o := .cells #[.string ((rd_T27 l2 x7_1).f0), .int .u8 ((rd_T27 l2 x7_1).f1), .slice (some ad160) ((rd_T27 l2 x7_1).f2).length c158_2, .string ((rd_T27 l2 x7_1).f3), .int .i64 ((rd_T27 l2 x7_1).f4), .int .i64 ((rd_T27 l2 x7_1).f5)] 27 (0, 0)) (by (with_reducible repeat (first | refine blk_drewN ?_ _ | refine blk_drew ?_ | refine blk_alloc ?_ _)); exact BK159.out) hb); have n1_ := Aside0.mk (below_step (by repeat (first | (with_reducible first | exact HB.out | apply below_alloc | apply pw_below_drewN | apply below_drew1 | refine below_set ?_ GE159.out) | exact HB.out)) hb); clear BK159; clear HB; have BK159 := n0_; have HB := n1_; clear n0_ n1_; (try clear hb); (try clear hb2); (try clear hk); (try clear hi)))
                    go_ret
                    exact ⟨by first | rfl | (simp [errW_none, errW_some] <;> rfl) | (simp [*, errW_none, errW_some] <;> rfl), by repeat (first | (with_reducible first | exact HB.out | apply below_alloc | apply pw_below_drewN | apply below_drew1 | refine below_set ?_ GE159.out) | exact HB.out)⟩
                  · replace c11 := Bool.eq_false_iff.mpr c11
                    subst c11
                    have H1 : (foremanref20_refs.l1 k2 l0 a1 l2 x7_1 (wrap64 (x9_2 + 1)) ((rd_T27 l2 x7_1).f0) ((rd_T27 l2 x7_1).f1) ((rd_T27 l2 x7_1).f2) ((rd_T27 l2 x7_1).f3) ((rd_T27 l2 x7_1).f4) ((rd_T27 l2 x7_1).f5)) = some r := by rw [if_neg (show ¬ (false = true) by decide)] at H; exact H
                    clear H
                    have H := H1
                    clear H1
                    have H' := Aside0.mk H
                    clear H
                    have hcz14_0 : wr.cell? ⟨gb159, 0, none⟩ = some (.string ((rd_T27 l2 x7_1).f0)) := (blk_cell BK159.out 0).trans rfl
                    have hcz14_1 : wr.cell? ⟨gb159, 1, none⟩ = some (.int .u8 ((rd_T27 l2 x7_1).f1)) := (blk_cell BK159.out 1).trans rfl
                    have hcz14_2 : wr.cell? ⟨gb159, 2, none⟩ = some (.slice A158_2 ((rd_T27 l2 x7_1).f2).length c158_2) := (blk_cell BK159.out 2).trans rfl
                    have hcz14_3 : wr.cell? ⟨gb159, 3, none⟩ = some (.string ((rd_T27 l2 x7_1).f3)) := (blk_cell BK159.out 3).trans rfl
                    have hcz14_4 : wr.cell? ⟨gb159, 4, none⟩ = some (.int .i64 ((rd_T27 l2 x7_1).f4)) := (blk_cell BK159.out 4).trans rfl
                    have hcz14_5 : wr.cell? ⟨gb159, 5, none⟩ = some (.int .i64 ((rd_T27 l2 x7_1).f5)) := (blk_cell BK159.out 5).trans rfl
                    have hfz14_0 := blk_frozen BK159.out 0
                    have hfz14_1 := blk_frozen BK159.out 1
                    have hfz14_2 := blk_frozen BK159.out 2
                    have hfz14_3 := blk_frozen BK159.out 3
                    have hfz14_4 := blk_frozen BK159.out 4
                    have hfz14_5 := blk_frozen BK159.out 5
                    have p160 : 0 ≤ (x9_2 : Int) := of_decide_eq_true (by first | (with_reducible assumption) | assumption)
                    have q160 : x9_2 < (((rd_T27 l2 x7_1).f2).length : Int) := of_decide_eq_true (by first | (with_reducible assumption) | assumption)
                    obtain ⟨ad160, e160, hx160_0⟩ := Kd.at_string HR158_2.out x9_2 p160 q160
                    cases e160
                    replace hx160_0 := (HB.out.cell (World.block_lt_of_cell? w _ hx160_0)).trans hx160_0
                    replace p160 := eq_true p160
                    replace q160 := eq_true q160
                    go_wp2_with (first | ((with_reducible refine gate_callee (f := 63) rfl ?_); refine goesL_ (some 35) rfl rfl Tryd.func63 (by kernel_rfl) rfl #[.slice A0 l0.length c0, .int .i64 a1, .slice (some ad158) l2.length c2, .string (rdOf ByteArray.empty ((rd_T27 l2 x7_1).f2) x9_2)] rfl (by (try simp only [List.map_toArray, List.map_cons, List.map_nil]); first | done | rfl | (simp only [List.length_drop, List.length_take]; rfl)) ?_; (with_reducible refine (foremanref20_nobody.calls k2 _ _ l0 a1 _ _ l2 (rdOf ByteArray.empty ((rd_T27 l2 x7_1).f2) x9_2) false _ ?side1 ?side2 ?side3 ?side4 A10.out).mono ?_); (case side1 => repeat (first | exact (Kd.C_below HR0.out HB.out) | (with_reducible refine Kd.C_alloc ?_ _) | (with_reducible refine Kd.C_drewN ?_ _) | (with_reducible refine Kd.C_drew ?_))); (case side2 => exact HC0.out); (case side3 => repeat (first | exact (Kd.C_below HR2.out HB.out) | (with_reducible refine Kd.C_alloc ?_ _) | (with_reducible refine Kd.C_drewN ?_ _) | (with_reducible refine Kd.C_drew ?_))); (case side4 => exact HC2.out); rintro e w15 ⟨rfl, hb⟩; refine ⟨_, rfl, ?_⟩; have n0_ := Aside0.mk (blk_below (g := gb159) (o := .cells #[.string ((rd_T27 l2 x7_1).f0), .int .u8 ((rd_T27 l2 x7_1).f1), .slice (some ad160) ((rd_T27 l2 x7_1).f2).length c158_2, .string ((rd_T27 l2 x7_1).f3), .int .i64 ((rd_T27 l2 x7_1).f4), .int .i64 ((rd_T27 l2 x7_1).f5)] 27 (0, 0)) (by (with_reducible repeat (first | refine blk_drewN ?_ _ | refine blk_drew ?_ | refine blk_alloc ?_ _)); exact BK159.out) hb); have n1_ := Aside0.mk (below_step (by repeat (first | (with_reducible first | exact HB.out | apply below_alloc | apply pw_below_drewN | apply below_drew1 | refine below_set ?_ GE159.out) | exact HB.out)) hb); clear BK159; clear HB; have BK159 := n0_; have HB := n1_; clear n0_ n1_; (try clear hb); (try clear hb2); (try clear hk); (try clear hi)))
                    go_roundg k2
                    case measure => have := HK1.out; have := HK2.out; omega
                    case rel => exact ⟨(wrap64 (x9_2 + 1)), (by first | rfl | (simp; done) | (simp [*]; done)), H', ⟨by have := HK1.out; have := HK2.out; omega⟩, ⟨by (with_reducible repeat (first | refine blk_drewN ?_ _ | refine blk_drew ?_ | refine blk_alloc ?_ _)); exact BK159.out⟩, ⟨by repeat (first | (with_reducible first | exact HB.out | apply below_alloc | apply pw_below_drewN | apply below_drew1 | refine below_set ?_ GE159.out) | exact HB.out)⟩⟩
                · rw [if_neg c9] at H
                  exact absurd H (by simp)
              · rw [if_neg c8] at H
                have c8b0 : decide (x9_2 < (((rd_T27 l2 x7_1).f2).length : Int)) = false := decide_eq_false c8
                clear c8
                by_cases c16 : ((rd_T27 l2 x7_1).f1) = 1
                · rw [if_pos c16] at H
                  have c16b0 : (((rd_T27 l2 x7_1).f1) == 1) = true := beq_iff_eq.mpr c16
                  have c16b1 : (((rd_T27 l2 x7_1).f1) != 1) = false := bne_eq_false_iff_eq.mpr c16
                  clear c16
                  replace H := Option.bind_eq_some_iff.mp H
                  obtain ⟨t162, A170, H⟩ := H
                  replace H : (if t162 = true then (some true) else (foremanref20_refs.l0 k2 l0 a1 l2 (wrap64 (x7_1 + 1)))) = some r := H
                  have A17 := Aside0.mk A170
                  clear A170
                  by_cases c18 : t162 = true
                  · subst c18
                    have H1 : (some true) = some r := by rw [if_pos rfl] at H; exact H
                    clear H
                    have H := H1
                    clear H1
                    obtain rfl := Option.some.inj H
                    have hcz19_0 : wr.cell? ⟨gb159, 0, none⟩ = some (.string ((rd_T27 l2 x7_1).f0)) := (blk_cell BK159.out 0).trans rfl
                    have hcz19_1 : wr.cell? ⟨gb159, 1, none⟩ = some (.int .u8 ((rd_T27 l2 x7_1).f1)) := (blk_cell BK159.out 1).trans rfl
                    have hcz19_2 : wr.cell? ⟨gb159, 2, none⟩ = some (.slice A158_2 ((rd_T27 l2 x7_1).f2).length c158_2) := (blk_cell BK159.out 2).trans rfl
                    have hcz19_3 : wr.cell? ⟨gb159, 3, none⟩ = some (.string ((rd_T27 l2 x7_1).f3)) := (blk_cell BK159.out 3).trans rfl
                    have hcz19_4 : wr.cell? ⟨gb159, 4, none⟩ = some (.int .i64 ((rd_T27 l2 x7_1).f4)) := (blk_cell BK159.out 4).trans rfl
                    have hcz19_5 : wr.cell? ⟨gb159, 5, none⟩ = some (.int .i64 ((rd_T27 l2 x7_1).f5)) := (blk_cell BK159.out 5).trans rfl
                    have hfz19_0 := blk_frozen BK159.out 0
                    have hfz19_1 := blk_frozen BK159.out 1
                    have hfz19_2 := blk_frozen BK159.out 2
                    have hfz19_3 := blk_frozen BK159.out 3
                    have hfz19_4 := blk_frozen BK159.out 4
                    have hfz19_5 := blk_frozen BK159.out 5
                    go_wp2_with (first | (go_at_call 63; (with_reducible refine (foremanref20_nobody.calls k2 _ _ l0 a1 _ _ l2 ((rd_T27 l2 x7_1).f3) true _ ?side1 ?side2 ?side3 ?side4 A17.out).mono ?_); (case side1 => repeat (first | exact (Kd.C_below HR0.out HB.out) | (with_reducible refine Kd.C_alloc ?_ _) | (with_reducible refine Kd.C_drewN ?_ _) | (with_reducible refine Kd.C_drew ?_))); (case side2 => exact HC0.out); (case side3 => repeat (first | exact (Kd.C_below HR2.out HB.out) | (with_reducible refine Kd.C_alloc ?_ _) | (with_reducible refine Kd.C_drewN ?_ _) | (with_reducible refine Kd.C_drew ?_))); (case side4 => exact HC2.out); rintro e w20 ⟨rfl, hb⟩; have n0_ := Aside0.mk (blk_below (g := gb159) (o := .cells #[.string ((rd_T27 l2 x7_1).f0), .int .u8 ((rd_T27 l2 x7_1).f1), .slice A158_2 ((rd_T27 l2 x7_1).f2).length c158_2, .string ((rd_T27 l2 x7_1).f3), .int .i64 ((rd_T27 l2 x7_1).f4), .int .i64 ((rd_T27 l2 x7_1).f5)] 27 (0, 0)) (by (with_reducible repeat (first | refine blk_drewN ?_ _ | refine blk_drew ?_ | refine blk_alloc ?_ _)); exact BK159.out) hb); have n1_ := Aside0.mk (below_step (by repeat (first | (with_reducible first | exact HB.out | apply below_alloc | apply pw_below_drewN | apply below_drew1 | refine below_set ?_ GE159.out) | exact HB.out)) hb); clear BK159; clear HB; have BK159 := n0_; have HB := n1_; clear n0_ n1_; (try clear hb); (try clear hb2); (try clear hk); (try clear hi)))
                    go_ret
                    exact ⟨by first | rfl | (simp [errW_none, errW_some] <;> rfl) | (simp [*, errW_none, errW_some] <;> rfl), by repeat (first | (with_reducible first | exact HB.out | apply below_alloc | apply pw_below_drewN | apply below_drew1 | refine below_set ?_ GE159.out) | exact HB.out)⟩
                  · replace c18 := Bool.eq_false_iff.mpr c18
                    subst c18
                    have H1 : (foremanref20_refs.l0 k2 l0 a1 l2 (wrap64 (x7_1 + 1))) = some r := by rw [if_neg (show ¬ (false = true) by decide)] at H; exact H
                    clear H
                    have H := H1
                    clear H1
                    have H' := Aside0.mk H
                    clear H
                    have hcz21_0 : wr.cell? ⟨gb159, 0, none⟩ = some (.string ((rd_T27 l2 x7_1).f0)) := (blk_cell BK159.out 0).trans rfl
                    have hcz21_1 : wr.cell? ⟨gb159, 1, none⟩ = some (.int .u8 ((rd_T27 l2 x7_1).f1)) := (blk_cell BK159.out 1).trans rfl
                    have hcz21_2 : wr.cell? ⟨gb159, 2, none⟩ = some (.slice A158_2 ((rd_T27 l2 x7_1).f2).length c158_2) := (blk_cell BK159.out 2).trans rfl
                    have hcz21_3 : wr.cell? ⟨gb159, 3, none⟩ = some (.string ((rd_T27 l2 x7_1).f3)) := (blk_cell BK159.out 3).trans rfl
                    have hcz21_4 : wr.cell? ⟨gb159, 4, none⟩ = some (.int .i64 ((rd_T27 l2 x7_1).f4)) := (blk_cell BK159.out 4).trans rfl
                    have hcz21_5 : wr.cell? ⟨gb159, 5, none⟩ = some (.int .i64 ((rd_T27 l2 x7_1).f5)) := (blk_cell BK159.out 5).trans rfl
                    have hfz21_0 := blk_frozen BK159.out 0
                    have hfz21_1 := blk_frozen BK159.out 1
                    have hfz21_2 := blk_frozen BK159.out 2
                    have hfz21_3 := blk_frozen BK159.out 3
                    have hfz21_4 := blk_frozen BK159.out 4
                    have hfz21_5 := blk_frozen BK159.out 5
                    go_wp2_with (first | (go_at_call 63; (with_reducible refine (foremanref20_nobody.calls k2 _ _ l0 a1 _ _ l2 ((rd_T27 l2 x7_1).f3) false _ ?side1 ?side2 ?side3 ?side4 A17.out).mono ?_); (case side1 => repeat (first | exact (Kd.C_below HR0.out HB.out) | (with_reducible refine Kd.C_alloc ?_ _) | (with_reducible refine Kd.C_drewN ?_ _) | (with_reducible refine Kd.C_drew ?_))); (case side2 => exact HC0.out); (case side3 => repeat (first | exact (Kd.C_below HR2.out HB.out) | (with_reducible refine Kd.C_alloc ?_ _) | (with_reducible refine Kd.C_drewN ?_ _) | (with_reducible refine Kd.C_drew ?_))); (case side4 => exact HC2.out); rintro e w22 ⟨rfl, hb⟩; have n0_ := Aside0.mk (blk_below (g := gb159) (o := .cells #[.string ((rd_T27 l2 x7_1).f0), .int .u8 ((rd_T27 l2 x7_1).f1), .slice A158_2 ((rd_T27 l2 x7_1).f2).length c158_2, .string ((rd_T27 l2 x7_1).f3), .int .i64 ((rd_T27 l2 x7_1).f4), .int .i64 ((rd_T27 l2 x7_1).f5)] 27 (0, 0)) (by (with_reducible repeat (first | refine blk_drewN ?_ _ | refine blk_drew ?_ | refine blk_alloc ?_ _)); exact BK159.out) hb); have n1_ := Aside0.mk (below_step (by repeat (first | (with_reducible first | exact HB.out | apply below_alloc | apply pw_below_drewN | apply below_drew1 | refine below_set ?_ GE159.out) | exact HB.out)) hb); clear BK159; clear HB; have BK159 := n0_; have HB := n1_; clear n0_ n1_; (try clear hb); (try clear hb2); (try clear hk); (try clear hi)))
                    go_roundg k2
                    case measure => have := HK1.out; have := HK2.out; omega
                    case rel => exact ⟨(wrap64 (x7_1 + 1)), (by first | rfl | (simp; done) | (simp [*]; done)), H', ⟨by have := HK1.out; have := HK2.out; omega⟩, ⟨by repeat (first | (with_reducible first | exact HB.out | apply below_alloc | apply pw_below_drewN | apply below_drew1 | refine below_set ?_ GE159.out) | exact HB.out)⟩⟩
                · rw [if_neg c16] at H
                  have c16b0 : (((rd_T27 l2 x7_1).f1) == 1) = false := beq_eq_false_iff_ne.mpr c16
                  have c16b1 : (((rd_T27 l2 x7_1).f1) != 1) = true := bne_iff_ne.mpr c16
                  have H' := Aside0.mk H
                  clear H
                  have hcz23_0 : wr.cell? ⟨gb159, 0, none⟩ = some (.string ((rd_T27 l2 x7_1).f0)) := (blk_cell BK159.out 0).trans rfl
                  have hcz23_1 : wr.cell? ⟨gb159, 1, none⟩ = some (.int .u8 ((rd_T27 l2 x7_1).f1)) := (blk_cell BK159.out 1).trans rfl
                  have hcz23_2 : wr.cell? ⟨gb159, 2, none⟩ = some (.slice A158_2 ((rd_T27 l2 x7_1).f2).length c158_2) := (blk_cell BK159.out 2).trans rfl
                  have hcz23_3 : wr.cell? ⟨gb159, 3, none⟩ = some (.string ((rd_T27 l2 x7_1).f3)) := (blk_cell BK159.out 3).trans rfl
                  have hcz23_4 : wr.cell? ⟨gb159, 4, none⟩ = some (.int .i64 ((rd_T27 l2 x7_1).f4)) := (blk_cell BK159.out 4).trans rfl
                  have hcz23_5 : wr.cell? ⟨gb159, 5, none⟩ = some (.int .i64 ((rd_T27 l2 x7_1).f5)) := (blk_cell BK159.out 5).trans rfl
                  have hfz23_0 := blk_frozen BK159.out 0
                  have hfz23_1 := blk_frozen BK159.out 1
                  have hfz23_2 := blk_frozen BK159.out 2
                  have hfz23_3 := blk_frozen BK159.out 3
                  have hfz23_4 := blk_frozen BK159.out 4
                  have hfz23_5 := blk_frozen BK159.out 5
                  go_wp2
                  go_roundg k2
                  case measure => have := HK1.out; have := HK2.out; omega
                  case rel => exact ⟨(wrap64 (x7_1 + 1)), (by first | rfl | (simp; done) | (simp [*]; done)), H', ⟨by have := HK1.out; have := HK2.out; omega⟩, ⟨by repeat (first | (with_reducible first | exact HB.out | apply below_alloc | apply pw_below_drewN | apply below_drew1 | refine below_set ?_ GE159.out) | exact HB.out)⟩⟩
        · rw [if_neg c5] at H
          exact absurd H (by simp)
      · rw [if_neg c4] at H
        have c4b0 : decide (x7_1 < (l2.length : Int)) = false := decide_eq_false c4
        clear c4
        obtain rfl := Option.some.inj H
        go_wp2
        go_ret
        exact ⟨by first | rfl | (simp [errW_none, errW_some] <;> rfl) | (simp [*, errW_none, errW_some] <;> rfl), by repeat (first | (with_reducible first | exact HB.out | apply below_alloc | apply pw_below_drewN | apply below_drew1) | exact HB.out)⟩

end Go.Proofs.YtfcdohaimdodgaaDoor.PFrag
