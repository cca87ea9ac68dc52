/-
  scope.Deep by what the document says.
-/
import Derived.Test.YtfcdohaimdodgaaDoorScope
namespace Go.Proofs.YtfcdohaimdodgaaDoor
open Go.RowKit Go.Shelf
attribute [local go_sem] Oper.semAt_some
set_option linter.unusedVariables false

theorem enters_up1 : ∀ args w, (callFunc 68 args).run Tryd.prog w = .ok (.enter 68 args) w := enters_of Tryd.func68 (by kernel_rfl) rfl

theorem deep_no (p : Option Addr) (n c : Nat) (i : Int) (w : World) (h : ¬ (0 ≤ i ∧ i < n)) : Calls Tryd.prog 19 #[.slice p n c, .int .i64 i] w fun e w' => e = .returned (.int .i64 0) ∧ Ext w w' := by
  have hp := fun W => sPlace_any p n c i W
  rw [show (decide (0 ≤ i) && decide (i < (n : Int))) = false by simp; omega] at hp
  clear h
  go_enter Tryd.func19, Tryd.ntmps19
  go_wp2_with (go_at_call 39; refine (hp _).mono ?_; rintro e w' ⟨rfl, rfl⟩)
  go_ret
  exact ⟨rfl, Ext.refl _⟩
set_option maxRecDepth 100000 in
set_option maxHeartbeats 400000 in
theorem deep_yes (p : Option Addr) (n c : Nat) (i : Nat) (xs : List GN) (w : World) (hs : NodesAt w ⟨p, n, c⟩ xs) (hr : RightN xs) (hi : i < n) : Calls Tryd.prog 19 #[.slice p n c, .int .i64 i] w fun e w' => e = .returned (.int .i64 (1 + (chain xs i).length)) ∧ Ext w w' := by
  have hlen := hs.len
  have hbig := hs.big
  have hcap := hs.cap
  dsimp only at hlen hbig hcap
  have hcl := chain_len hr i
  obtain ⟨m, hm⟩ : ∃ m : Nat, 3 ≤ m := ⟨3, Nat.le_refl _⟩
  have h1 : 1 ≤ m := by omega
  have hpl := fun W => callsIn_wide (n := m - 1).2 (sPlace_any p n c i W)
  rw [show (decide ((0 : Int) ≤ i) && decide ((i : Int) < n)) = true by simp; omega] at hpl
  have hup := fun W => callsIn_wide (n := m - 1).2 (up_any p n c i W)
  have hF1 : Fence.wide.fn 39 := trivial
  have hF2 : Fence.wide.fn 40 := trivial
  have hil : i < xs.length := by omega
  have HS := hide hs; clear hs
  have HL := hide hlen; clear hlen
  have HU := hide hup; clear hup
  have HP := hide hpl; clear hpl
  refine (callsIn_wide (n := m)).1 ?_
  refine callsIn_of_wp_marks Tryd.func19 rfl trivial ?_ rfl
  simp only [Tryd.ntmps19, List.size_toArray, List.length_cons, List.length_nil, Nat.reduceAdd, Nat.reduceSub, Array.replicate_succ, Array.replicate_zero, List.push_toArray, List.append_toArray, List.nil_append, List.cons_append]
  gi_wp2_with (first | (gi_at_call 39; refine (HP.out _).mono ?_; rintro e w' ⟨rfl, rfl⟩) | (gi_at_call 40; refine (HU.out _).mono ?_; rintro e w' ⟨rfl, rfl⟩))
  have hs0 := cell_new_l w (.int .i64 1) 3
  have hb0 := cell_new_l (w.alloc (.cells #[.int .i64 1] 3)) (.slice p n c) 34
  have hb1 := cell_new_l ((w.alloc (.cells #[.int .i64 1] 3)).alloc (.cells #[.slice p n c] 34)) (.int .i64 i) 3
  simp only [World.size_alloc] at hb0 hb1
  have hB0 : Ext w (((w.alloc (.cells #[.int .i64 1] 3)).alloc (.cells #[.slice p n c] 34)).alloc (.cells #[.int .i64 i] 3)) := by (repeat' (first | exact Below.refl _ _ | assumption | refine Ext.alloc ?_ _ | refine Ext.drew ?_ | refine Ext.trans ?_ (by assumption)))
  have hblk : ∀ b o, p = some ⟨b, o, none⟩ → b < w.heap.size := HS.out.block_lt (show 0 < n by omega)
  refine wpIn_rangeFunc_ownF rfl h1 (gf := 68) (lb := #[.pointer (some ⟨w.heap.size + 1, 0, none⟩), .pointer (some ⟨w.heap.size + 1 + 1, 0, none⟩)]) rfl trivial enters_up1
    (up1_stops (m - 1) w.heap.size (w.heap.size + 1) (w.heap.size + 1) (w.heap.size + 1 + 1) p n c i xs _ (HS.out.below hB0) hr hil hblk (.inr (Nat.le_refl _)) (cell_alloc_l _ hb0.1) hb1.1 (by omega)) keeps_t (keeps_b (Nat.le_refl _)) (Below.refl _ _) (fun _ => rfl)
    (fun pre W => (W.cell? ⟨w.heap.size, 0, none⟩ = some (.int .i64 (1 + pre.length)) ∧ W.frozen? ⟨w.heap.size, 0, none⟩ = false) ∧ Ext w W)
    (fun _ _ _ => False)
    (OwnFrom.and (Own.from (fun s A B row hs hg hr => ⟨cell_kept hs.1 hg hr, (frozen_kept hs.1 hg hr).trans hs.2⟩) _) (ownFrom_below (Nat.le_refl _) (by simp; omega)))
    (fun _ _ _ _ _ hs _ _ => hs)
    ⟨⟨by simpa using cell_alloc_l _ (cell_alloc_l _ hs0.1), frozen_alloc_l _ (cell_alloc_l _ hs0.1) (frozen_alloc_l _ hs0.1 hs0.2)⟩, hB0⟩
    ?a1 ?assign ?body ?done ?stop
  case assign =>
    intro l x W K hK
    gi_wp2
    exact hK
  case body =>
    rintro l pre x W ⟨⟨hc, hf⟩, hB⟩ hlt
    have hlt2 : (pre.length : Int) + 2 ≤ n := by omega
    gi_wp2
    exact ⟨KeepsOthers.setCell _ _ _, Keeps.setCell _ _ _ _ (Nat.le_refl _) (Nat.lt_succ_self _), ⟨by rw [show (1 + (((pre ++ [x]).length : Nat) : Int)) = 1 + (pre.length : Int) + 1 by simp; omega]; exact World.cell?_setCell_same' _ _ _ (by rw [hc]; rfl), by rw [World.frozen?_setCell]; exact hf⟩, hB.setCell (p := ⟨w.heap.size, 0, none⟩) (Nat.le_refl _) _⟩
  case done =>
    rintro D ys W hD rfl ⟨⟨hc, _⟩, hB⟩ hK
    gi_wp2
    refine ⟨by simp, .inl ⟨_, _, rfl, run_takeDeferred hK, ?_⟩⟩
    exact ⟨_, results_tmp rfl _ _ _, rfl, Below.trans hB (belowK_b (w := w) (Nat.le_refl _) W D _ _ (by simp at hD; omega) hK rfl rfl)⟩
  case stop =>
    rintro D c pre W _ _ h _
    exact h.elim
theorem deep_any (p : Option Addr) (n c : Nat) (i : Int) (xs : List GN) (w : World) (hs : NodesAt w ⟨p, n, c⟩ xs) (hr : RightN xs) : Calls Tryd.prog 19 #[.slice p n c, .int .i64 i] w fun e w' => e = .returned (.int .i64 (deepN xs i)) ∧ Ext w w' := by
  have hl : n = xs.length := hs.len
  by_cases h : 0 ≤ i ∧ i < n
  · obtain ⟨k, rfl⟩ := Int.eq_ofNat_of_zero_le h.1
    refine (deep_yes p n c k xs w hs hr (by omega)).mono ?_
    rintro e w' ⟨rfl, hb⟩
    refine ⟨ret_int ?_, hb⟩
    unfold deepN
    rw [if_pos (by omega)]
    simp
  · refine (deep_no p n c i w h).mono ?_
    rintro e w' ⟨rfl, hb⟩
    refine ⟨ret_int ?_, hb⟩
    unfold deepN
    rw [if_neg (by omega)]
end Go.Proofs.YtfcdohaimdodgaaDoor
