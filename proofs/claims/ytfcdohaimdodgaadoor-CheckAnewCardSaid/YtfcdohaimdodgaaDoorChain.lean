/-
  slices.AppendSeq, slices.Collect over scope.up: scope.Chain by what the document says.
-/
import Derived.Test.YtfcdohaimdodgaaDoorScopeb
import Derived.Maps.AppendAt
namespace Go.Proofs.YtfcdohaimdodgaaDoor
open Go.RowKit Go.Shelf
attribute [local go_sem] Oper.semAt_some
set_option linter.unusedVariables false

theorem infoInt : (Tryd.prog.info? 3).map (fun i => (i.zero, i.size, i.bytes)) = some (some (.int .i64 0), 1, 8) := by kernel_rfl
set_option maxRecDepth 100000 in
set_option maxHeartbeats 2000000 in
theorem appendSeq_up (B1 B2 : Nat) (p : Option Addr) (n c : Nat) (i : Nat) (xs : List GN) (w : World) (hs : NodesAt w ⟨p, n, c⟩ xs) (hr : RightN xs) (hil0 : i < xs.length) (hxl : xs.length ≤ 1000000)
    (hB1 : w.cell? ⟨B1, 0, none⟩ = some (.slice p n c)) (hB2 : w.cell? ⟨B2, 0, none⟩ = some (.int .i64 i)) :
    Calls Tryd.prog 69 #[.slice none 0 0, .func (.func 68) #[] #[.pointer (some ⟨B1, 0, none⟩), .pointer (some ⟨B2, 0, none⟩)]] w fun e w' => ∃ v, e = .returned v ∧ w'.ownsRow w.heap.size 3 1 v (chain xs i).length ((chain xs i).flatMap intCells) ∧ Ext w w' := by
  obtain ⟨m, hm⟩ : ∃ m : Nat, 3 ≤ m := ⟨3, Nat.le_refl _⟩
  have h1 : 1 ≤ m := by omega
  obtain ⟨i0, hi, hz0, hz1, hz2⟩ := info_parts infoInt
  have hcl := chain_len hr i
  have hb1 := lt_of_cell hB1
  have hlo : ∀ b o, p = some ⟨b, o, none⟩ → b < w.heap.size := hs.block_lt (by have := hs.len; omega)
  refine (callsIn_wide (n := m)).1 ?_
  refine callsIn_of_wp_marks Tryd.func69 rfl trivial ?_ rfl
  have hst2 : SeqStopsK Fence.wide (m - 1) Tryd.prog 68 #[.pointer (some ⟨B1, 0, none⟩), .pointer (some ⟨B2, 0, none⟩)] (fun x : Int => #[.int .i64 x]) (Below w.heap.size) (fun ys => ys = chain xs i) (fun ys => ys <+: chain xs i) (chain xs i).length w := by
    intro l J Jx W hW hJ hJx hY h0
    refine up1_stops (m - 1) w.heap.size w.heap.size B1 B2 p n c i xs w hs hr hil0 hlo (.inl hb1) hB1 hB2 (by omega) l J Jx W hW hJ hJx ?_ h0
    intro pre x W1 hj hl
    obtain ⟨fn, tmps, assign, body, hy, hR⟩ := hY pre x W1 hj hl
    exact ⟨fn, tmps, assign, body, hy, hR.mono fun e w' h => h.imp (fun ⟨a, b, c⟩ => ⟨a, b, .of_below c⟩) id⟩
  have HT := hide hst2; clear hst2
  clear hs hB1 hB2
  simp only [Tryd.ntmps69, List.size_toArray, List.length_cons, List.length_nil, Nat.reduceAdd, Nat.reduceSub, Array.replicate_succ, Array.replicate_zero, List.push_toArray, List.append_toArray, List.nil_append, List.cons_append]
  gi_wp2
  have bO := Boxed.new w 33 (.slice none 0 0)
  have hB0 : Ext w (w.alloc (.cells #[.slice none 0 0] 33)) := by (repeat' (first | exact Below.refl _ _ | assumption | refine Ext.alloc ?_ _ | refine Ext.drew ?_ | refine Ext.trans ?_ (by assumption)))
  refine wpIn_rangeFunc_ownG rfl h1 (gf := 68) (lb := #[.pointer (some ⟨B1, 0, none⟩), .pointer (some ⟨B2, 0, none⟩)]) rfl trivial enters_up1 HT.out belowK_t (belowK_b (by simp)) hB0 (fun _ => rfl)
    (fun pre W => (∃ v, Boxed W w.heap.size 33 v ∧ W.ownsRow w.heap.size 3 1 v pre.length (pre.flatMap intCells) ∧ True) ∧ Ext w W)
    (fun _ _ _ => False)
    (OwnFrom.and (Own.from (holdsRow_own w.heap.size w.heap.size 33 3 1 (fun pre : List Int => pre.length) (fun pre => pre.flatMap intCells) (fun pre v => True)) _) (ownFrom_below (Nat.le_refl _) (by simp)))
    (fun _ _ _ _ _ hs _ _ => hs)
    ⟨⟨_, bO, World.ownsRow_nil _ _ _ _, trivial⟩, hB0⟩
    ?a1 ?assign ?body ?done ?stop
  case assign =>
    intro l x W K hK
    gi_wp2
    exact hK
  case body =>
    rintro l pre x W ⟨⟨v, hv, hrow, -⟩, hB⟩ hlt
    have hc := hv.cell
    gi_wp2_with (gi_at_builtin; refine wpListIn_append_own _ rfl _ _ 33 rfl w.heap.size 3 i0 (.int .i64 0) 1 8 Tryd.underlying33 hi hz0 hz1 hz2 rfl (by decide) _ _ _ rfl (hrow.alloc _) ⟨W.heap.size, 0, none⟩ 1 1 [.int .i64 x] rfl rfl (cell_one_new _ _ _) (by simp [Value.oneCell']) (by unfold maxLen; omega) (by omega) (by have := hB.size; simp; omega) ?_; intro v' w1 hown' hgrow _; obtain ⟨g', cap', rfl⟩ := ownsRow_succ hown'; obtain ⟨hv1, hv2, hr2, hk2, hb2⟩ := hv.appended (by decide) hrow hB.size (Nat.le_refl _) hown' hgrow; have hc1 := hv1.cell; have hf1 := hv1.frozen)
    exact ⟨hk2.from _, hb2, ⟨_, hv2, by simpa [intCells] using hr2, trivial⟩, Below.trans hB hb2⟩
  case done =>
    rintro D ys W hD rfl ⟨⟨v, hv, hrow, -⟩, hB⟩ hK
    have hc := hv.cell
    gi_wp2
    refine ⟨by simp, .inl ⟨_, _, rfl, run_takeDeferred hK, ?_⟩⟩
    exact ⟨_, results_tmp rfl _ _ _, v, rfl, ownsRow_putObj hrow _ hK rfl, Below.trans hB (belowK_b (w := w) (Nat.le_refl _) W D _ _ (by simp at hD; omega) hK rfl rfl)⟩
  case stop =>
    rintro D c pre W _ _ h _
    exact h.elim
theorem collect_up (B1 B2 : Nat) (p : Option Addr) (n c : Nat) (i : Nat) (xs : List GN) (w : World) (hs : NodesAt w ⟨p, n, c⟩ xs) (hr : RightN xs) (hil0 : i < xs.length) (hxl : xs.length ≤ 1000000)
    (hB1 : w.cell? ⟨B1, 0, none⟩ = some (.slice p n c)) (hB2 : w.cell? ⟨B2, 0, none⟩ = some (.int .i64 i)) :
    Calls Tryd.prog 41 #[.func (.func 68) #[] #[.pointer (some ⟨B1, 0, none⟩), .pointer (some ⟨B2, 0, none⟩)]] w fun e w' => ∃ v, e = .returned v ∧ w'.ownsRow w.heap.size 3 1 v (chain xs i).length ((chain xs i).flatMap intCells) ∧ Ext w w' := by
  have H := hide (appendSeq_up B1 B2 p n c i xs w hs hr hil0 hxl hB1 hB2)
  clear hs hB1 hB2
  go_enter Tryd.func41, Tryd.ntmps41
  go_wp2_with (go_at_call 69; refine H.out.mono ?_; rintro e w' ⟨v, rfl, ho, hb⟩)
  go_ret
  exact ⟨v, rfl, ho, hb⟩
theorem chain_yes (p : Option Addr) (n c : Nat) (i : Nat) (xs : List GN) (w : World) (hs : NodesAt w ⟨p, n, c⟩ xs) (hr : RightN xs) (hil0 : i < xs.length) (hxl : xs.length ≤ 1000000) :
    Calls Tryd.prog 20 #[.slice p n c, .int .i64 i] w fun e w' => ∃ v, e = .returned v ∧ w'.ownsRow w.heap.size 3 1 v (chain xs i).length ((chain xs i).flatMap intCells) ∧ Ext w w' := by
  have hb0 := cell_new_l w (.slice p n c) 34
  have hb1 := cell_new_l (w.alloc (.cells #[.slice p n c] 34)) (.int .i64 i) 3
  simp only [World.size_alloc] at hb1
  have hB0 : Ext w ((w.alloc (.cells #[.slice p n c] 34)).alloc (.cells #[.int .i64 i] 3)) := by (repeat' (first | exact Below.refl _ _ | assumption | refine Ext.alloc ?_ _ | refine Ext.drew ?_ | refine Ext.trans ?_ (by assumption)))
  have H := hide (collect_up w.heap.size (w.heap.size + 1) p n c i xs _ (hs.below hB0) hr hil0 hxl (cell_alloc_l _ hb0.1) hb1.1)
  have HU := hide (up_any p n c i w)
  clear hs hb0 hb1 hB0
  go_enter Tryd.func20, Tryd.ntmps20
  go_wp2_with (first | (go_at_call 40; refine HU.out.mono ?_; rintro e w' ⟨rfl, rfl⟩) | (go_at_call 41; refine H.out.mono ?_; rintro e w' ⟨v, rfl, ho, hb⟩))
  go_ret
  exact ⟨v, rfl, owns_mono ho (by simp; omega), by (repeat' (first | exact Below.refl _ _ | assumption | refine Ext.alloc ?_ _ | refine Ext.drew ?_ | refine Ext.trans ?_ (by assumption)))⟩
end Go.Proofs.YtfcdohaimdodgaaDoor
