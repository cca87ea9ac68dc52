/-
  check.Frag by what the document says.
-/
import Derived.Test.YtfcdohaimdodgaaDoorFrag
import Derived.Shelf.AbstractIn
namespace Go.Proofs.YtfcdohaimdodgaaDoor
open Go.RowKit Go.Shelf
attribute [local go_sem] Oper.semAt_some
set_option linter.unusedVariables false

/-- what the seven questions answer -/
def isOf (a : Ask) (xs : List GN) (its : List It) : Nat → Bool
  | 0 => !rightB (itemOf its)
  | 1 => wideN a.c (itemOf its)
  | 2 => twiceN (itemOf its)
  | 3 => deepB a.c xs a.owner (itemOf its)
  | 4 => refersN xs a.owner (itemOf its)
  | 5 => decide (a.quota < if rightB (itemOf its) then totalZ (itemOf its) else totalW (itemOf its))
  | _ => overN xs a.owner (itemOf its)
theorem is_any (a : Ask) (xs : List GN) (its : List It) (Ba : Nat) (i : Fin 7) (W : World) (ha : AskAt W a xs its) (hB : AskBox W Ba a) :
    ∃ g fs cp, fvOf a Ba i = .func (.func g) fs cp ∧ (∀ args w, (callFunc g args).run Tryd.prog w = .ok (.enter g args) w) ∧ Calls Tryd.prog g (fs ++ #[] ++ cp) W fun e w' => e = .returned (.bool (isOf a xs its i)) ∧ Ext W w' := by
  match i with
  | 0 => exact ⟨_, _, _, rfl, enters_of Tryd.func53 (by kernel_rfl) rfl, all1_any a its Ba W ha.items hB⟩
  | 1 => exact ⟨_, _, _, rfl, enters_of Tryd.func54 (by kernel_rfl) rfl, wide_any a its W ha.items⟩
  | 2 => exact ⟨_, _, _, rfl, enters_of Tryd.func55 (by kernel_rfl) rfl, twice_any a its W ha.items⟩
  | 3 => exact ⟨_, _, _, rfl, enters_of Tryd.func56 (by kernel_rfl) rfl, deep20_any a xs its W ha⟩
  | 4 => exact ⟨_, _, _, rfl, enters_of Tryd.func57 (by kernel_rfl) rfl, refers_any a xs its W ha⟩
  | 5 =>
    refine ⟨_, _, _, rfl, enters_of Tryd.func58 (by kernel_rfl) rfl, ?_⟩
    cases hr : rightB (itemOf its) with
    | true =>
      have h := all2_any a its Ba W ha.items hB hr
      have e : isOf a xs its (5 : Fin 7) = decide (a.quota < totalZ (itemOf its)) := by change isOf a xs its 5 = _; simp [isOf, hr]
      rw [e]; exact h
    | false =>
      have h := all2W_any a its Ba W ha.items hB
      have e : isOf a xs its (5 : Fin 7) = decide (a.quota < totalW (itemOf its)) := by change isOf a xs its 5 = _; simp [isOf, hr]
      rw [e]; exact h
  | 6 => exact ⟨_, _, _, rfl, enters_of Tryd.func59 (by kernel_rfl) rfl, over_any a xs its W ha⟩
theorem fragE_hit (a : Ask) (xs : List GN) (its : List It) (k : Nat) (hk : k < 7) (hT : isOf a xs its k = true) (hF : ∀ j, j < k → isOf a xs its j = false) : fragE a.c xs a.owner a.quota (itemOf its) = errOf k := by
  have f0 := hF 0
  have f1 := hF 1
  have f2 := hF 2
  have f3 := hF 3
  have f4 := hF 4
  have f5 := hF 5
  clear hF
  unfold fragE
  match k, hk with
  | 0, _ => simp_all [isOf, errOf]
  | 1, _ => simp_all [isOf, errOf]
  | 2, _ => simp_all [isOf, errOf]
  | 3, _ => simp_all [isOf, errOf]
  | 4, _ => simp_all [isOf, errOf]
  | 5, _ => simp_all [isOf, errOf]; intro h; omega
  | 6, _ => simp_all [isOf, errOf]
theorem fragE_ok (a : Ask) (xs : List GN) (its : List It) (hF : ∀ j, j < 7 → isOf a xs its j = false) : fragE a.c xs a.owner a.quota (itemOf its) = 0 := by
  have f0 := hF 0 (by omega)
  have f1 := hF 1 (by omega)
  have f2 := hF 2 (by omega)
  have f3 := hF 3 (by omega)
  have f4 := hF 4 (by omega)
  have f5 := hF 5 (by omega)
  have f6 := hF 6 (by omega)
  clear hF
  unfold fragE
  simp_all [isOf]
theorem fin_take {x : Fin 7} {pre : List (Fin 7)} (h : pre ++ [x] = (List.finRange 7).take (pre ++ [x]).length) : x.val = pre.length ∧ pre = (List.finRange 7).take pre.length := by
  have hl : pre.length < 7 := by
    have := congrArg List.length h
    simp at this
    omega
  have h1 : pre = (List.finRange 7).take pre.length := by
    have := congrArg (List.take pre.length) h
    simpa [List.take_take] using this
  refine ⟨?_, h1⟩
  have h2 := congrArg (fun l => l[pre.length]?) h
  simp at h2
  rw [List.getElem?_eq_getElem (by simpa using hl)] at h2
  have := Option.some.inj h2
  rw [this]
  simp
set_option maxRecDepth 100000 in
set_option maxHeartbeats 2000000 in
theorem frag_any (a : Ask) (xs : List GN) (its : List It) (w : World) (ha : AskAt w a xs its) :
    Calls Tryd.prog 14 #[.agg #[.int .i64 a.c.quota, .int .i64 a.c.depth, .int .i64 a.c.width, .int .i64 a.c.retry, .int .i64 a.c.flows], .slice a.ns.p a.ns.n a.ns.c, .int .i64 a.owner, .int .i64 a.quota, .slice a.is.p a.is.n a.is.c] w fun e w' =>
      e = .returned (.int .i64 (fragE a.c xs a.owner a.quota (itemOf its))) ∧ Ext w w' := by
  obtain ⟨m, hm⟩ : ∃ m : Nat, 3 ≤ m := ⟨3, Nat.le_refl _⟩
  have h1 : 1 ≤ m := by omega
  have HA := hide (fun W => callsIn_wide (n := m - 1).2 (all_any a W))
  have HI := hide (fun (W : World) (hb : Ext w W) (Ba : Nat) (hB : AskBox W Ba a) (i : Fin 7) => is_any a xs its Ba i W (ha.below hb) hB)
  have HH := hide (fragE_hit a xs its)
  have HO := hide (fragE_ok a xs its)
  clear ha
  generalize hR : fragE a.c xs a.owner a.quota (itemOf its) = R at *
  clear hR
  have hF1 : Fence.wide.fn 29 := trivial
  dsimp only [Ask.cells] at *
  refine (callsIn_wide (n := m)).1 ?_
  refine callsIn_of_wp_marks Tryd.func14 rfl trivial ?_ rfl
  simp only [Tryd.ntmps14, List.size_toArray, List.length_cons, List.length_nil, Nat.reduceAdd, Nat.reduceSub, Array.replicate_succ, Array.replicate_zero, List.push_toArray, List.append_toArray, List.nil_append, List.cons_append]
  gi_wp2_with (gi_at_call 29; refine (HA.out _).mono ?_; rintro e w1 ⟨Ba, L, Bl, rfl, hrow, hcl, hbx, hext, hL, hBl⟩)
  have hs0 := cell_new_l (w.alloc (.cells #[.int .i64 a.c.quota, .int .i64 a.c.depth, .int .i64 a.c.width, .int .i64 a.c.retry, .int .i64 a.c.flows] 32)) (.int .i64 0) 37
  rw [World.size_alloc] at hs0
  simp only [World.size_alloc] at hL hBl
  have hr0 := (hext.cell (p := ⟨w.heap.size + 1, 0, none⟩) (by simp)).trans hs0.1
  have hr1 := (hext.frozen (p := ⟨w.heap.size + 1, 0, none⟩) (by simp)).trans hs0.2
  have hB0 : Ext w w1 := Ext.trans (by (repeat' (first | exact Below.refl _ _ | assumption | refine Ext.alloc ?_ _ | refine Ext.drew ?_ | refine Ext.trans ?_ (by assumption)))) hext
  clear hs0 hext
  have hlt1 := lt_of_cell hr0
  refine wpIn_rangeFunc_ownF rfl h1 (gf := 60) (lb := #[.pointer (some ⟨Bl, 0, none⟩)]) rfl trivial (enters_of Tryd.func60 (by kernel_rfl) rfl)
    (all3_stops (m - 1) (w.heap.size + 1) (w.heap.size + 2) Ba L Bl a w1 hrow hcl (.inr (by omega)) (by omega)) keeps_t (keeps_b (Nat.le_refl _)) (Below.refl _ _) (fun _ => rfl)
    (fun pre W => (W.cell? ⟨w.heap.size + 1, 0, none⟩ = some (.int .i64 0) ∧ W.frozen? ⟨w.heap.size + 1, 0, none⟩ = false ∧ AskBox W Ba a ∧ w1.heap.size ≤ W.heap.size ∧ (pre = (List.finRange 7).take pre.length → ∀ i ∈ pre, isOf a xs its (i : Fin 7) = false)) ∧ Ext w W)
    (fun c pre W => (c = .ret ∧ (∃ (q : List (Fin 7)) (i : Fin 7), pre = q ++ [i] ∧ W.cell? ⟨w.heap.size + 1, 0, none⟩ = some (.int .i64 (errOf i)) ∧ (pre = (List.finRange 7).take pre.length → isOf a xs its i = true ∧ ∀ j ∈ q, isOf a xs its (j : Fin 7) = false))) ∧ Ext w W)
    (OwnFrom.and (Own.from (fun s A B row hs hg hr => ⟨cell_kept hs.1 hg hr, (frozen_kept hs.1 hg hr).trans hs.2.1, fun j v hv => cell_kept (hs.2.2.1 j v hv) hg hr, Nat.le_trans hs.2.2.2.1 hg.size, hs.2.2.2.2⟩) _) (ownFrom_below (Nat.le_refl _) hB0.size))
    (fun c => OwnFrom.and (Own.from (fun s A B row hs hg hr => by
      obtain ⟨h1, q, i, h2, h3, h4⟩ := hs
      exact ⟨h1, q, i, h2, cell_kept h3 hg hr, h4⟩) _) (ownFrom_below (Nat.le_refl _) hB0.size))
    ⟨⟨hr0, hr1, hbx, Nat.le_refl _, fun _ i hi => by simp at hi⟩, hB0⟩
    ?a1 ?assign ?body ?done ?stop
  case assign =>
    intro l x W K hK
    gi_wp2
    exact hK
  case body =>
    rintro l pre x W ⟨⟨hc, hf, hbW, hsz, hpre⟩, hB⟩ hlt
    obtain ⟨g, fs, cp, hfv, eg, hcall⟩ := HI.out W hB Ba hbW x
    rw [hfv]
    have HC := hide hcall
    have hwlt := lt_of_cell hc
    clear hcall hfv
    have hFg : Fence.wide.fn g := trivial
    have h1b : 1 ≤ m - 1 - 1 := by omega
    cases hT : isOf a xs its (x : Fin 7) with
    | false =>
      rw [hT] at HC
      have HT2 := hide hT; clear hT
      have HPre := hide hpre; clear hpre
      gi_wp2_with (gi_at_fn g; refine (CallsIn.inRound l (callsIn_wide.2 HC.out)).mono ?_; rintro e w' ⟨rfl, hb⟩)
      have hko : KeepsOthers W w' := KeepsOthers.of_grownBy (gb_of_ext hb) (fun j o e => by cases e)
      refine ⟨hko, .of_below (Below.mono hb hsz), ⟨(hb.cell (p := ⟨w.heap.size + 1, 0, none⟩) hwlt).trans hc, (hb.frozen (p := ⟨w.heap.size + 1, 0, none⟩) hwlt).trans hf, hbW.below hb, Nat.le_trans hsz hb.size, fun he i hi => ?_⟩, hB.trans hb⟩
      rcases List.mem_append.1 hi with hi | hi
      · exact HPre.out (fin_take he).2 i hi
      · obtain rfl := List.mem_singleton.1 hi; exact HT2.out
    | true =>
      rw [hT] at HC
      have HT2 := hide hT; clear hT
      have HPre := hide hpre; clear hpre
      gi_wp2_with (gi_at_fn g; refine (CallsIn.inRound l (callsIn_wide.2 HC.out)).mono ?_; rintro e w' ⟨rfl, hb⟩; have hc2 := (hb.cell (p := ⟨w.heap.size + 1, 0, none⟩) hwlt).trans hc; have hf2 := (hb.frozen (p := ⟨w.heap.size + 1, 0, none⟩) hwlt).trans hf)
      have hko : KeepsOthers W w' := KeepsOthers.of_grownBy (gb_of_ext hb) (fun j o e => by cases e)
      refine ⟨hko.trans (KeepsOthers.setCell _ _ _), ⟨rfl, pre, x, rfl, World.cell?_setCell_same' _ _ _ (by rw [hc2]; rfl), fun he => ⟨HT2.out, HPre.out (fin_take he).2⟩⟩, Ext.setCell (hB.trans hb) (Nat.le_succ _) _⟩
  case done =>
    rintro D ys W hD rfl ⟨⟨hc, hf, hbW, hsz, hpre⟩, hB⟩ hK
    have hR0 : R = 0 := HO.out (fun j hj => hpre List.take_length.symm ⟨j, hj⟩ (by simp))
    have HR0 := hide hR0
    clear hR0 hpre
    gi_wp2
    have hK' := (KeepsOthers.setCell W ⟨w.heap.size + 1, 0, none⟩ (.int .i64 0)).same D _ hK rfl
    refine ⟨by simp, .inl ⟨_, _, rfl, run_takeDeferred hK', ?_⟩⟩
    have hc5 := cell_kept (World.cell?_setCell_same' W ⟨w.heap.size + 1, 0, none⟩ (.int .i64 0) (by rw [hc]; rfl)) (grownBy_putObj' _ D (.deferred none)) (fun r e => by cases e; exact ⟨_, hK', rfl⟩)
    refine ⟨.int .i64 0, ?_, by rw [HR0.out], Below.trans (Ext.setCell (p := ⟨w.heap.size + 1, 0, none⟩) hB (Nat.le_succ _) _) (belowK_b (w := w) (Nat.le_refl _) _ D _ _ (Nat.le_trans hB0.size hD) hK' rfl rfl)⟩
    simp [results, Tryd.f14, go_sem, hc5]
  case stop =>
    rintro D c pre W hD hpre ⟨⟨rfl, q, i, rfl, hc, hq⟩, hB⟩ hK
    have hpt : q ++ [i] = (List.finRange 7).take (q ++ [i]).length := List.prefix_iff_eq_take.1 hpre
    have hh := hq hpt
    have hft := fin_take hpt
    have hR0 : R = errOf i := HH.out i.val i.isLt hh.1 (fun j hj => by
      refine hh.2 ⟨j, by omega⟩ ?_
      have hjq : j < q.length := by have := hft.1; omega
      have hm := congrArg (fun l => l[j]?) hft.2
      simp only [List.getElem?_take, if_pos hjq] at hm
      exact List.mem_of_getElem? (hm.trans (by rw [List.getElem?_eq_getElem (by rw [List.length_finRange]; omega)]; simp)))
    have HR0 := hide hR0
    clear hR0 hh hq hft
    gi_wp2
    refine ⟨by simp, .inl ⟨_, _, rfl, run_takeDeferred hK, ?_⟩⟩
    have hc5 := cell_kept hc (grownBy_putObj' _ D (.deferred none)) (fun r e => by cases e; exact ⟨_, hK, rfl⟩)
    refine ⟨.int .i64 (errOf i), ?_, by rw [HR0.out], Below.trans hB (belowK_b (w := w) (Nat.le_refl _) W D _ _ (Nat.le_trans hB0.size hD) hK rfl rfl)⟩
    simp [results, Tryd.f14, go_sem, hc5]
end Go.Proofs.YtfcdohaimdodgaaDoor
