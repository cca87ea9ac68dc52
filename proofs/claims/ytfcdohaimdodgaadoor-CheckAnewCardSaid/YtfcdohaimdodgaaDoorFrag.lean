/-
  check.Frag by what the document says.
-/
import Derived.Test.YtfcdohaimdodgaaDoorAll
import Derived.Laws.EntriesVeiled
namespace Go.Proofs.YtfcdohaimdodgaaDoor
open Go.RowKit Go.Shelf
attribute [local go_sem] Oper.semAt_some
set_option linter.unusedVariables false

def errOf : Nat → Int
  | 0 => 2 | 1 => 24 | 2 => 20 | 3 => 23 | 4 => 21 | 5 => 22 | _ => 24
def fvOf (a : Ask) (Ba : Nat) : Nat → Value
  | 0 => .func (.func 53) #[] #[.pointer (some ⟨Ba, 0, none⟩)]
  | 1 => .func (.func 54) #[.agg a.cells.toArray] #[]
  | 2 => .func (.func 55) #[.agg a.cells.toArray] #[]
  | 3 => .func (.func 56) #[.agg a.cells.toArray] #[]
  | 4 => .func (.func 57) #[.agg a.cells.toArray] #[]
  | 5 => .func (.func 58) #[] #[.pointer (some ⟨Ba, 0, none⟩)]
  | _ => .func (.func 59) #[.agg a.cells.toArray] #[]
def pairCells (a : Ask) (Ba : Nat) (i : Fin 7) : List Value := [.int .i64 (errOf i), fvOf a Ba i]
theorem pairCells_len (a : Ask) (Ba : Nat) (i : Fin 7) : (pairCells a Ba i).length = 2 := rfl
theorem cell_new_row (W : World) (arr : Array Value) (t : TypeId) (j : Nat) (v : Value) (h : arr[j]? = some v) : (W.alloc (.cells arr t)).cell? ⟨W.heap.size, j, none⟩ = some v := by
  simp only [World.cell?, World.alloc_heap_new W _]
  simpa using h
def AllPost (a : Ask) (w : World) (e : Ending) (w' : World) : Prop :=
  ∃ Ba L Bl, e = .returned (.func (.func 60) #[] #[.pointer (some ⟨Bl, 0, none⟩)]) ∧ RowsAt 2 (pairCells a Ba) w' ⟨some ⟨L, 0, none⟩, 7, 7⟩ (List.finRange 7) ∧ w'.cell? ⟨Bl, 0, none⟩ = some (.slice (some ⟨L, 0, none⟩) 7 7) ∧ AskBox w' Ba a ∧ Ext w w' ∧ w.heap.size ≤ L ∧ w.heap.size ≤ Bl
set_option maxHeartbeats 400000 in
theorem all_any (a : Ask) (w : World) : Calls Tryd.prog 29 #[.agg a.cells.toArray] w (AllPost a w) := by
  have hB := AskBox.new w a 67
  have HB := hide hB; clear hB
  have HP : Hid (∀ i, pairCells a w.heap.size i = pairCells a w.heap.size i) := hide (fun _ => rfl)
  have hrow : Hid (∀ W : World, RowsAt 2 (pairCells a w.heap.size) (W.alloc (.cells #[.int .i64 2, fvOf a w.heap.size 0, .int .i64 24, fvOf a w.heap.size 1, .int .i64 20, fvOf a w.heap.size 2, .int .i64 23, fvOf a w.heap.size 3, .int .i64 21, fvOf a w.heap.size 4, .int .i64 22, fvOf a w.heap.size 5, .int .i64 24, fvOf a w.heap.size 6] 85)) ⟨some ⟨W.heap.size, 0, none⟩, 7, 7⟩ (List.finRange 7)) := by
    apply hide
    intro W
    refine ⟨by simp, Nat.le_refl _, by simp, fun k x hx => ⟨W.heap.size, 0, rfl, by simp, fun j v hv => cell_new_row _ _ _ _ _ ?_⟩⟩
    have hk : k < 7 := by
      rcases Nat.lt_or_ge k 7 with h | h
      · exact h
      · rw [List.getElem?_eq_none (by simpa using h)] at hx; cases hx
    have hj : j < 2 := by
      rcases Nat.lt_or_ge j 2 with h | h
      · exact h
      · rw [List.getElem?_eq_none (by rw [pairCells_len]; exact h)] at hv; cases hv
    have hx2 : x = ⟨k, hk⟩ := by
      rw [List.getElem?_eq_getElem (by simpa using hk)] at hx
      simpa using (Option.some.inj hx).symm
    subst hx2
    have key : ∀ k : Fin 7, ∀ j : Fin 2, (pairCells a w.heap.size k)[j.val]? = #[Value.int .i64 2, fvOf a w.heap.size 0, .int .i64 24, fvOf a w.heap.size 1, .int .i64 20, fvOf a w.heap.size 2, .int .i64 23, fvOf a w.heap.size 3, .int .i64 21, fvOf a w.heap.size 4, .int .i64 22, fvOf a w.heap.size 5, .int .i64 24, fvOf a w.heap.size 6][0 + k.val * 2 + j.val]? := by
      intro k j
      match k, j with
      | 0, 0 => rfl | 0, 1 => rfl | 1, 0 => rfl | 1, 1 => rfl | 2, 0 => rfl | 2, 1 => rfl | 3, 0 => rfl | 3, 1 => rfl | 4, 0 => rfl | 4, 1 => rfl | 5, 0 => rfl | 5, 1 => rfl | 6, 0 => rfl | 6, 1 => rfl
    exact (key ⟨k, hk⟩ ⟨j, hj⟩).symm.trans hv
  obtain ⟨⟨cq, cd, cw, cr, cf⟩, ⟨np, nn, nc⟩, owner, quota, ⟨ip, iN, ic⟩⟩ := a
  dsimp only [Ask.cells, fvOf] at *
  go_enter Tryd.func29, Tryd.ntmps29
  go_wp2_with fail
  go_ret
  have h1 : ∀ (W : World) (v : Value) (t : TypeId), W.heap.size = w.heap.size + 2 → (W.alloc (.cells #[v] t)).cell? ⟨w.heap.size + 2, 0, none⟩ = some v := fun W v t h => by rw [← h]; exact (cell_new_l W v t).1
  refine ⟨w.heap.size, w.heap.size + 1, w.heap.size + 2, rfl, ?_, ?_, ?_, by (repeat' (first | exact Below.refl _ _ | assumption | refine Ext.alloc ?_ _ | refine Ext.drew ?_ | refine Ext.trans ?_ (by assumption))), by omega, by omega⟩
  · have := hrow.out (w.alloc (.cells #[.int .i64 cq, .int .i64 cd, .int .i64 cw, .int .i64 cr, .int .i64 cf, .slice np nn nc, .int .i64 owner, .int .i64 quota, .slice ip iN ic] 67))
    rw [World.size_alloc] at this
    exact this.below (by (repeat' (first | exact Below.refl _ _ | assumption | refine Ext.alloc ?_ _ | refine Ext.drew ?_ | refine Ext.trans ?_ (by assumption))))
  · exact h1 _ _ _ (by simp)
  · exact AskBox.below HB.out (by (repeat' (first | exact Below.refl _ _ | assumption | refine Ext.alloc ?_ _ | refine Ext.drew ?_ | refine Ext.trans ?_ (by assumption))))
theorem fvOf_func (a : Ask) (Ba : Nat) (i : Nat) : ∃ g fs cp, fvOf a Ba i = .func (.func g) fs cp := by
  unfold fvOf
  split <;> exact ⟨_, _, _, rfl⟩
set_option maxHeartbeats 1000000 in
theorem all3_stops (m lo hi Ba L Bl : Nat) (a : Ask) (w : World) (hs : RowsAt 2 (pairCells a Ba) w ⟨some ⟨L, 0, none⟩, 7, 7⟩ (List.finRange 7)) (hBl : w.cell? ⟨Bl, 0, none⟩ = some (.slice (some ⟨L, 0, none⟩) 7 7)) (hL : L < lo ∨ hi ≤ L) (hm : 1 ≤ m) :
    SeqStopsK Fence.wide m Tryd.prog 60 #[.pointer (some ⟨Bl, 0, none⟩)] (fun i : Fin 7 => #[.int .i64 (errOf i), fvOf a Ba i]) (Keeps lo hi w.heap.size) (fun ys => ys = List.finRange 7) (fun ys => ys <+: List.finRange 7) 7 w := by
  intro l J Jx W hW hJ hJx hY h0
  have hLt : L < w.heap.size := hs.block_lt (by show 0 < 7; decide) L 0 rfl
  have kO : ∀ (W' : World) (k : Nat) (x : Fin 7), Keeps lo hi w.heap.size w W' → (List.finRange 7)[k]? = some x → W'.cell? ⟨L, k * 2, none⟩ = some (.int .i64 (errOf x)) ∧ W'.cell? ⟨L, k * 2 + 1, none⟩ = some (fvOf a Ba x) := fun W' k x h hx => by
    obtain ⟨b', o', hp', hlt', hc'⟩ := hs.at_ k x hx
    obtain ⟨rfl, rfl⟩ : L = b' ∧ 0 = o' := by simpa using hp'
    have e0 := hc' 0 _ rfl
    have e1 := hc' 1 _ rfl
    simp only [Nat.zero_add, Nat.add_zero] at e0 e1
    exact ⟨(h.cell hLt hL).trans e0, (h.cell hLt hL).trans e1⟩
  have KO := hide kO; clear kO
  have c1 := (hW.cell (p := ⟨Bl, 0, none⟩) (lt_of_cell hBl)).trans hBl
  clear hs hBl
  refine callsIn_of_wp Tryd.func60 rfl trivial ?_ rfl
  simp only [Tryd.ntmps60, List.size_toArray, List.length_cons, List.length_nil, Nat.reduceAdd, Nat.reduceSub, Array.replicate_succ, Array.replicate_zero, List.push_toArray, List.append_toArray, List.nil_append, List.cons_append]
  gi_wp2
  gi_loopw [7] (fun s7 wr => ∃ k : Nat, k ≤ 7 ∧ s7 = .int .i64 k ∧ J ((List.finRange 7).take k) wr ∧ Aside (Keeps lo hi w.heap.size w wr)) (fun s7 _ => 7 - (intOf s7).toNat)
  case atStart => exact ⟨0, by omega, rfl, h0, (Keeps.of_below hW : Keeps lo hi w.heap.size w W)⟩
  case round =>
    obtain ⟨k, hk, rfl, hJs, HB⟩ := hrel
    by_cases hlt : k < 7
    · obtain ⟨x, hx⟩ := getElem?_of_lt (xs := List.finRange 7) (k := k) (by simpa using hlt)
      have HT := hide (take_snoc hx)
      have HPre : Hid ((List.finRange 7).take (k + 1) <+: List.finRange 7) := hide (List.take_prefix _ _)
      obtain ⟨d0, d1⟩ := KO.out wr k x HB.out hx
      have HF := fvOf_func a Ba x
      obtain ⟨g, fs, cp, hfv⟩ := HF
      have HY := hide (fun (W : World) (h : J ((List.finRange 7).take k) W) => hY _ x W h (by simp; omega))
      rw [hfv] at d1 HY
      clear hx hfv hY
      have hltz : (k : Int) < 7 := by omega
      generalize errOf x = er at *
      have hJa : ∀ o, J ((List.finRange 7).take k) (wr.alloc o) := fun o => hJ _ _ _ none hJs (World.grownBy_alloc wr o none) (fun r e => by cases e)
      obtain ⟨fn, tmps, assign, body, hy, hR⟩ := HY.out _ (hJa (.cells #[.int .i64 er, .func (.func g) fs cp] 85))
      clear HY hJa
      gi_wp2
      refine hR.mono ?_
      rintro e W3 (⟨rfl, hJ3, hk3⟩ | ⟨rfl, hJx3⟩)
      · gi_wp2
        go_roundw
        case rel => exact ⟨k + 1, by omega, by go_num, by rw [HT.out]; exact hJ3, Keeps.trans (HB.out.trans (.of_below ((Ext.alloc (Ext.refl wr) _).mono HB.out.size))) hk3⟩
        case measure => simp [intOf]; omega
      · gi_wp2
        refine bodyPost_ret (results_none rfl _ _ _) rfl ?_
        exact ⟨⟨_, rfl⟩, .inr ⟨_, HPre.out, by rw [HT.out]; exact hJx3⟩⟩
    · have hk7 : k = 7 := by omega
      subst hk7
      gi_wp2
      go_end0
      exact ⟨⟨_, rfl⟩, .inl ⟨_, rfl, by have := hJs; rwa [List.take_of_length_le (by simp)] at this⟩⟩
end Go.Proofs.YtfcdohaimdodgaaDoor
