/-
  check: deep, refers, over by what the document says.
-/
import Derived.Test.YtfcdohaimdodgaaDoorTwice
import Derived.Deep.QuietTactic
import Derived.BigQuiet
namespace Go.Proofs.YtfcdohaimdodgaaDoor
open Go.RowKit Go.Shelf
set_option linter.unusedVariables false

theorem enters_isMap : ∀ args w, (callFunc 74 args).run Tryd.prog w = .ok (.enter 74 args) w := enters_of Tryd.func74 (by kernel_rfl) rfl
theorem deepN_bd (xs : List GN) (hr : RightN xs) (i : Int) : 0 ≤ deepN xs i ∧ deepN xs i ≤ xs.length := by
  unfold deepN
  split
  · rename_i h
    have := chain_len hr i.toNat
    omega
  · omega
set_option maxHeartbeats 1000000 in
theorem deep20_any (a : Ask) (xs : List GN) (its : List It) (w : World) (ha : AskAt w a xs its) :
    Calls Tryd.prog 56 #[.agg a.cells.toArray] w fun e w' => e = .returned (.bool (deepB a.c xs a.owner (itemOf its))) ∧ Ext w w' := by
  have hl := ha.items.rows.len
  have hD := hide (fun (W : World) (hb : Ext w W) => deep_any a.ns.p a.ns.n a.ns.c a.owner xs W (ha.nodes.below hb) ha.right)
  have hH := hide (fun (W : World) (hb : Ext w W) => has_any a its (fun x => isMapN x.d) 74 #[] #[] W enters_isMap (ha.items.below hb) (fun x _ W' _ => isMap_any x W'))
  have hdb := deepN_bd xs ha.right a.owner
  have hfew := ha.few
  have HR : Hid (deepB a.c xs a.owner (itemOf its) = ((decide (0 < a.is.n) && decide (a.c.depth < deepN xs a.owner + 1)) || ((its.any fun x => isMapN x.d) && decide (a.c.depth ≤ deepN xs a.owner + 1)))) := by
    apply hide; unfold deepB itemOf; rw [List.any_map, List.length_map, hl]; rfl
  clear ha hl
  obtain ⟨hdb0, hdb1⟩ := hdb
  have hdb2 : deepN xs a.owner ≤ 1000000 := by omega
  obtain ⟨⟨cq, cd, cw, cr, cf⟩, ⟨np, nn, nc⟩, owner, quota, ⟨ip, iN, ic⟩⟩ := a
  dsimp only [Ask.cells] at *
  generalize deepB _ xs owner (itemOf its) = R at *
  generalize (its.any fun x => isMapN x.d) = M at *
  generalize deepN xs owner = D at *
  go_enter Tryd.func56, Tryd.ntmps56
  go_wp2_with (first | (go_at_call 19; refine (hD.out _ (by (repeat' (first | exact Below.refl _ _ | assumption | refine Ext.alloc ?_ _ | refine Ext.drew ?_ | refine Ext.trans ?_ (by assumption))))).mono ?_; rintro e w' ⟨rfl, hb⟩; obtain ⟨hc, hf, hz⟩ := bcell hb; (try have zw0 := hz (w.heap.size) (by first | (simp; omega) | omega | (simp; done) | assumption)); (try have zw1 := hz (w.heap.size + 1) (by first | (simp; omega) | omega | (simp; done) | assumption)); (try have zw2 := hz (w.heap.size + 2) (by first | (simp; omega) | omega | (simp; done) | assumption)); (try have zr0 := hz (wr.heap.size) (by first | (simp; omega) | omega | (simp; done) | assumption)); (try have zr1 := hz (wr.heap.size + 1) (by first | (simp; omega) | omega | (simp; done) | assumption)); (try have zr2 := hz (wr.heap.size + 2) (by first | (simp; omega) | omega | (simp; done) | assumption)); (try have zB0 := hz (B) (by first | (simp; omega) | omega | (simp; done) | assumption)); clear hz) | (go_at_call 72; refine (hH.out _ (by (repeat' (first | exact Below.refl _ _ | assumption | refine Ext.alloc ?_ _ | refine Ext.drew ?_ | refine Ext.trans ?_ (by assumption))))).mono ?_; rintro e w' ⟨rfl, hb⟩; obtain ⟨hc, hf, hz⟩ := bcell hb; (try have zw0 := hz (w.heap.size) (by first | (simp; omega) | omega | (simp; done) | assumption)); (try have zw1 := hz (w.heap.size + 1) (by first | (simp; omega) | omega | (simp; done) | assumption)); (try have zw2 := hz (w.heap.size + 2) (by first | (simp; omega) | omega | (simp; done) | assumption)); (try have zr0 := hz (wr.heap.size) (by first | (simp; omega) | omega | (simp; done) | assumption)); (try have zr1 := hz (wr.heap.size + 1) (by first | (simp; omega) | omega | (simp; done) | assumption)); (try have zr2 := hz (wr.heap.size + 2) (by first | (simp; omega) | omega | (simp; done) | assumption)); (try have zB0 := hz (B) (by first | (simp; omega) | omega | (simp; done) | assumption)); clear hz))
  all_goals go_ret
  all_goals refine ⟨ret_bool ?_, by (repeat' (first | exact Below.refl _ _ | assumption | refine Ext.alloc ?_ _ | refine Ext.drew ?_ | refine Ext.trans ?_ (by assumption)))⟩
  all_goals (have hw := HR.out; clear HR hH hD; subst hw; go_light; grind)
end Go.Proofs.YtfcdohaimdodgaaDoor
