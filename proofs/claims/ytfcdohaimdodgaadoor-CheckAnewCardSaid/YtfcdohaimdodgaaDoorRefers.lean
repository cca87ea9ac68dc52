/-
  check: refers, over by what the document says.
-/
import Derived.Test.YtfcdohaimdodgaaDoorDeep20
namespace Go.Proofs.YtfcdohaimdodgaaDoor
open Go.RowKit Go.Shelf
set_option linter.unusedVariables false

theorem enters_aLost : ∀ args w, (callFunc 77 args).run Tryd.prog w = .ok (.enter 77 args) w := enters_of Tryd.func77 (by kernel_rfl) rfl
theorem enters_aRefers1 : ∀ args w, (callFunc 76 args).run Tryd.prog w = .ok (.enter 76 args) w := enters_of Tryd.func76 (by kernel_rfl) rfl
def refersItem (xs : List GN) (owner : Int) (items : List Item) (x : Item) : Bool := x.names.any (lostN xs owner items) || (isMapN x && lostN xs owner items x.ov)
set_option maxHeartbeats 1000000 in
theorem refers1_any (a : Ask) (xs : List GN) (its : List It) (x : It) (B : Nat) (w : World) (ha : AskAt w a xs its) (hx : x.ok w) (hB : AskBox w B a) :
    Calls Tryd.prog 76 #[.agg #[.string x.d.nm, .int .u8 x.d.k, .slice x.af.p x.af.n x.af.c, .string x.d.ov, .int .i64 x.d.wd, .int .i64 x.d.q], .pointer (some ⟨B, 0, none⟩)] w fun e w' =>
      e = .returned (.bool (refersItem xs a.owner (itemOf its) x.d)) ∧ Ext w w' := by
  have hlt := hB.lt
  have hne : B ≠ w.heap.size := by omega
  have hC := hide (fun (W : World) (hb : Ext w W) => contStr_any x.af.p x.af.n x.af.c x.d.names (lostN xs a.owner (itemOf its)) 77 #[.agg a.cells.toArray] #[] W enters_aLost (RowsAt.below hx hb) (fun s _ W' hb' => lost_any a xs its s W' (ha.below (hb.trans hb'))))
  have hL := hide (fun (W : World) (hb : Ext w W) => lost_any a xs its x.d.ov W (ha.below hb))
  have hm := fun W => isMap_any x W
  change ∀ W, Calls _ _ _ _ (fun e w' => e = .returned (.bool (isMapN x.d)) ∧ Ext W w') at hm
  have HM := hide hm; clear hm
  have HR : Hid (refersItem xs a.owner (itemOf its) x.d = (x.d.names.any (lostN xs a.owner (itemOf its)) || (isMapN x.d && lostN xs a.owner (itemOf its) x.d.ov))) := hide rfl
  clear ha hx
  obtain ⟨b0, b1, b2, b3, b4, b5, b6, b7, b8⟩ := hB.all
  clear hB
  obtain ⟨⟨cq, cd, cw, cr, cf⟩, ⟨np, nn, nc⟩, owner, quota, ⟨ip, iN, ic⟩⟩ := a
  dsimp only [Ask.cells] at *
  generalize refersItem xs owner (itemOf its) x.d = R at *
  generalize x.d.names.any (lostN xs owner (itemOf its)) = R1 at *
  generalize lostN xs owner (itemOf its) x.d.ov = R2 at *
  generalize isMapN x.d = M at *
  go_enter Tryd.func76, Tryd.ntmps76
  go_wp2_with (first | (go_at_call 50; refine (hC.out _ (by (repeat' (first | exact Below.refl _ _ | assumption | refine Ext.alloc ?_ _ | refine Ext.drew ?_ | refine Ext.trans ?_ (by assumption))))).mono ?_; rintro e w' ⟨rfl, hb⟩; obtain ⟨hc, hf, hz⟩ := bcell hb; (try have zw0 := hz (w.heap.size) (by first | (simp; omega) | omega | (simp; done) | assumption)); (try have zw1 := hz (w.heap.size + 1) (by first | (simp; omega) | omega | (simp; done) | assumption)); (try have zw2 := hz (w.heap.size + 2) (by first | (simp; omega) | omega | (simp; done) | assumption)); (try have zr0 := hz (wr.heap.size) (by first | (simp; omega) | omega | (simp; done) | assumption)); (try have zr1 := hz (wr.heap.size + 1) (by first | (simp; omega) | omega | (simp; done) | assumption)); (try have zr2 := hz (wr.heap.size + 2) (by first | (simp; omega) | omega | (simp; done) | assumption)); (try have zB0 := hz (B) (by first | (simp; omega) | omega | (simp; done) | assumption)); clear hz) | (go_at_call 74; refine (HM.out _).mono ?_; rintro e w' ⟨rfl, hb⟩; obtain ⟨hc, hf, hz⟩ := bcell hb; (try have zw0 := hz (w.heap.size) (by first | (simp; omega) | omega | (simp; done) | assumption)); (try have zw1 := hz (w.heap.size + 1) (by first | (simp; omega) | omega | (simp; done) | assumption)); (try have zw2 := hz (w.heap.size + 2) (by first | (simp; omega) | omega | (simp; done) | assumption)); (try have zr0 := hz (wr.heap.size) (by first | (simp; omega) | omega | (simp; done) | assumption)); (try have zr1 := hz (wr.heap.size + 1) (by first | (simp; omega) | omega | (simp; done) | assumption)); (try have zr2 := hz (wr.heap.size + 2) (by first | (simp; omega) | omega | (simp; done) | assumption)); (try have zB0 := hz (B) (by first | (simp; omega) | omega | (simp; done) | assumption)); clear hz) | (go_at_call 77; refine (hL.out _ (by (repeat' (first | exact Below.refl _ _ | assumption | refine Ext.alloc ?_ _ | refine Ext.drew ?_ | refine Ext.trans ?_ (by assumption))))).mono ?_; rintro e w' ⟨rfl, hb⟩; obtain ⟨hc, hf, hz⟩ := bcell hb; (try have zw0 := hz (w.heap.size) (by first | (simp; omega) | omega | (simp; done) | assumption)); (try have zw1 := hz (w.heap.size + 1) (by first | (simp; omega) | omega | (simp; done) | assumption)); (try have zw2 := hz (w.heap.size + 2) (by first | (simp; omega) | omega | (simp; done) | assumption)); (try have zr0 := hz (wr.heap.size) (by first | (simp; omega) | omega | (simp; done) | assumption)); (try have zr1 := hz (wr.heap.size + 1) (by first | (simp; omega) | omega | (simp; done) | assumption)); (try have zr2 := hz (wr.heap.size + 2) (by first | (simp; omega) | omega | (simp; done) | assumption)); (try have zB0 := hz (B) (by first | (simp; omega) | omega | (simp; done) | assumption)); clear hz))
  all_goals go_ret
  all_goals refine ⟨ret_bool ?_, by (repeat' (first | exact Below.refl _ _ | assumption | refine Ext.alloc ?_ _ | refine Ext.drew ?_ | refine Ext.trans ?_ (by assumption)))⟩
  all_goals (have hw := HR.out; clear HR hC hL HM; subst hw; go_light; grind)
theorem refers_any (a : Ask) (xs : List GN) (its : List It) (w : World) (ha : AskAt w a xs its) :
    Calls Tryd.prog 57 #[.agg a.cells.toArray] w fun e w' => e = .returned (.bool (refersN xs a.owner (itemOf its))) ∧ Ext w w' := by
  have HR : Hid (refersN xs a.owner (itemOf its) = its.any fun x => refersItem xs a.owner (itemOf its) x.d) := by
    apply hide; unfold refersN
    conv => lhs; arg 1; unfold itemOf
    rw [List.any_map]; rfl
  have H := hide (fun (W : World) (hb : Ext w W) (hB : AskBox W w.heap.size a) => has_any a its (fun x => refersItem xs a.owner (itemOf its) x.d) 76 #[] #[.pointer (some ⟨w.heap.size, 0, none⟩)] W enters_aRefers1 (ha.items.below hb) (fun x hx W' hb' => refers1_any a xs its x w.heap.size W' (ha.below (hb.trans hb')) ((ha.items.ok x hx).below (hb.trans hb')) (hB.below hb')))
  have hB := hide (AskBox.new w a 67)
  clear ha
  obtain ⟨⟨cq, cd, cw, cr, cf⟩, ⟨np, nn, nc⟩, owner, quota, ⟨ip, iN, ic⟩⟩ := a
  dsimp only [Ask.cells] at *
  rw [HR.out]; clear HR
  generalize (its.any fun x => refersItem xs owner (itemOf its) x.d) = A at *
  go_enter Tryd.func57, Tryd.ntmps57
  go_wp2_with (go_at_call 72; refine (H.out _ (by (repeat' (first | exact Below.refl _ _ | assumption | refine Ext.alloc ?_ _ | refine Ext.drew ?_ | refine Ext.trans ?_ (by assumption)))) hB.out).mono ?_; rintro e w' ⟨rfl, hb⟩; obtain ⟨hc, hf, hz⟩ := bcell hb; (try have zw0 := hz (w.heap.size) (by first | (simp; omega) | omega | (simp; done) | assumption)); (try have zw1 := hz (w.heap.size + 1) (by first | (simp; omega) | omega | (simp; done) | assumption)); (try have zw2 := hz (w.heap.size + 2) (by first | (simp; omega) | omega | (simp; done) | assumption)); (try have zr0 := hz (wr.heap.size) (by first | (simp; omega) | omega | (simp; done) | assumption)); (try have zr1 := hz (wr.heap.size + 1) (by first | (simp; omega) | omega | (simp; done) | assumption)); (try have zr2 := hz (wr.heap.size + 2) (by first | (simp; omega) | omega | (simp; done) | assumption)); (try have zB0 := hz (B) (by first | (simp; omega) | omega | (simp; done) | assumption)); clear hz)
  go_ret
  exact ⟨rfl, by (repeat' (first | exact Below.refl _ _ | assumption | refine Ext.alloc ?_ _ | refine Ext.drew ?_ | refine Ext.trans ?_ (by assumption)))⟩
end Go.Proofs.YtfcdohaimdodgaaDoor
