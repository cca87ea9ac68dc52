/-
  check: has, wide, deep, refers, over by what the document says.
-/
import Derived.Test.YtfcdohaimdodgaaDoorRefs
namespace Go.Proofs.YtfcdohaimdodgaaDoor
open Go.RowKit Go.Shelf
set_option linter.unusedVariables false

theorem PredOn.below {α : Type} {P : Program} {g : Nat} {fst cap : Array Value} {enc : α → Value} {xs : List α} {p : α → Bool} {w w' : World} (h : PredOn P g fst cap enc xs p w) (hb : Ext w w') : PredOn P g fst cap enc xs p w' :=
  fun x hx W hW => h x hx W (hb.trans hW)
theorem has_any (a : Ask) (its : List It) (p : It → Bool) (g : Nat) (fst cap : Array Value) (w : World) (eg : ∀ args w, (callFunc g args).run Tryd.prog w = .ok (.enter g args) w)
    (hi : ItemsAt w a.is its) (hp : PredOn Tryd.prog g fst cap It.enc its p w) :
    Calls Tryd.prog 72 #[.agg a.cells.toArray, .func (.func g) fst cap] w fun e w' => e = .returned (.bool (its.any p)) ∧ Ext w w' := by
  have H := hide (fun (W : World) (hb : Ext w W) => contIt_any a.is.p a.is.n a.is.c its p g fst cap W eg (hi.below hb).rows (hp.below hb))
  clear hi hp eg
  generalize its.any p = R at *
  simp only [Ask.cells] at *
  go_enter Tryd.func72, Tryd.ntmps72
  go_wp2_with (go_at_call 25; refine (H.out _ (by (repeat' (first | exact Below.refl _ _ | assumption | refine Ext.alloc ?_ _ | refine Ext.drew ?_ | refine Ext.trans ?_ (by assumption))))).mono ?_; rintro e w' ⟨rfl, hb⟩; obtain ⟨hc, hf, hz⟩ := bcell hb; (try have zw0 := hz (w.heap.size) (by first | (simp; omega) | omega | (simp; done) | assumption)); (try have zw1 := hz (w.heap.size + 1) (by first | (simp; omega) | omega | (simp; done) | assumption)); (try have zw2 := hz (w.heap.size + 2) (by first | (simp; omega) | omega | (simp; done) | assumption)); (try have zr0 := hz (wr.heap.size) (by first | (simp; omega) | omega | (simp; done) | assumption)); (try have zr1 := hz (wr.heap.size + 1) (by first | (simp; omega) | omega | (simp; done) | assumption)); (try have zr2 := hz (wr.heap.size + 2) (by first | (simp; omega) | omega | (simp; done) | assumption)); (try have zB0 := hz (B) (by first | (simp; omega) | omega | (simp; done) | assumption)); clear hz)
  go_ret
  exact ⟨rfl, by (repeat' (first | exact Below.refl _ _ | assumption | refine Ext.alloc ?_ _ | refine Ext.drew ?_ | refine Ext.trans ?_ (by assumption)))⟩

/-- what is asked lies in a block of one's own -/
def AskBox (w : World) (B : Nat) (a : Ask) : Prop := ∀ j v, a.cells[j]? = some v → w.cell? ⟨B, j, none⟩ = some v
theorem AskBox.lt {w : World} {B : Nat} {a : Ask} (h : AskBox w B a) : B < w.heap.size := lt_of_cell (h 0 _ rfl)
theorem AskBox.below {w w' : World} {B : Nat} {a : Ask} (h : AskBox w B a) (hb : Ext w w') : AskBox w' B a := fun j v hv => (hb.cell (p := ⟨B, j, none⟩) h.lt).trans (h j v hv)
theorem AskBox.new (w : World) (a : Ask) (t : TypeId) : AskBox (w.alloc (.cells a.cells.toArray t)) w.heap.size a := fun j v hv => by
  simp only [World.cell?, World.alloc_heap_new w _]
  simpa using hv
theorem AskBox.all {w : World} {B : Nat} {a : Ask} (h : AskBox w B a) : w.cell? ⟨B, 0, none⟩ = some (.int .i64 a.c.quota) ∧ w.cell? ⟨B, 1, none⟩ = some (.int .i64 a.c.depth) ∧ w.cell? ⟨B, 2, none⟩ = some (.int .i64 a.c.width) ∧ w.cell? ⟨B, 3, none⟩ = some (.int .i64 a.c.retry) ∧
    w.cell? ⟨B, 4, none⟩ = some (.int .i64 a.c.flows) ∧ w.cell? ⟨B, 5, none⟩ = some (.slice a.ns.p a.ns.n a.ns.c) ∧ w.cell? ⟨B, 6, none⟩ = some (.int .i64 a.owner) ∧ w.cell? ⟨B, 7, none⟩ = some (.int .i64 a.quota) ∧ w.cell? ⟨B, 8, none⟩ = some (.slice a.is.p a.is.n a.is.c) :=
  ⟨h 0 _ rfl, h 1 _ rfl, h 2 _ rfl, h 3 _ rfl, h 4 _ rfl, h 5 _ rfl, h 6 _ rfl, h 7 _ rfl, h 8 _ rfl⟩

theorem enters_aWide1 : ∀ args w, (callFunc 73 args).run Tryd.prog w = .ok (.enter 73 args) w := enters_of Tryd.func73 (by kernel_rfl) rfl
theorem wide1_any (a : Ask) (x : It) (B : Nat) (w : World) (hB : AskBox w B a) :
    Calls Tryd.prog 73 #[.agg #[.string x.d.nm, .int .u8 x.d.k, .slice x.af.p x.af.n x.af.c, .string x.d.ov, .int .i64 x.d.wd, .int .i64 x.d.q], .pointer (some ⟨B, 0, none⟩)] w fun e w' => e = .returned (.bool (isMapN x.d && decide (a.c.width < x.d.wd))) ∧ Ext w w' := by
  obtain ⟨-, -, b2, -⟩ := hB.all
  have hlt := hB.lt
  have hne : B ≠ w.heap.size := by omega
  have hm := fun W => isMap_any x W
  change ∀ W, Calls _ _ _ _ (fun e w' => e = .returned (.bool (isMapN x.d)) ∧ Ext W w') at hm
  have HM := hide hm; clear hm hB
  generalize isMapN x.d = M at *
  go_enter Tryd.func73, Tryd.ntmps73
  go_wp2_with (go_at_call 74; refine (HM.out _).mono ?_; rintro e w' ⟨rfl, hb⟩; obtain ⟨hc, hf, hz⟩ := bcell hb; have zB := hz B (by simp; omega); (try have zw0 := hz (w.heap.size) (by first | (simp; omega) | omega | (simp; done) | assumption)); (try have zw1 := hz (w.heap.size + 1) (by first | (simp; omega) | omega | (simp; done) | assumption)); (try have zw2 := hz (w.heap.size + 2) (by first | (simp; omega) | omega | (simp; done) | assumption)); (try have zr0 := hz (wr.heap.size) (by first | (simp; omega) | omega | (simp; done) | assumption)); (try have zr1 := hz (wr.heap.size + 1) (by first | (simp; omega) | omega | (simp; done) | assumption)); (try have zr2 := hz (wr.heap.size + 2) (by first | (simp; omega) | omega | (simp; done) | assumption)); (try have zB0 := hz (B) (by first | (simp; omega) | omega | (simp; done) | assumption)); clear hz)
  all_goals go_ret
  all_goals refine ⟨ret_bool ?_, by (repeat' (first | exact Below.refl _ _ | assumption | refine Ext.alloc ?_ _ | refine Ext.drew ?_ | refine Ext.trans ?_ (by assumption)))⟩
  all_goals (go_light; grind)
theorem wide_any (a : Ask) (its : List It) (w : World) (hi : ItemsAt w a.is its) :
    Calls Tryd.prog 54 #[.agg a.cells.toArray] w fun e w' => e = .returned (.bool (wideN a.c (itemOf its))) ∧ Ext w w' := by
  have hl := hi.rows.len
  have HW : Hid (wideN a.c (itemOf its) = (decide (a.c.width < (a.is.n : Int)) || its.any fun x => isMapN x.d && decide (a.c.width < x.d.wd))) := by
    apply hide; unfold wideN itemOf; rw [List.any_map, List.length_map, hl]; rfl
  have H := hide (fun (W : World) (hb : Ext w W) (hB : AskBox W w.heap.size a) => has_any a its (fun x => isMapN x.d && decide (a.c.width < x.d.wd)) 73 #[] #[.pointer (some ⟨w.heap.size, 0, none⟩)] W enters_aWide1 (hi.below hb) (fun x _ W' hb' => wide1_any a x w.heap.size W' (hB.below hb')))
  have hB := AskBox.new w a 67
  clear hl hi
  obtain ⟨⟨cq, cd, cw, cr, cf⟩, ⟨np, nn, nc⟩, owner, quota, ⟨ip, iN, ic⟩⟩ := a
  dsimp only [Ask.cells] at *
  generalize wideN _ (itemOf its) = R at *
  generalize (its.any fun x => isMapN x.d && decide (cw < x.d.wd)) = A at *
  have HB := hide hB; clear hB
  go_enter Tryd.func54, Tryd.ntmps54
  go_wp2_with (go_at_call 72; refine (H.out _ (by (repeat' (first | exact Below.refl _ _ | assumption | refine Ext.alloc ?_ _ | refine Ext.drew ?_ | refine Ext.trans ?_ (by assumption)))) HB.out).mono ?_; rintro e w' ⟨rfl, hb⟩; obtain ⟨hc, hf, hz⟩ := bcell hb; (try have zw0 := hz (w.heap.size) (by first | (simp; omega) | omega | (simp; done) | assumption)); (try have zw1 := hz (w.heap.size + 1) (by first | (simp; omega) | omega | (simp; done) | assumption)); (try have zw2 := hz (w.heap.size + 2) (by first | (simp; omega) | omega | (simp; done) | assumption)); (try have zr0 := hz (wr.heap.size) (by first | (simp; omega) | omega | (simp; done) | assumption)); (try have zr1 := hz (wr.heap.size + 1) (by first | (simp; omega) | omega | (simp; done) | assumption)); (try have zr2 := hz (wr.heap.size + 2) (by first | (simp; omega) | omega | (simp; done) | assumption)); (try have zB0 := hz (B) (by first | (simp; omega) | omega | (simp; done) | assumption)); clear hz)
  all_goals go_ret
  all_goals refine ⟨ret_bool ?_, by (repeat' (first | exact Below.refl _ _ | assumption | refine Ext.alloc ?_ _ | refine Ext.drew ?_ | refine Ext.trans ?_ (by assumption)))⟩
  all_goals (have hw := HW.out; clear HW H; subst hw; go_light; grind)
end Go.Proofs.YtfcdohaimdodgaaDoor
