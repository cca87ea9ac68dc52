/-
  check: who is meant (refs, Refs, lost).
-/
import Derived.Test.YtfcdohaimdodgaaDoorSpec
namespace Go.Proofs.YtfcdohaimdodgaaDoor
open Go.RowKit Go.Shelf
set_option linter.unusedVariables false

/-- what is asked, as it stands in memory -/
structure Ask where
  c : Cfg
  ns : Sl
  owner : Int
  quota : Int
  is : Sl
def Ask.cells (a : Ask) : List Value := [.int .i64 a.c.quota, .int .i64 a.c.depth, .int .i64 a.c.width, .int .i64 a.c.retry, .int .i64 a.c.flows, .slice a.ns.p a.ns.n a.ns.c, .int .i64 a.owner, .int .i64 a.quota, .slice a.is.p a.is.n a.is.c]
/-- the nodes and the items that are asked of stand in memory -/
structure AskAt (w : World) (a : Ask) (xs : List GN) (its : List It) : Prop where
  nodes : NodesAt w a.ns xs
  right : RightN xs
  own : a.owner < xs.length ∧ -1 ≤ a.owner
  items : ItemsAt w a.is its
  few : xs.length ≤ 1000000
theorem AskAt.below {w w' : World} {a : Ask} {xs : List GN} {its : List It} (h : AskAt w a xs its) (hb : Ext w w') : AskAt w' a xs its := ⟨h.nodes.below hb, h.right, h.own, h.items.below hb, h.few⟩

theorem enters_aRefs1 : ∀ args w, (callFunc 64 args).run Tryd.prog w = .ok (.enter 64 args) w := enters_of Tryd.func64 (by kernel_rfl) rfl
theorem refs1_any (x : It) (nm : ByteArray) (B : Nat) (w : World) (hB : w.cell? ⟨B, 0, none⟩ = some (.string nm)) :
    Calls Tryd.prog 64 #[.agg #[.string x.d.nm, .int .u8 x.d.k, .slice x.af.p x.af.n x.af.c, .string x.d.ov, .int .i64 x.d.wd, .int .i64 x.d.q], .pointer (some ⟨B, 0, none⟩)] w fun e w' => e = .returned (.bool (decide (x.d.nm = nm))) ∧ Ext w w' := by
  have hlt := lt_of_cell hB
  have hne : B ≠ w.heap.size := by omega
  go_enter Tryd.func64, Tryd.ntmps64
  go_wp2
  go_ret
  exact ⟨ret_bool (by rw [Bool.eq_iff_iff]; simp [ba_inj]), by (repeat' (first | exact Below.refl _ _ | assumption | refine Ext.alloc ?_ _ | refine Ext.drew ?_ | refine Ext.trans ?_ (by assumption)))⟩

/-- what refs answers -/
def refsR (r : Int × Int) : Value := .tuple #[.int .i64 r.1, .int .i64 r.2, .bool (!(decide (r.1 < 0) && decide (r.2 < 0)))]
set_option maxHeartbeats 1000000 in
theorem refs_any (a : Ask) (xs : List GN) (its : List It) (nm : ByteArray) (w : World) (ha : AskAt w a xs its) :
    Calls Tryd.prog 36 #[.agg a.cells.toArray, .string nm] w fun e w' => e = .returned (refsR (refsN xs a.owner (itemOf its) nm)) ∧ Ext w w' := by
  obtain ⟨⟨cq, cd, cw, cr, cf⟩, ⟨np, nn, nc⟩, owner, quota, ⟨ip, iN, ic⟩⟩ := a
  have HI := hide (fun (W : World) (hb : Ext w W) (hB : W.cell? ⟨w.heap.size + 1, 0, none⟩ = some (.string nm)) => idxIt_any ip iN ic its (fun x => decide (x.d.nm = nm)) 64 #[] #[.pointer (some ⟨w.heap.size + 1, 0, none⟩)] W enters_aRefs1 (ha.items.rows.below hb)
    (fun x _ W' hb' => refs1_any x nm (w.heap.size + 1) W' ((hb'.cell (p := ⟨w.heap.size + 1, 0, none⟩) (lt_of_cell hB)).trans hB)))
  have hN := ha.nodes.len
  dsimp only at hN
  have hown := ha.own
  dsimp only at hown
  have hown1 := hown.1
  have hown2 := hown.2
  clear hown
  have HR : Hid (refsN xs owner (itemOf its) nm = if 0 ≤ idx (fun x : It => decide (x.d.nm = nm)) its ∧ nm.size ≠ 0 then (idx (fun x : It => decide (x.d.nm = nm)) its, -1) else if 0 ≤ owner ∧ 0 ≤ seenN xs owner nm then (-1, seenN xs owner nm) else (-1, -1)) := by
    apply hide; unfold refsN itemOf; rw [idx_map]
  have hge := idx_ge (fun x : It => decide (x.d.nm = nm)) its
  dsimp only at *
  generalize refsN xs owner (itemOf its) nm = RR at *
  generalize idx (fun x : It => decide (x.d.nm = nm)) its = R at *
  have hsn := hN
  have HN := hide hN; clear hN
  by_cases ho : 0 ≤ owner
  · by_cases hse : 0 ≤ seenN xs owner nm
    · have HS := hide (fun (W : World) (hb : Ext w W) => seen_hit np nn nc owner nm xs W (ha.nodes.below hb) ha.right ⟨ho, by omega⟩ ha.few hse)
      generalize seenN xs owner nm = S at *
      clear ha hsn
      simp only [Ask.cells]
      go_enter Tryd.func36, Tryd.ntmps36
      go_wp2_with (first | (go_at_call 47; refine (HI.out _ (by (repeat' (first | exact Below.refl _ _ | assumption | refine Ext.alloc ?_ _ | refine Ext.drew ?_ | refine Ext.trans ?_ (by assumption)))) (by simp)).mono ?_; rintro e w' ⟨rfl, hb⟩; obtain ⟨hc, hf, hz⟩ := bcell hb; (try have zw0 := hz (w.heap.size) (by first | (simp; omega) | omega | (simp; done) | assumption)); (try have zw1 := hz (w.heap.size + 1) (by first | (simp; omega) | omega | (simp; done) | assumption)); (try have zw2 := hz (w.heap.size + 2) (by first | (simp; omega) | omega | (simp; done) | assumption)); (try have zr0 := hz (wr.heap.size) (by first | (simp; omega) | omega | (simp; done) | assumption)); (try have zr1 := hz (wr.heap.size + 1) (by first | (simp; omega) | omega | (simp; done) | assumption)); (try have zr2 := hz (wr.heap.size + 2) (by first | (simp; omega) | omega | (simp; done) | assumption)); (try have zB0 := hz (B) (by first | (simp; omega) | omega | (simp; done) | assumption)); clear hz) | (go_at_call 65; refine (HS.out _ (by (repeat' (first | exact Below.refl _ _ | assumption | refine Ext.alloc ?_ _ | refine Ext.drew ?_ | refine Ext.trans ?_ (by assumption))))).mono ?_; rintro e w' ⟨rfl, hb⟩; obtain ⟨hc, hf, hz⟩ := bcell hb; (try have zw0 := hz (w.heap.size) (by first | (simp; omega) | omega | (simp; done) | assumption)); (try have zw1 := hz (w.heap.size + 1) (by first | (simp; omega) | omega | (simp; done) | assumption)); (try have zw2 := hz (w.heap.size + 2) (by first | (simp; omega) | omega | (simp; done) | assumption)); (try have zr0 := hz (wr.heap.size) (by first | (simp; omega) | omega | (simp; done) | assumption)); (try have zr1 := hz (wr.heap.size + 1) (by first | (simp; omega) | omega | (simp; done) | assumption)); (try have zr2 := hz (wr.heap.size + 2) (by first | (simp; omega) | omega | (simp; done) | assumption)); (try have zB0 := hz (B) (by first | (simp; omega) | omega | (simp; done) | assumption)); clear hz))
      all_goals go_ret3
      all_goals refine ⟨?_, by (repeat' (first | exact Below.refl _ _ | assumption | refine Ext.alloc ?_ _ | refine Ext.drew ?_ | refine Ext.trans ?_ (by assumption)))⟩
      all_goals (have hr := HR.out; clear HI HR; go_light)
      all_goals (try clear HS)
      all_goals (congr 1; rw [hr]; clear hr; unfold refsR; (repeat' split) <;> (first | (exfalso; omega) | (simp_all [ba_isEmpty]; done) | (simp_all [ba_isEmpty]; omega)))
    · have HS := hide (fun (W : World) (hb : Ext w W) => seen_miss np nn nc owner nm xs W (ha.nodes.below hb) ha.right ⟨ho, by omega⟩ ha.few (by omega))
      generalize seenN xs owner nm = S at *
      clear ha hsn
      simp only [Ask.cells]
      go_enter Tryd.func36, Tryd.ntmps36
      go_wp2_with (first | (go_at_call 47; refine (HI.out _ (by (repeat' (first | exact Below.refl _ _ | assumption | refine Ext.alloc ?_ _ | refine Ext.drew ?_ | refine Ext.trans ?_ (by assumption)))) (by simp)).mono ?_; rintro e w' ⟨rfl, hb⟩; obtain ⟨hc, hf, hz⟩ := bcell hb; (try have zw0 := hz (w.heap.size) (by first | (simp; omega) | omega | (simp; done) | assumption)); (try have zw1 := hz (w.heap.size + 1) (by first | (simp; omega) | omega | (simp; done) | assumption)); (try have zw2 := hz (w.heap.size + 2) (by first | (simp; omega) | omega | (simp; done) | assumption)); (try have zr0 := hz (wr.heap.size) (by first | (simp; omega) | omega | (simp; done) | assumption)); (try have zr1 := hz (wr.heap.size + 1) (by first | (simp; omega) | omega | (simp; done) | assumption)); (try have zr2 := hz (wr.heap.size + 2) (by first | (simp; omega) | omega | (simp; done) | assumption)); (try have zB0 := hz (B) (by first | (simp; omega) | omega | (simp; done) | assumption)); clear hz) | (go_at_call 65; refine (HS.out _ (by (repeat' (first | exact Below.refl _ _ | assumption | refine Ext.alloc ?_ _ | refine Ext.drew ?_ | refine Ext.trans ?_ (by assumption))))).mono ?_; rintro e w' ⟨rfl, hb⟩; obtain ⟨hc, hf, hz⟩ := bcell hb; (try have zw0 := hz (w.heap.size) (by first | (simp; omega) | omega | (simp; done) | assumption)); (try have zw1 := hz (w.heap.size + 1) (by first | (simp; omega) | omega | (simp; done) | assumption)); (try have zw2 := hz (w.heap.size + 2) (by first | (simp; omega) | omega | (simp; done) | assumption)); (try have zr0 := hz (wr.heap.size) (by first | (simp; omega) | omega | (simp; done) | assumption)); (try have zr1 := hz (wr.heap.size + 1) (by first | (simp; omega) | omega | (simp; done) | assumption)); (try have zr2 := hz (wr.heap.size + 2) (by first | (simp; omega) | omega | (simp; done) | assumption)); (try have zB0 := hz (B) (by first | (simp; omega) | omega | (simp; done) | assumption)); clear hz))
      all_goals go_ret3
      all_goals refine ⟨?_, by (repeat' (first | exact Below.refl _ _ | assumption | refine Ext.alloc ?_ _ | refine Ext.drew ?_ | refine Ext.trans ?_ (by assumption)))⟩
      all_goals (have hr := HR.out; clear HI HR; go_light)
      all_goals (try clear HS)
      all_goals (congr 1; rw [hr]; clear hr; unfold refsR; (repeat' split) <;> (first | (exfalso; omega) | (simp_all [ba_isEmpty]; done) | (simp_all [ba_isEmpty]; omega)))
  · generalize seenN xs owner nm = S at *
    clear ha hsn
    have HS := hide trivial
    simp only [Ask.cells]
    go_enter Tryd.func36, Tryd.ntmps36
    go_wp2_with (first | (go_at_call 47; refine (HI.out _ (by (repeat' (first | exact Below.refl _ _ | assumption | refine Ext.alloc ?_ _ | refine Ext.drew ?_ | refine Ext.trans ?_ (by assumption)))) (by simp)).mono ?_; rintro e w' ⟨rfl, hb⟩; obtain ⟨hc, hf, hz⟩ := bcell hb; (try have zw0 := hz (w.heap.size) (by first | (simp; omega) | omega | (simp; done) | assumption)); (try have zw1 := hz (w.heap.size + 1) (by first | (simp; omega) | omega | (simp; done) | assumption)); (try have zw2 := hz (w.heap.size + 2) (by first | (simp; omega) | omega | (simp; done) | assumption)); (try have zr0 := hz (wr.heap.size) (by first | (simp; omega) | omega | (simp; done) | assumption)); (try have zr1 := hz (wr.heap.size + 1) (by first | (simp; omega) | omega | (simp; done) | assumption)); (try have zr2 := hz (wr.heap.size + 2) (by first | (simp; omega) | omega | (simp; done) | assumption)); (try have zB0 := hz (B) (by first | (simp; omega) | omega | (simp; done) | assumption)); clear hz))
    all_goals go_ret3
    all_goals refine ⟨?_, by (repeat' (first | exact Below.refl _ _ | assumption | refine Ext.alloc ?_ _ | refine Ext.drew ?_ | refine Ext.trans ?_ (by assumption)))⟩
    all_goals (have hr := HR.out; clear HI HR; go_light)
    all_goals (try clear HS)
    all_goals (congr 1; rw [hr]; clear hr; unfold refsR; (repeat' split) <;> (first | (exfalso; omega) | (simp_all [ba_isEmpty]; done) | (simp_all [ba_isEmpty]; omega)))
theorem refs_tup (a : Ask) (xs : List GN) (its : List It) (nm : ByteArray) (w : World) (ha : AskAt w a xs its) :
    Calls Tryd.prog 36 #[.agg a.cells.toArray, .string nm] w fun e w' => e = .returned (.tuple #[.int .i64 (refsN xs a.owner (itemOf its) nm).1, .int .i64 (refsN xs a.owner (itemOf its) nm).2, .bool (!lostN xs a.owner (itemOf its) nm)]) ∧ Ext w w' := refs_any a xs its nm w ha
theorem lost_any (a : Ask) (xs : List GN) (its : List It) (nm : ByteArray) (w : World) (ha : AskAt w a xs its) :
    Calls Tryd.prog 77 #[.agg a.cells.toArray, .string nm] w fun e w' => e = .returned (.bool (lostN xs a.owner (itemOf its) nm)) ∧ Ext w w' := by
  have H := hide (fun (W : World) (hb : Ext w W) => refs_tup a xs its nm W (ha.below hb))
  clear ha
  generalize (refsN xs a.owner (itemOf its) nm).1 = R1 at *
  generalize (refsN xs a.owner (itemOf its) nm).2 = R2 at *
  generalize lostN xs a.owner (itemOf its) nm = L at *
  simp only [Ask.cells] at *
  go_enter Tryd.func77, Tryd.ntmps77
  go_wp2_with (go_at_call 36; refine (H.out _ (by (repeat' (first | exact Below.refl _ _ | assumption | refine Ext.alloc ?_ _ | refine Ext.drew ?_ | refine Ext.trans ?_ (by assumption))))).mono ?_; rintro e w' ⟨rfl, hb⟩; obtain ⟨hc, hf, hz⟩ := bcell hb; (try have zw0 := hz (w.heap.size) (by first | (simp; omega) | omega | (simp; done) | assumption)); (try have zw1 := hz (w.heap.size + 1) (by first | (simp; omega) | omega | (simp; done) | assumption)); (try have zw2 := hz (w.heap.size + 2) (by first | (simp; omega) | omega | (simp; done) | assumption)); (try have zr0 := hz (wr.heap.size) (by first | (simp; omega) | omega | (simp; done) | assumption)); (try have zr1 := hz (wr.heap.size + 1) (by first | (simp; omega) | omega | (simp; done) | assumption)); (try have zr2 := hz (wr.heap.size + 2) (by first | (simp; omega) | omega | (simp; done) | assumption)); (try have zB0 := hz (B) (by first | (simp; omega) | omega | (simp; done) | assumption)); clear hz)
  go_ret
  exact ⟨ret_bool (by simp), by (repeat' (first | exact Below.refl _ _ | assumption | refine Ext.alloc ?_ _ | refine Ext.drew ?_ | refine Ext.trans ?_ (by assumption)))⟩
theorem cRefs_any (p : Option Addr) (n c : Nat) (owner : Int) (ip : Option Addr) (iN ic : Nat) (xs : List GN) (its : List It) (nm : ByteArray) (w : World) (hn : NodesAt w ⟨p, n, c⟩ xs) (hr : RightN xs) (ho : owner < xs.length ∧ -1 ≤ owner) (hi : ItemsAt w ⟨ip, iN, ic⟩ its) (hx : xs.length ≤ 1000000) :
    Calls Tryd.prog 16 #[.slice p n c, .int .i64 owner, .slice ip iN ic, .string nm] w fun e w' => e = .returned (.tuple #[.int .i64 (refsN xs owner (itemOf its) nm).1, .int .i64 (refsN xs owner (itemOf its) nm).2, .bool (!lostN xs owner (itemOf its) nm)]) ∧ Ext w w' := by
  have H := hide (fun (W : World) (hb : Ext w W) => refs_tup ⟨⟨0, 0, 0, 0, 0⟩, ⟨p, n, c⟩, owner, 0, ⟨ip, iN, ic⟩⟩ xs its nm W (AskAt.below (a := ⟨⟨0, 0, 0, 0, 0⟩, ⟨p, n, c⟩, owner, 0, ⟨ip, iN, ic⟩⟩) ⟨hn, hr, ho, hi, hx⟩ hb))
  clear hn hi ho
  dsimp only [Ask.cells] at H
  generalize (refsN xs owner (itemOf its) nm).1 = R1 at *
  generalize (refsN xs owner (itemOf its) nm).2 = R2 at *
  generalize lostN xs owner (itemOf its) nm = L at *
  go_enter Tryd.func16, Tryd.ntmps16
  go_wp2_with (go_at_call 36; refine (H.out _ (by (repeat' (first | exact Below.refl _ _ | assumption | refine Ext.alloc ?_ _ | refine Ext.drew ?_ | refine Ext.trans ?_ (by assumption))))).mono ?_; rintro e w' ⟨rfl, hb⟩; obtain ⟨hc, hf, hz⟩ := bcell hb; (try have zw0 := hz (w.heap.size) (by first | (simp; omega) | omega | (simp; done) | assumption)); (try have zw1 := hz (w.heap.size + 1) (by first | (simp; omega) | omega | (simp; done) | assumption)); (try have zw2 := hz (w.heap.size + 2) (by first | (simp; omega) | omega | (simp; done) | assumption)); (try have zr0 := hz (wr.heap.size) (by first | (simp; omega) | omega | (simp; done) | assumption)); (try have zr1 := hz (wr.heap.size + 1) (by first | (simp; omega) | omega | (simp; done) | assumption)); (try have zr2 := hz (wr.heap.size + 2) (by first | (simp; omega) | omega | (simp; done) | assumption)); (try have zB0 := hz (B) (by first | (simp; omega) | omega | (simp; done) | assumption)); clear hz)
  go_ret3
  exact ⟨rfl, by (repeat' (first | exact Below.refl _ _ | assumption | refine Ext.alloc ?_ _ | refine Ext.drew ?_ | refine Ext.trans ?_ (by assumption)))⟩
end Go.Proofs.YtfcdohaimdodgaaDoor
