/-
  What further arguments that came in read as: numbers, strings, a configuration; and that they read as before.
-/
import Derived.Test.YtfcdohaimdodgaaDoorLaid
import Derived.ChangeMaps5
import Derived.Lib.SmallJoins
namespace Go.Proofs.YtfcdohaimdodgaaDoor
open Go.ChangeShapes Go.WideShapes Go.ChangeAt Go.RowKit
section
variable {H : Type} {enc : TypeId × Value → H} {W : World} {base : Nat}
set_option maxRecDepth 100000 in
theorem arg_int {v : Value} {d : DataW H} {ps : List MemPlace} (hv : Value.okWide Tryd.prog W .any base 3 v) (h : DataW.Trod enc Tryd.prog W 0 (fun _ => true) true 3 v d ps) : ∃ z, v = .int .i64 z ∧ (Lit.int .i64 z).wf = true := by
  obtain ⟨z, h1, _, _, h4⟩ := open_int Tryd.underlying3 hv h
  exact ⟨z, h1, h4⟩
set_option maxRecDepth 100000 in
theorem arg_u8 {v : Value} {d : DataW H} {ps : List MemPlace} (hv : Value.okWide Tryd.prog W .any base 5 v) (h : DataW.Trod enc Tryd.prog W 0 (fun _ => true) true 5 v d ps) : ∃ z, v = .int .u8 z ∧ (Lit.int .u8 z).wf = true := by
  obtain ⟨z, h1, _, _, h4⟩ := open_int Tryd.underlying5 hv h
  exact ⟨z, h1, h4⟩
set_option maxRecDepth 100000 in
theorem arg_str {v : Value} {d : DataW H} {ps : List MemPlace} (hv : Value.okWide Tryd.prog W .any base 9 v) (h : DataW.Trod enc Tryd.prog W 0 (fun _ => true) true 9 v d ps) : ∃ z, v = .string z ∧ z.size ≤ maxLen := by
  obtain ⟨z, h1, _, _, h4⟩ := Go.ChangeMaps.open_string Tryd.underlying9 hv h
  exact ⟨z, h1, h4⟩
noncomputable def cfgFields : Array Field := (match Tryd.prog.underlying 32 with | some (.struct fs) => fs | _ => #[])
theorem cfgUnder : Tryd.prog.underlying 32 = some (.struct cfgFields) := by kernel_rfl
theorem cCfg : Tryd.prog.cellsOf 32 = 5 := by kernel_rfl
set_option maxRecDepth 100000 in
theorem arg_cfg {v : Value} {d : DataW H} {ps : List MemPlace} (hv : Value.okWide Tryd.prog W .any base 32 v) (h : DataW.Trod enc Tryd.prog W 0 (fun _ => true) true 32 v d ps) :
    ∃ a b c e f, v = .agg #[.int .i64 a, .int .i64 b, .int .i64 c, .int .i64 e, .int .i64 f] ∧ (Lit.int .i64 a).wf = true ∧ (Lit.int .i64 b).wf = true ∧ (Lit.int .i64 c).wf = true ∧ (Lit.int .i64 e).wf = true ∧ (Lit.int .i64 f).wf = true := by
  obtain ⟨cs, rfl, hsz⟩ := okWide_struct cfgUnder hv
  obtain ⟨l⟩ := cs
  match l, hsz.trans cCfg with
  | [c0, c1, c2, c3, c4], _ =>
    obtain ⟨fuel, hf⟩ := h
    obtain ⟨xs, n, _, _, _, hn, hg⟩ := DataW.trod_struct cfgUnder hf
    obtain ⟨y0, g0⟩ := field_at hg hn 0 (t := 3) (o := 0) (v := c0) (by decide +kernel) cInt rfl
    obtain ⟨y1, g1⟩ := field_at hg hn 1 (t := 3) (o := 1) (v := c1) (by decide +kernel) cInt rfl
    obtain ⟨y2, g2⟩ := field_at hg hn 2 (t := 3) (o := 2) (v := c2) (by decide +kernel) cInt rfl
    obtain ⟨y3, g3⟩ := field_at hg hn 3 (t := 3) (o := 3) (v := c3) (by decide +kernel) cInt rfl
    obtain ⟨y4, g4⟩ := field_at hg hn 4 (t := 3) (o := 4) (v := c4) (by decide +kernel) cInt rfl
    obtain ⟨a, e0, _, w0⟩ := DataW.trod_int Tryd.underlying3 g0
    obtain ⟨b, e1, _, w1⟩ := DataW.trod_int Tryd.underlying3 g1
    obtain ⟨c, e2, _, w2⟩ := DataW.trod_int Tryd.underlying3 g2
    obtain ⟨e, e3, _, w3⟩ := DataW.trod_int Tryd.underlying3 g3
    obtain ⟨f, e4, _, w4⟩ := DataW.trod_int Tryd.underlying3 g4
    cases e0; cases e1; cases e2; cases e3; cases e4
    exact ⟨a, b, c, e, f, rfl, w0, w1, w2, w3, w4⟩
theorem below_t (t : TypeId) (hr : Tryd.prog.readableRec t = true) (hrow : t < Tryd.prog.types.size) {W' : World} {v : Value} {d : DataW H} {ps : List MemPlace} (h : DataW.Trod enc Tryd.prog W 0 (fun _ => true) true t v d ps) (hb : Below W.heap.size W W') (hlt : ∀ x ∈ ps, x.block < W.heap.size) :
    DataW.Trod enc Tryd.prog W' 0 (fun b => decide (b < W.heap.size)) true t v d ps := Below.trod laidOut hr hrow h hb hlt
theorem below_int {W' : World} {v : Value} {d : DataW H} {ps : List MemPlace} (h : DataW.Trod enc Tryd.prog W 0 (fun _ => true) true 3 v d ps) (hb : Below W.heap.size W W') (hlt : ∀ x ∈ ps, x.block < W.heap.size) :
    DataW.Trod enc Tryd.prog W' 0 (fun b => decide (b < W.heap.size)) true 3 v d ps := below_t 3 (by kernel_rfl) (of_decide_eq_true (by kernel_rfl)) h hb hlt
theorem below_u8 {W' : World} {v : Value} {d : DataW H} {ps : List MemPlace} (h : DataW.Trod enc Tryd.prog W 0 (fun _ => true) true 5 v d ps) (hb : Below W.heap.size W W') (hlt : ∀ x ∈ ps, x.block < W.heap.size) :
    DataW.Trod enc Tryd.prog W' 0 (fun b => decide (b < W.heap.size)) true 5 v d ps := below_t 5 (by kernel_rfl) (of_decide_eq_true (by kernel_rfl)) h hb hlt
theorem below_str {W' : World} {v : Value} {d : DataW H} {ps : List MemPlace} (h : DataW.Trod enc Tryd.prog W 0 (fun _ => true) true 9 v d ps) (hb : Below W.heap.size W W') (hlt : ∀ x ∈ ps, x.block < W.heap.size) :
    DataW.Trod enc Tryd.prog W' 0 (fun b => decide (b < W.heap.size)) true 9 v d ps := below_t 9 (by kernel_rfl) (of_decide_eq_true (by kernel_rfl)) h hb hlt
theorem below_cfg {W' : World} {v : Value} {d : DataW H} {ps : List MemPlace} (h : DataW.Trod enc Tryd.prog W 0 (fun _ => true) true 32 v d ps) (hb : Below W.heap.size W W') (hlt : ∀ x ∈ ps, x.block < W.heap.size) :
    DataW.Trod enc Tryd.prog W' 0 (fun b => decide (b < W.heap.size)) true 32 v d ps := below_t 32 (by kernel_rfl) (of_decide_eq_true (by kernel_rfl)) h hb hlt
end
end Go.Proofs.YtfcdohaimdodgaaDoor
