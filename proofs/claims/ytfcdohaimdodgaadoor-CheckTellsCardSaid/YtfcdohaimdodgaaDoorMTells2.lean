/-
  CheckTells answers true for every input: check.Frag, check.Refs, check.Total are as foremanref20 has them. Conditions: those of the row. (part 2 of 2)
-/
import Derived.Test.YtfcdohaimdodgaaDoorMTells1
import Derived.Maps.AppendAt
import Derived.Laws.BitsLemmas
import Derived.BigRegion
import Derived.Deep.QuietTactic
import Derived.BigQuiet
import Derived.Laws.OwnMore
import Derived.Deep.AppendLies
import Derived.Laws.Bits64
import Derived.Great.BuildSlice
import Derived.Deep.Slices
import Derived.OpenShut
import Derived.ChangeShapes
import Derived.Test.YtfcdohaimdodgaaDoorCards
import Derived.Test.YtfcdohaimdodgaaDoorTie
import Derived.WalkKit
import Derived.ProofKit
import Derived.Deep.DeepHandedRow
import Derived.Lib.LaidTab
import Derived.Deep.DeepLaidRun
import Derived.ChangeMaps5
import Derived.Lib.SmallJoins
/-
  append of a slice that reads as rows, onto a row of the call's own.
-/
namespace Go.Proofs.YtfcdohaimdodgaaDoor
open Go.RowKit
set_option linter.unusedVariables false

theorem flat_get {α : Type} {cells : α → List Value} {sz : Nat} (hsz : ∀ x, (cells x).length = sz) : ∀ (ys : List α) (j : Nat) (u : Value), (ys.flatMap cells)[j]? = some u → ∃ k y i, ys[k]? = some y ∧ (cells y)[i]? = some u ∧ j = k * sz + i := by
  intro ys
  induction ys with
  | nil => intro j u h; simp at h
  | cons y r ih =>
    intro j u h
    rw [List.flatMap_cons] at h
    rcases Nat.lt_or_ge j sz with hj | hj
    · rw [List.getElem?_append_left (by rw [hsz]; exact hj)] at h
      exact ⟨0, y, j, rfl, h, by simp⟩
    · rw [List.getElem?_append_right (by rw [hsz]; exact hj), hsz] at h
      obtain ⟨k, z, i, h1, h2, h3⟩ := ih _ _ h
      exact ⟨k + 1, z, i, by simpa using h1, h2, by rw [Nat.add_mul]; omega⟩
theorem flat_len {α : Type} {cells : α → List Value} {sz : Nat} (hsz : ∀ x, (cells x).length = sz) (ys : List α) : (ys.flatMap cells).length = ys.length * sz := by
  induction ys with
  | nil => simp
  | cons y r ih => rw [List.flatMap_cons, List.length_append, hsz, ih, List.length_cons, Nat.add_mul]; omega

theorem run_append_rows {P : Program} {w : World} {α : Type} {cells : α → List Value} (base : Nat) (t ty e : TypeId) (i : TypeInfo) (z : Value) (size bytes : Nat) (ht : P.underlying t = some (.slice e)) (hi : P.info? e = some i) (hz : i.zero = some z)
    (hsize : i.size = size) (hby : i.bytes = bytes) (hzs : z.cells.size = size) (hsz : 0 < size) (v : Value) (n : Nat) (xs : List Value) (hown : w.ownsRow base e size v n xs)
    (p : Option Addr) (m c : Nat) (ys : List α) (hr : RowsAt size cells w ⟨p, m, c⟩ ys) (hcl : ∀ y, (cells y).length = size) (h1 : ∀ y, ∀ u ∈ cells y, u.oneCell' = true)
    (h63 : n + m ≤ maxLen) (hbytes : (n + m) * bytes ≤ 140737488355328) (hbase : base ≤ w.heap.size) :
    ∃ v' w', (Builtin.append_ #[t, t] ty #[v, .slice p m c]).run P w = .ok v' w' ∧ w'.ownsRow base e size v' (n + m) (xs ++ ys.flatMap cells) ∧ w.grownBy w' v.ownBlock ∧ (v'.ownBlock = v.ownBlock ∨ v'.ownBlock = some w.heap.size) := by
  have hm : m = ys.length := hr.len
  cases p with
  | none =>
    have hy : ys = [] := by
      cases ys with
      | nil => rfl
      | cons y r => obtain ⟨b, o, h, _⟩ := hr.at_ 0 y rfl; cases h
    subst hy
    obtain rfl : m = 0 := hm
    refine ⟨v, w, ?_, by simpa using hown, World.grownBy.refl _ _, .inl rfl⟩
    rcases hown.2 with ⟨rfl, rfl⟩ | ⟨g, cap, cur, rfl, _, _, hnc, _⟩
    · simp [Builtin.append_, run_underlying ht, sizeOf, typeInfo, hi, Builtin.lenOf, Builtin.firstCells]
    · simp [Builtin.append_, run_underlying ht, sizeOf, typeInfo, hi, Builtin.lenOf, Builtin.firstCells, hnc, storeCells]
  | some ad =>
    have hcells : ∀ j u, (ys.flatMap cells)[j]? = some u → w.cell? (ad.add j) = some u := by
      intro j u hj
      obtain ⟨k, y, i, h1, h2, rfl⟩ := flat_get hcl ys j u hj
      obtain ⟨b, o, h, _, hc⟩ := hr.at_ k y h1
      cases h
      have := hc i u h2
      unfold Addr.add
      split
      · rename_i h0
        rw [← this]; congr 2; omega
      · rw [← this]; congr 2; simp only; omega
    obtain ⟨v', w', hrun, h2, h3, _, h5⟩ := run_append_own_at (P := P) w base t ty e i z size bytes ht hi hz hsize hby hzs hsz v n xs hown ad m c (ys.flatMap cells) (by rw [flat_len hcl, hm]) hcells (by
      intro u hu
      obtain ⟨y, _, hy⟩ := List.mem_flatMap.1 hu
      exact h1 y u hy) h63 hbytes hbase
    exact ⟨v', w', hrun, h2, h3, h5⟩

theorem wpList_append_rows {P : Program} {w : World} {α : Type} {cells : α → List Value} {ops : Array Oper} {rest : List Oper} {o : Oper} {a : Act} {Q : Exit → Act → World → Prop} (hgd : o.guard = none) (s x : Operand) (t : TypeId)
    (ho : o.op = .call { callee := .builtin .append, args := #[s, x], argTypes := #[t, t] })
    (base : Nat) (e : TypeId) (i : TypeInfo) (z : Value) (size bytes : Nat) (ht : P.underlying t = some (.slice e)) (hi : P.info? e = some i) (hz : i.zero = some z)
    (hsize : i.size = size) (hby : i.bytes = bytes) (hzs : z.cells.size = size) (hsz : 0 < size) (v : Value) (n : Nat) (xs : List Value) (hs : a.eval s = v) (hown : w.ownsRow base e size v n xs)
    (p : Option Addr) (m c : Nat) (ys : List α) (hx : a.eval x = .slice p m c) (hr : RowsAt size cells w ⟨p, m, c⟩ ys) (hcl : ∀ y, (cells y).length = size) (h1 : ∀ y, ∀ u ∈ cells y, u.oneCell' = true)
    (h63 : n + m ≤ maxLen) (hbytes : (n + m) * bytes ≤ 140737488355328) (hbase : base ≤ w.heap.size)
    (h : ∀ v' w', w'.ownsRow base e size v' (n + m) (xs ++ ys.flatMap cells) → w.grownBy w' v.ownBlock → (v'.ownBlock = v.ownBlock ∨ v'.ownBlock = some w.heap.size) → wpList P ops Q rest (a.put o.dst v') w') :
    wpList P ops Q (o :: rest) a w := by
  refine wpList_plain hgd fun K hK => ?_
  obtain ⟨v', w', hr, h2, h3, h4⟩ := run_append_rows (P := P) (w := w) base t o.type e i z size bytes ht hi hz hsize hby hzs hsz v n xs hown p m c ys hr hcl h1 h63 hbytes hbase
  unfold Oper.wp execOp
  simp only [ho, resolve, invoke, builtin, Sem.run_bind, Sem.run_pure, Result.andThen_ok, List.map_toArray, List.map_cons, List.map_nil, hs, hx, hr]
  exact hK _ _ (h v' w' h2 h3 h4)
/-- an empty slice literal -/
theorem owns_empty (w : World) (e : TypeId) (sz : Nat) : (w.alloc (.cells #[] e)).ownsRow w.heap.size e sz (.slice (some ⟨w.heap.size, 0, none⟩) 0 0) 0 [] :=
  ⟨by simp, .inr ⟨w.heap.size, 0, #[], rfl, Nat.le_refl _, heap_alloc_new w _, Nat.le_refl _, by simp [maxLen], by simp, by simp⟩⟩
/-- a step that turns the call's own blocks alone -/
theorem ext_grown {w a b : World} {base : Nat} {e : TypeId} {sz : Nat} {v : Value} {n : Nat} {xs : List Value} (h : Ext w a) (ho : a.ownsRow base e sz v n xs) (hb : w.heap.size ≤ base) (hg : a.grownBy b v.ownBlock) : Ext w b := by
  refine Below.grown h hg h.size fun k hk => ?_
  rcases ho.2 with ⟨rfl, _⟩ | ⟨g, cap, cur, rfl, hg', _⟩
  · cases hk
  · obtain rfl : g = k := by simpa [Value.ownBlock] using hk
    omega
/-- min of a length and a constant, as a number of its own -/
theorem wpList_minN {P : Program} {w : World} {ops : Array Oper} {rest : List Oper} {o : Oper} {a : Act} {Q : Exit → Act → World → Prop} (hgd : o.guard = none) (x y : Operand) (t : Array TypeId)
    (ho : o.op = .call { callee := .builtin .min, args := #[x, y], argTypes := t }) (n m : Nat) (hx : a.eval x = .int .i64 n) (hy : a.eval y = .int .i64 m)
    (h : ∀ k : Nat, k ≤ n → k ≤ m → wpList P ops Q rest (a.put o.dst (.int .i64 k)) w) : wpList P ops Q (o :: rest) a w := by
  refine wpList_plain hgd fun K hK => ?_
  have hr : (Builtin.min_ t o.type #[.int .i64 n, .int .i64 m]).run P w = .ok (.int .i64 (min n m : Nat)) w := by
    simp only [Builtin.min_, List.foldlM_cons, List.foldlM_nil, Builtin.min2]
    have : (if (m : Int) < (n : Int) then (m : Int) else n) = ((min n m : Nat) : Int) := by
      rw [Nat.min_def]
      split <;> split <;> omega
    rw [this]
    rfl
  unfold Oper.wp execOp
  simp only [ho, resolve, invoke, builtin, Sem.run_bind, Sem.run_pure, Result.andThen_ok, List.map_toArray, List.map_cons, List.map_nil, hx, hy, hr]
  exact hK _ _ (h _ (Nat.min_le_left _ _) (Nat.min_le_right _ _))
end Go.Proofs.YtfcdohaimdodgaaDoor

/-
  A mask over an int of either sign.
-/
namespace Go.Proofs.YtfcdohaimdodgaaDoor
open Go.RowKit
theorem and_mask (x : Int) (m : Nat) (hm : m < 4611686018427387904) : 0 ≤ bits .and .i64 x m ∧ bits .and .i64 x m ≤ m := by
  have h1 : (BitVec.ofInt 64 (m : Int)).toNat = m := by
    rw [BitVec.toNat_ofInt]
    omega
  have h2 : ((BitVec.ofInt 64 x) &&& (BitVec.ofInt 64 (m : Int))).toNat ≤ m := by
    rw [BitVec.toNat_and, h1]
    exact Nat.and_le_right
  have h3 : bits .and .i64 x m = IntKind.i64.wrap (((BitVec.ofInt 64 x) &&& (BitVec.ofInt 64 (m : Int))).toNat : Int) := rfl
  rw [h3, IntKind.wrap_i64]
  generalize ((BitVec.ofInt 64 x) &&& (BitVec.ofInt 64 (m : Int))).toNat = k at *
  omega
end Go.Proofs.YtfcdohaimdodgaaDoor

/-
  Forest, Named, Owned: the nodes that the layers' laws make.
-/
namespace Go.Proofs.YtfcdohaimdodgaaDoor
open Go.RowKit Go.Shelf
set_option linter.unusedVariables false

def zNode : Value := .agg #[.string ⟨#[]⟩, .string ⟨#[]⟩, .int .u8 0, .int .i64 0, .int .i64 0, .int .i64 0, .slice none 0 0, .int .i64 0, .int .i64 0, .int .u8 0, .int .i64 0, .int .i64 0, .int .u8 0, .int .i64 0, .string ⟨#[]⟩, .slice none 0 0]
theorem infoNode : (Tryd.prog.info? 50).map (fun i => (i.zero, i.size, i.bytes)) = some (some zNode, 16, 184) := by kernel_rfl
theorem zNode_cells : zNode.cells.size = 16 := by kernel_rfl
theorem GN.one (y : GN) : ∀ u ∈ y.cells, u.oneCell' = true := by simp [GN.cells, Value.oneCell']
def nF (fl ow : Int) : GN := ⟨⟨#[]⟩, ⟨#[]⟩, 0, fl, ow, 0, ⟨none, 0, 0⟩, 0, 0, 0, 0, 0, 0, 0, ⟨#[]⟩, ⟨none, 0, 0⟩⟩
theorem own_rows {W : World} {base : Nat} {v : Value} {xs : List GN} {n : Nat} (hn : n = xs.length) (h : W.ownsRow base 50 16 v n (xs.flatMap GN.cells)) :
    ∃ s : Sl, v = .slice s.p s.n s.c ∧ Hid (NodesAt W s xs) := by
  subst hn
  obtain ⟨s, h1, h2, _⟩ := RowsAt.of_owns GN.cells_len h
  exact ⟨s, h1, hide h2⟩
theorem cell_one_row (W : World) (cs : List Value) (t : TypeId) (j : Nat) (v : Value) (h : cs[j]? = some v) : (W.alloc (.cells cs.toArray t)).cell? ⟨W.heap.size, j, none⟩ = some v := by
  have hh := heap_alloc_new W (.cells cs.toArray t)
  unfold World.cell?
  rw [hh]
  simpa using h
theorem right_snoc {xs : List GN} {x : GN} (hr : RightN xs) (hx : -1 ≤ x.ow ∧ x.ow < xs.length ∧ (0 ≤ x.ow → ∀ (y : GN), xs[x.ow.toNat]? = some y → y.fl = x.fl)) : RightN (xs ++ [x]) := by
  intro k y hy
  rcases Nat.lt_or_ge k xs.length with h | h
  · rw [List.getElem?_append_left h] at hy
    obtain ⟨h1, h2, h3⟩ := hr k y hy
    refine ⟨h1, h2, fun h0 z hz => h3 h0 z ?_⟩
    rw [List.getElem?_append_left (by omega)] at hz
    exact hz
  · rw [List.getElem?_append_right h] at hy
    have hk : k = xs.length := by
      rcases Nat.lt_or_ge (k - xs.length) 1 with h2 | h2
      · omega
      · rw [List.getElem?_eq_none (by simpa using h2)] at hy; cases hy
    subst hk
    obtain rfl : x = y := by simpa using hy
    refine ⟨hx.1, hx.2.1, fun h0 z hz => hx.2.2 h0 z ?_⟩
    rw [List.getElem?_append_left (by omega)] at hz
    exact hz
theorem right_none {xs : List GN} {fl : Int} : -1 ≤ (nF fl (-1)).ow ∧ (nF fl (-1)).ow < xs.length ∧ (0 ≤ (nF fl (-1)).ow → ∀ (y : GN), xs[(nF fl (-1)).ow.toNat]? = some y → y.fl = (nF fl (-1)).fl) :=
  ⟨Int.le_refl _, by show (-1 : Int) < _; omega, fun h => absurd h (by show ¬ (0 : Int) ≤ -1; omega)⟩
theorem right_up {xs : List GN} {y : GN} {u sn : Nat} (hk : sn = xs.length) (hu : u < sn) (hy : xs[u]? = some y) : -1 ≤ (nF y.fl u).ow ∧ (nF y.fl u).ow < xs.length ∧ (0 ≤ (nF y.fl u).ow → ∀ (z : GN), xs[(nF y.fl u).ow.toNat]? = some z → z.fl = (nF y.fl u).fl) := by
  refine ⟨by show (-1 : Int) ≤ u; omega, by show (u : Int) < _; omega, fun _ z hz => ?_⟩
  have : (nF y.fl u).ow.toNat = u := by show (u : Int).toNat = u; omega
  rw [this, hy] at hz
  cases hz
  rfl
theorem nodesAt1 (W : World) (g : Nat) (hg : W.heap.size = g) (fl ow : Int) : NodesAt (W.alloc (.cells #[.string ⟨#[]⟩, .string ⟨#[]⟩, .int .u8 0, .int .i64 fl, .int .i64 ow, .int .i64 0, .slice none 0 0, .int .i64 0, .int .i64 0, .int .u8 0, .int .i64 0, .int .i64 0, .int .u8 0, .int .i64 0, .string ⟨#[]⟩, .slice none 0 0] 50)) ⟨some ⟨g, 0, none⟩, 1, 1⟩ [nF fl ow] := by
  subst hg
  refine ⟨rfl, Nat.le_refl _, by simp, fun k x hx => ⟨W.heap.size, 0, rfl, by simp, fun j v hv => ?_⟩⟩
  match k, hx with
  | 0, hx =>
    obtain rfl : nF fl ow = x := by simpa using hx
    rw [Nat.zero_mul, Nat.add_zero, Nat.zero_add]
    have := (cell_one_row W (nF fl ow).cells 50 j v hv)
    exact this
  | k + 1, hx => simp at hx
/-- no After, no list in its Value -/
def Flat (x : GN) : Prop := x.af = ⟨none, 0, 0⟩ ∧ x.vl = ⟨none, 0, 0⟩
structure RightF (xs : List GN) : Prop where
  r : RightN xs
  f : ∀ x ∈ xs, Flat x
theorem rightF_snoc {xs : List GN} {x : GN} (hr : RightF xs) (hx : -1 ≤ x.ow ∧ x.ow < xs.length ∧ (0 ≤ x.ow → ∀ (y : GN), xs[x.ow.toNat]? = some y → y.fl = x.fl)) (hf : Flat x) : RightF (xs ++ [x]) :=
  ⟨right_snoc hr.r hx, fun y hy => (List.mem_append.1 hy).elim (hr.f y) (fun h => by rw [List.mem_singleton.1 h]; exact hf)⟩
set_option maxHeartbeats 2000000 in
theorem forest_any (p : Option Addr) (n c : Nat) (ss : List Int) (w : World) (hs : RowsAt 1 intCells w ⟨p, n, c⟩ ss) (hwf : ∀ x ∈ ss, (Lit.int .i64 x).wf = true) :
    Calls Tryd.prog 52 #[.slice p n c] w fun e w' => ∃ v xs, e = .returned v ∧ w'.ownsRow w.heap.size 50 16 v xs.length (xs.flatMap GN.cells) ∧ RightF xs ∧ (xs.length ≤ 60 ∧ xs.length ≤ n) ∧ Ext w w' := by
  have hcap := hs.cap
  dsimp only at hcap
  have HS := hide hs
  have HWF := hide hwf
  clear hs hwf
  go_enter Tryd.func52, Tryd.ntmps52
  go_wp2_with (refine wpList_minN rfl _ _ _ rfl n 60 rfl rfl ?_; intro n1 hN hN60)
  have HS2 := hide (HS.out.take n1 hN)
  have HWF2 := hide (fun x hx => HWF.out x (List.mem_of_mem_take (i := n1) hx))
  have HL2 : Hid (n1 = (ss.take n1).length) := hide HS2.out.len
  generalize ss.take n1 = ts at *
  dsimp only at HS2
  clear HS HWF
  go_loopg [3, 14] n1 (fun gg s3 s14 wr => ∃ (k : Nat) (xs : List GN), k ≤ n1 ∧ n1 - k ≤ gg ∧ s14 = .int .i64 k ∧ Hid (wr.ownsRow w.heap.size 50 16 s3 k (xs.flatMap GN.cells)) ∧ Hid (RightF xs) ∧ Hid (k = xs.length) ∧ Aside (Ext w wr))
  case atStart => exact ⟨0, [], Nat.zero_le _, by omega, rfl, World.ownsRow_nil w _ _ _, ⟨fun k x h => by simp at h, fun x h => by simp at h⟩, rfl, Ext.refl _⟩
  case round =>
    obtain ⟨k, xs, hk, hg, rfl, HO, HR, HKL, BW⟩ := hrel
    obtain ⟨sv, rfl, hrow⟩ := own_rows HKL.out HO.out
    have hsn : sv.n = k := hrow.out.len.trans HKL.out.symm
    obtain ⟨sp, sn, sc⟩ := sv
    dsimp only at hsn
    subst hsn
    dsimp only at HO
    have hsz := BW.out.size
    by_cases hlt : sn < n1
    · obtain ⟨x, hx⟩ := getElem?_of_lt (xs := ts) (k := sn) (by have := HL2.out; omega)
      obtain ⟨b, o, hsp, hblt, hcell⟩ := (HS2.out.below BW.out).at_ sn x hx
      have c0 : wr.cell? ⟨b, o + sn, none⟩ = some (.int .i64 x) := by have := hcell 0 _ rfl; simpa using this
      have hltz : (sn : Int) < (n1 : Int) := by omega
      dsimp only at hsp
      clear hcell hx
      subst hsp
      obtain ⟨i0, hiI, hz0, hz1, hz2⟩ := info_parts infoNode
      have hm := and_mask x 255 (by decide)
      obtain ⟨u, hu, hub⟩ : ∃ u : Nat, (bits BinOp.and IntKind.i64 x 255).tmod ((sn : Int) + 3) = u ∧ u < sn + 3 := by
        have h1 : 0 ≤ (bits BinOp.and IntKind.i64 x 255).tmod ((sn : Int) + 3) := Int.tmod_nonneg _ hm.1
        have h2 := Int.tmod_lt_of_pos (bits BinOp.and IntKind.i64 x 255) (show (0 : Int) < (sn : Int) + 3 by omega)
        exact ⟨((bits BinOp.and IntKind.i64 x 255).tmod ((sn : Int) + 3)).toNat, by omega, by omega⟩
      clear hm
      by_cases hus : u < sn
      · obtain ⟨y, hy⟩ := getElem?_of_lt (xs := xs) (k := u) (by have := HKL.out; omega)
        obtain ⟨b2, o2, hsp2, hblt2, hcell2⟩ := hrow.out.at_ u y hy
        have c3 : wr.cell? ⟨b2, o2 + u * 16 + 3, none⟩ = some (.int .i64 y.fl) := hcell2 3 _ rfl
        have husz : (u : Int) < (sn : Int) := by omega
        dsimp only at hsp2
        clear hcell2
        have HY := hide hy
        clear hy
        subst hsp2
        go_wp2_with fail
        go_region
        have BE := BW.out
        go_wp2_with (at_builtin; refine wpList_append_rows (cells := GN.cells) rfl _ _ 34 rfl w.heap.size 50 i0 zNode 16 184 Tryd.underlying34 hiI hz0 hz1 hz2 zNode_cells (by decide) _ _ _ rfl (((HO.out.alloc _).alloc _).drew) _ 1 1 [nF _ _] rfl (RowsAt.below (nodesAt1 _ _ (by simp) _ _) (Ext.drew (Ext.refl _))) GN.cells_len GN.one (by unfold maxLen; omega) (by omega) (by simp; omega) ?_; intro v2 wb ho2 hg2 _; have he2 : Ext w wb := ext_grown (by (repeat' (first | exact Below.refl _ _ | assumption | refine Ext.alloc ?_ _ | refine Ext.drew ?_ | refine Ext.trans ?_ (by assumption)))) (((HO.out.alloc _).alloc _).drew) (Nat.le_refl _) hg2; clear hg2)
        go_roundg (n1 - (sn + 1))
        case measure => omega
        case rel => exact ⟨sn + 1, xs ++ [nF _ _], by omega, by omega, by go_num, hide (by rw [List.flatMap_append]; exact ho2), hide (rightF_snoc HR.out (right_up HKL.out hus HY.out) ⟨rfl, rfl⟩), hide (by rw [List.length_append, ← HKL.out]; rfl), he2⟩
      · have husz : ¬ (u : Int) < (sn : Int) := by omega
        have BE := BW.out
        go_wp2_with (at_builtin; refine wpList_append_rows (cells := GN.cells) rfl _ _ 34 rfl w.heap.size 50 i0 zNode 16 184 Tryd.underlying34 hiI hz0 hz1 hz2 zNode_cells (by decide) _ _ _ rfl ((HO.out.alloc _).alloc _) _ 1 1 [nF _ _] rfl (nodesAt1 _ _ (by simp) _ _) GN.cells_len GN.one (by unfold maxLen; omega) (by omega) (by simp; omega) ?_; intro v2 wb ho2 hg2 _; have he2 : Ext w wb := ext_grown (by (repeat' (first | exact Below.refl _ _ | assumption | refine Ext.alloc ?_ _ | refine Ext.drew ?_ | refine Ext.trans ?_ (by assumption)))) (((HO.out.alloc _).alloc _)) (Nat.le_refl _) hg2; clear hg2)
        go_roundg (n1 - (sn + 1))
        case measure => omega
        case rel => exact ⟨sn + 1, xs ++ [nF _ _], by omega, by omega, by go_num, hide (by rw [List.flatMap_append]; exact ho2), hide (rightF_snoc HR.out right_none ⟨rfl, rfl⟩), hide (by rw [List.length_append, ← HKL.out]; rfl), he2⟩
    · have hltz : ¬ (sn : Int) < (n1 : Int) := by omega
      go_wp2_with fail
      go_ret
      exact ⟨_, rfl, xs, by rw [← HKL.out]; exact HO.out, HR.out, by have := HKL.out; omega, BW.out⟩
end Go.Proofs.YtfcdohaimdodgaaDoor

/-
  Named: Forest's nodes, some of them named.
-/
namespace Go.Proofs.YtfcdohaimdodgaaDoor
open Go.RowKit Go.Shelf
set_option linter.unusedVariables false

theorem flat_at {ys : List GN} {k j : Nat} {x : GN} {v : Value} (hx : ys[k]? = some x) (hv : x.cells[j]? = some v) : (ys.flatMap GN.cells)[k * 16 + j]? = some v := by
  have hj : j < 16 := by
    rcases Nat.lt_or_ge j 16 with h | h
    · exact h
    · rw [List.getElem?_eq_none (by rw [GN.cells_len]; exact h)] at hv; cases hv
  induction ys generalizing k with
  | nil => simp at hx
  | cons y r ih =>
    cases k with
    | zero =>
      obtain rfl : y = x := by simpa using hx
      rw [List.flatMap_cons, List.getElem?_append_left (by rw [GN.cells_len]; omega)]
      simpa using hv
    | succ k =>
      rw [List.flatMap_cons, List.getElem?_append_right (by rw [GN.cells_len]; omega), GN.cells_len, ← ih (k := k) (by simpa using hx)]
      congr 1
      omega
theorem flat_set (ys : List GN) (k j : Nat) (x x' : GN) (u : Value) (hx : ys[k]? = some x) (hj : j < 16) (hc : x.cells.set j u = x'.cells) :
    (ys.flatMap GN.cells).set (k * 16 + j) u = (ys.set k x').flatMap GN.cells := by
  induction ys generalizing k with
  | nil => simp at hx
  | cons y r ih =>
    cases k with
    | zero =>
      obtain rfl : y = x := by simpa using hx
      simp only [Nat.zero_mul, Nat.zero_add, List.flatMap_cons, List.set_cons_zero]
      rw [List.set_append_left _ _ (by rw [GN.cells_len]; exact hj), hc]
    | succ k =>
      have h := ih k (by simpa using hx)
      simp only [List.flatMap_cons, List.set_cons_succ]
      rw [List.set_append_right _ _ (by rw [GN.cells_len]; omega), GN.cells_len, ← h]
      congr 2
      omega
theorem right_set {ys : List GN} {k : Nat} {x x' : GN} (hr : RightN ys) (hx : ys[k]? = some x) (h1 : x'.ow = x.ow) (h2 : x'.fl = x.fl) : RightN (ys.set k x') := by
  have hk : k < ys.length := (List.getElem?_eq_some_iff.1 hx).1
  have key : ∀ (i : Nat) (y : GN), (ys.set k x')[i]? = some y → ∃ z, ys[i]? = some z ∧ z.ow = y.ow ∧ z.fl = y.fl := by
    intro i y hy
    rw [List.getElem?_set] at hy
    split at hy
    · rename_i he
      subst he
      cases hy
      exact ⟨x, hx, h1.symm, h2.symm⟩
    · exact ⟨y, hy, rfl, rfl⟩
  intro i y hy
  obtain ⟨z, hz, ho, hf⟩ := key i y hy
  obtain ⟨a, b, c⟩ := hr i z hz
  rw [← ho]
  refine ⟨a, b, fun h0 v hv => ?_⟩
  obtain ⟨u, hu, _, hf2⟩ := key _ _ hv
  rw [← hf2, ← hf]
  exact c h0 u hu
/-- a store into one cell of the call's own nodes -/
theorem own_store {W : World} {base g n cap : Nat} {ys : List GN} {k j : Nat} {x x' : GN} {u : Value} (ho : W.ownsRow base 50 16 (.slice (some ⟨g, 0, none⟩) n cap) n (ys.flatMap GN.cells)) (hx : ys[k]? = some x) (hj : j < 16) (hc : x.cells.set j u = x'.cells) :
    (W.setCell ⟨g, k * 16 + j, none⟩ u).ownsRow base 50 16 (.slice (some ⟨g, 0, none⟩) n cap) n ((ys.set k x').flatMap GN.cells) := by
  have := (ho.stored (k * 16 + j) u).1
  rw [flat_set ys k j x x' u hx hj hc] at this
  exact this
theorem own_name {W : World} {base g n cap : Nat} {ys : List GN} {k : Nat} {x : GN} (ho : W.ownsRow base 50 16 (.slice (some ⟨g, 0, none⟩) n cap) n (ys.flatMap GN.cells)) (hx : ys[k]? = some x) (s : ByteArray) :
    (W.setCell ⟨g, k * 16 + 1, none⟩ (.string s)).ownsRow base 50 16 (.slice (some ⟨g, 0, none⟩) n cap) n ((ys.set k { x with nm := s }).flatMap GN.cells) := own_store ho hx (by decide) rfl
theorem rightF_set {ys : List GN} {k : Nat} {x x' : GN} (hr : RightF ys) (hx : ys[k]? = some x) (h1 : x'.ow = x.ow) (h2 : x'.fl = x.fl) (h3 : Flat x → Flat x') : RightF (ys.set k x') :=
  ⟨right_set hr.r hx h1 h2, fun y hy => by
    rcases List.mem_or_eq_of_mem_set hy with h | rfl
    · exact hr.f y h
    · exact h3 (hr.f x (List.mem_of_getElem? hx))⟩
theorem right_name {ys : List GN} {k : Nat} {x : GN} (hr : RightF ys) (hx : ys[k]? = some x) (s : ByteArray) : RightF (ys.set k { x with nm := s }) := rightF_set hr hx rfl rfl id
theorem own_kind {W : World} {base g n cap : Nat} {ys : List GN} {k : Nat} {x : GN} (ho : W.ownsRow base 50 16 (.slice (some ⟨g, 0, none⟩) n cap) n (ys.flatMap GN.cells)) (hx : ys[k]? = some x) (a b : Int) :
    ((W.setCell ⟨g, k * 16 + 2, none⟩ (.int .u8 a)).setCell ⟨g, k * 16 + 7, none⟩ (.int .i64 b)).ownsRow base 50 16 (.slice (some ⟨g, 0, none⟩) n cap) n ((ys.set k { x with k := a, wd := b }).flatMap GN.cells) := by
  have h1 := own_store (x' := { x with k := a }) ho hx (j := 2) (u := .int .u8 a) (by decide) rfl
  have hk : k < ys.length := (List.getElem?_eq_some_iff.1 hx).1
  have h2 := own_store (x := { x with k := a }) (x' := { x with k := a, wd := b }) h1 (by rw [List.getElem?_set, if_pos rfl]; simp [hk]) (j := 7) (u := .int .i64 b) (by decide) rfl
  rw [List.set_set] at h2
  exact h2
theorem right_kind {ys : List GN} {k : Nat} {x : GN} (hr : RightF ys) (hx : ys[k]? = some x) (a b : Int) : RightF (ys.set k { x with k := a, wd := b }) := rightF_set hr hx rfl rfl id
theorem setCell_ext2 {w W : World} {base g n cap : Nat} {cs : List Value} (hb : w.heap.size ≤ base) (h : Ext w W) (ho : W.ownsRow base 50 16 (.slice (some ⟨g, 0, none⟩) n cap) n cs) (i j : Nat) (u v : Value) : Ext w ((W.setCell ⟨g, i, none⟩ u).setCell ⟨g, j, none⟩ v) := by
  have := (ho.lt g rfl).1
  have hg : w.heap.size ≤ g := by omega
  exact Ext.setCell (Ext.setCell h hg u) hg v
theorem setCell_ext {w W : World} {base g n cap : Nat} {cs : List Value} (hb : w.heap.size ≤ base) (h : Ext w W) (ho : W.ownsRow base 50 16 (.slice (some ⟨g, 0, none⟩) n cap) n cs) (j : Nat) (u : Value) : Ext w (W.setCell ⟨g, j, none⟩ u) := by
  refine Ext.setCell h ?_ u
  have := (ho.lt g rfl).1
  show w.heap.size ≤ g
  omega
theorem own_rows2 {W : World} {base n : Nat} {v : Value} {xs : List GN} (h : W.ownsRow base 50 16 v xs.length (xs.flatMap GN.cells)) (hl : xs.length ≤ 60 ∧ xs.length ≤ n) :
    ∃ (sp : Option Addr) (sn sc : Nat), v = .slice sp sn sc ∧ Hid (sn = xs.length) ∧ Hid (W.ownsRow base 50 16 (.slice sp sn sc) sn (xs.flatMap GN.cells)) ∧ sn ≤ 60 ∧ sn ≤ n := by
  obtain ⟨⟨sp, sn, sc⟩, rfl, hrow⟩ := own_rows rfl h
  have hn : sn = xs.length := hrow.out.len
  subst hn
  exact ⟨sp, _, sc, rfl, hide rfl, hide h, hl.1, hl.2⟩
set_option maxHeartbeats 2000000 in
theorem named_any (p : Option Addr) (n c : Nat) (ss : List Int) (w : World) (hs : RowsAt 1 intCells w ⟨p, n, c⟩ ss) (hwf : ∀ x ∈ ss, (Lit.int .i64 x).wf = true) :
    Calls Tryd.prog 28 #[.slice p n c] w fun e w' => ∃ v xs, e = .returned v ∧ w'.ownsRow w.heap.size 50 16 v xs.length (xs.flatMap GN.cells) ∧ RightF xs ∧ (xs.length ≤ 60 ∧ xs.length ≤ n) ∧ Ext w w' := by
  have HF := hide (forest_any p n c ss w hs hwf)
  have HS := hide hs
  clear hs hwf
  go_enter Tryd.func28, Tryd.ntmps28
  go_wp2_with (go_at_call 52; refine HF.out.mono ?_; rintro e w1 ⟨v, xs, rfl, ho, hr, hl, hb⟩; obtain ⟨sp, sn, sc, rfl, HL, HO, hl1, hl2⟩ := own_rows2 ho hl; have HR := hide hr; clear ho hr hl)
  go_loopg [10] sn (fun gg s10 wr => ∃ (k : Nat) (ys : List GN), k ≤ sn ∧ sn - k ≤ gg ∧ s10 = .int .i64 k ∧ Hid (wr.ownsRow w.heap.size 50 16 (.slice sp sn sc) sn (ys.flatMap GN.cells)) ∧ Hid (RightF ys) ∧ Hid (sn = ys.length) ∧ Aside (Ext w wr))
  case atStart => exact ⟨0, xs, Nat.zero_le _, by omega, rfl, HO, HR, HL, hb⟩
  case round =>
    obtain ⟨k, ys, hk, hg, rfl, HO2, HR2, HL2, BW⟩ := hrel
    by_cases hlt : k < sn
    · obtain ⟨g, cap, hv, hg0, hg1⟩ := HO2.out.form (by omega)
      cases hv
      obtain ⟨z, hz⟩ := getElem?_of_lt (xs := ss) (k := k) (by have := HS.out.len; dsimp only at this; omega)
      obtain ⟨b, o, hsp, hblt, hcell⟩ := (HS.out.below BW.out).at_ k z hz
      have c0 : wr.cell? ⟨b, o + k, none⟩ = some (.int .i64 z) := by have := hcell 0 _ rfl; simpa using this
      have hltz : (k : Int) < (sn : Int) := by omega
      have hltn : (k : Int) < (n : Int) := by omega
      dsimp only at hsp
      clear hcell hz
      subst hsp
      obtain ⟨y, hy⟩ := getElem?_of_lt (xs := ys) (k := k) (by have := HL2.out; omega)
      have hfz := HO2.out.frozenAt (k * 16 + 1)
      have HY := hide hy
      clear hy
      have hcl : wr.cell? ⟨g, k * 16 + 1, none⟩ = some (.string y.nm) := (HO2.out.cellAt (k * 16 + 1) (by omega)).trans (flat_at HY.out rfl)
      have hm : 0 ≤ bits BinOp.and IntKind.i64 (z / 512) 7 ∧ bits BinOp.and IntKind.i64 (z / 512) 7 ≤ 7 := and_mask (z / 512) 7 (by decide)
      obtain ⟨V, hV, hV7⟩ : ∃ V : Nat, bits BinOp.and IntKind.i64 (z / 512) 7 = V ∧ V ≤ 7 := ⟨(bits BinOp.and IntKind.i64 (z / 512) 7).toNat, by omega, by omega⟩
      clear hm
      obtain rfl | rfl | rfl | rfl | rfl | rfl | rfl | rfl : V = 0 ∨ V = 1 ∨ V = 2 ∨ V = 3 ∨ V = 4 ∨ V = 5 ∨ V = 6 ∨ V = 7 := by omega
      all_goals go_wp2_with fail
      all_goals (go_roundg (sn - (k + 1)))
      all_goals first
        | omega
        | exact ⟨k + 1, _, by omega, by omega, by go_num, hide (own_name HO2.out HY.out _), hide (right_name HR2.out HY.out _), hide (by rw [List.length_set]; exact HL2.out), setCell_ext (Nat.le_refl _) BW.out HO2.out _ _⟩
        | exact ⟨k + 1, ys, by omega, by omega, by go_num, HO2, HR2, HL2, BW⟩
    · have hltz : ¬ (k : Int) < (sn : Int) := by omega
      go_wp2_with fail
      go_ret
      exact ⟨_, rfl, ys, by rw [← HL2.out]; exact HO2.out, HR2.out, by have := HL2.out; omega, BW.out⟩
end Go.Proofs.YtfcdohaimdodgaaDoor

/-
  Owned: the nodes of the layer's law, some of them maps; and an owner among them.
-/
namespace Go.Proofs.YtfcdohaimdodgaaDoor
open Go.RowKit Go.Shelf
set_option linter.unusedVariables false
theorem ext_drewN {w W : World} (h : Ext w W) (n : Nat) : Ext w (W.drewN n) := Below.trans h ⟨rfl, rfl, rfl, Nat.le_refl _, fun _ _ => rfl⟩
set_option maxHeartbeats 2000000 in
theorem owned_any (p : Option Addr) (n c : Nat) (ss : List Int) (cu : Int) (w : World) (hs : RowsAt 1 intCells w ⟨p, n, c⟩ ss) (hwf : ∀ x ∈ ss, (Lit.int .i64 x).wf = true) :
    Calls Tryd.prog 12 #[.slice p n c, .int .i64 cu] w fun e w' => ∃ v xs, ∃ i : Int, e = .returned (.tuple #[v, .int .i64 i]) ∧ w'.ownsRow w.heap.size 50 16 v xs.length (xs.flatMap GN.cells) ∧ RightF xs ∧ xs.length ≤ 60 ∧ (-1 ≤ i ∧ i < xs.length) ∧ Ext w w' := by
  have HF := hide (named_any p n c ss w hs hwf)
  have HS := hide hs
  clear hs hwf
  go_enter Tryd.func12, Tryd.ntmps12
  go_wp2_with (go_at_call 28; refine HF.out.mono ?_; rintro e w1 ⟨v, xs, rfl, ho, hr, hl, hb⟩; obtain ⟨sp, sn, sc, rfl, HL, HO, hl1, hl2⟩ := own_rows2 ho hl; have HR := hide hr; clear ho hr hl)
  go_loopg [13] sn (fun gg s13 wr => ∃ (k : Nat) (ys : List GN), k ≤ sn ∧ sn - k ≤ gg ∧ s13 = .int .i64 k ∧ Hid (wr.ownsRow w.heap.size 50 16 (.slice sp sn sc) sn (ys.flatMap GN.cells)) ∧ Hid (RightF ys) ∧ Hid (sn = ys.length) ∧ Aside (Ext w wr))
  case atStart => exact ⟨0, xs, Nat.zero_le _, by omega, rfl, HO, HR, HL, hb⟩
  case round =>
    obtain ⟨k, ys, hk, hg, rfl, HO2, HR2, HL2, BW⟩ := hrel
    by_cases hlt : k < sn
    · obtain ⟨g, cap, hv, hg0, hg1⟩ := HO2.out.form (by omega)
      cases hv
      obtain ⟨z, hz⟩ := getElem?_of_lt (xs := ss) (k := k) (by have := HS.out.len; dsimp only at this; omega)
      obtain ⟨b, o, hsp, hblt, hcell⟩ := (HS.out.below BW.out).at_ k z hz
      have c0 : wr.cell? ⟨b, o + k, none⟩ = some (.int .i64 z) := by have := hcell 0 _ rfl; simpa using this
      have hltz : (k : Int) < (sn : Int) := by omega
      have hltn : (k : Int) < (n : Int) := by omega
      dsimp only at hsp
      clear hcell hz
      subst hsp
      obtain ⟨y, hy⟩ := getElem?_of_lt (xs := ys) (k := k) (by have := HL2.out; omega)
      have hfz := HO2.out.frozenAt (k * 16 + 2)
      have hfz7 := HO2.out.frozenAt (k * 16 + 7)
      have HY := hide hy
      clear hy
      have hcl : wr.cell? ⟨g, k * 16 + 2, none⟩ = some (.int .u8 y.k) := (HO2.out.cellAt (k * 16 + 2) (by omega)).trans (flat_at HY.out rfl)
      have hcl7 : wr.cell? ⟨g, k * 16 + 7, none⟩ = some (.int .i64 y.wd) := (HO2.out.cellAt (k * 16 + 7) (by omega)).trans (flat_at HY.out rfl)
      go_wp2_with fail
      all_goals (go_roundg (sn - (k + 1)))
      all_goals first
        | omega
        | exact ⟨k + 1, _, by omega, by omega, by go_num, hide (own_kind HO2.out HY.out _ _), hide (right_kind HR2.out HY.out _ _), hide (by rw [List.length_set]; exact HL2.out), setCell_ext2 (Nat.le_refl _) BW.out HO2.out _ _ _ _⟩
        | exact ⟨k + 1, ys, by omega, by omega, by go_num, HO2, HR2, HL2, BW⟩
    · have hltz : ¬ (k : Int) < (sn : Int) := by omega
      obtain ⟨r, hrr, hrl⟩ : ∃ r : Nat, (IntKind.u64.wrap cu).tmod ((sn : Int) + 1) = r ∧ r ≤ sn := by
        have h0 : 0 ≤ IntKind.u64.wrap cu := by rw [IntKind.wrap_u64]; omega
        have h1 : 0 ≤ (IntKind.u64.wrap cu).tmod ((sn : Int) + 1) := Int.tmod_nonneg _ h0
        have h2 := Int.tmod_lt_of_pos (IntKind.u64.wrap cu) (show (0 : Int) < (sn : Int) + 1 by omega)
        exact ⟨((IntKind.u64.wrap cu).tmod ((sn : Int) + 1)).toNat, by omega, by omega⟩
      go_wp2_with fail
      go_quiet (fail)
      go_wp2
      go_ret2
      refine ⟨_, ys, (r : Int) - 1, ?_, by rw [← HL2.out]; exact HO2.out, HR2.out, by have := HL2.out; omega, by have := HL2.out; omega, ext_drewN BW.out nq⟩
      rfl
end Go.Proofs.YtfcdohaimdodgaaDoor

/-
  The reference functions' contracts, in this seat's words: what is handed in as rows, what comes back as the plain model.
-/
namespace Go.Proofs.YtfcdohaimdodgaaDoor
open Go.RowKit Go.Proofs.YtfcdohaimdodgaaDoorW.PrintWords Go.Proofs.YtfcdohaimdodgaaDoorW.PrintLast Go.Proofs.YtfcdohaimdodgaaDoorW.PrintMore PFrag
set_option linter.unusedVariables false
theorem C_of_rows {α β : Type} {d : Kd β} {sz : Nat} {cells : α → List Value} {f : α → β} {w : World} {s : Sl} {xs : List α} (h : RowsAt sz cells w s xs) (hsz : d.sz = sz) (hl : ∀ x, (cells x).length = sz) (hk : ∀ x ∈ xs, d.K w (f x) (cells x)) : d.C w s.p s.n (xs.map f) := by
  refine ⟨by rw [List.length_map]; exact h.len.symm, Nat.le_trans h.cap h.big, fun h0 => ?_⟩
  have hlen := h.len
  obtain ⟨x0, hx0⟩ := getElem?_of_lt (xs := xs) (k := 0) (by omega)
  obtain ⟨b, o, hp, -, -⟩ := h.at_ 0 x0 hx0
  refine ⟨_, hp, fun j q hq => ?_⟩
  rw [List.getElem?_map] at hq
  obtain ⟨x, hx, rfl⟩ := Option.map_eq_some_iff.1 hq
  obtain ⟨b', o', hp', -, hc⟩ := h.at_ j x hx
  rw [hp] at hp'
  cases hp'
  refine ⟨cells x, (hl x).trans hsz.symm, hk x (List.mem_of_getElem? hx), fun i u hu => ?_⟩
  rw [hsz, Addr.add_lit, ← Nat.add_assoc]
  exact hc i u hu
theorem C_strs {w : World} {s : Sl} {xs : List ByteArray} (h : RowsAt 1 strCells w s xs) : Kd.string.C w s.p s.n xs := by
  have := C_of_rows (d := Kd.string) (f := id) h rfl strCells_len (fun x _ => rfl)
  rwa [List.map_id] at this
theorem C_items {w : World} {s : Sl} {its : List It} (h : ItemsAt w s its) : Kd.C k27 w s.p s.n ((itemOf its).map toS) := by
  unfold itemOf
  rw [List.map_map]
  refine C_of_rows h.rows rfl It.cells_len (fun x hx => ?_)
  have hok := h.ok x hx
  obtain ⟨⟨nm, k, names, ov, wd, q⟩, ⟨sp, sn, sc⟩⟩ := x
  have hlen := hok.len
  dsimp only at hlen
  subst hlen
  exact k27_mk w (toS ⟨nm, k, names, ov, wd, q⟩) hok.cap (C_strs hok)
theorem C_nodes {w : World} {s : Sl} {xs : List GN} (h : NodesAt w s xs) (hf : ∀ x ∈ xs, Flat x) : Kd.C k50 w s.p s.n (xs.map ofGN) := by
  refine C_of_rows h rfl GN.cells_len (fun x hx => ?_)
  obtain ⟨h1, h2⟩ := hf x hx
  obtain ⟨id, nm, k, fl, ow, at_, af, wd, q, st, fa, tk, vk, vn, vs, vl⟩ := x
  dsimp only at h1 h2
  subst h1 h2
  exact k50_mk w (ofGN ⟨id, nm, k, fl, ow, at_, ⟨none, 0, 0⟩, wd, q, st, fa, tk, vk, vn, vs, ⟨none, 0, 0⟩⟩) (Nat.le_refl 0) (Kd.C_nil _ _) (Nat.le_refl 0) (Kd.C_nil _ _)
section
variable (cf : Cfg) (sp ip : Option Addr) (sn sc iN ic : Nat) (i q : Int) (xs : List GN) (its : List It) (w : World) (hn : NodesAt w ⟨sp, sn, sc⟩ xs) (hr : RightF xs) (h1 : -1 ≤ i) (h2 : i < xs.length) (hl : xs.length ≤ 1000) (hi : ItemsAt w ⟨ip, iN, ic⟩ its) (hll : its.length ≤ 1000)
include hn hr h1 h2 hl hi hll
theorem r20Frag_any (hx : ∀ x ∈ its, Light x.d) : Calls Tryd.prog 15 #[.agg #[.int .i64 cf.quota, .int .i64 cf.depth, .int .i64 cf.width, .int .i64 cf.retry, .int .i64 cf.flows], .slice sp sn sc, .int .i64 i, .int .i64 q, .slice ip iN ic] w fun e w' => e = .returned (.int .i64 (fragE cf xs i q (itemOf its))) ∧ Ext w w' := by
  have e1 : sn = (xs.map ofGN).length := by rw [List.length_map]; exact hn.len
  have e2 : iN = ((itemOf its).map toS).length := by simp only [itemOf, List.length_map]; exact hi.rows.len
  obtain ⟨k, hk⟩ := (frag_ev xs hr.r hl i h1 h2 (itemOf its) (by simpa [itemOf] using hll) cf q (fun x hx' => by obtain ⟨y, hy, rfl⟩ := List.mem_map.1 hx'; exact hx y hy)).rounds
  have c1 := C_nodes hn hr.f
  have c2 := C_items hi
  have hc1 := hn.cap
  have hc2 := hi.rows.cap
  dsimp only at c1 c2 hc1 hc2
  rw [e1] at c1 hc1 ⊢
  rw [e2] at c2 hc2 ⊢
  exact foremanref20_Frag.calls k _ _ _ _ _ sp sc (xs.map ofGN) i q ip ic ((itemOf its).map toS) _ w c1 hc1 c2 hc2 hk
theorem r20Refs_any (nm : ByteArray) : Calls Tryd.prog 17 #[.slice sp sn sc, .int .i64 i, .slice ip iN ic, .string nm] w fun e w' => e = .returned (.tuple #[.int .i64 (refsN xs i (itemOf its) nm).1, .int .i64 (refsN xs i (itemOf its) nm).2]) ∧ Ext w w' := by
  have e1 : sn = (xs.map ofGN).length := by rw [List.length_map]; exact hn.len
  have e2 : iN = ((itemOf its).map toS).length := by simp only [itemOf, List.length_map]; exact hi.rows.len
  obtain ⟨k, hk⟩ := (refs_ev xs hr.r hl i h1 h2 (itemOf its) (by simpa [itemOf] using hll) nm).rounds
  have c1 := C_nodes hn hr.f
  have c2 := C_items hi
  have hc1 := hn.cap
  have hc2 := hi.rows.cap
  dsimp only at c1 c2 hc1 hc2
  rw [e1] at c1 hc1 ⊢
  rw [e2] at c2 hc2 ⊢
  exact foremanref20_Refs.calls k sp sc (xs.map ofGN) i ip ic ((itemOf its).map toS) nm _ _ w c1 hc1 c2 hc2 hk
end
theorem r20Total_any (ip : Option Addr) (iN ic : Nat) (its : List It) (w : World) (hi : ItemsAt w ⟨ip, iN, ic⟩ its) (hll : its.length ≤ 1000) (hx : rightB (itemOf its) = true) : Calls Tryd.prog 18 #[.slice ip iN ic] w fun e w' => e = .returned (.int .i64 (totalZ (itemOf its))) ∧ Ext w w' := by
  have e2 : iN = ((itemOf its).map toS).length := by simp only [itemOf, List.length_map]; exact hi.rows.len
  have hf : ∀ x ∈ itemOf its, fitsB x = true := by
    simp only [rightB, Bool.and_eq_true, List.all_eq_true] at hx
    exact hx.2
  obtain ⟨k, hk⟩ := (total_ev (itemOf its) (by simpa [itemOf] using hll) hf).rounds
  have c2 := C_items hi
  have hc2 := hi.rows.cap
  dsimp only at c2 hc2
  rw [e2] at c2 hc2 ⊢
  exact foremanref20_Total.calls k ip ic ((itemOf its).map toS) _ w c2 hc2 hk
end Go.Proofs.YtfcdohaimdodgaaDoor

/-
  Few of layer 09's law: it answers, and leaves all as it was.
-/
namespace Go.Proofs.YtfcdohaimdodgaaDoor
open Go.RowKit Go.Shelf
set_option linter.unusedVariables false
def IsBool (v : Value) : Prop := ∃ b, v = .bool b
set_option maxHeartbeats 4000000 in
set_option maxRecDepth 4000 in
theorem few_any (p : Option Addr) (n c : Nat) (its : List It) (w : World) (hs : ItemsAt w ⟨p, n, c⟩ its) :
    Calls Tryd.prog 13 #[.slice p n c] w fun e w' => ∃ v, e = .returned v ∧ IsBool v ∧ Ext w w' := by
  have HS := hide hs
  have HN : Hid (n = its.length) := hide hs.rows.len
  have hbig : n ≤ 9223372036854775807 := Nat.le_trans hs.rows.cap hs.rows.big
  clear hs
  go_enter Tryd.func13, Tryd.ntmps13
  go_wp2
  go_loopg [9] n (fun gg s9 wr => ∃ k : Nat, k ≤ n ∧ n - k ≤ gg ∧ s9 = .int .i64 k ∧ Aside (Ext w wr))
  case atStart => exact ⟨0, Nat.zero_le _, by omega, rfl, Ext.refl _⟩
  case round =>
    obtain ⟨k, hk, hg, rfl, BW⟩ := hrel
    have BE := BW.out
    by_cases hlt : k < n
    · obtain ⟨x, hx⟩ := getElem?_of_lt (xs := its) (k := k) (by have := HN.out; omega)
      obtain ⟨b, o, hsp, hblt, c0, c1, c2, c3, c4, c5⟩ := ItemsAt.cells' (HS.out.below BW.out).rows hx
      have HOK := hide (HS.out.ok x (List.mem_of_getElem? hx))
      have hltz : (k : Int) < (n : Int) := by omega
      obtain ⟨⟨nm, kd, names, ov, wid, q0⟩, ⟨sp, sn, sc⟩⟩ := x
      dsimp only at c0 c1 c2 c3 c4 c5
      clear hx
      subst hsp
      go_wp2_with fail
      all_goals first | (go_ret; exact ⟨_, rfl, ⟨_, rfl⟩, by (repeat' (first | exact Below.refl _ _ | assumption | refine Ext.alloc ?_ _ | refine Ext.drew ?_ | refine Ext.trans ?_ (by assumption)))⟩) | skip
      go_loopg [32] sn (fun gg s32 wi => ∃ v : Nat, v ≤ sn ∧ sn - v ≤ gg ∧ s32 = .int .i64 v ∧ Aside (Ext w wi))
      case atStart => exact ⟨0, Nat.zero_le _, by omega, rfl, by (repeat' (first | exact Below.refl _ _ | assumption | refine Ext.alloc ?_ _ | refine Ext.drew ?_ | refine Ext.trans ?_ (by assumption)))⟩
      case round =>
        obtain ⟨v, hv, hgv, rfl, BI⟩ := hrel
        have BJ := BI.out
        by_cases hvlt : v < sn
        · obtain ⟨y, hy⟩ := getElem?_of_lt (xs := names) (k := v) (by have := HOK.out.len; dsimp only at this; omega)
          obtain ⟨b2, o2, hsp2, hblt2, hcell2⟩ := (RowsAt.below HOK.out BJ).at_ v y hy
          have c0' : wr.cell? ⟨b2, o2 + v, none⟩ = some (.string y) := by have := hcell2 0 _ rfl; simpa using this
          have hvz : (v : Int) < (sn : Int) := by omega
          dsimp only at hsp2
          clear hcell2 hy
          subst hsp2
          go_wp2_with fail
          all_goals first | (go_ret; exact ⟨_, rfl, ⟨_, rfl⟩, by (repeat' (first | exact Below.refl _ _ | assumption | refine Ext.alloc ?_ _ | refine Ext.drew ?_ | refine Ext.trans ?_ (by assumption)))⟩) | skip
          go_roundg (sn - (v + 1))
          case measure => omega
          case rel => exact ⟨v + 1, by omega, by omega, by go_num, BI⟩
        · have hvz : ¬ (v : Int) < (sn : Int) := by omega
          go_wp2_with fail
          go_roundg (n - (k + 1))
          case measure => omega
          case rel => exact ⟨k + 1, by omega, by omega, by go_num, BI⟩
    · have hltz : ¬ (k : Int) < (n : Int) := by omega
      go_wp2_with fail
      all_goals go_ret
      all_goals exact ⟨_, rfl, ⟨_, rfl⟩, BE⟩
end Go.Proofs.YtfcdohaimdodgaaDoor

/-
  Few of layer 09's law: if it answers yes, all items are light.
-/
namespace Go.Proofs.YtfcdohaimdodgaaDoor
open Go.RowKit Go.Shelf
set_option linter.unusedVariables false
/-- what Few says of the texts -/
def LightB (b : Bool) (l : List It) : Prop := b = true → ∀ x ∈ l, Light x.d
theorem lightB_no (l : List It) : LightB false l := fun h => by cases h
def FewPost (l : List It) (w : World) (e : Ending) (w' : World) : Prop := ∃ b, e = .returned (.bool b) ∧ LightB b l ∧ Ext w w'
theorem few_no {l : List It} {w w' : World} (h : Ext w w') : FewPost l w (.returned (.bool false)) w' := ⟨_, rfl, lightB_no _, h⟩
theorem few_end {l : List It} {w w' : World} {b : Bool} (h : Ext w w') (hl : ∀ x ∈ l, Light x.d) : FewPost l w (.returned (.bool b)) w' := ⟨_, rfl, fun _ => hl, h⟩
set_option maxHeartbeats 4000000 in
set_option maxRecDepth 4000 in
theorem few_light (p : Option Addr) (n c : Nat) (its : List It) (w : World) (hs : ItemsAt w ⟨p, n, c⟩ its) :
    Calls Tryd.prog 13 #[.slice p n c] w (FewPost its w) := by
  have HS := hide hs
  have HN : Hid (n = its.length) := hide hs.rows.len
  have hbig : n ≤ 9223372036854775807 := Nat.le_trans hs.rows.cap hs.rows.big
  clear hs
  go_enter Tryd.func13, Tryd.ntmps13
  go_wp2
  go_loopg [9] n (fun gg s9 wr => ∃ k : Nat, k ≤ n ∧ n - k ≤ gg ∧ s9 = .int .i64 k ∧ Aside (∀ y ∈ its.take k, Light y.d) ∧ Aside (Ext w wr))
  case atStart => exact ⟨0, Nat.zero_le _, by omega, rfl, (show Aside _ from fun y hy => by simp at hy), Ext.refl _⟩
  case round =>
    obtain ⟨k, hk, hg, rfl, HLt, BW⟩ := hrel
    have BE := BW.out
    by_cases hlt : k < n
    · obtain ⟨x, hx⟩ := getElem?_of_lt (xs := its) (k := k) (by have := HN.out; omega)
      obtain ⟨b, o, hsp, hblt, c0, c1, c2, c3, c4, c5⟩ := ItemsAt.cells' (HS.out.below BW.out).rows hx
      have HOK := hide (HS.out.ok x (List.mem_of_getElem? hx))
      have hltz : (k : Int) < (n : Int) := by omega
      have HX := hide hx
      have HXL : Hid (∀ (a b c : Prop), True) := hide fun _ _ _ => trivial
      obtain ⟨⟨nm, kd, names, ov, wid, q0⟩, ⟨sp, sn, sc⟩⟩ := x
      dsimp only at c0 c1 c2 c3 c4 c5
      clear hx HXL
      subst hsp
      go_wp2_with fail
      all_goals first | (go_ret; exact few_no (by (repeat' (first | exact Below.refl _ _ | assumption | refine Ext.alloc ?_ _ | refine Ext.drew ?_ | refine Ext.trans ?_ (by assumption))))) | skip
      have hs1 : sn ≤ 40 ∧ nm.size ≤ 100 ∧ ov.size ≤ 100 := by omega
      have HS1 := hide hs1
      clear hs1
      go_loopg [32] sn (fun gg s32 wi => ∃ v : Nat, v ≤ sn ∧ sn - v ≤ gg ∧ s32 = .int .i64 v ∧ Aside (∀ s ∈ names.take v, s.size ≤ 100) ∧ Aside (Ext w wi))
      case atStart => exact ⟨0, Nat.zero_le _, by omega, rfl, (show Aside _ from fun y hy => by simp at hy), by (repeat' (first | exact Below.refl _ _ | assumption | refine Ext.alloc ?_ _ | refine Ext.drew ?_ | refine Ext.trans ?_ (by assumption)))⟩
      case round =>
        obtain ⟨v, hv, hgv, rfl, HSm, BI⟩ := hrel
        have BJ := BI.out
        by_cases hvlt : v < sn
        · obtain ⟨y, hy⟩ := getElem?_of_lt (xs := names) (k := v) (by have := HOK.out.len; dsimp only at this; omega)
          obtain ⟨b2, o2, hsp2, hblt2, hcell2⟩ := (RowsAt.below HOK.out BJ).at_ v y hy
          have c0' : wr.cell? ⟨b2, o2 + v, none⟩ = some (.string y) := by have := hcell2 0 _ rfl; simpa using this
          have hvz : (v : Int) < (sn : Int) := by omega
          have HY := hide hy
          dsimp only at hsp2
          clear hcell2 hy
          subst hsp2
          go_wp2_with fail
          all_goals first | (go_ret; exact few_no (by (repeat' (first | exact Below.refl _ _ | assumption | refine Ext.alloc ?_ _ | refine Ext.drew ?_ | refine Ext.trans ?_ (by assumption))))) | skip
          have hys : y.size ≤ 100 := by omega
          go_roundg (sn - (v + 1))
          case measure => omega
          case rel =>
            refine ⟨v + 1, by omega, by omega, by go_num, (show Aside _ from fun s hs => ?_), BI⟩
            rw [take_snoc HY.out] at hs
            rcases List.mem_append.1 hs with h | h
            · exact HSm.out s h
            · obtain rfl := List.mem_singleton.1 h; exact hys
        · have hvz : ¬ (v : Int) < (sn : Int) := by omega
          go_wp2_with fail
          go_roundg (n - (k + 1))
          case measure => omega
          case rel =>
            refine ⟨k + 1, by omega, by omega, by go_num, (show Aside _ from fun z hz => ?_), BI⟩
            rw [take_snoc HX.out] at hz
            rcases List.mem_append.1 hz with h | h
            · exact HLt.out z h
            · obtain rfl := List.mem_singleton.1 h
              have e1 := HOK.out.len
              dsimp only at e1
              have e2 := HSm.out
              rw [List.take_of_length_le (by omega)] at e2
              exact ⟨HS1.out.2.1, HS1.out.2.2, by have := HS1.out.1; show names.length ≤ 40; omega, e2⟩
    · have hltz : ¬ (k : Int) < (n : Int) := by omega
      have HKN : Hid (its.take k = its) := hide (List.take_of_length_le (by have := HN.out; omega))
      go_wp2_with fail
      all_goals go_ret
      all_goals exact few_end BE (fun x hx => HLt.out x (by rw [HKN.out]; exact hx))
end Go.Proofs.YtfcdohaimdodgaaDoor

/-
  CheckCosts: its walk.
-/
namespace Go.Proofs.YtfcdohaimdodgaaDoor
open Go.RowKit Go.Shelf
set_option linter.unusedVariables false
attribute [local go_sem] Sem.run_pure Result.andThen_ok storeCells

def zItem : Value := .agg #[.string ⟨#[]⟩, .int .u8 0, .slice none 0 0, .string ⟨#[]⟩, .int .i64 0, .int .i64 0]
theorem infoItem : (Tryd.prog.info? 27).map (fun i => (i.zero, i.size, i.bytes)) = some (some zItem, 6, 80) := by kernel_rfl
theorem zItem_cells : zItem.cells.size = 6 := by kernel_rfl
theorem It.one (y : It) : ∀ u ∈ y.cells, u.oneCell' = true := by simp [It.cells, Value.oneCell']
theorem fits_all {xs : List It} (h : rightB (itemOf xs) = true) : ∀ x ∈ xs, fitsB x.d = true := by
  simp only [rightB, Bool.and_eq_true, List.all_eq_true] at h
  exact fun x hx => h.2 x.d (List.mem_map_of_mem hx)
theorem two_items (w : World) (x y : It) (w2 : World) (hb : Ext ((w.alloc (.cells x.cells.toArray 27)).alloc (.cells y.cells.toArray 27)) w2) : w.heap.size < w2.heap.size ∧ w.heap.size + 1 < w2.heap.size ∧
    w2.cell? ⟨w.heap.size, 0, none⟩ = some (.string x.d.nm) ∧ w2.cell? ⟨w.heap.size, 1, none⟩ = some (.int .u8 x.d.k) ∧ w2.cell? ⟨w.heap.size, 2, none⟩ = some (.slice x.af.p x.af.n x.af.c) ∧ w2.cell? ⟨w.heap.size, 3, none⟩ = some (.string x.d.ov) ∧ w2.cell? ⟨w.heap.size, 4, none⟩ = some (.int .i64 x.d.wd) ∧ w2.cell? ⟨w.heap.size, 5, none⟩ = some (.int .i64 x.d.q) ∧
    w2.cell? ⟨w.heap.size + 1, 0, none⟩ = some (.string y.d.nm) ∧ w2.cell? ⟨w.heap.size + 1, 1, none⟩ = some (.int .u8 y.d.k) ∧ w2.cell? ⟨w.heap.size + 1, 2, none⟩ = some (.slice y.af.p y.af.n y.af.c) ∧ w2.cell? ⟨w.heap.size + 1, 3, none⟩ = some (.string y.d.ov) ∧ w2.cell? ⟨w.heap.size + 1, 4, none⟩ = some (.int .i64 y.d.wd) ∧ w2.cell? ⟨w.heap.size + 1, 5, none⟩ = some (.int .i64 y.d.q) := by
  have hs := hb.size
  rw [alloc_size, alloc_size] at hs
  have key : ∀ k row, [(x.cells, 27), (y.cells, 27)][k]? = some row → k < 2 → ∀ j v, row.1[j]? = some v → w2.cell? ⟨w.heap.size + k, j, none⟩ = some v := fun k row hk h2 j v hv =>
    (hb.cell (p := ⟨w.heap.size + k, j, none⟩) (by rw [alloc_size, alloc_size]; show w.heap.size + k < _; omega)).trans (allocs_cell [(x.cells, 27), (y.cells, 27)] w k row hk j v hv)
  exact ⟨by omega, by omega, key 0 _ rfl (by omega) 0 _ rfl, key 0 _ rfl (by omega) 1 _ rfl, key 0 _ rfl (by omega) 2 _ rfl, key 0 _ rfl (by omega) 3 _ rfl, key 0 _ rfl (by omega) 4 _ rfl, key 0 _ rfl (by omega) 5 _ rfl,
    key 1 _ rfl (by omega) 0 _ rfl, key 1 _ rfl (by omega) 1 _ rfl, key 1 _ rfl (by omega) 2 _ rfl, key 1 _ rfl (by omega) 3 _ rfl, key 1 _ rfl (by omega) 4 _ rfl, key 1 _ rfl (by omega) 5 _ rfl⟩
theorem both_rows {W : World} {base : Nat} {v : Value} {xs ys : List It} {n m : Nat} (hn : n = xs.length) (hm : m = ys.length) (h : W.ownsRow base 27 6 v (n + m) (xs.flatMap It.cells ++ ys.flatMap It.cells)) :
    ∃ s : Sl, v = .slice s.p s.n s.c ∧ Hid (RowsAt 6 It.cells W s (xs ++ ys)) := by
  subst hn hm
  have := h
  rw [← List.flatMap_append, ← List.length_append] at this
  obtain ⟨s, h1, h2, _⟩ := RowsAt.of_owns It.cells_len this
  exact ⟨s, h1, hide h2⟩
theorem tot3 (W : World) (s : Sl) (l : List It) (v : Int) (hs : Hid (RowsAt 6 It.cells W s l)) (hf : Hid (∀ x ∈ l, fitsB x.d = true)) (hl : l.length ≤ 1000) (hv : Hid (totalZ (itemOf l) = v)) :
    Calls Tryd.prog 11 #[.slice s.p s.n s.c] W fun e w' => e = .returned (.int .i64 v) ∧ Ext W w' := by
  rw [← hv.out]
  exact total_any s.p s.n s.c l W hs.out hf.out hl
set_option maxHeartbeats 2000000 in
theorem costs_any (p : Option Addr) (n c : Nat) (q : Option Addr) (m k : Nat) (xs ys : List It) (w : World) (hx : ItemsAt w ⟨p, n, c⟩ xs) (hy : ItemsAt w ⟨q, m, k⟩ ys) :
    Calls Tryd.prog 3 #[.slice p n c, .slice q m k] w fun e w' => e = .returned (.bool true) ∧ Ext w w' := by
  have hnc := hx.rows.cap
  have hmk := hy.rows.cap
  dsimp only at hnc hmk
  have HX := hide hx
  have HY := hide hy
  have HAW := hide awake_any
  clear hx hy
  go_enter Tryd.func3, Tryd.ntmps3
  go_wp2_with fail
  go_quiet (fail)
  have hN : (min (n : Int) 30).toNat ≤ n ∧ (min (n : Int) 30).toNat ≤ 30 := by omega
  have hM : (min (m : Int) 30).toNat ≤ m ∧ (min (m : Int) 30).toNat ≤ 30 := by omega
  have HX2 := hide (HX.out.take _ hN.1)
  have HY2 := hide (HY.out.take _ hM.1)
  clear HX HY
  generalize hi : (min (n : Int) 30).toNat = n1 at *
  generalize hj : (min (m : Int) 30).toNat = m1 at *
  clear hi hj
  obtain ⟨hN, hN30⟩ := hN
  obtain ⟨hM, hM30⟩ := hM
  generalize xs.take n1 = xs1 at *
  generalize ys.take m1 = ys1 at *
  have hw0 : Ext w (w.drewN nq) := by
    clear HX2 HY2
    induction nq with
    | zero => exact Ext.refl w
    | succ k ih => exact Ext.drew ih
  generalize w.drewN nq = wd at *
  have HX := HX2
  have HY := HY2
  clear HX2 HY2
  dsimp only at HX HY
  have RX := hide (fun W (h : Ext w W) => right_any p n1 c xs1 W (HX.out.below h))
  have RY := hide (fun W (h : Ext w W) => right_any q m1 k ys1 W (HY.out.below h))
  generalize hrx : rightB (itemOf xs1) = rx at *
  generalize hry : rightB (itemOf ys1) = ry at *
  have hrxh := hide hrx
  have hryh := hide hry
  clear hrx hry
  go_wp2_with (first | (go_at_call 8; with_reducible refine (RX.out _ (by (repeat' (first | exact Below.refl _ _ | assumption | refine Ext.alloc ?_ _ | refine Ext.drew ?_ | refine Ext.trans ?_ (by assumption))))).mono ?_; rintro e w1 ⟨rfl, hb⟩; have hb : Ext w w1 := Ext.trans (by (repeat' (first | exact Below.refl _ _ | assumption | refine Ext.alloc ?_ _ | refine Ext.drew ?_ | refine Ext.trans ?_ (by assumption)))) hb) | (go_at_call 8; with_reducible refine (RY.out _ (by (repeat' (first | exact Below.refl _ _ | assumption | refine Ext.alloc ?_ _ | refine Ext.drew ?_ | refine Ext.trans ?_ (by assumption))))).mono ?_; rintro e w1 ⟨rfl, hb⟩; have hb : Ext w w1 := Ext.trans (by (repeat' (first | exact Below.refl _ _ | assumption | refine Ext.alloc ?_ _ | refine Ext.drew ?_ | refine Ext.trans ?_ (by assumption)))) hb) | (go_at_call 9; with_reducible refine (HAW.out _).mono ?_; rintro e w1 ⟨rfl, hb⟩; have hb : Ext w w1 := Ext.trans (by (repeat' (first | exact Below.refl _ _ | assumption | refine Ext.alloc ?_ _ | refine Ext.drew ?_ | refine Ext.trans ?_ (by assumption)))) hb))
  · go_ret
    exact ⟨rfl, hb⟩
  rotate_left
  · go_ret
    exact ⟨rfl, hb⟩
  have hrt : rx = true := by simp_all
  have hrs : ry = true := by simp_all
  have hw1 : Ext w w1 := hb
  subst hrt hrs
  have HFX := hide (fits_all hrxh.out)
  have HFY := hide (fits_all hryh.out)
  clear hrxh hryh RX RY hb hw0
  have hlx := HX.out.rows.len
  dsimp only at hlx
  have HLX := hide hlx
  clear hlx
  go_loopg [31] n1 (fun gg s31 wr => ∃ j : Nat, j ≤ n1 ∧ n1 - j ≤ gg ∧ s31 = .int .i64 j ∧ Aside (Ext w wr))
  case atStart => exact ⟨0, Nat.zero_le _, by omega, rfl, hw1⟩
  case round =>
    obtain ⟨j, hj, hg, rfl, BW⟩ := hrel
    by_cases hlt : j < n1
    · obtain ⟨x, hx⟩ := getElem?_of_lt (xs := xs1) (k := j) (by have := HLX.out; omega)
      obtain ⟨b, o, hsp, hblt, c0, c1, c2, c3, c4, c5⟩ := ItemsAt.cells' (HX.out.below BW.out).rows hx
      have hfx := HFX.out x (List.mem_of_getElem? hx)
      have hltz : (j : Int) < (n1 : Int) := by omega
      have hxd := fits_bd hfx
      have hcost := hide (fun W => cost_any x W (.inl hfx))
      obtain ⟨⟨nm, kd, names, ov, wid, q0⟩, ⟨sp, sn, sc⟩⟩ := x
      dsimp only at c0 c1 c2 c3 c4 c5 hxd
      clear hx hfx
      subst hsp
      have HQ := hide (fun W => cost_any ⟨⟨⟨#[116]⟩, 0, [], ⟨#[]⟩, 0, q0⟩, ⟨none, 0, 0⟩⟩ W (.inr ⟨⟨Int.le_refl 0, by show (0:Int) ≤ 40; omega⟩, hxd.1⟩))
      have hq0 := hxd.1
      have hwid := hxd.2.1
      obtain ⟨hq1, hq2⟩ := hq0
      obtain ⟨hwi1, hwi2⟩ := hwid
      have HQ2 : costZ ⟨⟨#[116]⟩, 0, [], ⟨#[]⟩, 0, q0⟩ = 1 + q0 := by simp [costZ]
      dsimp only at HQ
      rw [HQ2] at HQ
      clear HQ2
      have hmul1 : 0 ≤ wid * (1 + q0) := Int.mul_nonneg (by omega) (by omega)
      have hmul2 : wid * (1 + q0) ≤ 40 * (1 + q0) := Int.mul_le_mul_of_nonneg_right (by omega) (by omega)
      have hB := BW.out.size
      rcases hxd.2.2 with hkd | hkd
      · subst hkd
        have hc1 : costZ ⟨nm, 0, names, ov, wid, q0⟩ = 1 + q0 := by simp [costZ]
        dsimp only at hcost
        rw [hc1] at hcost
        clear hc1 hxd
        go_wp2_with (first | (go_at_call 10; (first | with_reducible refine (HQ.out _).mono ?_ | with_reducible refine (hcost.out _).mono ?_); rintro e w2 ⟨rfl, hb⟩; obtain ⟨hc, hf, hz⟩ := bcell hb))
        go_roundg (n1 - (j + 1))
        case measure => omega
        case rel => exact ⟨j + 1, by omega, by omega, by go_num, BW.out.trans (by (repeat' (first | exact Below.refl _ _ | assumption | refine Ext.alloc ?_ _ | refine Ext.drew ?_ | refine Ext.trans ?_ (by assumption))))⟩
      · subst hkd
        have hc1 : costZ ⟨nm, 1, names, ov, wid, q0⟩ = wid * (1 + q0) + 1 := by simp [costZ]
        dsimp only at hcost
        rw [hc1] at hcost
        clear hc1 hxd
        go_wp2_with (go_at_call 10; with_reducible refine (HQ.out _).mono ?_; rintro e w2 ⟨rfl, hb⟩; obtain ⟨dz0, dz1, d0, d1, d2, d3, d4, d5, e0, e1, e2, e3, e4, e5⟩ := two_items wr ⟨⟨nm, 1, names, ov, wid, q0⟩, ⟨sp, sn, sc⟩⟩ ⟨⟨⟨#[116]⟩, 0, [], ⟨#[]⟩, 0, q0⟩, ⟨none, 0, 0⟩⟩ w2 (by simpa only [It.cells] using hb); have hw2 : Ext wr w2 := Ext.trans (by (repeat' (first | exact Below.refl _ _ | assumption | refine Ext.alloc ?_ _ | refine Ext.drew ?_ | refine Ext.trans ?_ (by assumption)))) hb; have hw2' : Ext w w2 := BW.out.trans hw2; clear hb c0 c1 c2 c3 c4 c5; dsimp only at d0 d1 d2 d3 d4 d5 e0 e1 e2 e3 e4 e5)
        go_loopg [8, 45] wid.toNat (fun gg s8 s45 wi => ∃ v : Nat, (v : Int) ≤ wid ∧ wid.toNat - v ≤ gg ∧ s45 = .int .i64 v ∧ s8 = .int .i64 (1 + v * (1 + q0)) ∧ Aside (Ext w2 wi))
        case atStart => exact ⟨0, by omega, by omega, rfl, by simp, Ext.refl _⟩
        case round =>
          obtain ⟨v, hv, hgv, rfl, rfl, BI⟩ := hrel
          have hm1 : 0 ≤ (v : Int) * (1 + q0) := Int.mul_nonneg (by omega) (by omega)
          have hm2 : (v : Int) * (1 + q0) ≤ 40 * (1 + q0) := Int.mul_le_mul_of_nonneg_right (by omega) (by omega)
          obtain ⟨hc, hf, hz⟩ := bcell BI.out
          by_cases hvlt : (v : Int) < wid
          · have HS : Hid (1 + ((v + 1 : Nat) : Int) * (1 + q0) = 1 + (v : Int) * (1 + q0) + (1 + q0)) := by
              apply hide
              rw [Int.natCast_add, Int.add_mul]; omega
            generalize (v : Int) * (1 + q0) = V at *
            go_wp2_with (go_at_call 10; with_reducible refine (HQ.out _).mono ?_; rintro e w3 ⟨rfl, hb⟩)
            go_roundg (wid.toNat - (v + 1))
            case measure => omega
            case rel => exact ⟨v + 1, by omega, by omega, by go_num, by rw [HS.out], BI.out.trans (by (repeat' (first | exact Below.refl _ _ | assumption | refine Ext.alloc ?_ _ | refine Ext.drew ?_ | refine Ext.trans ?_ (by assumption))))⟩
          · obtain rfl : (v : Int) = wid := by omega
            go_wp2_with (go_at_call 10; with_reducible refine (hcost.out _).mono ?_; rintro e w3 ⟨rfl, hb⟩)
            go_roundg (n1 - (j + 1))
            case measure => omega
            case rel => exact ⟨j + 1, by omega, by omega, by go_num, BW.out.trans (hw2.trans (BI.out.trans hb))⟩
    · have hltz : ¬ (j : Int) < (n1 : Int) := by omega
      obtain ⟨i0, hiI, hz0, hz1, hz2⟩ := info_parts infoItem
      have ha : Ext w (wr.alloc (.cells #[] 27)) := Ext.alloc BW.out _
      have hlx : n1 = xs1.length := HLX.out
      have hly : m1 = ys1.length := HY.out.rows.len
      have hfxy : ∀ x ∈ xs1 ++ ys1, fitsB x.d = true := fun x hx => (List.mem_append.1 hx).elim (HFX.out x) (HFY.out x)
      have hbx := total_bd (l := itemOf xs1) (fun y hy => by obtain ⟨z, hz, rfl⟩ := List.mem_map.1 hy; exact HFX.out z hz)
      have hby := total_bd (l := itemOf ys1) (fun y hy => by obtain ⟨z, hz, rfl⟩ := List.mem_map.1 hy; exact HFY.out z hz)
      simp only [itemOf, List.length_map] at hbx hby
      have hbx1 : 0 ≤ totalZ (itemOf xs1) ∧ totalZ (itemOf xs1) ≤ 510000 := by simp only [itemOf]; omega
      have hby1 : 0 ≤ totalZ (itemOf ys1) ∧ totalZ (itemOf ys1) ≤ 510000 := by simp only [itemOf]; omega
      have hsum : totalZ (itemOf (xs1 ++ ys1)) = totalZ (itemOf xs1) + totalZ (itemOf ys1) := by simp only [itemOf, List.map_append, totalZ_append]
      have TX := hide (fun W (h : Ext w W) => total_any p n1 c xs1 W (HX.out.below h).rows HFX.out (by omega))
      have TY := hide (fun W (h : Ext w W) => total_any q m1 k ys1 W (HY.out.below h).rows HFY.out (by omega))
      have T0 := hide (fun W => total_any none 0 0 [] W (RowsAt.nil _ _ _) (fun x hx => by simp at hx) (by simp))
      have h0 : totalZ (itemOf []) = 0 := rfl
      rw [h0] at T0
      clear h0 hbx hby
      have HLy := hide hly
      have HFxy := hide hfxy
      have HSum := hide hsum
      clear hlx hly hfxy hsum
      obtain ⟨hbx1, hbx2⟩ := hbx1
      obtain ⟨hby1, hby2⟩ := hby1
      generalize hTX : totalZ (itemOf xs1) = tx at *
      generalize hTY : totalZ (itemOf ys1) = ty at *
      clear hTX hTY
      have hsz := BW.out.size
      have HL3 : (xs1 ++ ys1).length ≤ 1000 := by (have e1 := HLX.out; have e2 := HLy.out; rw [List.length_append]; omega)
      go_wp2_with (first | (go_at_call 9; with_reducible refine (HAW.out _).mono ?_; rintro e w1 ⟨rfl, hb⟩; have hb : Ext w w1 := Ext.trans (by (repeat' (first | exact Below.refl _ _ | assumption | refine Ext.alloc ?_ _ | refine Ext.drew ?_ | refine Ext.trans ?_ (by assumption)))) hb) | (go_at_call 11; with_reducible refine (T0.out _).mono ?_; rintro e w1 ⟨rfl, hb⟩; have hb : Ext w w1 := Ext.trans (by (repeat' (first | exact Below.refl _ _ | assumption | refine Ext.alloc ?_ _ | refine Ext.drew ?_ | refine Ext.trans ?_ (by assumption)))) hb) | (go_at_call 11; with_reducible refine (tot3 _ _ _ _ hsv HFxy HL3 HSum).mono ?_; rintro e w1 ⟨rfl, hb⟩; have hb : Ext w w1 := Ext.trans (by (repeat' (first | exact Below.refl _ _ | assumption | refine Ext.alloc ?_ _ | refine Ext.drew ?_ | refine Ext.trans ?_ (by assumption)))) hb) | (go_at_call 11; with_reducible refine (TX.out _ (by (repeat' (first | exact Below.refl _ _ | assumption | refine Ext.alloc ?_ _ | refine Ext.drew ?_ | refine Ext.trans ?_ (by assumption))))).mono ?_; rintro e w1 ⟨rfl, hb⟩; have hb : Ext w w1 := Ext.trans (by (repeat' (first | exact Below.refl _ _ | assumption | refine Ext.alloc ?_ _ | refine Ext.drew ?_ | refine Ext.trans ?_ (by assumption)))) hb) | (go_at_call 11; with_reducible refine (TY.out _ (by (repeat' (first | exact Below.refl _ _ | assumption | refine Ext.alloc ?_ _ | refine Ext.drew ?_ | refine Ext.trans ?_ (by assumption))))).mono ?_; rintro e w1 ⟨rfl, hb⟩; have hb : Ext w w1 := Ext.trans (by (repeat' (first | exact Below.refl _ _ | assumption | refine Ext.alloc ?_ _ | refine Ext.drew ?_ | refine Ext.trans ?_ (by assumption)))) hb) | (at_builtin; refine wpList_append_rows (cells := It.cells) rfl _ _ 22 rfl wr.heap.size 27 i0 zItem 6 80 Tryd.underlying22 hiI hz0 hz1 hz2 zItem_cells (by decide) _ _ _ rfl ho1 q m1 k ys1 rfl (HY.out.below he1).rows It.cells_len It.one (by unfold maxLen; omega) (by omega) hsa ?_; intro v2 wb ho2 hg2 _; have he2 : Ext w wb := ext_grown he1 ho1 hsz hg2; clear hg2; obtain ⟨sv, rfl, hsv⟩ := both_rows HLX.out HLy.out ho2; clear ho1 ho2) | (at_builtin; refine wpList_append_rows (cells := It.cells) rfl _ _ 22 rfl wr.heap.size 27 i0 zItem 6 80 Tryd.underlying22 hiI hz0 hz1 hz2 zItem_cells (by decide) _ _ _ rfl (owns_empty wr 27 6) p n1 c xs1 rfl (HX.out.below ha).rows It.cells_len It.one (by unfold maxLen; omega) (by omega) (by simp) ?_; intro v1 wa ho1 hg1 _; simp only [Nat.zero_add, List.nil_append] at ho1; have he1 : Ext w wa := ext_grown ha (owns_empty wr 27 6) hsz hg1; have hsa : wr.heap.size ≤ wa.heap.size := Nat.le_trans (by simp) hg1.size; clear hg1))
      all_goals go_ret
      all_goals exact ⟨rfl, hb⟩
end Go.Proofs.YtfcdohaimdodgaaDoor

/-
  What a fragment may be does not turn with what is not seen: names outside the scopes of the chain.
-/
namespace Go.Proofs.YtfcdohaimdodgaaDoor
open Go.RowKit
theorem fragE_of {c : Cfg} {xs ys : List GN} {i q : Int} {items : List Item} (h1 : ∀ nm, seenN ys i nm = seenN xs i nm) (h2 : deepN ys i = deepN xs i) (h3 : ∀ k : Nat, (ys[k]?).map (fun x => (x.k, x.wd)) = (xs[k]?).map (fun x => (x.k, x.wd))) :
    fragE c ys i q items = fragE c xs i q items := by
  have e1 : refsN ys i items = refsN xs i items := by funext nm; unfold refsN; rw [h1]
  have e2 : lostN ys i items = lostN xs i items := by funext nm; unfold lostN; rw [e1]
  have e3 : refersN ys i items = refersN xs i items := by unfold refersN; rw [e2]
  have e4 : overItem ys i items = overItem xs i items := by
    funext x
    unfold overItem
    rw [e1]
    congr 1
    split
    · rfl
    · split
      · have := h3 (refsN xs i items x.ov).2.toNat
        cases hy : ys[(refsN xs i items x.ov).2.toNat]? <;> cases hx : xs[(refsN xs i items x.ov).2.toNat]? <;> rw [hy, hx] at this <;> simp at this
        simp [this.1, this.2]
      · rfl
  have e5 : overN ys i items = overN xs i items := by unfold overN; rw [e4]
  have e6 : deepB c ys i items = deepB c xs i items := by unfold deepB; rw [h2]
  unfold fragE
  rw [e3, e5, e6]
structure Sim (xs ys : List GN) (fl : Int) (os : List Int) : Prop where
  len : ys.length = xs.length
  at_ : ∀ (k : Nat) (x y : GN), xs[k]? = some x → ys[k]? = some y → y.fl = x.fl ∧ y.ow = x.ow ∧ y.k = x.k ∧ y.wd = x.wd ∧ ((x.fl = fl ∧ x.ow ∈ os) → y.nm = x.nm)
theorem Sim.map {xs ys : List GN} {fl : Int} {os : List Int} (h : Sim xs ys fl os) {β : Type} (f : GN → β) (hf : ∀ x y : GN, y.fl = x.fl → y.ow = x.ow → y.k = x.k → y.wd = x.wd → ((x.fl = fl ∧ x.ow ∈ os) → y.nm = x.nm) → f y = f x) (k : Nat) : (ys[k]?).map f = (xs[k]?).map f := by
  have hl := h.len
  rcases Nat.lt_or_ge k xs.length with hk | hk
  · have e1 : xs[k]? = some xs[k] := List.getElem?_eq_getElem hk
    have e2 : ys[k]? = some (ys[k]'(by omega)) := List.getElem?_eq_getElem (by omega)
    obtain ⟨a, b, c, d, e⟩ := h.at_ k _ _ e1 e2
    rw [e1, e2]
    simp only [Option.map_some]
    rw [hf _ _ a b c d e]
  · rw [List.getElem?_eq_none hk, List.getElem?_eq_none (by omega)]
theorem Sim.maps {xs ys : List GN} {fl : Int} {os : List Int} (h : Sim xs ys fl os) {β : Type} (f : GN → β) (hf : ∀ x y : GN, y.fl = x.fl → y.ow = x.ow → y.k = x.k → y.wd = x.wd → ((x.fl = fl ∧ x.ow ∈ os) → y.nm = x.nm) → f y = f x) : ys.map f = xs.map f := by
  apply List.ext_getElem?
  intro k
  rw [List.getElem?_map, List.getElem?_map]
  exact h.map f hf k
theorem findIdx_map (p : GN → Bool) (l : List GN) : l.findIdx? p = (l.map p).findIdx? id := by
  rw [List.findIdx?_map]; rfl
theorem Sim.first {xs ys : List GN} {fl : Int} {os : List Int} (h : Sim xs ys fl os) {o : Int} (ho : o ∈ os) (nm : ByteArray) : firstOf ys fl o nm = firstOf xs fl o nm := by
  unfold firstOf
  split
  · rfl
  · rw [findIdx_map, findIdx_map]
    rw [h.maps (fun x => decide (x.fl = fl) && decide (x.ow = o) && decide (x.nm = nm)) (fun x y a b _ _ e => by
      rw [a, b]
      by_cases h1 : x.fl = fl
      · by_cases h2 : x.ow = o
        · rw [e ⟨h1, by rw [h2]; exact ho⟩]
        · simp [h2]
      · simp [h1])]
theorem Sim.seenL {xs ys : List GN} {fl : Int} {os : List Int} (h : Sim xs ys fl os) (nm : ByteArray) : ∀ l : List Int, (∀ o ∈ l, o ∈ os) → seenL ys fl nm l = seenL xs fl nm l := by
  intro l
  induction l with
  | nil => intro _; rfl
  | cons o r ih =>
    intro hl
    unfold Go.Proofs.YtfcdohaimdodgaaDoor.seenL
    rw [h.first (hl o (by simp)), ih fun z hz => hl z (by simp [hz])]
theorem Sim.chainF {xs ys : List GN} {fl : Int} {os : List Int} (h : Sim xs ys fl os) : ∀ f i, chainF ys f i = chainF xs f i := by
  intro f
  induction f with
  | zero => intro i; rfl
  | succ f ih =>
    intro i
    unfold Go.Proofs.YtfcdohaimdodgaaDoor.chainF
    have := h.map (fun x => x.ow) (fun x y _ b _ _ _ => b) i
    cases hy : ys[i]? <;> cases hx : xs[i]? <;> rw [hy, hx] at this <;> simp at this
    dsimp only
    rw [this, ih]
theorem Sim.chain {xs ys : List GN} {fl : Int} {os : List Int} (h : Sim xs ys fl os) (i : Nat) : chain ys i = chain xs i := h.chainF _ _
/-- the law -/
theorem fragE_sim {c : Cfg} {xs ys : List GN} {i q : Int} {items : List Item} {fl : Int} {os : List Int} (h : Sim xs ys fl os) (hi : 0 ≤ i → ∃ x, xs[i.toNat]? = some x ∧ x.fl = fl ∧ os = Go.Proofs.YtfcdohaimdodgaaDoor.chain xs i.toNat ++ [-1]) :
    fragE c ys i q items = fragE c xs i q items := by
  refine fragE_of (fun nm => ?_) ?_ (h.map _ (fun x y _ _ c d _ => by rw [c, d]))
  · unfold seenN
    split
    · rename_i h0
      obtain ⟨x, hx, hfl, hos⟩ := hi h0
      have hm := h.map (fun x => x.fl) (fun x y a _ _ _ _ => a) i.toNat
      rw [hx] at hm ⊢
      cases hy : ys[i.toNat]? with
      | none => rw [hy] at hm; simp at hm
      | some y =>
        rw [hy] at hm
        simp only [Option.map_some, Option.some.injEq] at hm
        dsimp only
        rw [hm, hfl, h.chain, ← hos, h.seenL nm os (fun o ho => ho)]
    · rfl
  · unfold deepN
    rw [h.len, h.chain]
end Go.Proofs.YtfcdohaimdodgaaDoor

/-
  CheckStands: what the third loop stores, and why the answer stays.
-/
namespace Go.Proofs.YtfcdohaimdodgaaDoor
open Go.RowKit
theorem own_store' {W : World} {base g n cap : Nat} {ys : List GN} {k j : Nat} {x x' : GN} {u : Value} (hk : k < ys.length) (ho : W.ownsRow base 50 16 (.slice (some ⟨g, 0, none⟩) n cap) n ((ys.set k x).flatMap GN.cells)) (hj : j < 16) (hc : x.cells.set j u = x'.cells) :
    (W.setCell ⟨g, k * 16 + j, none⟩ u).ownsRow base 50 16 (.slice (some ⟨g, 0, none⟩) n cap) n ((ys.set k x').flatMap GN.cells) := by
  have := own_store (k := k) (x := x) (x' := x') ho (by rw [List.getElem?_set, if_pos rfl]; simp [hk]) hj hc
  rw [List.set_set] at this
  exact this
/-- what a node reads as behind the third loop's stores -/
def stood (x : GN) (a b c d : Int) : GN := { x with st := a, vk := 0, vn := b, vs := ⟨#[]⟩, vl := ⟨none, 0, 0⟩, fa := c, tk := d }
theorem own_stand {W : World} {base g n cap : Nat} {ys : List GN} {k : Nat} {x : GN} (ho : W.ownsRow base 50 16 (.slice (some ⟨g, 0, none⟩) n cap) n (ys.flatMap GN.cells)) (hx : ys[k]? = some x) (a b c d : Int) :
    (((((((W.setCell ⟨g, k * 16 + 9, none⟩ (.int .u8 a)).setCell ⟨g, k * 16 + 12, none⟩ (.int .u8 0)).setCell ⟨g, k * 16 + 13, none⟩ (.int .i64 b)).setCell ⟨g, k * 16 + 14, none⟩ (.string ⟨#[]⟩)).setCell ⟨g, k * 16 + 15, none⟩ (.slice none 0 0)).setCell ⟨g, k * 16 + 10, none⟩ (.int .i64 c)).setCell ⟨g, k * 16 + 11, none⟩ (.int .i64 d)).ownsRow
      base 50 16 (.slice (some ⟨g, 0, none⟩) n cap) n ((ys.set k (stood x a b c d)).flatMap GN.cells) := by
  have hk : k < ys.length := (List.getElem?_eq_some_iff.1 hx).1
  have h1 := own_store (j := 9) (u := .int .u8 a) (x' := { x with st := a }) ho hx (by decide) rfl
  have h2 := own_store' (j := 12) (u := .int .u8 0) (x' := { x with st := a, vk := 0 }) hk h1 (by decide) rfl
  have h3 := own_store' (j := 13) (u := .int .i64 b) (x' := { x with st := a, vk := 0, vn := b }) hk h2 (by decide) rfl
  have h4 := own_store' (j := 14) (u := .string ⟨#[]⟩) (x' := { x with st := a, vk := 0, vn := b, vs := ⟨#[]⟩ }) hk h3 (by decide) rfl
  have h5 := own_store' (j := 15) (u := .slice none 0 0) (x' := { x with st := a, vk := 0, vn := b, vs := ⟨#[]⟩, vl := ⟨none, 0, 0⟩ }) hk h4 (by decide) rfl
  have h6 := own_store' (j := 10) (u := .int .i64 c) (x' := { x with st := a, vk := 0, vn := b, vs := ⟨#[]⟩, vl := ⟨none, 0, 0⟩, fa := c }) hk h5 (by decide) rfl
  exact own_store' (j := 11) (u := .int .i64 d) (x' := stood x a b c d) hk h6 (by decide) rfl
theorem own_standn {W : World} {base g n cap : Nat} {ys : List GN} {k : Nat} {x : GN} (hk : k < ys.length) (s : ByteArray) (a b c d : Int) (ho : W.ownsRow base 50 16 (.slice (some ⟨g, 0, none⟩) n cap) n ((ys.set k (stood x a b c d)).flatMap GN.cells)) :
    (W.setCell ⟨g, k * 16 + 1, none⟩ (.string s)).ownsRow base 50 16 (.slice (some ⟨g, 0, none⟩) n cap) n ((ys.set k { stood x a b c d with nm := s }).flatMap GN.cells) := own_store' (x := stood x a b c d) hk ho (by decide) rfl
/-- like another's nodes, but for the names of those who do not stand in a list -/
structure SimS (xs ys : List GN) (S : List Int) : Prop where
  len : ys.length = xs.length
  at_ : ∀ (k : Nat) (x y : GN), xs[k]? = some x → ys[k]? = some y → y.fl = x.fl ∧ y.ow = x.ow ∧ y.k = x.k ∧ y.wd = x.wd ∧ ((k : Int) ∈ S → y.nm = x.nm)
theorem SimS.refl (xs : List GN) (S : List Int) : SimS xs xs S := ⟨rfl, fun k x y hx hy => by rw [hx] at hy; cases hy; exact ⟨rfl, rfl, rfl, rfl, fun _ => rfl⟩⟩
theorem SimS.set {xs ys : List GN} {S : List Int} {k : Nat} {y y' : GN} (h : SimS xs ys S) (hy : ys[k]? = some y) (h1 : y'.fl = y.fl) (h2 : y'.ow = y.ow) (h3 : y'.k = y.k) (h4 : y'.wd = y.wd) (h5 : (k : Int) ∈ S → y'.nm = y.nm) : SimS xs (ys.set k y') S := by
  refine ⟨by rw [List.length_set]; exact h.len, fun i x z hx hz => ?_⟩
  rw [List.getElem?_set] at hz
  split at hz
  · rename_i he
    subst he
    split at hz
    · cases hz
      obtain ⟨a, b, c, d, e⟩ := h.at_ k x y hx hy
      exact ⟨h1.trans a, h2.trans b, h3.trans c, h4.trans d, fun hs => (h5 hs).trans (e hs)⟩
    · cases hz
  · exact h.at_ i x z hx hz
end Go.Proofs.YtfcdohaimdodgaaDoor

/-
  A store into a node of the call's own row, the new world under a name.
-/
namespace Go.Proofs.YtfcdohaimdodgaaDoor
open Go.RowKit
theorem run_storeVar_own {P : Program} {W : World} {a : Addr} {ty : TypeId} {old v : Value} (hc : W.cell? a = some old) (hf : W.frozen? a = false) (hi : (P.info? ty).map (·.size) = some 1) (h1 : v.oneCell' = true) :
    (storeVar ty a v).run P W = .ok () (W.setCell a v) := by
  have hv : v.cells = #[v] := by cases v <;> first | rfl | cases h1
  cases hq : P.info? ty with
  | none => simp [hq] at hi
  | some i =>
    have hs : i.size = 1 := by simpa [hq] using hi
    have hr : (store a v).run P W = .ok () (W.setCell a v) := by
      rw [run_store P W a v _ h1]
      simp [hc, hf]
    simp [storeVar, sizeOf, typeInfo, hq, hv, hs, storeCells, hr, Addr.add]
theorem wpList_store_node {P : Program} {W : World} {ops : Array Oper} {rest : List Oper} {o : Oper} {a : Act} {Q : Exit → Act → World → Prop} (hgd : o.guard = none) (ty : TypeId) (x y : Operand) (ho : o.op = .store ty x y)
    (hi : (P.info? ty).map (·.size) = some 1) (g k j : Nat) (u : Value) (hx : a.eval x = .pointer (some ⟨g, k * 16 + j, none⟩)) (hy : a.eval y = u) (h1 : u.oneCell' = true) {base n cap : Nat} {ys : List GN} {nd nd' : GN}
    (hown : W.ownsRow base 50 16 (.slice (some ⟨g, 0, none⟩) n cap) n (ys.flatMap GN.cells)) (hk : k < n) (hnd : ys[k]? = some nd) (hj : j < 16) (hc : nd.cells.set j u = nd'.cells)
    (h : ∀ W', W'.ownsRow base 50 16 (.slice (some ⟨g, 0, none⟩) n cap) n ((ys.set k nd').flatMap GN.cells) → W.grownBy W' (some g) → wpList P ops Q rest (a.put o.dst undef) W') : wpList P ops Q (o :: rest) a W := by
  refine wpList_plain hgd fun K hK => ?_
  have hl : nd.cells.length = 16 := GN.cells_len nd
  have hcell : W.cell? ⟨g, k * 16 + j, none⟩ = some (nd.cells[j]'(by omega)) := (hown.cellAt _ (by omega)).trans (flat_at hnd (List.getElem?_eq_getElem _))
  have hr := run_storeVar_own (P := P) hcell (hown.frozenAt _) hi h1
  unfold Oper.wp execOp
  simp only [ho, hx, hy, Instr.storeAt, Instr.sureAddr, Sem.run_bind, Sem.run_pure, Result.andThen_ok, hr]
  exact hK _ _ (h _ (own_store hown hnd hj hc) (hown.stored _ _).2)
/-- four cells at once -/
theorem run_storeVar_four {P : Program} {W W1 W2 W3 : World} {g o : Nat} {ty : TypeId} {c0 c1 c2 c3 v0 v1 v2 v3 v : Value} (hv : v.cells = #[v0, v1, v2, v3]) (hi : (P.info? ty).map (·.size) = some 4)
    (e1 : W1 = W.setCell ⟨g, o, none⟩ v0) (e2 : W2 = W1.setCell ⟨g, o + 1, none⟩ v1) (e3 : W3 = W2.setCell ⟨g, o + 2, none⟩ v2)
    (h0 : W.cell? ⟨g, o, none⟩ = some c0) (f0 : W.frozen? ⟨g, o, none⟩ = false) (h1 : W1.cell? ⟨g, o + 1, none⟩ = some c1) (f1 : W1.frozen? ⟨g, o + 1, none⟩ = false)
    (h2 : W2.cell? ⟨g, o + 2, none⟩ = some c2) (f2 : W2.frozen? ⟨g, o + 2, none⟩ = false) (h3 : W3.cell? ⟨g, o + 3, none⟩ = some c3) (f3 : W3.frozen? ⟨g, o + 3, none⟩ = false)
    (k0 : v0.oneCell' = true) (k1 : v1.oneCell' = true) (k2 : v2.oneCell' = true) (k3 : v3.oneCell' = true) :
    (storeVar ty ⟨g, o, none⟩ v).run P W = .ok () (W3.setCell ⟨g, o + 3, none⟩ v3) := by
  cases hq : P.info? ty with
  | none => simp [hq] at hi
  | some i =>
    have hs : i.size = 4 := by simpa [hq] using hi
    have r0 : (store ⟨g, o, none⟩ v0).run P W = .ok () W1 := by rw [run_store P W _ v0 _ k0, e1]; simp [h0, f0]
    have r1 : (store ⟨g, o + 1, none⟩ v1).run P W1 = .ok () W2 := by rw [run_store P W1 _ v1 _ k1, e2]; simp [h1, f1]
    have r2 : (store ⟨g, o + 2, none⟩ v2).run P W2 = .ok () W3 := by rw [run_store P W2 _ v2 _ k2, e3]; simp [h2, f2]
    have r3 : (store ⟨g, o + 3, none⟩ v3).run P W3 = .ok () (W3.setCell ⟨g, o + 3, none⟩ v3) := by rw [run_store P W3 _ v3 _ k3]; simp [h3, f3]
    simp [storeVar, sizeOf, typeInfo, hq, hv, hs, storeCells, Addr.add, r0, r1, r2, r3]
theorem set_same {ys : List GN} {k : Nat} {x : GN} (hk : k < ys.length) : (ys.set k x)[k]? = some x := by rw [List.getElem?_set, if_pos rfl]; simp [hk]
/-- a Value goes into a node -/
theorem wpList_store_value {P : Program} {W : World} {ops : Array Oper} {rest : List Oper} {o : Oper} {a : Act} {Q : Exit → Act → World → Prop} (hgd : o.guard = none) (ty : TypeId) (x y : Operand) (ho : o.op = .store ty x y)
    (hi : (P.info? ty).map (·.size) = some 4) (g k : Nat) (v : Value) (vk vn : Int) (vs : ByteArray) (vl : Sl) (hx : a.eval x = .pointer (some ⟨g, k * 16 + 12, none⟩)) (hy : a.eval y = v) (hv : v.cells = #[.int .u8 vk, .int .i64 vn, .string vs, .slice vl.p vl.n vl.c]) {base n cap : Nat} {ys : List GN} {nd : GN}
    (hown : W.ownsRow base 50 16 (.slice (some ⟨g, 0, none⟩) n cap) n (ys.flatMap GN.cells)) (hk : k < n) (hnd : ys[k]? = some nd)
    (h : ∀ W', W'.ownsRow base 50 16 (.slice (some ⟨g, 0, none⟩) n cap) n ((ys.set k { nd with vk := vk, vn := vn, vs := vs, vl := vl }).flatMap GN.cells) → W.grownBy W' (some g) → wpList P ops Q rest (a.put o.dst undef) W') : wpList P ops Q (o :: rest) a W := by
  refine wpList_plain hgd fun K hK => ?_
  have hl : k < ys.length := (List.getElem?_eq_some_iff.1 hnd).1
  have o1 := own_store (j := 12) (u := .int .u8 vk) (x' := { nd with vk := vk }) hown hnd (by decide) rfl
  have o2 := own_store' (j := 13) (u := .int .i64 vn) (x' := { nd with vk := vk, vn := vn }) hl o1 (by decide) rfl
  have o3 := own_store' (j := 14) (u := .string vs) (x' := { nd with vk := vk, vn := vn, vs := vs }) hl o2 (by decide) rfl
  have o4 := own_store' (j := 15) (u := .slice vl.p vl.n vl.c) (x' := { nd with vk := vk, vn := vn, vs := vs, vl := vl }) hl o3 (by decide) rfl
  have g1 := (hown.stored (k * 16 + 12) (.int .u8 vk)).2
  have g2 := (o1.stored (k * 16 + 13) (.int .i64 vn)).2
  have g3 := (o2.stored (k * 16 + 14) (.string vs)).2
  have g4 := (o3.stored (k * 16 + 15) (.slice vl.p vl.n vl.c)).2
  have hr := run_storeVar_four (P := P) (W := W) (ty := ty) hv hi rfl rfl rfl
    ((hown.cellAt (k * 16 + 12) (by omega)).trans (flat_at hnd rfl)) (hown.frozenAt _)
    ((o1.cellAt (k * 16 + 13) (by omega)).trans (flat_at (set_same hl) rfl)) (o1.frozenAt _)
    ((o2.cellAt (k * 16 + 14) (by omega)).trans (flat_at (set_same hl) rfl)) (o2.frozenAt _)
    ((o3.cellAt (k * 16 + 15) (by omega)).trans (flat_at (set_same hl) rfl)) (o3.frozenAt _) rfl rfl rfl rfl
  unfold Oper.wp execOp
  simp only [ho, hx, hy, Instr.storeAt, Instr.sureAddr, Sem.run_bind, Sem.run_pure, Result.andThen_ok, hr]
  exact hK _ _ (h _ o4 (((g1.trans g2).trans g3).trans g4))
theorem wpList_store_st {P : Program} {W : World} {ops : Array Oper} {rest : List Oper} {o : Oper} {a : Act} {Q : Exit → Act → World → Prop} (hgd : o.guard = none) (ty : TypeId) (x y : Operand) (ho : o.op = .store ty x y)
    (hi : (P.info? ty).map (·.size) = some 1) (g k : Nat) (z : Int) (hx : a.eval x = .pointer (some ⟨g, k * 16 + 9, none⟩)) (hy : a.eval y = .int .u8 z) {base n cap : Nat} {ys : List GN} {nd : GN}
    (hown : W.ownsRow base 50 16 (.slice (some ⟨g, 0, none⟩) n cap) n (ys.flatMap GN.cells)) (hk : k < n) (hnd : ys[k]? = some nd)
    (h : ∀ W', W'.ownsRow base 50 16 (.slice (some ⟨g, 0, none⟩) n cap) n ((ys.set k { nd with st := z }).flatMap GN.cells) → W.grownBy W' (some g) → wpList P ops Q rest (a.put o.dst undef) W') : wpList P ops Q (o :: rest) a W :=
  wpList_store_node hgd ty x y ho hi g k 9 _ hx hy rfl hown hk hnd (by decide) rfl h
theorem wpList_store_fa {P : Program} {W : World} {ops : Array Oper} {rest : List Oper} {o : Oper} {a : Act} {Q : Exit → Act → World → Prop} (hgd : o.guard = none) (ty : TypeId) (x y : Operand) (ho : o.op = .store ty x y)
    (hi : (P.info? ty).map (·.size) = some 1) (g k : Nat) (z : Int) (hx : a.eval x = .pointer (some ⟨g, k * 16 + 10, none⟩)) (hy : a.eval y = .int .i64 z) {base n cap : Nat} {ys : List GN} {nd : GN}
    (hown : W.ownsRow base 50 16 (.slice (some ⟨g, 0, none⟩) n cap) n (ys.flatMap GN.cells)) (hk : k < n) (hnd : ys[k]? = some nd)
    (h : ∀ W', W'.ownsRow base 50 16 (.slice (some ⟨g, 0, none⟩) n cap) n ((ys.set k { nd with fa := z }).flatMap GN.cells) → W.grownBy W' (some g) → wpList P ops Q rest (a.put o.dst undef) W') : wpList P ops Q (o :: rest) a W :=
  wpList_store_node hgd ty x y ho hi g k 10 _ hx hy rfl hown hk hnd (by decide) rfl h
theorem wpList_store_tk {P : Program} {W : World} {ops : Array Oper} {rest : List Oper} {o : Oper} {a : Act} {Q : Exit → Act → World → Prop} (hgd : o.guard = none) (ty : TypeId) (x y : Operand) (ho : o.op = .store ty x y)
    (hi : (P.info? ty).map (·.size) = some 1) (g k : Nat) (z : Int) (hx : a.eval x = .pointer (some ⟨g, k * 16 + 11, none⟩)) (hy : a.eval y = .int .i64 z) {base n cap : Nat} {ys : List GN} {nd : GN}
    (hown : W.ownsRow base 50 16 (.slice (some ⟨g, 0, none⟩) n cap) n (ys.flatMap GN.cells)) (hk : k < n) (hnd : ys[k]? = some nd)
    (h : ∀ W', W'.ownsRow base 50 16 (.slice (some ⟨g, 0, none⟩) n cap) n ((ys.set k { nd with tk := z }).flatMap GN.cells) → W.grownBy W' (some g) → wpList P ops Q rest (a.put o.dst undef) W') : wpList P ops Q (o :: rest) a W :=
  wpList_store_node hgd ty x y ho hi g k 11 _ hx hy rfl hown hk hnd (by decide) rfl h
theorem wpList_store_nm {P : Program} {W : World} {ops : Array Oper} {rest : List Oper} {o : Oper} {a : Act} {Q : Exit → Act → World → Prop} (hgd : o.guard = none) (ty : TypeId) (x y : Operand) (ho : o.op = .store ty x y)
    (hi : (P.info? ty).map (·.size) = some 1) (g k : Nat) (z : ByteArray) (hx : a.eval x = .pointer (some ⟨g, k * 16 + 1, none⟩)) (hy : a.eval y = .string z) {base n cap : Nat} {ys : List GN} {nd : GN}
    (hown : W.ownsRow base 50 16 (.slice (some ⟨g, 0, none⟩) n cap) n (ys.flatMap GN.cells)) (hk : k < n) (hnd : ys[k]? = some nd)
    (h : ∀ W', W'.ownsRow base 50 16 (.slice (some ⟨g, 0, none⟩) n cap) n ((ys.set k { nd with nm := z }).flatMap GN.cells) → W.grownBy W' (some g) → wpList P ops Q rest (a.put o.dst undef) W') : wpList P ops Q (o :: rest) a W :=
  wpList_store_node hgd ty x y ho hi g k 1 _ hx hy rfl hown hk hnd (by decide) rfl h
end Go.Proofs.YtfcdohaimdodgaaDoor

/-
  Words for the walks of layer 20's laws: the nodes of the call's own, the configuration's box.
-/
namespace Go.Proofs.YtfcdohaimdodgaaDoor
open Go.RowKit Go.Shelf
set_option linter.unusedVariables false
theorem owns_below {w W : World} {base : Nat} {e : TypeId} {sz : Nat} {v : Value} {n : Nat} {xs : List Value} (h : w.ownsRow base e sz v n xs) (hb : Ext w W) : W.ownsRow base e sz v n xs := by
  obtain ⟨h1, h2 | ⟨g, cap, cur, hv, hg, hh, r⟩⟩ := h
  · exact ⟨h1, .inl h2⟩
  · exact ⟨h1, .inr ⟨g, cap, cur, hv, hg, (hb.block g (lt_of_block hh)).trans hh, r⟩⟩
theorem own_nodes {W : World} {base : Nat} {v : Value} {xs : List GN} {i : Int} (h : W.ownsRow base 50 16 v xs.length (xs.flatMap GN.cells)) (hl : xs.length ≤ 60) (hi : -1 ≤ i ∧ i < xs.length) :
    ∃ (sp : Option Addr) (sn sc : Nat), v = .slice sp sn sc ∧ Hid (sn = xs.length) ∧ Hid (W.ownsRow base 50 16 (.slice sp sn sc) sn (xs.flatMap GN.cells)) ∧ sn ≤ 60 ∧ -1 ≤ i ∧ i < sn := by
  obtain ⟨⟨sp, sn, sc⟩, rfl, hrow⟩ := own_rows rfl h
  have hn : sn = xs.length := hrow.out.len
  subst hn
  exact ⟨sp, _, sc, rfl, hide rfl, hide h, hl, hi.1, hi.2⟩
theorem askAt_of {W w1 w : World} {base : Nat} {cf : Cfg} {sp q : Option Addr} {sn sc m1 k : Nat} {i qu : Int} {xs : List GN} {its : List It} (ho : Hid (w1.ownsRow base 50 16 (.slice sp sn sc) sn (xs.flatMap GN.cells))) (hL : Hid (sn = xs.length)) (hr : Hid (RightN xs))
    (h1 : -1 ≤ i) (h2 : i < sn) (h60 : sn ≤ 60) (hi : Hid (ItemsAt w ⟨q, m1, k⟩ its)) (hb : Ext w1 W) (hb' : Ext w W) : AskAt W ⟨cf, ⟨sp, sn, sc⟩, i, qu, ⟨q, m1, k⟩⟩ xs its := by
  obtain ⟨s, hv, hrow⟩ := own_rows hL.out ho.out
  cases hv
  have := hL.out
  exact ⟨hrow.out.below hb, hr.out, ⟨by show i < _; omega, h1⟩, hi.out.below hb', by omega⟩
theorem box_cells (w : World) (a b c d e : Int) : ∃ w0, w0 = w.alloc (.cells #[.int .i64 a, .int .i64 b, .int .i64 c, .int .i64 d, .int .i64 e] 32) ∧ Ext w w0 ∧ w.heap.size < w0.heap.size ∧ w0.cell? ⟨w.heap.size, 0, none⟩ = some (.int .i64 a) ∧ w0.cell? ⟨w.heap.size, 1, none⟩ = some (.int .i64 b) ∧
    w0.cell? ⟨w.heap.size, 2, none⟩ = some (.int .i64 c) ∧ w0.cell? ⟨w.heap.size, 3, none⟩ = some (.int .i64 d) ∧ w0.cell? ⟨w.heap.size, 4, none⟩ = some (.int .i64 e) := by
  refine ⟨_, rfl, Ext.alloc (Ext.refl w) _, by simp, ?_, ?_, ?_, ?_, ?_⟩ <;> simp [go_sem]
theorem box_at {w0 W : World} {B : Nat} {a b c d e : Value} (h : Ext w0 W) (hz : B < w0.heap.size) (h0 : w0.cell? ⟨B, 0, none⟩ = some a) (h1 : w0.cell? ⟨B, 1, none⟩ = some b) (h2 : w0.cell? ⟨B, 2, none⟩ = some c) (h3 : w0.cell? ⟨B, 3, none⟩ = some d) (h4 : w0.cell? ⟨B, 4, none⟩ = some e) :
    B < W.heap.size ∧ W.cell? ⟨B, 0, none⟩ = some a ∧ W.cell? ⟨B, 1, none⟩ = some b ∧ W.cell? ⟨B, 2, none⟩ = some c ∧ W.cell? ⟨B, 3, none⟩ = some d ∧ W.cell? ⟨B, 4, none⟩ = some e :=
  ⟨Nat.lt_of_lt_of_le hz h.size, (h.cell (p := ⟨B, 0, none⟩) hz).trans h0, (h.cell (p := ⟨B, 1, none⟩) hz).trans h1, (h.cell (p := ⟨B, 2, none⟩) hz).trans h2, (h.cell (p := ⟨B, 3, none⟩) hz).trans h3, (h.cell (p := ⟨B, 4, none⟩) hz).trans h4⟩
end Go.Proofs.YtfcdohaimdodgaaDoor

/-
  CheckTells: its walk.
-/
namespace Go.Proofs.YtfcdohaimdodgaaDoor
open Go.RowKit Go.Shelf
set_option linter.unusedVariables false
theorem lost_eq (xs : List GN) (i : Int) (l : List Item) (nm : ByteArray) : (!lostN xs i l nm) = (decide (0 ≤ (refsN xs i l nm).1) || decide (0 ≤ (refsN xs i l nm).2)) := by
  unfold lostN
  by_cases h1 : 0 ≤ (refsN xs i l nm).1 <;> by_cases h2 : 0 ≤ (refsN xs i l nm).2 <;> simp [h1, h2] <;> omega
/-- what Refs answers, under three names -/
theorem lost_named (xs : List GN) (i : Int) (l : List Item) (nm : ByteArray) : ∃ (a b : Int) (t : Bool), (refsN xs i l nm).1 = a ∧ (refsN xs i l nm).2 = b ∧ (!lostN xs i l nm) = t ∧ t = (decide (0 ≤ a) || decide (0 ≤ b)) := ⟨_, _, _, rfl, rfl, rfl, lost_eq _ _ _ _⟩
theorem nodes_of {W w1 : World} {base : Nat} {sp : Option Addr} {sn sc : Nat} {xs : List GN} (ho : Hid (w1.ownsRow base 50 16 (.slice sp sn sc) sn (xs.flatMap GN.cells))) (hL : Hid (sn = xs.length)) (hb : Ext w1 W) : NodesAt W ⟨sp, sn, sc⟩ xs := by
  obtain ⟨s, hv, hrow⟩ := own_rows hL.out ho.out
  cases hv
  exact hrow.out.below hb
set_option maxHeartbeats 8000000 in
set_option maxRecDepth 8000 in
theorem tells_any (cf : Cfg) (p : Option Addr) (n c : Nat) (ss : List Int) (cu qu : Int) (q : Option Addr) (m k : Nat) (its : List It) (nm : ByteArray) (w : World) (hs : RowsAt 1 intCells w ⟨p, n, c⟩ ss) (hwf : ∀ x ∈ ss, (Lit.int .i64 x).wf = true)
    (hi : ItemsAt w ⟨q, m, k⟩ its) :
    Calls Tryd.prog 4 #[.agg #[.int .i64 cf.quota, .int .i64 cf.depth, .int .i64 cf.width, .int .i64 cf.retry, .int .i64 cf.flows], .slice p n c, .int .i64 cu, .int .i64 qu, .slice q m k, .string nm] w fun e w' => e = .returned (.bool true) ∧ Ext w w' := by
  have hmk := hi.rows.cap
  dsimp only at hmk
  have HOwn := hide (fun (W : World) (h : Ext w W) => owned_any p n c ss cu W (hs.below h) hwf)
  have HI := hide hi
  have HAW := hide awake_any
  clear hs hwf hi
  obtain ⟨cq, cd, cw, cr, cfl⟩ := cf
  dsimp only
  go_enter Tryd.func4, Tryd.ntmps4
  obtain ⟨w0, hw0, hx0, hz0, b0, b1, b2, b3, b4⟩ := box_cells w cq cd cw cr cfl
  go_wp2_with (first
    | (go_at_call 12; rw [← hw0]; refine (HOwn.out _ hx0).mono ?_; rintro e w1 ⟨v, xs, i, rfl, ho, hr, hl, hil, hb⟩; obtain ⟨sp, sn, sc, rfl, HL, HO, hl1, hi1, hi2⟩ := own_nodes ho hl hil; have HR := hide hr; clear ho hr hl hil hw0)
    | (refine wpList_minN rfl _ _ _ rfl m 30 rfl rfl ?_; intro m1 hN hN30; have HI2 := hide (HI.out.take m1 hN))
    | (go_at_call 13; refine (few_light q m1 k (its.take m1) _ (HI2.out.below (hx0.trans hb))).mono ?_; rintro e w2 ⟨fb, rfl, hfl, hb2⟩; have HFl := hide hfl; clear hfl; have hE2 : Ext w1 w2 := hb2; obtain ⟨bz, d0, d1, d2, d3, d4⟩ := box_at (hb.trans hb2) hz0 b0 b1 b2 b3 b4; have hEw2 : Ext w w2 := hx0.trans (hb.trans hb2))
    | (go_at_call 9; with_reducible refine (HAW.out _).mono ?_; rintro e w1 ⟨rfl, hb⟩; have hb : Ext w w1 := Ext.trans (by (repeat' (first | exact Below.refl _ _ | assumption | refine Ext.alloc ?_ _ | refine Ext.drew ?_ | refine Ext.trans ?_ (by assumption)))) hb))
  · go_ret
    exact ⟨rfl, hb⟩
  rotate_left
  · go_ret
    exact ⟨rfl, hb⟩
  have hL2 : Hid (∀ x ∈ its.take m1, Light x.d) := hide (HFl.out (by assumption))
  have HFr := hide (fun (W : World) (h : Ext w2 W) => frag_any ⟨⟨cq, cd, cw, cr, cfl⟩, ⟨sp, sn, sc⟩, i, qu, ⟨q, m1, k⟩⟩ xs (its.take m1) W (askAt_of HO HL (hide HR.out.r) hi1 hi2 hl1 HI2 (Ext.trans hE2 h) (Ext.trans hEw2 h)))
  have HFq := hide (fun (W : World) (h : Ext w2 W) => r20Frag_any ⟨cq, cd, cw, cr, cfl⟩ sp q sn sc m1 k i qu xs (its.take m1) W (nodes_of HO HL (Ext.trans hE2 h)) HR.out hi1 (by have := HL.out; omega) (by have := HL.out; omega) (HI2.out.below (Ext.trans hEw2 h)) (by have := HI2.out.rows.len; dsimp only at this; omega) hL2.out)
  clear HFl
  dsimp only at HFr HFq
  generalize fragE _ _ _ _ _ = E at *
  have hcE : ∀ W b o, Ext w2 W → b < w2.heap.size → W.cell? ⟨b, o, none⟩ = w2.cell? ⟨b, o, none⟩ := fun W b o h hb => h.cell (p := ⟨b, o, none⟩) hb
  refine wp_region_ext_lit (by kernel_rfl) (by kernel_rfl) ?_
  (repeat (first | (go_big_quiet_skip; (try simp only [Act.put, List.setIfInBounds_toArray, List.set_cons_succ, List.set_cons_zero])) | (go_big_quiet_want; apply Exists.intro; refine ⟨fun W hW => ?_, ?_⟩; (focus (unfold Oper.quietAt; go_simp; (first | done | exact rfl | exact ⟨rfl, rfl⟩ | (first | (go_at_call 14; refine (HFr.out _ hW).mono ?_; rintro e w3 ⟨rfl, hb3⟩; exact ⟨rfl, Ext.trans hW hb3⟩) | (go_at_call 15; refine (HFq.out _ hW).mono ?_; rintro e w3 ⟨rfl, hb3⟩; exact ⟨rfl, Ext.trans hW hb3⟩))))); go_big_quiet_on; (try simp only [Act.put, List.setIfInBounds_toArray, List.set_cons_succ, List.set_cons_zero]))))
  refine wpQuiet_nil ?_
  intro w3 hw3
  clear hcE HFr HFq d0 d1 d2 d3 d4 bz b0 b1 b2 b3 b4
  have hE13 : Ext w1 w3 := hE2.trans hw3
  have hEw3 : Ext w w3 := hEw2.trans hw3
  have HRa := hide (fun (W : World) (h : Ext w3 W) => cRefs_any sp sn sc i q m1 k xs (its.take m1) nm W (nodes_of HO HL (Ext.trans hE13 h)) HR.out.r ⟨by have := HL.out; omega, hi1⟩ (HI2.out.below (Ext.trans hEw3 h)) (by have := HL.out; omega))
  have HRb := hide (fun (W : World) (h : Ext w3 W) => r20Refs_any sp q sn sc m1 k i xs (its.take m1) W (nodes_of HO HL (Ext.trans hE13 h)) HR.out hi1 (by have := HL.out; omega) (by have := HL.out; omega) (HI2.out.below (Ext.trans hEw3 h)) (by have := HI2.out.rows.len; dsimp only at this; omega) nm)
  have HRt := hide (fun (W : World) (h : Ext w3 W) => right_any q m1 k (its.take m1) W (HI2.out.below (Ext.trans hEw3 h)))
  have HTa := hide (fun (W : World) (h : Ext w3 W) (hr : rightB (itemOf (its.take m1)) = true) => total_any q m1 k (its.take m1) W (HI2.out.below (Ext.trans hEw3 h)).rows (fits_all hr) (by have := HI2.out.rows.len; dsimp only at this; omega))
  have HTb := hide (fun (W : World) (h : Ext w3 W) (hr : rightB (itemOf (its.take m1)) = true) => r20Total_any q m1 k (its.take m1) W (HI2.out.below (Ext.trans hEw3 h)) (by have := HI2.out.rows.len; dsimp only at this; omega) hr)
  obtain ⟨ra, rb, rt, e1, e2, e3, e4⟩ := lost_named xs i (itemOf (its.take m1)) nm
  rw [e1, e2, e3] at HRa
  rw [e1, e2] at HRb
  clear e1 e2 e3
  generalize totalZ (itemOf (its.take m1)) = T at *
  generalize rightB (itemOf (its.take m1)) = R at *
  clear HO HL HR HI HI2 HOwn hL2
  subst e4
  by_cases ha : 0 ≤ ra <;> by_cases hbb : 0 ≤ rb <;> cases R
  all_goals (first | rw [decide_eq_true ha] at HRa | rw [decide_eq_false ha] at HRa)
  all_goals (first | rw [decide_eq_true hbb] at HRa | rw [decide_eq_false hbb] at HRa)
  all_goals simp only [Bool.or_true, Bool.or_false] at HRa
  all_goals go_wp2_with (first
    | (go_at_call 16; with_reducible refine (HRa.out _ (by (repeat' (first | exact Below.refl _ _ | assumption | refine Ext.alloc ?_ _ | refine Ext.drew ?_ | refine Ext.trans ?_ (by assumption))))).mono ?_; rintro e w1 ⟨rfl, hb⟩; have hb : Ext w3 w1 := Ext.trans (by (repeat' (first | exact Below.refl _ _ | assumption | refine Ext.alloc ?_ _ | refine Ext.drew ?_ | refine Ext.trans ?_ (by assumption)))) hb)
    | (go_at_call 17; with_reducible refine (HRb.out _ (by (repeat' (first | exact Below.refl _ _ | assumption | refine Ext.alloc ?_ _ | refine Ext.drew ?_ | refine Ext.trans ?_ (by assumption))))).mono ?_; rintro e w1 ⟨rfl, hb⟩; have hb : Ext w3 w1 := Ext.trans (by (repeat' (first | exact Below.refl _ _ | assumption | refine Ext.alloc ?_ _ | refine Ext.drew ?_ | refine Ext.trans ?_ (by assumption)))) hb)
    | (go_at_call 8; with_reducible refine (HRt.out _ (by (repeat' (first | exact Below.refl _ _ | assumption | refine Ext.alloc ?_ _ | refine Ext.drew ?_ | refine Ext.trans ?_ (by assumption))))).mono ?_; rintro e w1 ⟨rfl, hb⟩; have hb : Ext w3 w1 := Ext.trans (by (repeat' (first | exact Below.refl _ _ | assumption | refine Ext.alloc ?_ _ | refine Ext.drew ?_ | refine Ext.trans ?_ (by assumption)))) hb)
    | (go_at_call 11; with_reducible refine (HTa.out _ (by (repeat' (first | exact Below.refl _ _ | assumption | refine Ext.alloc ?_ _ | refine Ext.drew ?_ | refine Ext.trans ?_ (by assumption)))) (by trivial)).mono ?_; rintro e w1 ⟨rfl, hb⟩; have hb : Ext w3 w1 := Ext.trans (by (repeat' (first | exact Below.refl _ _ | assumption | refine Ext.alloc ?_ _ | refine Ext.drew ?_ | refine Ext.trans ?_ (by assumption)))) hb)
    | (go_at_call 18; with_reducible refine (HTb.out _ (by (repeat' (first | exact Below.refl _ _ | assumption | refine Ext.alloc ?_ _ | refine Ext.drew ?_ | refine Ext.trans ?_ (by assumption)))) (by trivial)).mono ?_; rintro e w1 ⟨rfl, hb⟩; have hb : Ext w3 w1 := Ext.trans (by (repeat' (first | exact Below.refl _ _ | assumption | refine Ext.alloc ?_ _ | refine Ext.drew ?_ | refine Ext.trans ?_ (by assumption)))) hb)
    | (go_at_call 9; with_reducible refine (HAW.out _).mono ?_; rintro e w1 ⟨rfl, hb⟩; have hb : Ext w3 w1 := Ext.trans (by (repeat' (first | exact Below.refl _ _ | assumption | refine Ext.alloc ?_ _ | refine Ext.drew ?_ | refine Ext.trans ?_ (by assumption)))) hb))
  all_goals go_ret
  all_goals exact ⟨rfl, hEw3.trans hb⟩
end Go.Proofs.YtfcdohaimdodgaaDoor

/-
  What an argument that came in reads as: slices of items, of nodes, of strings.
-/
namespace Go.Proofs.YtfcdohaimdodgaaDoor
open Go.ChangeShapes Go.WideShapes Go.RowKit
set_option linter.unusedVariables false

section
variable {H : Type} {enc : TypeId × Value → H} {P : Program} {w : World} {base : Nat} {spare : Nat → Bool} {held : Bool}
theorem list_of {α : Type} {p : Nat → α → Prop} : ∀ (n : Nat), (∀ i, i < n → ∃ x, p i x) → ∃ xs : List α, xs.length = n ∧ ∀ (i : Nat) (x : α), xs[i]? = some x → p i x := by
  intro n
  induction n with
  | zero => intro _; exact ⟨[], rfl, fun i x h => by simp at h⟩
  | succ n ih =>
    intro h
    obtain ⟨xs, hl, hx⟩ := ih fun i hi => h i (by omega)
    obtain ⟨y, hy⟩ := h n (by omega)
    refine ⟨xs ++ [y], by simp [hl], fun i x hi => ?_⟩
    rcases Nat.lt_or_ge i n with h' | h'
    · rw [List.getElem?_append_left (by omega)] at hi
      exact hx i x hi
    · rw [List.getElem?_append_right (by omega)] at hi
      have : i = n := by
        rcases Nat.lt_or_ge (i - xs.length) 1 with h2 | h2
        · omega
        · rw [List.getElem?_eq_none (by simpa using h2)] at hi; cases hi
      subst this
      simp [hl] at hi
      subst hi
      exact hy
theorem cell_add {a : Addr} {k : Nat} {v : Value} (h : w.cell? (a.add k) = some v) : w.cell? ⟨a.block, a.off + k, none⟩ = some v := by
  unfold Addr.add at h
  split at h
  · rename_i h0
    subst h0
    have hs : a.spot = none := by
      unfold World.cell? at h
      split at h
      · split at h
        · cases h
        · rename_i hs; simpa using hs
      · cases h
    cases a
    simp only at hs
    subst hs
    exact h
  · exact h
theorem spot_of {a : Addr} {v : Value} (h : w.cell? a = some v) : a.spot = none := by
  unfold World.cell? at h
  split at h
  · split at h
    · cases h
    · rename_i hs; simpa using hs
  · cases h
theorem rows_of_trod {α : Type} {cells : α → List Value} {E : α → Prop} {t e : TypeId} {sz : Nat} (ht : P.underlying t = some (.slice e)) (hc : P.cellsOf e = sz) (hpos : 0 < sz)
    (each : ∀ n cs y, DataW.trod enc P w base spare held n e cs = some y → ∃ x : α, cs = cells x ∧ E x) {fuel : Nat} {cs : List Value} {y : DataW H × List MemPlace} (h : DataW.trod enc P w base spare held fuel t cs = some y) :
    ∃ (s : Sl) (xs : List α), cs = [.slice s.p s.n s.c] ∧ RowsAt sz cells w s xs ∧ ∀ x ∈ xs, E x := by
  rcases Deep.open_slice ht h with ⟨rfl, rfl⟩ | ⟨a, len, cap, m, n, D, Pl, rfl, hb, hl, hm, hmm, rfl, hx⟩
  · exact ⟨⟨none, 0, 0⟩, [], rfl, RowsAt.nil _ _ _, fun x hx => by simp at hx⟩
  · have hlm : len ≤ m := by rw [hmm]; split <;> omega
    obtain ⟨xs, hxl, hxs⟩ := list_of (p := fun i x => E x ∧ (cells x).length = sz ∧ ∀ j v, (cells x)[j]? = some v → w.cell? (a.add (i * sz + j)) = some v) len (by
      intro i hi
      obtain ⟨cs', h1, h2⟩ := hx i (by omega)
      rw [hc] at h1
      obtain ⟨_, hlen, hcell⟩ := World.cells?_some h1
      obtain ⟨x, rfl, hE⟩ := each _ _ _ h2
      refine ⟨x, hE, hlen, fun j v hv => ?_⟩
      have hj : j < sz := by
        rcases Nat.lt_or_ge j (cells x).length with h | h
        · omega
        · rw [List.getElem?_eq_none h] at hv; cases hv
      have := hcell j hj
      rw [Deep.add_add] at this
      rw [this, hv])
    refine ⟨⟨some a, len, cap⟩, xs, rfl, ⟨hxl.symm, hl, by simpa [maxLen] using hm, fun k x hk => ?_⟩, fun x hx => ?_⟩
    · have h0 : ∃ x0, xs[0]? = some x0 := by
        cases xs with
        | nil => simp at hk
        | cons x0 r => exact ⟨x0, rfl⟩
      obtain ⟨x0, h0⟩ := h0
      obtain ⟨_, hl0, hc0⟩ := hxs 0 x0 h0
      obtain ⟨v0, hv0⟩ : ∃ v0, (cells x0)[0]? = some v0 := ⟨_, List.getElem?_eq_getElem (by omega)⟩
      have hcell := hc0 0 v0 hv0
      have hsp : a.spot = none := by
        have := spot_of hcell
        simpa [Addr.add] using this
      cases a with
      | mk b o s =>
        simp only at hsp
        subst hsp
        refine ⟨b, o, rfl, ?_, fun j v hv => ?_⟩
        · have := cell_add hcell
          exact lt_of_cell this
        · have := cell_add ((hxs k x hk).2.2 j v hv)
          rw [Nat.add_assoc]
          exact this
    · obtain ⟨i, hi⟩ := List.getElem?_of_mem hx
      exact (hxs i x hi).1
end
section
variable {H : Type} {enc : TypeId × Value → H} {w : World} {base : Nat} {spare : Nat → Bool} {held : Bool}
theorem cStr : Tryd.prog.cellsOf 9 = 1 := by kernel_rfl
theorem cU8 : Tryd.prog.cellsOf 5 = 1 := by kernel_rfl
theorem cInt : Tryd.prog.cellsOf 3 = 1 := by kernel_rfl
theorem cStrs : Tryd.prog.cellsOf 25 = 1 := by kernel_rfl
theorem cItem : Tryd.prog.cellsOf 27 = 6 := by kernel_rfl
theorem open_strs {fuel : Nat} {cs : List Value} {y : DataW H × List MemPlace} (h : DataW.trod enc Tryd.prog w base spare held fuel 25 cs = some y) :
    ∃ (s : Sl) (xs : List ByteArray), cs = [.slice s.p s.n s.c] ∧ RowsAt 1 strCells w s xs := by
  obtain ⟨s, xs, h1, h2, _⟩ := rows_of_trod (cells := strCells) (E := fun _ => True) Tryd.underlying25 cStr (by omega) (fun n cs y hy => by
    obtain ⟨s, rfl, _⟩ := DataW.trod_string Tryd.underlying9 hy
    exact ⟨s, rfl, trivial⟩) h
  exact ⟨s, xs, h1, h2⟩
theorem len6 {α : Type} {l : List α} (h : l.length = 6) : ∃ a b c d e f, l = [a, b, c, d, e, f] := by
  match l, h with
  | [a, b, c, d, e, f], _ => exact ⟨a, b, c, d, e, f, rfl⟩
/-- what field number i of a struct reads, its type and offset known -/
theorem field_at {fs : Array Field} {cs : List Value} {xs : List (DataW H × List MemPlace)} {n : Nat}
    (hf : ∀ (i : Nat) (f : Field), fs[i]? = some f → DataW.trod enc Tryd.prog w base spare held n f.type ((cs.drop f.offset).take (Tryd.prog.cellsOf f.type)) = xs[i]?) (hl : xs.length = fs.size)
    (i : Nat) {t : TypeId} {o : Nat} {v : Value} (h : (fs[i]?).map (fun f => (f.type, f.offset)) = some (t, o)) (hc : Tryd.prog.cellsOf t = 1) (hv : cs[o]? = some v) : ∃ y, DataW.trod enc Tryd.prog w base spare held n t [v] = some y := by
  obtain ⟨f, hfi, hp⟩ := Option.map_eq_some_iff.1 h
  obtain ⟨rfl, rfl⟩ := Prod.mk.inj hp
  have := hf i f hfi
  rw [hc] at this
  have hi : i < xs.length := by rw [hl]; exact (Array.getElem?_eq_some_iff.1 hfi).1
  rw [List.getElem?_eq_getElem hi] at this
  have e : List.take 1 (List.drop f.offset cs) = [v] := by
    obtain ⟨ho, hv⟩ := List.getElem?_eq_some_iff.1 hv
    rw [List.drop_eq_getElem_cons ho, hv]
    rfl
  rw [e] at this
  exact ⟨_, this⟩
noncomputable def itemFields : Array Field := (match Tryd.prog.underlying 27 with | some (.struct fs) => fs | _ => #[])
theorem itemUnder : Tryd.prog.underlying 27 = some (.struct itemFields) := by kernel_rfl
theorem open_item {fuel : Nat} {cs : List Value} {y : DataW H × List MemPlace} (h : DataW.trod enc Tryd.prog w base spare held fuel 27 cs = some y) : ∃ x : It, cs = x.cells ∧ x.ok w := by
  have hh := DataW.trod_struct (fs := itemFields) itemUnder h
  obtain ⟨xs, n, _, _, hl, hn, hf⟩ := hh
  rw [cItem] at hl
  obtain ⟨v0, v1, v2, v3, v4, v5, rfl⟩ := len6 hl
  clear h hl
  obtain ⟨y0, g0⟩ := field_at hf hn 0 (t := 9) (o := 0) (v := v0) (by decide +kernel) cStr rfl
  obtain ⟨y1, g1⟩ := field_at hf hn 1 (t := 5) (o := 1) (v := v1) (by decide +kernel) cU8 rfl
  obtain ⟨y2, g2⟩ := field_at hf hn 2 (t := 25) (o := 2) (v := v2) (by decide +kernel) cStrs rfl
  obtain ⟨y3, g3⟩ := field_at hf hn 3 (t := 9) (o := 3) (v := v3) (by decide +kernel) cStr rfl
  obtain ⟨y4, g4⟩ := field_at hf hn 4 (t := 3) (o := 4) (v := v4) (by decide +kernel) cInt rfl
  obtain ⟨y5, g5⟩ := field_at hf hn 5 (t := 3) (o := 5) (v := v5) (by decide +kernel) cInt rfl
  clear hf
  obtain ⟨nm, e0, _⟩ := DataW.trod_string Tryd.underlying9 g0
  obtain ⟨kd, e1, _⟩ := DataW.trod_int Tryd.underlying5 g1
  obtain ⟨s2, names, e2, hr⟩ := open_strs g2
  obtain ⟨ov, e3, _⟩ := DataW.trod_string Tryd.underlying9 g3
  obtain ⟨wd, e4, _⟩ := DataW.trod_int Tryd.underlying3 g4
  obtain ⟨q, e5, _⟩ := DataW.trod_int Tryd.underlying3 g5
  cases e0; cases e1; cases e2; cases e3; cases e4; cases e5
  exact ⟨⟨⟨nm, kd, names, ov, wd, q⟩, s2⟩, rfl, hr⟩
theorem open_items {fuel : Nat} {cs : List Value} {y : DataW H × List MemPlace} (h : DataW.trod enc Tryd.prog w base spare held fuel 22 cs = some y) :
    ∃ (s : Sl) (xs : List It), cs = [.slice s.p s.n s.c] ∧ ItemsAt w s xs := by
  obtain ⟨s, xs, h1, h2, h3⟩ := rows_of_trod (cells := It.cells) (E := fun x => x.ok w) Tryd.underlying22 cItem (by omega) (fun n cs y hy => open_item hy) h
  exact ⟨s, xs, h1, h2, h3⟩
theorem open_ints {fuel : Nat} {cs : List Value} {y : DataW H × List MemPlace} (h : DataW.trod enc Tryd.prog w base spare held fuel 33 cs = some y) :
    ∃ (s : Sl) (xs : List Int), cs = [.slice s.p s.n s.c] ∧ RowsAt 1 intCells w s xs ∧ ∀ x ∈ xs, (Lit.int .i64 x).wf = true := by
  obtain ⟨s, xs, h1, h2, h3⟩ := rows_of_trod (cells := intCells) (E := fun x => (Lit.int .i64 x).wf = true) Tryd.underlying33 cInt (by omega) (fun n cs y hy => by
    obtain ⟨s, rfl, _, hw⟩ := DataW.trod_int Tryd.underlying3 hy
    exact ⟨s, rfl, hw⟩) h
  exact ⟨s, xs, h1, h2, h3⟩
end
end Go.Proofs.YtfcdohaimdodgaaDoor

/-
  The two tables of unicode/utf8 in the witness's world; general words of this seat's closings.
-/
namespace Go.Proofs.YtfcdohaimdodgaaDoor
open Go.ChangeShapes Go.WideShapes Go.ChangeAt Go.RowKit

theorem own : ownKnob Tryd.prog.godebug = none := by kernel_rfl
theorem laidOut : laidOutB Tryd.prog = true := by kernel_rfl
noncomputable def numsOf {H : Type} : DataW H → List Value
  | .agg l => l.flatMap fun | .lit (.int k z) => [.int k z] | .agg m => m.flatMap (fun | .lit (.int k z) => [.int k z] | _ => []) | _ => []
  | _ => []
def putCells (cs : List Value) : Obj → Obj
  | .cells _ t frozen => .cells cs.toArray t frozen
  | o => o
noncomputable def laidWorld (os : Os) : World :=
  { World.holding Tryd.prog os ⟨#[], #[], []⟩ with heap := ((World.holding Tryd.prog os ⟨#[], #[], []⟩).heap.modify 0 (putCells (numsOf Rows.laid_unicode_utf8_first))).modify 1 (putCells (numsOf (Rows.laid_unicode_utf8_acceptRanges (H := Unit)))) }
theorem laid_met (os : Os) (args : Array Value) : laidMet Tryd.prog [("unicode/utf8.acceptRanges", Rows.laid_unicode_utf8_acceptRanges), ("unicode/utf8.first", Rows.laid_unicode_utf8_first)] ((laidWorld os).forCall (fun _ _ => 0) ⟨#[], args, []⟩).memory :=
  laidMet_of_run3 8 (by kernel_rfl) (by kernel_rfl) (by kernel_rfl)
section
variable {H : Type} {enc : TypeId × Value → H} {W : World} {base : Nat}
set_option maxRecDepth 100000 in
theorem arg_items {v : Value} {d : DataW H} {ps : List MemPlace} (hv : Value.okWide Tryd.prog W .any base 22 v) (h : DataW.Trod enc Tryd.prog W 0 (fun _ => true) true 22 v d ps) : ∃ (s : Sl) (xs : List It), v = .slice s.p s.n s.c ∧ ItemsAt W s xs := by
  obtain ⟨a0, len, cap, rfl⟩ := okWide_slice Tryd.underlying22 hv
  obtain ⟨fuel, hf⟩ := h
  obtain ⟨s, xs, h1, h2⟩ := open_items (cs := [.slice a0 len cap]) hf
  cases h1
  exact ⟨s, xs, rfl, h2⟩
set_option maxRecDepth 100000 in
theorem arg_ints {v : Value} {d : DataW H} {ps : List MemPlace} (hv : Value.okWide Tryd.prog W .any base 33 v) (h : DataW.Trod enc Tryd.prog W 0 (fun _ => true) true 33 v d ps) :
    ∃ (s : Sl) (xs : List Int), v = .slice s.p s.n s.c ∧ RowsAt 1 intCells W s xs ∧ ∀ x ∈ xs, (Lit.int .i64 x).wf = true := by
  obtain ⟨a0, len, cap, rfl⟩ := okWide_slice Tryd.underlying33 hv
  obtain ⟨fuel, hf⟩ := h
  obtain ⟨s, xs, h1, h2⟩ := open_ints (cs := [.slice a0 len cap]) hf
  cases h1
  exact ⟨s, xs, rfl, h2⟩
theorem below_items {W' : World} {v : Value} {d : DataW H} {ps : List MemPlace} (h : DataW.Trod enc Tryd.prog W 0 (fun _ => true) true 22 v d ps) (hb : Below W.heap.size W W') (hlt : ∀ x ∈ ps, x.block < W.heap.size) :
    DataW.Trod enc Tryd.prog W' 0 (fun b => decide (b < W.heap.size)) true 22 v d ps := Below.trod laidOut (by kernel_rfl) (of_decide_eq_true (by kernel_rfl)) h hb hlt
theorem below_ints {W' : World} {v : Value} {d : DataW H} {ps : List MemPlace} (h : DataW.Trod enc Tryd.prog W 0 (fun _ => true) true 33 v d ps) (hb : Below W.heap.size W W') (hlt : ∀ x ∈ ps, x.block < W.heap.size) :
    DataW.Trod enc Tryd.prog W' 0 (fun b => decide (b < W.heap.size)) true 33 v d ps := Below.trod laidOut (by kernel_rfl) (of_decide_eq_true (by kernel_rfl)) h hb hlt
end
end Go.Proofs.YtfcdohaimdodgaaDoor

/-
  What further arguments that came in read as: numbers, strings, a configuration; and that they read as before.
-/
namespace Go.Proofs.YtfcdohaimdodgaaDoor
open Go.ChangeShapes Go.WideShapes Go.ChangeAt Go.RowKit
section
variable {H : Type} {enc : TypeId × Value → H} {W : World} {base : Nat}
set_option maxRecDepth 100000 in
theorem arg_int {v : Value} {d : DataW H} {ps : List MemPlace} (hv : Value.okWide Tryd.prog W .any base 3 v) (h : DataW.Trod enc Tryd.prog W 0 (fun _ => true) true 3 v d ps) : ∃ z, v = .int .i64 z ∧ (Lit.int .i64 z).wf = true := by
  obtain ⟨z, h1, _, _, h4⟩ := open_int Tryd.underlying3 hv h
  exact ⟨z, h1, h4⟩
set_option maxRecDepth 100000 in
theorem arg_u8 {v : Value} {d : DataW H} {ps : List MemPlace} (hv : Value.okWide Tryd.prog W .any base 5 v) (h : DataW.Trod enc Tryd.prog W 0 (fun _ => true) true 5 v d ps) : ∃ z, v = .int .u8 z ∧ (Lit.int .u8 z).wf = true := by
  obtain ⟨z, h1, _, _, h4⟩ := open_int Tryd.underlying5 hv h
  exact ⟨z, h1, h4⟩
set_option maxRecDepth 100000 in
theorem arg_str {v : Value} {d : DataW H} {ps : List MemPlace} (hv : Value.okWide Tryd.prog W .any base 9 v) (h : DataW.Trod enc Tryd.prog W 0 (fun _ => true) true 9 v d ps) : ∃ z, v = .string z ∧ z.size ≤ maxLen := by
  obtain ⟨z, h1, _, _, h4⟩ := Go.ChangeMaps.open_string Tryd.underlying9 hv h
  exact ⟨z, h1, h4⟩
noncomputable def cfgFields : Array Field := (match Tryd.prog.underlying 32 with | some (.struct fs) => fs | _ => #[])
theorem cfgUnder : Tryd.prog.underlying 32 = some (.struct cfgFields) := by kernel_rfl
theorem cCfg : Tryd.prog.cellsOf 32 = 5 := by kernel_rfl
set_option maxRecDepth 100000 in
theorem arg_cfg {v : Value} {d : DataW H} {ps : List MemPlace} (hv : Value.okWide Tryd.prog W .any base 32 v) (h : DataW.Trod enc Tryd.prog W 0 (fun _ => true) true 32 v d ps) :
    ∃ a b c e f, v = .agg #[.int .i64 a, .int .i64 b, .int .i64 c, .int .i64 e, .int .i64 f] ∧ (Lit.int .i64 a).wf = true ∧ (Lit.int .i64 b).wf = true ∧ (Lit.int .i64 c).wf = true ∧ (Lit.int .i64 e).wf = true ∧ (Lit.int .i64 f).wf = true := by
  obtain ⟨cs, rfl, hsz⟩ := okWide_struct cfgUnder hv
  obtain ⟨l⟩ := cs
  match l, hsz.trans cCfg with
  | [c0, c1, c2, c3, c4], _ =>
    obtain ⟨fuel, hf⟩ := h
    obtain ⟨xs, n, _, _, _, hn, hg⟩ := DataW.trod_struct cfgUnder hf
    obtain ⟨y0, g0⟩ := field_at hg hn 0 (t := 3) (o := 0) (v := c0) (by decide +kernel) cInt rfl
    obtain ⟨y1, g1⟩ := field_at hg hn 1 (t := 3) (o := 1) (v := c1) (by decide +kernel) cInt rfl
    obtain ⟨y2, g2⟩ := field_at hg hn 2 (t := 3) (o := 2) (v := c2) (by decide +kernel) cInt rfl
    obtain ⟨y3, g3⟩ := field_at hg hn 3 (t := 3) (o := 3) (v := c3) (by decide +kernel) cInt rfl
    obtain ⟨y4, g4⟩ := field_at hg hn 4 (t := 3) (o := 4) (v := c4) (by decide +kernel) cInt rfl
    obtain ⟨a, e0, _, w0⟩ := DataW.trod_int Tryd.underlying3 g0
    obtain ⟨b, e1, _, w1⟩ := DataW.trod_int Tryd.underlying3 g1
    obtain ⟨c, e2, _, w2⟩ := DataW.trod_int Tryd.underlying3 g2
    obtain ⟨e, e3, _, w3⟩ := DataW.trod_int Tryd.underlying3 g3
    obtain ⟨f, e4, _, w4⟩ := DataW.trod_int Tryd.underlying3 g4
    cases e0; cases e1; cases e2; cases e3; cases e4
    exact ⟨a, b, c, e, f, rfl, w0, w1, w2, w3, w4⟩
theorem below_t (t : TypeId) (hr : Tryd.prog.readableRec t = true) (hrow : t < Tryd.prog.types.size) {W' : World} {v : Value} {d : DataW H} {ps : List MemPlace} (h : DataW.Trod enc Tryd.prog W 0 (fun _ => true) true t v d ps) (hb : Below W.heap.size W W') (hlt : ∀ x ∈ ps, x.block < W.heap.size) :
    DataW.Trod enc Tryd.prog W' 0 (fun b => decide (b < W.heap.size)) true t v d ps := Below.trod laidOut hr hrow h hb hlt
theorem below_int {W' : World} {v : Value} {d : DataW H} {ps : List MemPlace} (h : DataW.Trod enc Tryd.prog W 0 (fun _ => true) true 3 v d ps) (hb : Below W.heap.size W W') (hlt : ∀ x ∈ ps, x.block < W.heap.size) :
    DataW.Trod enc Tryd.prog W' 0 (fun b => decide (b < W.heap.size)) true 3 v d ps := below_t 3 (by kernel_rfl) (of_decide_eq_true (by kernel_rfl)) h hb hlt
theorem below_u8 {W' : World} {v : Value} {d : DataW H} {ps : List MemPlace} (h : DataW.Trod enc Tryd.prog W 0 (fun _ => true) true 5 v d ps) (hb : Below W.heap.size W W') (hlt : ∀ x ∈ ps, x.block < W.heap.size) :
    DataW.Trod enc Tryd.prog W' 0 (fun b => decide (b < W.heap.size)) true 5 v d ps := below_t 5 (by kernel_rfl) (of_decide_eq_true (by kernel_rfl)) h hb hlt
theorem below_str {W' : World} {v : Value} {d : DataW H} {ps : List MemPlace} (h : DataW.Trod enc Tryd.prog W 0 (fun _ => true) true 9 v d ps) (hb : Below W.heap.size W W') (hlt : ∀ x ∈ ps, x.block < W.heap.size) :
    DataW.Trod enc Tryd.prog W' 0 (fun b => decide (b < W.heap.size)) true 9 v d ps := below_t 9 (by kernel_rfl) (of_decide_eq_true (by kernel_rfl)) h hb hlt
theorem below_cfg {W' : World} {v : Value} {d : DataW H} {ps : List MemPlace} (h : DataW.Trod enc Tryd.prog W 0 (fun _ => true) true 32 v d ps) (hb : Below W.heap.size W W') (hlt : ∀ x ∈ ps, x.block < W.heap.size) :
    DataW.Trod enc Tryd.prog W' 0 (fun b => decide (b < W.heap.size)) true 32 v d ps := below_t 32 (by kernel_rfl) (of_decide_eq_true (by kernel_rfl)) h hb hlt
end
end Go.Proofs.YtfcdohaimdodgaaDoor

/-
  CheckTells: the statement and its card.
-/
namespace Go.Proofs.YtfcdohaimdodgaaDoor.checkTells
open Go.ChangeShapes Go.WideShapes Go.ChangeAt Go.RowKit Go.Proofs.YtfcdohaimdodgaaDoor

set_option maxRecDepth 100000
theorem contract (H : Type) (enc : TypeId × Value → H) (W : World) (base : Nat) (args : Array Value) (ds gs : List (DataW H)) (before : List MemPlace)
    (hval : ∀ (j : Nat) t v, Tryd.f4.params[j]? = some t → args[j]? = some v → Value.okWide Tryd.prog W .any base t v)
    (hW : DataW.Whole enc Tryd.prog Tryd.f4.params.toList Rows.checkTellsSpec.vars false W args.toList ds gs before) :
    Calls Tryd.prog 4 args W fun e W' => ∃ v, e = .returned v ∧ Rows.checkTellsSpec.post enc Tryd.prog Tryd.f4 false true false false W args v W' := by
  have hW' := hW
  obtain ⟨p, q, hA0, hV, rfl, hfz, hnd⟩ := hW
  have hA : DataW.TrodAll enc Tryd.prog W 0 (fun _ => true) true Tryd.f4.params.toList args.toList ds p := hA0
  rw [Tryd.params4] at hA hval
  obtain ⟨v0, vs0, d0, ds0, p0, q0, hargs0, rfl, rfl, h0, r0⟩ := trodAll_cons hA
  obtain ⟨v1, vs1, d1, ds1, p1, q1, hargs1, rfl, rfl, h1, r1⟩ := trodAll_cons r0
  obtain ⟨v2, vs2, d2, ds2, p2, q2, hargs2, rfl, rfl, h2, r2⟩ := trodAll_cons r1
  obtain ⟨v3, vs3, d3, ds3, p3, q3, hargs3, rfl, rfl, h3, r3⟩ := trodAll_cons r2
  obtain ⟨v4, vs4, d4, ds4, p4, q4, hargs4, rfl, rfl, h4, r4⟩ := trodAll_cons r3
  obtain ⟨v5, vs5, d5, ds5, p5, q5, hargs5, rfl, rfl, h5, r5⟩ := trodAll_cons r4
  obtain ⟨rfl, rfl, rfl⟩ := trodAll_nil r5
  obtain rfl : args = #[v0, v1, v2, v3, v4, v5] := by cases args; simp_all
  obtain ⟨rfl, rfl⟩ := trodVars_none hV
  obtain ⟨a0, b0, c0, e0, f0, rfl, wa0, wb0, wc0, we0, wf0⟩ := arg_cfg (hval 0 32 v0 rfl rfl) h0
  obtain ⟨s1, xs1, rfl, hx1, hw1⟩ := arg_ints (hval 1 33 v1 rfl rfl) h1
  obtain ⟨z2, rfl, hw2⟩ := arg_int (hval 2 3 v2 rfl rfl) h2
  obtain ⟨z3, rfl, hw3⟩ := arg_int (hval 3 3 v3 rfl rfl) h3
  obtain ⟨s4, xs4, rfl, hx4⟩ := arg_items (hval 4 22 v4 rfl rfl) h4
  obtain ⟨z5, rfl, hw5⟩ := arg_str (hval 5 9 v5 rfl rfl) h5
  clear hA0
  have hlt : ∀ x ∈ p0 ++ (p1 ++ (p2 ++ (p3 ++ (p4 ++ (p5 ++ []))))) ++ [], x.block < W.heap.size := fun x hx => hW'.lt x hx
  simp only [List.append_nil] at hW' hlt
  refine (tells_any ⟨a0, b0, c0, e0, f0⟩ s1.p s1.n s1.c xs1 z2 z3 s4.p s4.n s4.c xs4 z5 W hx1 hw1 hx4).mono fun e W' ⟨he, hg⟩ => ?_
  subst he
  have hc0 := below_cfg h0 hg (fun x hx => hlt x (by simp [hx]))
  have hc1 := below_ints h1 hg (fun x hx => hlt x (by simp [hx]))
  have hc2 := below_int h2 hg (fun x hx => hlt x (by simp [hx]))
  have hc3 := below_int h3 hg (fun x hx => hlt x (by simp [hx]))
  have hc4 := below_items h4 hg (fun x hx => hlt x (by simp [hx]))
  have hc5 := below_str h5 hg (fun x hx => hlt x (by simp [hx]))
  exact ⟨_, rfl, _, _, _, [], p0 ++ (p1 ++ (p2 ++ (p3 ++ (p4 ++ (p5 ++ []))))), [], hW', trodAll_cons_mk (shut_bool Tryd.underlying4 _) trodAll_mk0, trodAll_cons_mk hc0 (trodAll_cons_mk hc1 (trodAll_cons_mk hc2 (trodAll_cons_mk hc3 (trodAll_cons_mk hc4 (trodAll_cons_mk hc5 trodAll_mk0))))), rfl, hg.frame _, fun h => by cases h⟩

theorem lifted (os : Os) (started : os.Started) (H : Type) (enc : TypeId × Value → H) (F : Stop.Interp) :
    ReturnsInHanded {} Tryd.checked os 4 .any ((OpenSpec.ofChange Rows.checkTellsSpec).preRow enc Tryd.prog Tryd.f4 Rows.checkTellsRow.domain false Rows.checkTellsRow.laid) (((OpenSpec.ofChange Rows.checkTellsSpec).at F).post enc Tryd.prog Tryd.f4 false true false false) := by
  obtain ⟨places, hx⟩ : ∃ places, DataW.whole enc Tryd.prog ((laidWorld os).forCall (fun _ _ => 0) ⟨#[], #[.agg #[.int .i64 0, .int .i64 0, .int .i64 0, .int .i64 0, .int .i64 0], .slice none 0 0, .int .i64 0, .int .i64 0, .slice none 0 0, .string ⟨#[]⟩], []⟩).memory Tryd.f4.params.toList Rows.checkTellsSpec.vars false (#[.agg #[.int .i64 0, .int .i64 0, .int .i64 0, .int .i64 0, .int .i64 0], .slice none 0 0, .int .i64 0, .int .i64 0, .slice none 0 0, .string ⟨#[]⟩] : Array Value).toList 8 = some ([.agg [.lit (.int .i64 0), .lit (.int .i64 0), .lit (.int .i64 0), .lit (.int .i64 0), .lit (.int .i64 0)], .nil, .lit (.int .i64 0), .lit (.int .i64 0), .nil, .lit (.string [])], [], places) := ⟨[], by kernel_rfl⟩
  refine returnsInHanded_of_row (C := Tryd.checked) (s := OpenSpec.ofChange Rows.checkTellsSpec) own started (by kernel_rfl) Tryd.func4
    (witness_row_at (enc := enc) (C := Tryd.checked) false (laidWorld os) #[.agg #[.int .i64 0, .int .i64 0, .int .i64 0, .int .i64 0, .int .i64 0], .slice none 0 0, .int .i64 0, .int .i64 0, .slice none 0 0, .string ⟨#[]⟩] rfl (by kernel_rfl) (by kernel_rfl) (by kernel_rfl)
      (OpenSpec.preRow_of_cond 8 hx (by kernel_rfl) (fun k hk => by cases hk) (by kernel_rfl) (laid_met os _))) ?_
  intro W base args ds gs before hval hW _ _ _ hL _ _
  exact contract H enc W base args ds gs before hval hW

theorem said : Rows.CheckTellsSaid :=
  OpenClaim.holds_of_cond 4 Tryd.f4 rfl rfl rfl rfl rfl rfl rfl ⟨rfl, rfl, rfl, rfl, rfl⟩ rfl rfl rfl rfl rfl (by kernel_rfl) Tryd.func4 (by kernel_rfl)
    (of_decide_eq_true (by kernel_rfl)) (by unfold Func.isWrapper; first | (rw [if_pos (by decide +kernel)]; kernel_rfl) | (rw [if_neg (by decide +kernel)]; exact ⟨rfl, rfl⟩))
    (fun os started H enc _ F => by rw [OpenClaim.pre_eq_preRow]; exact lifted os started H enc F)

theorem plain (f : FuncId) (fn : Func) (hf : Tryd.pinned.checked.prog.funcNamed "foreman/foremanlaw20.CheckTells" = some f) (hfn : Tryd.pinned.checked.prog.funcs[f]? = some fn) :
    false = Tryd.pinned.checked.prog.looks [] ∧ ∀ (j : Nat) t, fn.params[j]? = some t → Tryd.pinned.checked.prog.wantsStandIn t = false := by
  obtain rfl : f = 4 := Option.some.inj ((show Tryd.prog.funcNamed "foreman/foremanlaw20.CheckTells" = some 4 by kernel_rfl).symm.trans hf) |>.symm
  obtain rfl : fn = Tryd.f4 := (Option.some.inj (Tryd.func4.symm.trans hfn)).symm
  refine ⟨by kernel_rfl, fun j t ht => ?_⟩
  rw [Tryd.params4] at ht
  have hm := Array.mem_of_getElem? ht
  have key : ∀ t ∈ (#[32, 33, 3, 3, 22, 9] : Array TypeId), Tryd.prog.wantsStandIn t = false := by
    intro t ht
    simp only [List.mem_toArray, List.mem_cons, List.not_mem_nil, or_false] at ht
    rcases ht with rfl | rfl | rfl | rfl | rfl | rfl <;> kernel_rfl
  exact key t hm

/-- the card -/
theorem card : Rows.CheckTellsCardSaid :=
  Claim7.holds_tied_plain_at .later [] _ _ _ _ said (fun _ h => by cases h) (by kernel_rfl) (fun _ h => by cases h) checkTells_row_tie rfl ⟨rfl, rfl⟩ (by kernel_rfl) rfl plain (by kernel_rfl)
end Go.Proofs.YtfcdohaimdodgaaDoor.checkTells
