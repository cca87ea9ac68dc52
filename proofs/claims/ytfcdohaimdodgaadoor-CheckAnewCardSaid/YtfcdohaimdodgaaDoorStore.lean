/-
  A store into a node of the call's own row, the new world under a name.
-/
import Derived.Test.YtfcdohaimdodgaaDoorStandsb
import Derived.Great.BuildSlice
namespace Go.Proofs.YtfcdohaimdodgaaDoor
open Go.RowKit
theorem run_storeVar_own {P : Program} {W : World} {a : Addr} {ty : TypeId} {old v : Value} (hc : W.cell? a = some old) (hf : W.frozen? a = false) (hi : (P.info? ty).map (·.size) = some 1) (h1 : v.oneCell' = true) :
    (storeVar ty a v).run P W = .ok () (W.setCell a v) := by
  have hv : v.cells = #[v] := by cases v <;> first | rfl | cases h1
  cases hq : P.info? ty with
  | none => simp [hq] at hi
  | some i =>
    have hs : i.size = 1 := by simpa [hq] using hi
    have hr : (store a v).run P W = .ok () (W.setCell a v) := by
      rw [run_store P W a v _ h1]
      simp [hc, hf]
    simp [storeVar, sizeOf, typeInfo, hq, hv, hs, storeCells, hr, Addr.add]
theorem wpList_store_node {P : Program} {W : World} {ops : Array Oper} {rest : List Oper} {o : Oper} {a : Act} {Q : Exit → Act → World → Prop} (hgd : o.guard = none) (ty : TypeId) (x y : Operand) (ho : o.op = .store ty x y)
    (hi : (P.info? ty).map (·.size) = some 1) (g k j : Nat) (u : Value) (hx : a.eval x = .pointer (some ⟨g, k * 16 + j, none⟩)) (hy : a.eval y = u) (h1 : u.oneCell' = true) {base n cap : Nat} {ys : List GN} {nd nd' : GN}
    (hown : W.ownsRow base 50 16 (.slice (some ⟨g, 0, none⟩) n cap) n (ys.flatMap GN.cells)) (hk : k < n) (hnd : ys[k]? = some nd) (hj : j < 16) (hc : nd.cells.set j u = nd'.cells)
    (h : ∀ W', W'.ownsRow base 50 16 (.slice (some ⟨g, 0, none⟩) n cap) n ((ys.set k nd').flatMap GN.cells) → W.grownBy W' (some g) → wpList P ops Q rest (a.put o.dst undef) W') : wpList P ops Q (o :: rest) a W := by
  refine wpList_plain hgd fun K hK => ?_
  have hl : nd.cells.length = 16 := GN.cells_len nd
  have hcell : W.cell? ⟨g, k * 16 + j, none⟩ = some (nd.cells[j]'(by omega)) := (hown.cellAt _ (by omega)).trans (flat_at hnd (List.getElem?_eq_getElem _))
  have hr := run_storeVar_own (P := P) hcell (hown.frozenAt _) hi h1
  unfold Oper.wp execOp
  simp only [ho, hx, hy, Instr.storeAt, Instr.sureAddr, Sem.run_bind, Sem.run_pure, Result.andThen_ok, hr]
  exact hK _ _ (h _ (own_store hown hnd hj hc) (hown.stored _ _).2)
/-- four cells at once -/
theorem run_storeVar_four {P : Program} {W W1 W2 W3 : World} {g o : Nat} {ty : TypeId} {c0 c1 c2 c3 v0 v1 v2 v3 v : Value} (hv : v.cells = #[v0, v1, v2, v3]) (hi : (P.info? ty).map (·.size) = some 4)
    (e1 : W1 = W.setCell ⟨g, o, none⟩ v0) (e2 : W2 = W1.setCell ⟨g, o + 1, none⟩ v1) (e3 : W3 = W2.setCell ⟨g, o + 2, none⟩ v2)
    (h0 : W.cell? ⟨g, o, none⟩ = some c0) (f0 : W.frozen? ⟨g, o, none⟩ = false) (h1 : W1.cell? ⟨g, o + 1, none⟩ = some c1) (f1 : W1.frozen? ⟨g, o + 1, none⟩ = false)
    (h2 : W2.cell? ⟨g, o + 2, none⟩ = some c2) (f2 : W2.frozen? ⟨g, o + 2, none⟩ = false) (h3 : W3.cell? ⟨g, o + 3, none⟩ = some c3) (f3 : W3.frozen? ⟨g, o + 3, none⟩ = false)
    (k0 : v0.oneCell' = true) (k1 : v1.oneCell' = true) (k2 : v2.oneCell' = true) (k3 : v3.oneCell' = true) :
    (storeVar ty ⟨g, o, none⟩ v).run P W = .ok () (W3.setCell ⟨g, o + 3, none⟩ v3) := by
  cases hq : P.info? ty with
  | none => simp [hq] at hi
  | some i =>
    have hs : i.size = 4 := by simpa [hq] using hi
    have r0 : (store ⟨g, o, none⟩ v0).run P W = .ok () W1 := by rw [run_store P W _ v0 _ k0, e1]; simp [h0, f0]
    have r1 : (store ⟨g, o + 1, none⟩ v1).run P W1 = .ok () W2 := by rw [run_store P W1 _ v1 _ k1, e2]; simp [h1, f1]
    have r2 : (store ⟨g, o + 2, none⟩ v2).run P W2 = .ok () W3 := by rw [run_store P W2 _ v2 _ k2, e3]; simp [h2, f2]
    have r3 : (store ⟨g, o + 3, none⟩ v3).run P W3 = .ok () (W3.setCell ⟨g, o + 3, none⟩ v3) := by rw [run_store P W3 _ v3 _ k3]; simp [h3, f3]
    simp [storeVar, sizeOf, typeInfo, hq, hv, hs, storeCells, Addr.add, r0, r1, r2, r3]
theorem set_same {ys : List GN} {k : Nat} {x : GN} (hk : k < ys.length) : (ys.set k x)[k]? = some x := by rw [List.getElem?_set, if_pos rfl]; simp [hk]
/-- a Value goes into a node -/
theorem wpList_store_value {P : Program} {W : World} {ops : Array Oper} {rest : List Oper} {o : Oper} {a : Act} {Q : Exit → Act → World → Prop} (hgd : o.guard = none) (ty : TypeId) (x y : Operand) (ho : o.op = .store ty x y)
    (hi : (P.info? ty).map (·.size) = some 4) (g k : Nat) (v : Value) (vk vn : Int) (vs : ByteArray) (vl : Sl) (hx : a.eval x = .pointer (some ⟨g, k * 16 + 12, none⟩)) (hy : a.eval y = v) (hv : v.cells = #[.int .u8 vk, .int .i64 vn, .string vs, .slice vl.p vl.n vl.c]) {base n cap : Nat} {ys : List GN} {nd : GN}
    (hown : W.ownsRow base 50 16 (.slice (some ⟨g, 0, none⟩) n cap) n (ys.flatMap GN.cells)) (hk : k < n) (hnd : ys[k]? = some nd)
    (h : ∀ W', W'.ownsRow base 50 16 (.slice (some ⟨g, 0, none⟩) n cap) n ((ys.set k { nd with vk := vk, vn := vn, vs := vs, vl := vl }).flatMap GN.cells) → W.grownBy W' (some g) → wpList P ops Q rest (a.put o.dst undef) W') : wpList P ops Q (o :: rest) a W := by
  refine wpList_plain hgd fun K hK => ?_
  have hl : k < ys.length := (List.getElem?_eq_some_iff.1 hnd).1
  have o1 := own_store (j := 12) (u := .int .u8 vk) (x' := { nd with vk := vk }) hown hnd (by decide) rfl
  have o2 := own_store' (j := 13) (u := .int .i64 vn) (x' := { nd with vk := vk, vn := vn }) hl o1 (by decide) rfl
  have o3 := own_store' (j := 14) (u := .string vs) (x' := { nd with vk := vk, vn := vn, vs := vs }) hl o2 (by decide) rfl
  have o4 := own_store' (j := 15) (u := .slice vl.p vl.n vl.c) (x' := { nd with vk := vk, vn := vn, vs := vs, vl := vl }) hl o3 (by decide) rfl
  have g1 := (hown.stored (k * 16 + 12) (.int .u8 vk)).2
  have g2 := (o1.stored (k * 16 + 13) (.int .i64 vn)).2
  have g3 := (o2.stored (k * 16 + 14) (.string vs)).2
  have g4 := (o3.stored (k * 16 + 15) (.slice vl.p vl.n vl.c)).2
  have hr := run_storeVar_four (P := P) (W := W) (ty := ty) hv hi rfl rfl rfl
    ((hown.cellAt (k * 16 + 12) (by omega)).trans (flat_at hnd rfl)) (hown.frozenAt _)
    ((o1.cellAt (k * 16 + 13) (by omega)).trans (flat_at (set_same hl) rfl)) (o1.frozenAt _)
    ((o2.cellAt (k * 16 + 14) (by omega)).trans (flat_at (set_same hl) rfl)) (o2.frozenAt _)
    ((o3.cellAt (k * 16 + 15) (by omega)).trans (flat_at (set_same hl) rfl)) (o3.frozenAt _) rfl rfl rfl rfl
  unfold Oper.wp execOp
  simp only [ho, hx, hy, Instr.storeAt, Instr.sureAddr, Sem.run_bind, Sem.run_pure, Result.andThen_ok, hr]
  exact hK _ _ (h _ o4 (((g1.trans g2).trans g3).trans g4))
theorem wpList_store_st {P : Program} {W : World} {ops : Array Oper} {rest : List Oper} {o : Oper} {a : Act} {Q : Exit → Act → World → Prop} (hgd : o.guard = none) (ty : TypeId) (x y : Operand) (ho : o.op = .store ty x y)
    (hi : (P.info? ty).map (·.size) = some 1) (g k : Nat) (z : Int) (hx : a.eval x = .pointer (some ⟨g, k * 16 + 9, none⟩)) (hy : a.eval y = .int .u8 z) {base n cap : Nat} {ys : List GN} {nd : GN}
    (hown : W.ownsRow base 50 16 (.slice (some ⟨g, 0, none⟩) n cap) n (ys.flatMap GN.cells)) (hk : k < n) (hnd : ys[k]? = some nd)
    (h : ∀ W', W'.ownsRow base 50 16 (.slice (some ⟨g, 0, none⟩) n cap) n ((ys.set k { nd with st := z }).flatMap GN.cells) → W.grownBy W' (some g) → wpList P ops Q rest (a.put o.dst undef) W') : wpList P ops Q (o :: rest) a W :=
  wpList_store_node hgd ty x y ho hi g k 9 _ hx hy rfl hown hk hnd (by decide) rfl h
theorem wpList_store_fa {P : Program} {W : World} {ops : Array Oper} {rest : List Oper} {o : Oper} {a : Act} {Q : Exit → Act → World → Prop} (hgd : o.guard = none) (ty : TypeId) (x y : Operand) (ho : o.op = .store ty x y)
    (hi : (P.info? ty).map (·.size) = some 1) (g k : Nat) (z : Int) (hx : a.eval x = .pointer (some ⟨g, k * 16 + 10, none⟩)) (hy : a.eval y = .int .i64 z) {base n cap : Nat} {ys : List GN} {nd : GN}
    (hown : W.ownsRow base 50 16 (.slice (some ⟨g, 0, none⟩) n cap) n (ys.flatMap GN.cells)) (hk : k < n) (hnd : ys[k]? = some nd)
    (h : ∀ W', W'.ownsRow base 50 16 (.slice (some ⟨g, 0, none⟩) n cap) n ((ys.set k { nd with fa := z }).flatMap GN.cells) → W.grownBy W' (some g) → wpList P ops Q rest (a.put o.dst undef) W') : wpList P ops Q (o :: rest) a W :=
  wpList_store_node hgd ty x y ho hi g k 10 _ hx hy rfl hown hk hnd (by decide) rfl h
theorem wpList_store_tk {P : Program} {W : World} {ops : Array Oper} {rest : List Oper} {o : Oper} {a : Act} {Q : Exit → Act → World → Prop} (hgd : o.guard = none) (ty : TypeId) (x y : Operand) (ho : o.op = .store ty x y)
    (hi : (P.info? ty).map (·.size) = some 1) (g k : Nat) (z : Int) (hx : a.eval x = .pointer (some ⟨g, k * 16 + 11, none⟩)) (hy : a.eval y = .int .i64 z) {base n cap : Nat} {ys : List GN} {nd : GN}
    (hown : W.ownsRow base 50 16 (.slice (some ⟨g, 0, none⟩) n cap) n (ys.flatMap GN.cells)) (hk : k < n) (hnd : ys[k]? = some nd)
    (h : ∀ W', W'.ownsRow base 50 16 (.slice (some ⟨g, 0, none⟩) n cap) n ((ys.set k { nd with tk := z }).flatMap GN.cells) → W.grownBy W' (some g) → wpList P ops Q rest (a.put o.dst undef) W') : wpList P ops Q (o :: rest) a W :=
  wpList_store_node hgd ty x y ho hi g k 11 _ hx hy rfl hown hk hnd (by decide) rfl h
theorem wpList_store_nm {P : Program} {W : World} {ops : Array Oper} {rest : List Oper} {o : Oper} {a : Act} {Q : Exit → Act → World → Prop} (hgd : o.guard = none) (ty : TypeId) (x y : Operand) (ho : o.op = .store ty x y)
    (hi : (P.info? ty).map (·.size) = some 1) (g k : Nat) (z : ByteArray) (hx : a.eval x = .pointer (some ⟨g, k * 16 + 1, none⟩)) (hy : a.eval y = .string z) {base n cap : Nat} {ys : List GN} {nd : GN}
    (hown : W.ownsRow base 50 16 (.slice (some ⟨g, 0, none⟩) n cap) n (ys.flatMap GN.cells)) (hk : k < n) (hnd : ys[k]? = some nd)
    (h : ∀ W', W'.ownsRow base 50 16 (.slice (some ⟨g, 0, none⟩) n cap) n ((ys.set k { nd with nm := z }).flatMap GN.cells) → W.grownBy W' (some g) → wpList P ops Q rest (a.put o.dst undef) W') : wpList P ops Q (o :: rest) a W :=
  wpList_store_node hgd ty x y ho hi g k 1 _ hx hy rfl hown hk hnd (by decide) rfl h
end Go.Proofs.YtfcdohaimdodgaaDoor
