/-
  append of a slice that reads as rows, onto a row of the call's own.
-/
import Derived.Test.YtfcdohaimdodgaaDoorBase
import Derived.Maps.AppendAt
namespace Go.Proofs.YtfcdohaimdodgaaDoor
open Go.RowKit
set_option linter.unusedVariables false

theorem flat_get {α : Type} {cells : α → List Value} {sz : Nat} (hsz : ∀ x, (cells x).length = sz) : ∀ (ys : List α) (j : Nat) (u : Value), (ys.flatMap cells)[j]? = some u → ∃ k y i, ys[k]? = some y ∧ (cells y)[i]? = some u ∧ j = k * sz + i := by
  intro ys
  induction ys with
  | nil => intro j u h; simp at h
  | cons y r ih =>
    intro j u h
    rw [List.flatMap_cons] at h
    rcases Nat.lt_or_ge j sz with hj | hj
    · rw [List.getElem?_append_left (by rw [hsz]; exact hj)] at h
      exact ⟨0, y, j, rfl, h, by simp⟩
    · rw [List.getElem?_append_right (by rw [hsz]; exact hj), hsz] at h
      obtain ⟨k, z, i, h1, h2, h3⟩ := ih _ _ h
      exact ⟨k + 1, z, i, by simpa using h1, h2, by rw [Nat.add_mul]; omega⟩
theorem flat_len {α : Type} {cells : α → List Value} {sz : Nat} (hsz : ∀ x, (cells x).length = sz) (ys : List α) : (ys.flatMap cells).length = ys.length * sz := by
  induction ys with
  | nil => simp
  | cons y r ih => rw [List.flatMap_cons, List.length_append, hsz, ih, List.length_cons, Nat.add_mul]; omega

theorem run_append_rows {P : Program} {w : World} {α : Type} {cells : α → List Value} (base : Nat) (t ty e : TypeId) (i : TypeInfo) (z : Value) (size bytes : Nat) (ht : P.underlying t = some (.slice e)) (hi : P.info? e = some i) (hz : i.zero = some z)
    (hsize : i.size = size) (hby : i.bytes = bytes) (hzs : z.cells.size = size) (hsz : 0 < size) (v : Value) (n : Nat) (xs : List Value) (hown : w.ownsRow base e size v n xs)
    (p : Option Addr) (m c : Nat) (ys : List α) (hr : RowsAt size cells w ⟨p, m, c⟩ ys) (hcl : ∀ y, (cells y).length = size) (h1 : ∀ y, ∀ u ∈ cells y, u.oneCell' = true)
    (h63 : n + m ≤ maxLen) (hbytes : (n + m) * bytes ≤ 140737488355328) (hbase : base ≤ w.heap.size) :
    ∃ v' w', (Builtin.append_ #[t, t] ty #[v, .slice p m c]).run P w = .ok v' w' ∧ w'.ownsRow base e size v' (n + m) (xs ++ ys.flatMap cells) ∧ w.grownBy w' v.ownBlock ∧ (v'.ownBlock = v.ownBlock ∨ v'.ownBlock = some w.heap.size) := by
  have hm : m = ys.length := hr.len
  cases p with
  | none =>
    have hy : ys = [] := by
      cases ys with
      | nil => rfl
      | cons y r => obtain ⟨b, o, h, _⟩ := hr.at_ 0 y rfl; cases h
    subst hy
    obtain rfl : m = 0 := hm
    refine ⟨v, w, ?_, by simpa using hown, World.grownBy.refl _ _, .inl rfl⟩
    rcases hown.2 with ⟨rfl, rfl⟩ | ⟨g, cap, cur, rfl, _, _, hnc, _⟩
    · simp [Builtin.append_, run_underlying ht, sizeOf, typeInfo, hi, Builtin.lenOf, Builtin.firstCells]
    · simp [Builtin.append_, run_underlying ht, sizeOf, typeInfo, hi, Builtin.lenOf, Builtin.firstCells, hnc, storeCells]
  | some ad =>
    have hcells : ∀ j u, (ys.flatMap cells)[j]? = some u → w.cell? (ad.add j) = some u := by
      intro j u hj
      obtain ⟨k, y, i, h1, h2, rfl⟩ := flat_get hcl ys j u hj
      obtain ⟨b, o, h, _, hc⟩ := hr.at_ k y h1
      cases h
      have := hc i u h2
      unfold Addr.add
      split
      · rename_i h0
        rw [← this]; congr 2; omega
      · rw [← this]; congr 2; simp only; omega
    obtain ⟨v', w', hrun, h2, h3, _, h5⟩ := run_append_own_at (P := P) w base t ty e i z size bytes ht hi hz hsize hby hzs hsz v n xs hown ad m c (ys.flatMap cells) (by rw [flat_len hcl, hm]) hcells (by
      intro u hu
      obtain ⟨y, _, hy⟩ := List.mem_flatMap.1 hu
      exact h1 y u hy) h63 hbytes hbase
    exact ⟨v', w', hrun, h2, h3, h5⟩

theorem wpList_append_rows {P : Program} {w : World} {α : Type} {cells : α → List Value} {ops : Array Oper} {rest : List Oper} {o : Oper} {a : Act} {Q : Exit → Act → World → Prop} (hgd : o.guard = none) (s x : Operand) (t : TypeId)
    (ho : o.op = .call { callee := .builtin .append, args := #[s, x], argTypes := #[t, t] })
    (base : Nat) (e : TypeId) (i : TypeInfo) (z : Value) (size bytes : Nat) (ht : P.underlying t = some (.slice e)) (hi : P.info? e = some i) (hz : i.zero = some z)
    (hsize : i.size = size) (hby : i.bytes = bytes) (hzs : z.cells.size = size) (hsz : 0 < size) (v : Value) (n : Nat) (xs : List Value) (hs : a.eval s = v) (hown : w.ownsRow base e size v n xs)
    (p : Option Addr) (m c : Nat) (ys : List α) (hx : a.eval x = .slice p m c) (hr : RowsAt size cells w ⟨p, m, c⟩ ys) (hcl : ∀ y, (cells y).length = size) (h1 : ∀ y, ∀ u ∈ cells y, u.oneCell' = true)
    (h63 : n + m ≤ maxLen) (hbytes : (n + m) * bytes ≤ 140737488355328) (hbase : base ≤ w.heap.size)
    (h : ∀ v' w', w'.ownsRow base e size v' (n + m) (xs ++ ys.flatMap cells) → w.grownBy w' v.ownBlock → (v'.ownBlock = v.ownBlock ∨ v'.ownBlock = some w.heap.size) → wpList P ops Q rest (a.put o.dst v') w') :
    wpList P ops Q (o :: rest) a w := by
  refine wpList_plain hgd fun K hK => ?_
  obtain ⟨v', w', hr, h2, h3, h4⟩ := run_append_rows (P := P) (w := w) base t o.type e i z size bytes ht hi hz hsize hby hzs hsz v n xs hown p m c ys hr hcl h1 h63 hbytes hbase
  unfold Oper.wp execOp
  simp only [ho, resolve, invoke, builtin, Sem.run_bind, Sem.run_pure, Result.andThen_ok, List.map_toArray, List.map_cons, List.map_nil, hs, hx, hr]
  exact hK _ _ (h v' w' h2 h3 h4)
/-- an empty slice literal -/
theorem owns_empty (w : World) (e : TypeId) (sz : Nat) : (w.alloc (.cells #[] e)).ownsRow w.heap.size e sz (.slice (some ⟨w.heap.size, 0, none⟩) 0 0) 0 [] :=
  ⟨by simp, .inr ⟨w.heap.size, 0, #[], rfl, Nat.le_refl _, heap_alloc_new w _, Nat.le_refl _, by simp [maxLen], by simp, by simp⟩⟩
/-- a step that turns the call's own blocks alone -/
theorem ext_grown {w a b : World} {base : Nat} {e : TypeId} {sz : Nat} {v : Value} {n : Nat} {xs : List Value} (h : Ext w a) (ho : a.ownsRow base e sz v n xs) (hb : w.heap.size ≤ base) (hg : a.grownBy b v.ownBlock) : Ext w b := by
  refine Below.grown h hg h.size fun k hk => ?_
  rcases ho.2 with ⟨rfl, _⟩ | ⟨g, cap, cur, rfl, hg', _⟩
  · cases hk
  · obtain rfl : g = k := by simpa [Value.ownBlock] using hk
    omega
/-- min of a length and a constant, as a number of its own -/
theorem wpList_minN {P : Program} {w : World} {ops : Array Oper} {rest : List Oper} {o : Oper} {a : Act} {Q : Exit → Act → World → Prop} (hgd : o.guard = none) (x y : Operand) (t : Array TypeId)
    (ho : o.op = .call { callee := .builtin .min, args := #[x, y], argTypes := t }) (n m : Nat) (hx : a.eval x = .int .i64 n) (hy : a.eval y = .int .i64 m)
    (h : ∀ k : Nat, k ≤ n → k ≤ m → wpList P ops Q rest (a.put o.dst (.int .i64 k)) w) : wpList P ops Q (o :: rest) a w := by
  refine wpList_plain hgd fun K hK => ?_
  have hr : (Builtin.min_ t o.type #[.int .i64 n, .int .i64 m]).run P w = .ok (.int .i64 (min n m : Nat)) w := by
    simp only [Builtin.min_, List.foldlM_cons, List.foldlM_nil, Builtin.min2]
    have : (if (m : Int) < (n : Int) then (m : Int) else n) = ((min n m : Nat) : Int) := by
      rw [Nat.min_def]
      split <;> split <;> omega
    rw [this]
    rfl
  unfold Oper.wp execOp
  simp only [ho, resolve, invoke, builtin, Sem.run_bind, Sem.run_pure, Result.andThen_ok, List.map_toArray, List.map_cons, List.map_nil, hx, hy, hr]
  exact hK _ _ (h _ (Nat.min_le_left _ _) (Nat.min_le_right _ _))
end Go.Proofs.YtfcdohaimdodgaaDoor
