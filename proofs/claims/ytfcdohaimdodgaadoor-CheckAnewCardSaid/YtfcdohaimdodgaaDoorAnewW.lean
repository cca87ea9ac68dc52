/-
  CheckAnew: stores into copied items, and what the map and the copy read as then.
-/
import Derived.Test.YtfcdohaimdodgaaDoorCopy
import Derived.Test.YtfcdohaimdodgaaDoorAnewP
namespace Go.Proofs.YtfcdohaimdodgaaDoor
open Go.RowKit Go.Shelf
set_option linter.unusedVariables false
theorem OwnIt.upd {W W' : World} {base g n cap k : Nat} {ys : List It} {y y' : It} {j : Nat} (h : OwnIt W base (.slice (some ⟨g, 0, none⟩) n cap) ys k) (hy : ys[j]? = some y)
    (hr : W'.ownsRow base 27 6 (.slice (some ⟨g, 0, none⟩) n cap) n ((ys.set j y').flatMap It.cells)) (hn : n = ys.length) (hg : W.grownBy W' (some g)) (haf : y'.af = y.af) (hnm : y'.d.names = y.d.names) :
    OwnIt W' base (.slice (some ⟨g, 0, none⟩) n cap) (ys.set j y') k := by
  have hne : (9 : TypeId) ≠ 27 := by decide
  have old : ∀ (i : Nat) (z : It), (ys.set j y')[i]? = some z → ∃ z' : It, ys[i]? = some z' ∧ z.af = z'.af ∧ z.d.names = z'.d.names := by
    intro i z hz
    rcases set_at hz with ⟨rfl, rfl⟩ | ⟨h1, h2⟩
    · exact ⟨y, hy, haf, hnm⟩
    · exact ⟨z, h2, rfl, rfl⟩
  refine ⟨by rw [List.length_set, ← hn]; exact hr, fun i z hi hz => ?_, fun i i' z z' hi hi' hii hz hz' => ?_⟩
  · obtain ⟨z', h1, h2, h3⟩ := old i z hz
    obtain ⟨h4, h5⟩ := h.strs i z' hi h1
    have e : afv z = afv z' := by unfold afv; rw [h2]
    rw [e, h3, h2]
    exact ⟨h4.kept hg (own_far h4 h.row hne), h5⟩
  · obtain ⟨a, a1, a2, _⟩ := old i z hz
    obtain ⟨b, b1, b2, _⟩ := old i' z' hz'
    have e : afv z = afv a := by unfold afv; rw [a2]
    have e' : afv z' = afv b := by unfold afv; rw [b2]
    rw [e, e']
    exact h.apart i i' a b hi hi' hii a1 b1
theorem s9' : (Tryd.prog.info? 9).map (·.size) = some 1 := by kernel_rfl
theorem set_at_same {α : Type} {ys : List α} {k : Nat} {x y : α} (h : ys[k]? = some y) : (ys.set k x)[k]? = some x := by
  rw [List.getElem?_set, if_pos rfl, if_pos (List.getElem?_eq_some_iff.1 h).1]
theorem drop_cons' {α : Type} {xs : List α} {j : Nat} {x : α} (h : xs[j]? = some x) : xs.drop j = x :: xs.drop (j + 1) := by
  obtain ⟨h1, h2⟩ := List.getElem?_eq_some_iff.1 h
  rw [List.drop_eq_getElem_cons h1, h2]
theorem flat_same {ys : List It} {j : Nat} {y y' : It} (hy : ys[j]? = some y) (hc : y'.cells = y.cells) : (ys.set j y').flatMap It.cells = ys.flatMap It.cells := by
  have := flatG_set (cells := It.cells) It.cells_len (j := 0) (u := y.cells[0]'(by simp [It.cells])) (by decide) (x := y) (x' := y') (by rw [hc, List.set_getElem_self]) (ys := ys) (k := j) hy
  rw [← this]
  apply List.ext_getElem?
  intro i
  rw [List.getElem?_set]
  split
  · rename_i e
    subst e
    have hv : (ys.flatMap It.cells)[j * 6 + 0]? = some (y.cells[0]'(by simp [It.cells])) := flatG_at It.cells_len hy (List.getElem?_eq_getElem _)
    rw [if_pos (List.getElem?_eq_some_iff.1 hv).1, hv]
  · rfl
/-- a text of an After is written -/
theorem OwnIt.str {W : World} {base n k gb cb : Nat} {v : Value} {ys : List It} {y : It} {j i : Nat} {s : ByteArray} (h : OwnIt W base v ys k) (hy : ys[j]? = some y) (hj : j < k) (haf : afv y = .slice (some ⟨gb, 0, none⟩) n cb) (hi : i < y.d.names.length) :
    OwnIt (W.setCell ⟨gb, i, none⟩ (.string s)) base v (ys.set j ⟨{ y.d with names := y.d.names.set i s }, y.af⟩) k := by
  have hne : (27 : TypeId) ≠ 9 := by decide
  obtain ⟨h1, h2⟩ := h.strs j y hj hy
  have hnn : n = y.d.names.length := by
    have e : y.af.n = n := by
      unfold afv at haf
      simp only [Value.slice.injEq] at haf
      exact haf.2.1
    omega
  subst hnn
  rw [haf] at h1
  have hst := h1.stored i (.string s)
  have hset : (y.d.names.flatMap strCells).set i (.string s) = (y.d.names.set i s).flatMap strCells := by
    obtain ⟨x, hx⟩ := getElem?_of_lt hi
    have := flatG_set (cells := strCells) strCells_len (j := 0) (u := .string s) (by decide) (x := x) (x' := s) rfl (ys := y.d.names) (k := i) hx
    simpa using this
  rw [hset] at hst
  refine ⟨?_, fun i' z hi' hz => ?_, fun i1 i2 z z' g1 g2 g3 hz hz' => ?_⟩
  · rw [List.length_set, flat_same (y' := ⟨{ y.d with names := y.d.names.set i s }, y.af⟩) hy rfl]
    exact h.row.kept hst.2 (own_far h.row h1 hne)
  · rcases set_at hz with ⟨rfl, rfl⟩ | ⟨e1, e2⟩
    · refine ⟨?_, by rw [h2, List.length_set]⟩
      show World.ownsRow _ base 9 1 (afv y) _ _
      rw [haf, List.length_set]
      exact hst.1
    · obtain ⟨h3, h4⟩ := h.strs i' z hi' e2
      refine ⟨h3.kept hst.2 ?_, h4⟩
      have := h.apart i' j z y hi' hj e1 e2 hy
      rw [haf] at this
      exact this
  · have e1 : ∀ (i0 : Nat) (z0 : It), (ys.set j ⟨{ y.d with names := y.d.names.set i s }, y.af⟩)[i0]? = some z0 → ∃ z1 : It, ys[i0]? = some z1 ∧ afv z0 = afv z1 := by
      intro i0 z0 h0
      rcases set_at h0 with ⟨rfl, rfl⟩ | ⟨e1, e2⟩
      · exact ⟨y, hy, rfl⟩
      · exact ⟨z0, e2, rfl⟩
    obtain ⟨a, a1, a2⟩ := e1 i1 z hz
    obtain ⟨b, b1, b2⟩ := e1 i2 z' hz'
    rw [a2, b2]
    exact h.apart i1 i2 a b g1 g2 g3 a1 b1
/-- the copy, read as items -/
theorem OwnIt.items {W : World} {base : Nat} {sp : Option Addr} {sn sc : Nat} {ys : List It} (h : OwnIt W base (.slice sp sn sc) ys ys.length) (hn : sn = ys.length) : ItemsAt W ⟨sp, sn, sc⟩ ys := by
  obtain ⟨⟨p', n', c'⟩, hv, hr, _⟩ := RowsAt.of_owns It.cells_len h.row
  cases hv
  refine ⟨hr, fun x hx => ?_⟩
  obtain ⟨j, hj⟩ := List.getElem?_of_mem hx
  obtain ⟨h1, h2⟩ := h.strs j x (List.getElem?_eq_some_iff.1 hj).1 hj
  obtain ⟨⟨p2, n2, c2⟩, hv2, hr2, _⟩ := RowsAt.of_owns strCells_len h1
  unfold afv at hv2
  obtain ⟨e1, e2, e3⟩ : x.af.p = p2 ∧ x.af.n = n2 ∧ x.af.c = c2 := by simpa using hv2
  unfold It.ok
  have : x.af = ⟨p2, n2, c2⟩ := by cases hx : x.af; simp_all
  rw [this]
  exact hr2
def PosM (M : List (ByteArray × Int)) (l : List ByteArray) : Prop := ∀ s, (0 ≤ pos l s → mget s M = some (pos l s)) ∧ (pos l s < 0 → mget s M = none)
theorem PosM.nil : PosM [] [] := fun s => ⟨fun h => by simp [pos, idx] at h, fun _ => rfl⟩
theorem pos_snoc (l : List ByteArray) (z s : ByteArray) (hz : pos l z < 0) : pos (l ++ [z]) s = if z = s then (l.length : Int) else pos l s := by
  have gen : ∀ (l : List ByteArray), (∀ y ∈ l, y ≠ z) → pos (l ++ [z]) s = if z = s then (l.length : Int) else pos l s := by
    intro l
    induction l with
    | nil =>
      intro _
      by_cases e : z = s
      · simp [pos, idx, e]
      · simp [pos, idx, e]
    | cons y r ih =>
      intro hy
      have hy1 := hy y (by simp)
      have ih := ih fun w hw => hy w (by simp [hw])
      unfold pos at ih ⊢
      rw [List.cons_append]
      unfold idx
      dsimp only
      rw [ih]
      by_cases e : z = s
      · subst e
        rw [decide_eq_false hy1]
        simp
        omega
      · rw [if_neg e, if_neg e]
  refine gen l fun y hy e => ?_
  subst e
  have := idx_nonneg (fun x : ByteArray => decide (x = y)) l
  have h3 : l.any (fun x : ByteArray => decide (x = y)) = true := List.any_eq_true.2 ⟨y, hy, by simp⟩
  rw [h3] at this
  simp at this
  unfold pos at hz
  omega
theorem PosM.put {M : List (ByteArray × Int)} {l : List ByteArray} (h : PosM M l) {z : ByteArray} (hz : mget z M = none) {j : Nat} (hj : j = l.length) : PosM (mput z (j : Int) M) (l ++ [z]) := by
  have hz' : pos l z < 0 := by
    rcases Int.lt_or_le (pos l z) 0 with h' | h'
    · exact h'
    · rw [(h z).1 h'] at hz; cases hz
  intro s
  rw [mget_mput, pos_snoc l z s hz']
  by_cases e : z = s
  · rw [if_pos e, if_pos e, hj]
    exact ⟨fun _ => rfl, fun h => by omega⟩
  · rw [if_neg e, if_neg e]
    exact h s
theorem Once.snoc {l : List ByteArray} {z : ByteArray} (h : Once l) (hz : pos l z < 0) : Once (l ++ [z]) := by
  have hno : ∀ (i : Nat) (s : ByteArray), l[i]? = some s → s ≠ z := by
    rintro i s hi rfl
    have := idx_nonneg (fun x : ByteArray => decide (x = s)) l
    have h3 : l.any (fun x : ByteArray => decide (x = s)) = true := List.any_eq_true.2 ⟨s, List.mem_of_getElem? hi, by simp⟩
    rw [h3] at this
    simp at this
    unfold pos at hz
    omega
  have key : ∀ (i : Nat) (s : ByteArray), (l ++ [z])[i]? = some s → (i < l.length ∧ l[i]? = some s) ∨ (i = l.length ∧ s = z) := by
    intro i s hi
    rcases Nat.lt_or_ge i l.length with h1 | h1
    · rw [List.getElem?_append_left h1] at hi; exact .inl ⟨h1, hi⟩
    · rw [List.getElem?_append_right h1] at hi
      have : i = l.length := by
        rcases Nat.lt_or_ge (i - l.length) 1 with h2 | h2
        · omega
        · rw [List.getElem?_eq_none (by simpa using h2)] at hi; cases hi
      subst this
      simp at hi
      exact .inr ⟨rfl, hi.symm⟩
  intro i j s hi hj
  rcases key i s hi with ⟨a1, a2⟩ | ⟨a1, a2⟩ <;> rcases key j s hj with ⟨b1, b2⟩ | ⟨b1, b2⟩
  · exact h i j s a2 b2
  · exact absurd b2 (hno i s a2)
  · exact absurd a2 (hno j s b2)
  · omega
theorem names_at {names ns l : List ByteArray} {u : Nat} {s : ByteArray} (h : ns = (names.take u).map (ren l) ++ names.drop u) (hu : u < names.length) (hs : names[u]? = some s) : ns[u]? = some s := by
  rw [h, List.getElem?_append_right (by simp; omega), List.getElem?_drop]
  simp only [List.length_map, List.length_take]
  rw [show u + (u - min u names.length) = u by omega]
  exact hs
theorem names_len {names ns l : List ByteArray} {u un : Nat} (h : ns = (names.take u).map (ren l) ++ names.drop u) (hn : un = names.length) : ns.length = un := by
  rw [h, hn]; simp; omega
theorem names_stay {names ns l : List ByteArray} {u : Nat} {s : ByteArray} (h : ns = (names.take u).map (ren l) ++ names.drop u) (hs : names[u]? = some s) (hr : ren l s = s) : ns = (names.take (u + 1)).map (ren l) ++ names.drop (u + 1) := by
  rw [h, take_snoc hs, drop_cons' hs, List.map_append, List.map_singleton, hr]
  simp
theorem names_put {names ns l : List ByteArray} {u : Nat} {s z : ByteArray} (h : ns = (names.take u).map (ren l) ++ names.drop u) (hs : names[u]? = some s) (hr : ren l s = z) : ns.set u z = (names.take (u + 1)).map (ren l) ++ names.drop (u + 1) := by
  have hu := (List.getElem?_eq_some_iff.1 hs).1
  rw [h, take_snoc hs, List.set_append_right _ _ (by simp; omega), drop_cons' hs, List.map_append, List.map_singleton, hr]
  simp only [List.length_map, List.length_take]
  rw [show u - min u names.length = 0 by omega, List.set_cons_zero]
  simp
theorem names_new {names : List ByteArray} {u : Nat} {s : ByteArray} (h : ∀ z ∈ names.take u, hasNew z = false) (hs : names[u]? = some s) (hn : hasNew s = false) : ∀ z ∈ names.take (u + 1), hasNew z = false := by
  intro z hz
  rw [take_snoc hs] at hz
  rcases List.mem_append.1 hz with hz | hz
  · exact h z hz
  · rw [List.mem_singleton.1 hz]; exact hn
theorem own_put {W : World} {B n2 c2 g gb un uc yl v u : Nat} {ys : List It} {nm ov z : ByteArray} {kd wid q0 : Int} {ns : List ByteArray} {y : It} (h : OwnIt W B (.slice (some ⟨g, 0, none⟩) n2 c2) (ys.set v ⟨⟨nm, kd, ns, ov, wid, q0⟩, ⟨some ⟨gb, 0, none⟩, un, uc⟩⟩) yl) (hy : ys[v]? = some y) (hv : v < yl) (hu : u < ns.length) :
    OwnIt (W.setCell ⟨gb, u, none⟩ (.string z)).drew B (.slice (some ⟨g, 0, none⟩) n2 c2) (ys.set v ⟨⟨nm, kd, ns.set u z, ov, wid, q0⟩, ⟨some ⟨gb, 0, none⟩, un, uc⟩⟩) yl := by
  have := OwnIt.str (s := z) (i := u) h (set_at_same hy) hv (n := un) (gb := gb) (cb := uc) rfl hu
  rw [List.set_set] at this
  exact this.below (Ext.drew (Ext.refl _))
theorem own_ov {W W' : World} {B n2 c2 g yl v : Nat} {ys : List It} {nm ov z : ByteArray} {kd wid q0 : Int} {ns : List ByteArray} {y : It} {af : Sl} (h : OwnIt W B (.slice (some ⟨g, 0, none⟩) n2 c2) (ys.set v ⟨⟨nm, kd, ns, ov, wid, q0⟩, af⟩) yl) (hy : ys[v]? = some y)
    (hr : W'.ownsRow B 27 6 (.slice (some ⟨g, 0, none⟩) n2 c2) n2 (((ys.set v ⟨⟨nm, kd, ns, ov, wid, q0⟩, af⟩).set v ⟨⟨nm, kd, ns, z, wid, q0⟩, af⟩).flatMap It.cells)) (hyl : ys.length = yl) (hn : n2 = yl) (hg : W.grownBy W' (some g)) :
    OwnIt W' B (.slice (some ⟨g, 0, none⟩) n2 c2) (ys.set v ⟨⟨nm, kd, ns, z, wid, q0⟩, af⟩) (ys.set v ⟨⟨nm, kd, ns, z, wid, q0⟩, af⟩).length := by
  have := OwnIt.upd h (set_at_same hy) hr (by rw [List.length_set, hyl]; exact hn) hg rfl rfl
  rw [List.set_set] at this
  rw [List.length_set, hyl]
  exact this
theorem lookup_mem {M : List (ByteArray × Int)} {l : List ByteArray} (hM : PosM M l) {s : ByteArray} {t : Int} (h : mget s M = some t) : s ∈ l := by
  rcases Int.lt_or_le (pos l s) 0 with h' | h'
  · rw [(hM s).2 h'] at h; cases h
  · exact List.mem_of_getElem? (pos_mem h')
theorem plain_next {its : List Item} {v : Nat} {x : Item} (h : ∀ y ∈ its.take v, (∀ s ∈ y.names, hasNew s = false) ∧ hasNew y.ov = false) (hx : its[v]? = some x) (h1 : ∀ s ∈ x.names, hasNew s = false) (h2 : hasNew x.ov = false) :
    ∀ y ∈ its.take (v + 1), (∀ s ∈ y.names, hasNew s = false) ∧ hasNew y.ov = false := by
  intro y hy
  rw [take_snoc hx] at hy
  rcases List.mem_append.1 hy with hy | hy
  · exact h y hy
  · rw [List.mem_singleton.1 hy]; exact ⟨h1, h2⟩
theorem split_at {its : List Item} {ys : List It} {l : List ByteArray} {j : Nat} (h : itemOf ys = (its.take j).map (renI l) ++ its.drop j) (hj : j < its.length) {y : It} (hy : ys[j]? = some y) : its[j]? = some y.d := by
  have h1 : (itemOf ys)[j]? = some y.d := by rw [itemOf, List.getElem?_map, hy]; rfl
  rw [h, List.getElem?_append_right (by simp; omega), List.getElem?_drop] at h1
  simp only [List.length_map, List.length_take] at h1
  rw [show j + (j - min j its.length) = j by omega] at h1
  exact h1
theorem split_set {its : List Item} {ys : List It} {l : List ByteArray} {j : Nat} (h : itemOf ys = (its.take j).map (renI l) ++ its.drop j) (hj : j < its.length) {y y' : It} (hy : ys[j]? = some y) (hd : y'.d = renI l y.d) :
    itemOf (ys.set j y') = (its.take (j + 1)).map (renI l) ++ its.drop (j + 1) := by
  have h1 := split_at h hj hy
  have e : itemOf (ys.set j y') = (itemOf ys).set j y'.d := by rw [itemOf, List.map_set]; rfl
  rw [e, h, List.set_append_right _ _ (by simp; omega), take_snoc h1, List.map_append, drop_cons' h1]
  simp only [List.length_map, List.length_take]
  rw [show j - min j its.length = 0 by omega, List.set_cons_zero, hd]
  simp
theorem lookup_nm {M : List (ByteArray × Int)} {l : List ByteArray} (hM : PosM M l) (ho : Once l) {j : Nat} {s : ByteArray} (h : l[j]? = some s) : mget s M = some (j : Int) := by
  have := pos_at ho h
  rw [(hM s).1 (by omega), this]
theorem ren_at {l : List ByteArray} (ho : Once l) {j : Nat} {s : ByteArray} (h : l[j]? = some s) : ren l s = anewB j := by
  unfold ren
  rw [pos_at ho h, if_pos (by omega), Int.toNat_natCast]
theorem lookup_yes {M : List (ByteArray × Int)} {l : List ByteArray} (hM : PosM M l) {s : ByteArray} {t : Int} (h : mget s M = some t) (hl : l.length ≤ 30) : ∃ n : Nat, t = n ∧ n < 30 ∧ ren l s = anewB n := by
  rcases Int.lt_or_le (pos l s) 0 with h' | h'
  · rw [(hM s).2 h'] at h; cases h
  · rw [(hM s).1 h'] at h
    cases h
    have := pos_lt l s
    exact ⟨(pos l s).toNat, by omega, by omega, by unfold ren; rw [if_pos h']⟩
theorem lookup_no {M : List (ByteArray × Int)} {l : List ByteArray} (hM : PosM M l) {s : ByteArray} (h : mget s M = none) : ren l s = s := by
  unfold ren
  rw [if_neg]
  intro h'
  rw [(hM s).1 h'] at h
  cases h
end Go.Proofs.YtfcdohaimdodgaaDoor
