/-
  strings.HasPrefix at 'new_', anewed, slices.Clone of strings and items.
-/
import Derived.Test.YtfcdohaimdodgaaDoorWalk20
import Derived.Test.YtfcdohaimdodgaaDoorCosts
import Derived.Test.YtfcdohaimdodgaaDoorStore
import Derived.WalkSpells
namespace Go.Proofs.YtfcdohaimdodgaaDoor
open Go.RowKit Go.Shelf
set_option linter.unusedVariables false
/-- the bytes of 'new_' -/
def newB : ByteArray := ⟨#[110, 101, 119, 95]⟩
def hasNew (s : ByteArray) : Bool := decide (4 ≤ s.size) && decide (s.data.toList.take 4 = [110, 101, 119, 95])
theorem take4 (s : ByteArray) : (s.extract 0 4).toList = s.data.toList.take 4 := by
  rw [ba_list]
  simp [ByteArray.data_extract, Array.toList_extract, List.extract]
theorem slHas_any (s : ByteArray) (w : World) : Calls Tryd.prog 44 #[.string s, .string ⟨#[110, 101, 119, 95]⟩] w fun e w' => e = .returned (.bool (hasNew s)) ∧ w = w' := by
  by_cases h : 4 ≤ s.size
  · have h4 : (4 : Int) ≤ (s.size : Int) := by omega
    go_enter Tryd.func44, Tryd.ntmps44
    go_wp2
    go_ret
    refine ⟨ret_bool ?_, rfl⟩
    unfold hasNew
    rw [decide_eq_true h, Bool.true_and, take4, Bool.eq_iff_iff]
    simp
  · have h4 : ¬ (4 : Int) ≤ (s.size : Int) := by omega
    go_enter Tryd.func44, Tryd.ntmps44
    go_wp2
    go_ret
    refine ⟨ret_bool ?_, rfl⟩
    unfold hasNew
    rw [decide_eq_false h, Bool.false_and]
theorem hasNew_any (s : ByteArray) (w : World) : Calls Tryd.prog 22 #[.string s, .string ⟨#[110, 101, 119, 95]⟩] w fun e w' => e = .returned (.bool (hasNew s)) ∧ w = w' := by
  have H := hide (slHas_any s w)
  generalize hasNew s = b at *
  go_enter Tryd.func22, Tryd.ntmps22
  go_wp2_with (go_at_call 44; refine H.out.mono ?_; rintro e w' ⟨rfl, rfl⟩)
  go_ret
  exact ⟨rfl, rfl⟩
def anewB (i : Nat) : ByteArray := ⟨#[110, 101, 119, 95, UInt8.ofNat (97 + i % 26), UInt8.ofNat (97 + i / 26)]⟩
set_option maxRecDepth 8000 in
set_option maxHeartbeats 4000000 in
theorem anewed_any (i : Nat) (h : i < 30) (w : World) : Calls Tryd.prog 24 #[.int .i64 i] w fun e w' => e = .returned (.string (anewB i)) ∧ w = w' := by
  have hc : i = 0 ∨ i = 1 ∨ i = 2 ∨ i = 3 ∨ i = 4 ∨ i = 5 ∨ i = 6 ∨ i = 7 ∨ i = 8 ∨ i = 9 ∨ i = 10 ∨ i = 11 ∨ i = 12 ∨ i = 13 ∨ i = 14 ∨ i = 15 ∨ i = 16 ∨ i = 17 ∨ i = 18 ∨ i = 19 ∨ i = 20 ∨ i = 21 ∨ i = 22 ∨ i = 23 ∨ i = 24 ∨ i = 25 ∨ i = 26 ∨ i = 27 ∨ i = 28 ∨ i = 29 := by omega
  rcases hc with rfl | rfl | rfl | rfl | rfl | rfl | rfl | rfl | rfl | rfl | rfl | rfl | rfl | rfl | rfl | rfl | rfl | rfl | rfl | rfl | rfl | rfl | rfl | rfl | rfl | rfl | rfl | rfl | rfl | rfl
  all_goals
    clear h
    go_enter Tryd.func24, Tryd.ntmps24
    go_wp2
    go_ret
    exact ⟨rfl, rfl⟩
theorem strCells_one' (x : ByteArray) : ∀ u ∈ strCells x, u.oneCell' = true := by simp [strCells, Value.oneCell']
theorem infoStr' : (Tryd.prog.info? 9).map (fun i => (i.zero, i.size, i.bytes)) = some (some (.string ⟨#[]⟩), 1, 16) := by kernel_rfl
theorem nil_len {α : Type} {sz : Nat} {cells : α → List Value} {w : World} {n c : Nat} {xs : List α} (h : RowsAt sz cells w ⟨none, n, c⟩ xs) : n = 0 ∧ xs = [] := by
  have hl := h.len
  dsimp only at hl
  cases xs with
  | nil => exact ⟨by simpa using hl, rfl⟩
  | cons x r =>
    obtain ⟨b, o, hp, -⟩ := h.at_ 0 x rfl
    cases hp
set_option maxHeartbeats 1000000 in
theorem cloneStr_any (sp : Option Addr) (sn sc : Nat) (xs : List ByteArray) (w : World) (hs : RowsAt 1 strCells w ⟨sp, sn, sc⟩ xs) (hl : sn ≤ 1000) :
    Calls Tryd.prog 46 #[.slice sp sn sc] w fun e w' => ∃ v, e = .returned v ∧ w'.ownsRow w.heap.size 9 1 v sn (xs.flatMap strCells) ∧ Ext w w' := by
  have hnil := fun (w : World) => Lib.run_eql_slice_nil (P := Tryd.prog) w 25 9 sp sn sc 0 0 Tryd.underlying25
  obtain ⟨iS, hiS, hS0, hS1, hS2⟩ := info_parts infoStr'
  cases sp with
  | none =>
    obtain ⟨h1, h2⟩ := nil_len hs
    subst h1 h2
    clear hs
    go_enter Tryd.func46, Tryd.ntmps46
    go_wp2
    go_ret
    exact ⟨_, rfl, World.ownsRow_nil w _ _ _, Ext.refl _⟩
  | some a =>
    have HS := hide hs
    clear hs
    go_enter Tryd.func46, Tryd.ntmps46
    go_wp2_with (at_builtin; refine wpList_append_rows (cells := strCells) rfl _ _ 25 rfl w.heap.size 9 iS (.string ⟨#[]⟩) 1 16 Tryd.underlying25 hiS hS0 hS1 hS2 rfl (by decide) _ _ _ rfl (owns_empty w 9 1) (some a) sn sc xs rfl (HS.out.below (Ext.alloc (Ext.refl _) _)) strCells_len strCells_one' (by unfold maxLen; omega) (by omega) (by simp) ?_; intro v6 w6 ho6 hg6 _; simp only [Nat.zero_add, List.nil_append] at ho6; have HO6 := hide ho6; have he6 : Ext w w6 := ext_grown (Ext.alloc (Ext.refl _) _) (owns_empty w 9 1) (Nat.le_refl _) hg6; clear ho6 hg6)
    go_ret
    exact ⟨_, rfl, HO6.out, he6⟩
set_option maxHeartbeats 1000000 in
theorem cloneIt_any (sp : Option Addr) (sn sc : Nat) (xs : List It) (w : World) (hs : RowsAt 6 It.cells w ⟨sp, sn, sc⟩ xs) (hl : sn ≤ 1000) :
    Calls Tryd.prog 45 #[.slice sp sn sc] w fun e w' => ∃ v, e = .returned v ∧ w'.ownsRow w.heap.size 27 6 v sn (xs.flatMap It.cells) ∧ Ext w w' := by
  have hnil := fun (w : World) => Lib.run_eql_slice_nil (P := Tryd.prog) w 22 27 sp sn sc 0 0 Tryd.underlying22
  obtain ⟨iS, hiS, hS0, hS1, hS2⟩ := info_parts infoItem
  cases sp with
  | none =>
    obtain ⟨h1, h2⟩ := nil_len hs
    subst h1 h2
    clear hs
    go_enter Tryd.func45, Tryd.ntmps45
    go_wp2
    go_ret
    exact ⟨_, rfl, World.ownsRow_nil w _ _ _, Ext.refl _⟩
  | some a =>
    have HS := hide hs
    clear hs
    go_enter Tryd.func45, Tryd.ntmps45
    go_wp2_with (at_builtin; refine wpList_append_rows (cells := It.cells) rfl _ _ 22 rfl w.heap.size 27 iS zItem 6 80 Tryd.underlying22 hiS hS0 hS1 hS2 zItem_cells (by decide) _ _ _ rfl (owns_empty w 27 6) (some a) sn sc xs rfl (HS.out.below (Ext.alloc (Ext.refl _) _)) It.cells_len It.one (by unfold maxLen; omega) (by omega) (by simp) ?_; intro v6 w6 ho6 hg6 _; simp only [Nat.zero_add, List.nil_append] at ho6; have HO6 := hide ho6; have he6 : Ext w w6 := ext_grown (Ext.alloc (Ext.refl _) _) (owns_empty w 27 6) (Nat.le_refl _) hg6; clear ho6 hg6)
    go_ret
    exact ⟨_, rfl, HO6.out, he6⟩
theorem own_strs' {W : World} {base : Nat} {v : Value} {n : Nat} {l : List ByteArray} (hn : n = l.length) (h : W.ownsRow base 9 1 v n (l.flatMap strCells)) :
    ∃ (lp : Option Addr) (ln lc : Nat), v = .slice lp ln lc ∧ Hid (ln = l.length) ∧ Hid (RowsAt 1 strCells W ⟨lp, ln, lc⟩ l) ∧ ln ≤ 9223372036854775807 ∧ Hid (∀ b o, lp = some ⟨b, o, none⟩ → base ≤ b) := by
  subst hn
  obtain ⟨⟨lp, ln, lc⟩, h1, h2, h3⟩ := RowsAt.of_owns strCells_len h
  exact ⟨lp, ln, lc, h1, hide h2.len, hide h2, Nat.le_trans h2.cap h2.big, hide h3⟩
/-! ### a store into a row of the call's own, over any kind of element -/
section
variable {α : Type} {cells : α → List Value} {sz : Nat}
theorem flatG_at (hl : ∀ x, (cells x).length = sz) {v : Value} {j : Nat} : ∀ {ys : List α} {k : Nat} {x : α}, ys[k]? = some x → (cells x)[j]? = some v → (ys.flatMap cells)[k * sz + j]? = some v := by
  intro ys
  induction ys with
  | nil => intro k x hx; simp at hx
  | cons y r ih =>
    intro k x hx hv
    have hj : j < sz := by
      rcases Nat.lt_or_ge j sz with h | h
      · exact h
      · rw [List.getElem?_eq_none (by rw [hl]; exact h)] at hv; cases hv
    cases k with
    | zero =>
      simp only [List.getElem?_cons_zero, Option.some.injEq] at hx
      subst hx
      rw [List.flatMap_cons, Nat.zero_mul, Nat.zero_add, List.getElem?_append_left (by rw [hl]; exact hj)]
      exact hv
    | succ k =>
      rw [List.flatMap_cons, List.getElem?_append_right (by rw [hl, Nat.succ_mul]; omega), hl]
      rw [show (k + 1) * sz + j - sz = k * sz + j by rw [Nat.succ_mul]; omega]
      exact ih (by simpa using hx) hv
theorem flatG_set (hl : ∀ x, (cells x).length = sz) {u : Value} {j : Nat} (hj : j < sz) {x x' : α} (hc : (cells x).set j u = cells x') : ∀ {ys : List α} {k : Nat}, ys[k]? = some x → (ys.flatMap cells).set (k * sz + j) u = (ys.set k x').flatMap cells := by
  intro ys
  induction ys with
  | nil => intro k hx; simp at hx
  | cons y r ih =>
    intro k hx
    cases k with
    | zero =>
      simp only [List.getElem?_cons_zero, Option.some.injEq] at hx
      subst hx
      rw [List.flatMap_cons, Nat.zero_mul, Nat.zero_add, List.set_append_left _ _ (by rw [hl]; exact hj), hc]
      simp
    | succ k =>
      rw [List.flatMap_cons, List.set_append_right _ _ (by rw [hl, Nat.succ_mul]; omega), hl]
      rw [show (k + 1) * sz + j - sz = k * sz + j by rw [Nat.succ_mul]; omega, ih (by simpa using hx)]
      simp
theorem ownG_store (hl : ∀ x, (cells x).length = sz) {W : World} {base g n cap : Nat} {e : TypeId} {ys : List α} {k j : Nat} {x x' : α} {u : Value} (ho : W.ownsRow base e sz (.slice (some ⟨g, 0, none⟩) n cap) n (ys.flatMap cells)) (hx : ys[k]? = some x) (hj : j < sz) (hc : (cells x).set j u = cells x') :
    (W.setCell ⟨g, k * sz + j, none⟩ u).ownsRow base e sz (.slice (some ⟨g, 0, none⟩) n cap) n ((ys.set k x').flatMap cells) := by
  have := (ho.stored (k * sz + j) u).1
  rw [flatG_set hl hj hc hx] at this
  exact this
theorem wpList_storeG (hl : ∀ x, (cells x).length = sz) {P : Program} {W : World} {ops : Array Oper} {rest : List Oper} {o : Oper} {a : Act} {Q : Exit → Act → World → Prop} (hgd : o.guard = none) (ty : TypeId) (x y : Operand) (ho : o.op = .store ty x y)
    (hi : (P.info? ty).map (·.size) = some 1) (g k j : Nat) (u : Value) (e : TypeId) (hx : a.eval x = .pointer (some ⟨g, k * sz + j, none⟩)) (hy : a.eval y = u) (h1 : u.oneCell' = true) {base n cap : Nat} {ys : List α} {nd nd' : α}
    (hown : W.ownsRow base e sz (.slice (some ⟨g, 0, none⟩) n cap) n (ys.flatMap cells)) (hk : k * sz + j < n * sz) (hnd : ys[k]? = some nd) (hj : j < sz) (hc : (cells nd).set j u = cells nd')
    (h : ∀ W', W'.ownsRow base e sz (.slice (some ⟨g, 0, none⟩) n cap) n ((ys.set k nd').flatMap cells) → W.grownBy W' (some g) → wpList P ops Q rest (a.put o.dst undef) W') : wpList P ops Q (o :: rest) a W := by
  refine wpList_plain hgd fun K hK => ?_
  have hl' := hl nd
  have hcell : W.cell? ⟨g, k * sz + j, none⟩ = some ((cells nd)[j]'(by omega)) := (hown.cellAt _ hk).trans (flatG_at hl hnd (List.getElem?_eq_getElem _))
  have hr := run_storeVar_own (P := P) hcell (hown.frozenAt _) hi h1
  unfold Oper.wp execOp
  simp only [ho, hx, hy, Instr.storeAt, Instr.sureAddr, Sem.run_bind, Sem.run_pure, Result.andThen_ok, hr]
  exact hK _ _ (h _ (ownG_store hl hown hnd hj hc) (hown.stored _ _).2)
end
end Go.Proofs.YtfcdohaimdodgaaDoor
