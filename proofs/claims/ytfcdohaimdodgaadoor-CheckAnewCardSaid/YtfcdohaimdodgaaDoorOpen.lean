/-
  What an argument that came in reads as: slices of items, of nodes, of strings.
-/
import Derived.Test.YtfcdohaimdodgaaDoorNode
import Derived.Deep.Slices
import Derived.OpenShut
import Derived.ChangeShapes
namespace Go.Proofs.YtfcdohaimdodgaaDoor
open Go.ChangeShapes Go.WideShapes Go.RowKit
set_option linter.unusedVariables false

section
variable {H : Type} {enc : TypeId × Value → H} {P : Program} {w : World} {base : Nat} {spare : Nat → Bool} {held : Bool}
theorem list_of {α : Type} {p : Nat → α → Prop} : ∀ (n : Nat), (∀ i, i < n → ∃ x, p i x) → ∃ xs : List α, xs.length = n ∧ ∀ (i : Nat) (x : α), xs[i]? = some x → p i x := by
  intro n
  induction n with
  | zero => intro _; exact ⟨[], rfl, fun i x h => by simp at h⟩
  | succ n ih =>
    intro h
    obtain ⟨xs, hl, hx⟩ := ih fun i hi => h i (by omega)
    obtain ⟨y, hy⟩ := h n (by omega)
    refine ⟨xs ++ [y], by simp [hl], fun i x hi => ?_⟩
    rcases Nat.lt_or_ge i n with h' | h'
    · rw [List.getElem?_append_left (by omega)] at hi
      exact hx i x hi
    · rw [List.getElem?_append_right (by omega)] at hi
      have : i = n := by
        rcases Nat.lt_or_ge (i - xs.length) 1 with h2 | h2
        · omega
        · rw [List.getElem?_eq_none (by simpa using h2)] at hi; cases hi
      subst this
      simp [hl] at hi
      subst hi
      exact hy
theorem cell_add {a : Addr} {k : Nat} {v : Value} (h : w.cell? (a.add k) = some v) : w.cell? ⟨a.block, a.off + k, none⟩ = some v := by
  unfold Addr.add at h
  split at h
  · rename_i h0
    subst h0
    have hs : a.spot = none := by
      unfold World.cell? at h
      split at h
      · split at h
        · cases h
        · rename_i hs; simpa using hs
      · cases h
    cases a
    simp only at hs
    subst hs
    exact h
  · exact h
theorem spot_of {a : Addr} {v : Value} (h : w.cell? a = some v) : a.spot = none := by
  unfold World.cell? at h
  split at h
  · split at h
    · cases h
    · rename_i hs; simpa using hs
  · cases h
theorem rows_of_trod {α : Type} {cells : α → List Value} {E : α → Prop} {t e : TypeId} {sz : Nat} (ht : P.underlying t = some (.slice e)) (hc : P.cellsOf e = sz) (hpos : 0 < sz)
    (each : ∀ n cs y, DataW.trod enc P w base spare held n e cs = some y → ∃ x : α, cs = cells x ∧ E x) {fuel : Nat} {cs : List Value} {y : DataW H × List MemPlace} (h : DataW.trod enc P w base spare held fuel t cs = some y) :
    ∃ (s : Sl) (xs : List α), cs = [.slice s.p s.n s.c] ∧ RowsAt sz cells w s xs ∧ ∀ x ∈ xs, E x := by
  rcases Deep.open_slice ht h with ⟨rfl, rfl⟩ | ⟨a, len, cap, m, n, D, Pl, rfl, hb, hl, hm, hmm, rfl, hx⟩
  · exact ⟨⟨none, 0, 0⟩, [], rfl, RowsAt.nil _ _ _, fun x hx => by simp at hx⟩
  · have hlm : len ≤ m := by rw [hmm]; split <;> omega
    obtain ⟨xs, hxl, hxs⟩ := list_of (p := fun i x => E x ∧ (cells x).length = sz ∧ ∀ j v, (cells x)[j]? = some v → w.cell? (a.add (i * sz + j)) = some v) len (by
      intro i hi
      obtain ⟨cs', h1, h2⟩ := hx i (by omega)
      rw [hc] at h1
      obtain ⟨_, hlen, hcell⟩ := World.cells?_some h1
      obtain ⟨x, rfl, hE⟩ := each _ _ _ h2
      refine ⟨x, hE, hlen, fun j v hv => ?_⟩
      have hj : j < sz := by
        rcases Nat.lt_or_ge j (cells x).length with h | h
        · omega
        · rw [List.getElem?_eq_none h] at hv; cases hv
      have := hcell j hj
      rw [Deep.add_add] at this
      rw [this, hv])
    refine ⟨⟨some a, len, cap⟩, xs, rfl, ⟨hxl.symm, hl, by simpa [maxLen] using hm, fun k x hk => ?_⟩, fun x hx => ?_⟩
    · have h0 : ∃ x0, xs[0]? = some x0 := by
        cases xs with
        | nil => simp at hk
        | cons x0 r => exact ⟨x0, rfl⟩
      obtain ⟨x0, h0⟩ := h0
      obtain ⟨_, hl0, hc0⟩ := hxs 0 x0 h0
      obtain ⟨v0, hv0⟩ : ∃ v0, (cells x0)[0]? = some v0 := ⟨_, List.getElem?_eq_getElem (by omega)⟩
      have hcell := hc0 0 v0 hv0
      have hsp : a.spot = none := by
        have := spot_of hcell
        simpa [Addr.add] using this
      cases a with
      | mk b o s =>
        simp only at hsp
        subst hsp
        refine ⟨b, o, rfl, ?_, fun j v hv => ?_⟩
        · have := cell_add hcell
          exact lt_of_cell this
        · have := cell_add ((hxs k x hk).2.2 j v hv)
          rw [Nat.add_assoc]
          exact this
    · obtain ⟨i, hi⟩ := List.getElem?_of_mem hx
      exact (hxs i x hi).1
end
section
variable {H : Type} {enc : TypeId × Value → H} {w : World} {base : Nat} {spare : Nat → Bool} {held : Bool}
theorem cStr : Tryd.prog.cellsOf 9 = 1 := by kernel_rfl
theorem cU8 : Tryd.prog.cellsOf 5 = 1 := by kernel_rfl
theorem cInt : Tryd.prog.cellsOf 3 = 1 := by kernel_rfl
theorem cStrs : Tryd.prog.cellsOf 25 = 1 := by kernel_rfl
theorem cItem : Tryd.prog.cellsOf 27 = 6 := by kernel_rfl
theorem open_strs {fuel : Nat} {cs : List Value} {y : DataW H × List MemPlace} (h : DataW.trod enc Tryd.prog w base spare held fuel 25 cs = some y) :
    ∃ (s : Sl) (xs : List ByteArray), cs = [.slice s.p s.n s.c] ∧ RowsAt 1 strCells w s xs := by
  obtain ⟨s, xs, h1, h2, _⟩ := rows_of_trod (cells := strCells) (E := fun _ => True) Tryd.underlying25 cStr (by omega) (fun n cs y hy => by
    obtain ⟨s, rfl, _⟩ := DataW.trod_string Tryd.underlying9 hy
    exact ⟨s, rfl, trivial⟩) h
  exact ⟨s, xs, h1, h2⟩
theorem len6 {α : Type} {l : List α} (h : l.length = 6) : ∃ a b c d e f, l = [a, b, c, d, e, f] := by
  match l, h with
  | [a, b, c, d, e, f], _ => exact ⟨a, b, c, d, e, f, rfl⟩
/-- what field number i of a struct reads, its type and offset known -/
theorem field_at {fs : Array Field} {cs : List Value} {xs : List (DataW H × List MemPlace)} {n : Nat}
    (hf : ∀ (i : Nat) (f : Field), fs[i]? = some f → DataW.trod enc Tryd.prog w base spare held n f.type ((cs.drop f.offset).take (Tryd.prog.cellsOf f.type)) = xs[i]?) (hl : xs.length = fs.size)
    (i : Nat) {t : TypeId} {o : Nat} {v : Value} (h : (fs[i]?).map (fun f => (f.type, f.offset)) = some (t, o)) (hc : Tryd.prog.cellsOf t = 1) (hv : cs[o]? = some v) : ∃ y, DataW.trod enc Tryd.prog w base spare held n t [v] = some y := by
  obtain ⟨f, hfi, hp⟩ := Option.map_eq_some_iff.1 h
  obtain ⟨rfl, rfl⟩ := Prod.mk.inj hp
  have := hf i f hfi
  rw [hc] at this
  have hi : i < xs.length := by rw [hl]; exact (Array.getElem?_eq_some_iff.1 hfi).1
  rw [List.getElem?_eq_getElem hi] at this
  have e : List.take 1 (List.drop f.offset cs) = [v] := by
    obtain ⟨ho, hv⟩ := List.getElem?_eq_some_iff.1 hv
    rw [List.drop_eq_getElem_cons ho, hv]
    rfl
  rw [e] at this
  exact ⟨_, this⟩
noncomputable def itemFields : Array Field := (match Tryd.prog.underlying 27 with | some (.struct fs) => fs | _ => #[])
theorem itemUnder : Tryd.prog.underlying 27 = some (.struct itemFields) := by kernel_rfl
theorem open_item {fuel : Nat} {cs : List Value} {y : DataW H × List MemPlace} (h : DataW.trod enc Tryd.prog w base spare held fuel 27 cs = some y) : ∃ x : It, cs = x.cells ∧ x.ok w := by
  have hh := DataW.trod_struct (fs := itemFields) itemUnder h
  obtain ⟨xs, n, _, _, hl, hn, hf⟩ := hh
  rw [cItem] at hl
  obtain ⟨v0, v1, v2, v3, v4, v5, rfl⟩ := len6 hl
  clear h hl
  obtain ⟨y0, g0⟩ := field_at hf hn 0 (t := 9) (o := 0) (v := v0) (by decide +kernel) cStr rfl
  obtain ⟨y1, g1⟩ := field_at hf hn 1 (t := 5) (o := 1) (v := v1) (by decide +kernel) cU8 rfl
  obtain ⟨y2, g2⟩ := field_at hf hn 2 (t := 25) (o := 2) (v := v2) (by decide +kernel) cStrs rfl
  obtain ⟨y3, g3⟩ := field_at hf hn 3 (t := 9) (o := 3) (v := v3) (by decide +kernel) cStr rfl
  obtain ⟨y4, g4⟩ := field_at hf hn 4 (t := 3) (o := 4) (v := v4) (by decide +kernel) cInt rfl
  obtain ⟨y5, g5⟩ := field_at hf hn 5 (t := 3) (o := 5) (v := v5) (by decide +kernel) cInt rfl
  clear hf
  obtain ⟨nm, e0, _⟩ := DataW.trod_string Tryd.underlying9 g0
  obtain ⟨kd, e1, _⟩ := DataW.trod_int Tryd.underlying5 g1
  obtain ⟨s2, names, e2, hr⟩ := open_strs g2
  obtain ⟨ov, e3, _⟩ := DataW.trod_string Tryd.underlying9 g3
  obtain ⟨wd, e4, _⟩ := DataW.trod_int Tryd.underlying3 g4
  obtain ⟨q, e5, _⟩ := DataW.trod_int Tryd.underlying3 g5
  cases e0; cases e1; cases e2; cases e3; cases e4; cases e5
  exact ⟨⟨⟨nm, kd, names, ov, wd, q⟩, s2⟩, rfl, hr⟩
theorem open_items {fuel : Nat} {cs : List Value} {y : DataW H × List MemPlace} (h : DataW.trod enc Tryd.prog w base spare held fuel 22 cs = some y) :
    ∃ (s : Sl) (xs : List It), cs = [.slice s.p s.n s.c] ∧ ItemsAt w s xs := by
  obtain ⟨s, xs, h1, h2, h3⟩ := rows_of_trod (cells := It.cells) (E := fun x => x.ok w) Tryd.underlying22 cItem (by omega) (fun n cs y hy => open_item hy) h
  exact ⟨s, xs, h1, h2, h3⟩
theorem open_ints {fuel : Nat} {cs : List Value} {y : DataW H × List MemPlace} (h : DataW.trod enc Tryd.prog w base spare held fuel 33 cs = some y) :
    ∃ (s : Sl) (xs : List Int), cs = [.slice s.p s.n s.c] ∧ RowsAt 1 intCells w s xs ∧ ∀ x ∈ xs, (Lit.int .i64 x).wf = true := by
  obtain ⟨s, xs, h1, h2, h3⟩ := rows_of_trod (cells := intCells) (E := fun x => (Lit.int .i64 x).wf = true) Tryd.underlying33 cInt (by omega) (fun n cs y hy => by
    obtain ⟨s, rfl, _, hw⟩ := DataW.trod_int Tryd.underlying3 hy
    exact ⟨s, rfl, hw⟩) h
  exact ⟨s, xs, h1, h2, h3⟩
end
end Go.Proofs.YtfcdohaimdodgaaDoor
