/-
  CheckFits: what a fragment that may be is like, and what else may be then. No program in sight.
-/
import Derived.Test.YtfcdohaimdodgaaDoorWalk20
import Derived.Test.YtfcdohaimdodgaaDoorSpec
namespace Go.Proofs.YtfcdohaimdodgaaDoor
open Go.RowKit
/-- the names that an item means -/
def refsOf (x : Item) : List ByteArray := x.names ++ (if x.k = 1 then [x.ov] else [])
/-- who is meant by a name has it -/
structure Meant (xs : List GN) (i : Int) (items : List Item) (s : ByteArray) : Prop where
  is : lostN xs i items s = false
  item : 0 ≤ (refsN xs i items s).1 → ∃ y, items[(refsN xs i items s).1.toNat]? = some y ∧ y.nm = s
  node : (refsN xs i items s).1 < 0 → 0 ≤ (refsN xs i items s).2 ∧ ∃ y, xs[(refsN xs i items s).2.toNat]? = some y ∧ y.nm = s
structure Fine (c : Cfg) (xs : List GN) (i q : Int) (items : List Item) : Prop where
  right : rightB items = true
  width : (items.length : Int) ≤ c.width
  wd : ∀ x ∈ items, x.k = 1 → x.wd ≤ c.width ∧ deepN xs i + 2 ≤ c.depth
  deep : 0 < items.length → deepN xs i + 1 ≤ c.depth
  once : ∀ (j : Nat) (x : Item), items[j]? = some x → ∀ y ∈ items.take j, y.nm ≠ x.nm
  refs : ∀ x ∈ items, ∀ s ∈ refsOf x, Meant xs i items s
  total : totalZ items ≤ q
  over : overN xs i items = false
  wide : wideN c items = false
  twice : twiceN items = false
  deepb : deepB c xs i items = false
  refers : refersN xs i items = false
theorem idx_spec {α : Type} (p : α → Bool) : ∀ (l : List α), 0 ≤ idx p l → ∃ y, l[(idx p l).toNat]? = some y ∧ p y = true := by
  intro l
  induction l with
  | nil => intro h; simp [idx] at h
  | cons x r ih =>
    intro h
    unfold idx at h ⊢
    dsimp only at h ⊢
    cases hx : p x
    · rw [hx] at h
      simp only [Bool.false_eq_true, if_false] at h ⊢
      split at h
      · omega
      · rename_i h0
        rw [if_neg h0]
        obtain ⟨y, hy, hp⟩ := ih (by omega)
        refine ⟨y, ?_, hp⟩
        rw [show (idx p r + 1).toNat = (idx p r).toNat + 1 by omega, List.getElem?_cons_succ]
        exact hy
    · exact ⟨x, by simp, hx⟩
theorem firstOf_nm {xs : List GN} {fl ow : Int} {nm : ByteArray} {k : Nat} (h : firstOf xs fl ow nm = some k) : ∃ y, xs[k]? = some y ∧ y.nm = nm := by
  unfold firstOf at h
  split at h
  · cases h
  · obtain ⟨h1, h2, -⟩ := List.findIdx?_eq_some_iff_getElem.1 h
    refine ⟨xs[k], List.getElem?_eq_getElem h1, ?_⟩
    simp only [Bool.and_eq_true, decide_eq_true_eq] at h2
    exact h2.2
theorem seenL_nm {xs : List GN} {fl : Int} {nm : ByteArray} : ∀ (l : List Int), 0 ≤ seenL xs fl nm l → ∃ y, xs[(seenL xs fl nm l).toNat]? = some y ∧ y.nm = nm := by
  intro l
  induction l with
  | nil => intro h; simp [seenL] at h
  | cons o r ih =>
    intro h
    unfold seenL at h ⊢
    cases hf : firstOf xs fl o nm with
    | none =>
      rw [hf] at h
      exact ih h
    | some k =>
      obtain ⟨y, hy, hn⟩ := firstOf_nm hf
      exact ⟨y, by simpa using hy, hn⟩
theorem seenN_nm {xs : List GN} {i : Int} {nm : ByteArray} (h : 0 ≤ seenN xs i nm) : ∃ y, xs[(seenN xs i nm).toNat]? = some y ∧ y.nm = nm := by
  unfold seenN at h ⊢
  split at h
  · split at h
    · rename_i h0 _ x hx
      rw [if_pos h0]
      exact seenL_nm _ h
    · omega
  · omega
theorem meant_of {xs : List GN} {i : Int} {items : List Item} {s : ByteArray} (h : lostN xs i items s = false) : Meant xs i items s := by
  have key : (0 ≤ (refsN xs i items s).1 ∨ 0 ≤ (refsN xs i items s).2) := by
    unfold lostN at h
    simp only [Bool.and_eq_false_iff, decide_eq_false_iff_not] at h
    omega
  refine ⟨h, fun h0 => ?_, fun h0 => ?_⟩
  · unfold refsN at h0 ⊢
    split at h0
    · rename_i hh
      rw [if_pos hh]
      obtain ⟨y, hy, hp⟩ := idx_spec _ items hh.1
      exact ⟨y, hy, by simpa using hp⟩
    · split at h0 <;> (dsimp only at h0; omega)
  · have h1 : 0 ≤ (refsN xs i items s).2 := by omega
    refine ⟨h1, ?_⟩
    unfold refsN at h1 ⊢
    split at h1
    · dsimp only at h1; omega
    · rename_i hh
      rw [if_neg hh]
      split at h1
      · rename_i h2
        rw [if_pos h2]
        exact seenN_nm h2.2
      · dsimp only at h1; omega
theorem twiceF_no : ∀ (l : List Item) (seen : List ByteArray), twiceF seen l = false → ∀ (j : Nat) (x : Item), l[j]? = some x → x.nm ∉ seen ∧ ∀ y ∈ l.take j, y.nm ≠ x.nm := by
  intro l
  induction l with
  | nil => intro seen _ j x h; simp at h
  | cons z r ih =>
    intro seen h j x hj
    unfold twiceF at h
    rw [Bool.or_eq_false_iff] at h
    cases j with
    | zero =>
      simp only [List.getElem?_cons_zero, Option.some.injEq] at hj
      subst hj
      refine ⟨fun hm => ?_, fun y hy => by simp at hy⟩
      have := h.1
      simp only [List.any_eq_false, decide_eq_true_eq] at this
      exact this _ hm rfl
    | succ j =>
      obtain ⟨h1, h2⟩ := ih _ h.2 j x hj
      rw [List.mem_cons, not_or] at h1
      refine ⟨h1.2, fun y hy => ?_⟩
      rw [List.take_succ_cons] at hy
      rcases List.mem_cons.1 hy with rfl | hy
      · exact fun e => h1.1 e.symm
      · exact h2 y hy
theorem fine_of {c : Cfg} {xs : List GN} {i q : Int} {items : List Item} (h : fragE c xs i q items = 0) : Fine c xs i q items := by
  unfold fragE at h
  split at h
  · exact absurd h (by decide)
  rename_i h1
  split at h
  · exact absurd h (by decide)
  rename_i h2
  split at h
  · exact absurd h (by decide)
  rename_i h3
  split at h
  · exact absurd h (by decide)
  rename_i h4
  split at h
  · exact absurd h (by decide)
  rename_i h5
  split at h
  · exact absurd h (by decide)
  rename_i h6
  split at h
  · exact absurd h (by decide)
  rename_i h7
  rw [Bool.not_eq_true] at h2 h3 h4 h5 h7
  rw [Bool.not_eq_false] at h1
  have h2' := h2
  have h4' := h4
  have h5' := h5
  unfold wideN at h2'
  unfold deepB at h4'
  unfold refersN at h5'
  simp only [Bool.or_eq_false_iff, Bool.and_eq_false_iff, decide_eq_false_iff_not, List.any_eq_false, Bool.and_eq_true, decide_eq_true_eq, Bool.or_eq_true, not_and, not_or] at h2' h4' h5'
  have hmap : ∀ x : Item, x.k = 1 → isMapN x = true := fun x hx => by simp [isMapN, hx]
  refine ⟨h1, by omega, fun x hx hk => ⟨by have := h2'.2 x hx (hmap x hk); omega, ?_⟩, fun hl => by omega, fun j x hj => (twiceF_no items [] h3 j x hj).2, fun x hx s hs => ?_, by omega, h7, h2, h3, h4, h5⟩
  · rcases h4'.2 with h | h
    · exact absurd (hmap x hk) (h x hx)
    · omega
  · refine meant_of ?_
    obtain ⟨g1, g2⟩ := h5' x hx
    unfold refsOf at hs
    rcases List.mem_append.1 hs with hs | hs
    · have := List.any_eq_false.1 (Bool.not_eq_true _ ▸ g1) s hs
      simpa using this
    · split at hs
      · rename_i hk
        rw [List.mem_singleton.1 hs]
        have := g2 (hmap x hk)
        simpa using this
      · simp at hs
theorem Fine.mk_ok {c c' : Cfg} {xs : List GN} {i q q' : Int} {items : List Item} (h : Fine c xs i q items) (hw : c.width ≤ c'.width) (hd : c.depth ≤ c'.depth) (hq : totalZ items ≤ q') : fragE c' xs i q' items = 0 := by
  have h2 : wideN c' items = false := by
    have h2 := h.wide
    unfold wideN at h2 ⊢
    simp only [Bool.or_eq_false_iff, decide_eq_false_iff_not, List.any_eq_false, Bool.and_eq_true, decide_eq_true_eq, not_and] at h2 ⊢
    exact ⟨by omega, fun x hx hm => by have := h2.2 x hx hm; omega⟩
  have h4 : deepB c' xs i items = false := by
    have h4 := h.deepb
    unfold deepB at h4 ⊢
    simp only [Bool.or_eq_false_iff, Bool.and_eq_false_iff, decide_eq_false_iff_not, List.any_eq_false] at h4 ⊢
    refine ⟨by omega, ?_⟩
    rcases h4.2 with h' | h'
    · exact .inl h'
    · exact .inr (by omega)
  unfold fragE
  rw [if_neg (by rw [h.right]; decide), h2, h.twice, h4, h.refers, h.over, if_neg (by decide), if_neg (by decide), if_neg (by decide), if_neg (by decide), if_neg (by omega), if_neg (by decide)]
theorem Fine.less {c : Cfg} {xs : List GN} {i q : Int} {items : List Item} (h : Fine c xs i q items) : fragE c xs i (totalZ items - 1) items = 22 := by
  unfold fragE
  rw [if_neg (by rw [h.right]; decide), h.wide, h.twice, h.deepb, h.refers, if_neg (by decide), if_neg (by decide), if_neg (by decide), if_neg (by decide), if_pos (by omega)]
end Go.Proofs.YtfcdohaimdodgaaDoor
