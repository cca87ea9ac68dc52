/-
  CheckAnew: items named anew are checked alike. No program in sight.
-/
import Derived.Test.YtfcdohaimdodgaaDoorPre
import Derived.Test.YtfcdohaimdodgaaDoorFitsP
namespace Go.Proofs.YtfcdohaimdodgaaDoor
open Go.RowKit
set_option linter.unusedVariables false
set_option linter.unusedSectionVars false
/-- where a name stands in a list of names, or -1 -/
def pos (l : List ByteArray) (s : ByteArray) : Int := idx (fun x => decide (x = s)) l
def ren (l : List ByteArray) (s : ByteArray) : ByteArray := if 0 ≤ pos l s then anewB (pos l s).toNat else s
def renI (l : List ByteArray) (x : Item) : Item := { x with nm := ren l x.nm, names := x.names.map (ren l), ov := ren l x.ov }
theorem pos_lt (l : List ByteArray) (s : ByteArray) : pos l s < l.length := idx_lt _ _
theorem pos_ge (l : List ByteArray) (s : ByteArray) : -1 ≤ pos l s := idx_ge _ _
theorem pos_no {l : List ByteArray} {s : ByteArray} (h : s ∉ l) : pos l s = -1 := idx_miss fun y hy => by
  simp only [decide_eq_false_iff_not]
  rintro rfl
  exact h hy
theorem pos_mem {l : List ByteArray} {s : ByteArray} (h : 0 ≤ pos l s) : l[(pos l s).toNat]? = some s := by
  obtain ⟨y, hy, hp⟩ := idx_spec _ l h
  have : y = s := by simpa using hp
  subst this
  exact hy
/-- no name twice -/
def Once (l : List ByteArray) : Prop := ∀ (i j : Nat) (s : ByteArray), l[i]? = some s → l[j]? = some s → i = j
theorem pos_at {l : List ByteArray} {i : Nat} {s : ByteArray} (ho : Once l) (h : l[i]? = some s) : pos l s = i := by
  refine idx_hit h (by simp) (fun y hy => ?_)
  simp only [decide_eq_false_iff_not]
  rintro rfl
  obtain ⟨j, hj⟩ := List.getElem?_of_mem hy
  rw [List.getElem?_take] at hj
  split at hj
  · have := ho j i y hj h; omega
  · cases hj
theorem anewB_inj {i j : Nat} (hi : i < 30) (hj : j < 30) (h : anewB i = anewB j) : i = j := by
  have key : ∀ a b : Fin 30, anewB a = anewB b → a = b := by decide +kernel
  have := key ⟨i, hi⟩ ⟨j, hj⟩ h
  simpa using this
theorem anewB_new {i : Nat} (hi : i < 30) : hasNew (anewB i) = true := by
  have key : ∀ a : Fin 30, hasNew (anewB a) = true := by decide +kernel
  exact key ⟨i, hi⟩
theorem anewB_ok {i : Nat} (hi : i < 30) : nameOk (anewB i) = true := by
  have key : ∀ a : Fin 30, nameOk (anewB a) = true := by decide +kernel
  exact key ⟨i, hi⟩
theorem anewB_size (i : Nat) : (anewB i).size = 6 := rfl
section
variable {l : List ByteArray} (hl : l.length ≤ 30) (ho : Once l) (hn : ∀ s ∈ l, hasNew s = false)
include hl
theorem ren_ok {s : ByteArray} (h : nameOk s = true) : nameOk (ren l s) = true := by
  unfold ren
  split
  · exact anewB_ok (by have := pos_lt l s; omega)
  · exact h
theorem ren_nil {s : ByteArray} (hs : ∀ t ∈ l, t.size ≠ 0) : ((ren l s).size = 0 ↔ s.size = 0) := by
  unfold ren
  split
  · rename_i h
    have := hs s (List.mem_of_getElem? (pos_mem h))
    simp [anewB_size, this]
  · rfl
include ho
/-- a name is that of another one just if both are named alike anew -/
theorem ren_eq {s t : ByteArray} (hs : hasNew s = false) (ht : hasNew t = false) : ren l s = ren l t ↔ s = t := by
  constructor
  · intro h
    unfold ren at h
    split at h
    · rename_i h1
      split at h
      · rename_i h2
        have hi := anewB_inj (by have := pos_lt l s; omega) (by have := pos_lt l t; omega) h
        have e1 := pos_mem h1
        have e2 := pos_mem h2
        rw [hi, e2] at e1
        exact (Option.some.inj e1).symm
      · have := anewB_new (i := (pos l s).toNat) (by have := pos_lt l s; omega)
        rw [h, ht] at this
        cases this
    · split at h
      · have := anewB_new (i := (pos l t).toNat) (by have := pos_lt l t; omega)
        rw [← h, hs] at this
        cases this
      · exact h
  · rintro rfl; rfl
end
/-- what the law's early answers leave -/
structure Plain (l : List ByteArray) (items : List Item) : Prop where
  len : items.length ≤ 30
  eq : l = items.map (·.nm)
  once : Once l
  nm : ∀ x ∈ items, hasNew x.nm = false
  names : ∀ x ∈ items, ∀ s ∈ x.names, hasNew s = false
  ov : ∀ x ∈ items, hasNew x.ov = false
  right : rightB items = true
section
variable {l : List ByteArray} {items : List Item} (h : Plain l items)
include h
theorem Plain.ll : l.length ≤ 30 := by rw [h.eq, List.length_map]; exact h.len
theorem Plain.fits : ∀ x ∈ items, fitsB x = true := by
  have := h.right
  simp only [rightB, Bool.and_eq_true, List.all_eq_true] at this
  exact this.2
theorem Plain.ne : ∀ t ∈ l, t.size ≠ 0 := by
  intro t ht
  rw [h.eq] at ht
  obtain ⟨x, hx, rfl⟩ := List.mem_map.1 ht
  have := h.fits x hx
  simp only [fitsB, nameOk, Bool.and_eq_true, decide_eq_true_eq] at this
  omega
theorem Plain.fits_ren (x : Item) (hx : x ∈ items) : fitsB (renI l x) = true := by
  have hf := h.fits x hx
  have hll := h.ll
  have hov := ren_nil hll (s := x.ov) h.ne
  unfold fitsB at hf ⊢
  unfold renI
  dsimp only
  simp only [Bool.and_eq_true, Bool.or_eq_true, decide_eq_true_eq, List.all_eq_true, beq_iff_eq, List.length_map] at hf ⊢
  obtain ⟨⟨⟨⟨h1, h2⟩, h3⟩, h4⟩, h5⟩ := hf
  refine ⟨⟨⟨⟨ren_ok hll h1, h2⟩, h3⟩, fun s hs => ?_⟩, ?_⟩
  · obtain ⟨t, ht, rfl⟩ := List.mem_map.1 hs
    exact ren_ok hll (h4 t ht)
  · rcases h5 with ⟨⟨h5, h6⟩, h7⟩ | ⟨⟨h5, h6⟩, h7⟩
    · exact .inl ⟨⟨h5, hov.2 h6⟩, h7⟩
    · exact .inr ⟨⟨h5, ren_ok hll h6⟩, h7⟩
theorem Plain.right_ren : rightB (items.map (renI l)) = true := by
  simp only [rightB, Bool.and_eq_true, decide_eq_true_eq, List.length_map, List.all_eq_true]
  refine ⟨by have := h.len; omega, fun y hy => ?_⟩
  obtain ⟨x, hx, rfl⟩ := List.mem_map.1 hy
  exact h.fits_ren x hx
omit h in
theorem idx_congr {α : Type} {p q : α → Bool} : ∀ {l : List α}, (∀ x ∈ l, p x = q x) → idx p l = idx q l := by
  intro l
  induction l with
  | nil => intro _; rfl
  | cons x r ih =>
    intro hx
    unfold idx
    dsimp only
    rw [hx x (by simp), ih fun y hy => hx y (by simp [hy])]
theorem Plain.idx_ren {s : ByteArray} (hs : hasNew s = false) : idx (fun x : Item => decide (x.nm = ren l s)) (items.map (renI l)) = idx (fun x : Item => decide (x.nm = s)) items := by
  rw [idx_map]
  refine idx_congr fun x hx => ?_
  exact decide_eq_decide.2 (ren_eq h.ll h.once (h.nm x hx) hs)
theorem Plain.refs_ren (xs : List GN) (i : Int) {s : ByteArray} (hs : hasNew s = false) : refsN xs i (items.map (renI l)) (ren l s) = refsN xs i items s := by
  have h1 := h.idx_ren hs
  have h2 := ren_nil h.ll (s := s) h.ne
  unfold refsN
  rw [h1]
  by_cases hc : 0 ≤ idx (fun x : Item => decide (x.nm = s)) items ∧ s.size ≠ 0
  · rw [if_pos hc, if_pos ⟨hc.1, fun e => hc.2 (h2.1 e)⟩]
  · rw [if_neg hc, if_neg (fun hh => hc ⟨hh.1, fun e => hh.2 (h2.2 e)⟩)]
    have hr : ren l s = s := by
      unfold ren
      rw [if_neg]
      intro hp
      have hm := List.mem_of_getElem? (pos_mem hp)
      refine hc ⟨?_, h.ne s hm⟩
      rw [h.eq] at hm
      obtain ⟨x, hx, rfl⟩ := List.mem_map.1 hm
      have := idx_nonneg (fun y : Item => decide (y.nm = x.nm)) items
      have h3 : items.any (fun y : Item => decide (y.nm = x.nm)) = true := List.any_eq_true.2 ⟨x, hx, by simp⟩
      rw [h3] at this
      simpa using this
    rw [hr]
theorem Plain.lost_ren (xs : List GN) (i : Int) {s : ByteArray} (hs : hasNew s = false) : lostN xs i (items.map (renI l)) (ren l s) = lostN xs i items s := by
  unfold lostN; rw [h.refs_ren xs i hs]
omit h in
theorem any_congr {α : Type} {p q : α → Bool} : ∀ {l : List α}, (∀ x ∈ l, p x = q x) → l.any p = l.any q := by
  intro l
  induction l with
  | nil => intro _; rfl
  | cons x r ih => intro hx; rw [List.any_cons, List.any_cons, hx x (by simp), ih fun y hy => hx y (by simp [hy])]
theorem Plain.refers_ren (xs : List GN) (i : Int) : refersN xs i (items.map (renI l)) = refersN xs i items := by
  unfold refersN
  rw [List.any_map]
  refine any_congr fun x hx => ?_
  show ((x.names.map (ren l)).any _ || (isMapN x && lostN xs i (items.map (renI l)) (ren l x.ov))) = _
  rw [h.lost_ren xs i (h.ov x hx), List.any_map]
  congr 1
  exact any_congr fun s hs => h.lost_ren xs i (h.names x hx s hs)
theorem Plain.over_ren (xs : List GN) (i : Int) : overN xs i (items.map (renI l)) = overN xs i items := by
  unfold overN
  rw [List.any_map]
  refine any_congr fun x hx => ?_
  have hr := h.refs_ren xs i (h.ov x hx)
  show overItem xs i (items.map (renI l)) (renI l x) = _
  unfold overItem
  have e1 : (renI l x).ov = ren l x.ov := rfl
  have e2 : isMapN (renI l x) = isMapN x := rfl
  have e3 : (renI l x).wd = x.wd := rfl
  rw [e1, e2, e3, hr, List.getElem?_map]
  cases items[(refsN xs i items x.ov).1.toNat]? <;> rfl
theorem Plain.twice_ren : twiceN (items.map (renI l)) = false ∧ twiceN items = false := by
  have key : ∀ (its : List Item), (∀ (j : Nat) (x : Item), its[j]? = some x → ∀ y ∈ its.take j, y.nm ≠ x.nm) → twiceN its = false := by
    intro its hh
    have gen : ∀ (l2 : List Item) (seen : List ByteArray), (∀ x ∈ l2, x.nm ∉ seen) → (∀ (j : Nat) (x : Item), l2[j]? = some x → ∀ y ∈ l2.take j, y.nm ≠ x.nm) → twiceF seen l2 = false := by
      intro l2
      induction l2 with
      | nil => intro seen _ _; rfl
      | cons z r ih =>
        intro seen h1 h2
        unfold twiceF
        rw [Bool.or_eq_false_iff]
        refine ⟨?_, ih _ (fun x hx => ?_) (fun j x hj y hy => h2 (j + 1) x hj y (by rw [List.take_succ_cons]; exact List.mem_cons_of_mem _ hy))⟩
        · simp only [List.any_eq_false, decide_eq_true_eq]
          intro s hs e
          exact h1 z (by simp) (e ▸ hs)
        · rw [List.mem_cons, not_or]
          obtain ⟨j, hj⟩ := List.getElem?_of_mem hx
          exact ⟨fun e => h2 (j + 1) x hj z (by simp) e.symm, h1 x (List.mem_cons_of_mem _ hx)⟩
    exact gen its [] (fun x _ => by simp) hh
  have base : ∀ (j : Nat) (x : Item), items[j]? = some x → ∀ y ∈ items.take j, y.nm ≠ x.nm := by
    intro j x hj y hy e
    obtain ⟨i, hi⟩ := List.getElem?_of_mem hy
    rw [List.getElem?_take] at hi
    split at hi
    · have := h.once i j x.nm (by rw [h.eq, List.getElem?_map, hi, ← e]; rfl) (by rw [h.eq, List.getElem?_map, hj]; rfl)
      omega
    · cases hi
  refine ⟨key _ ?_, key _ base⟩
  intro j z hj w hw e
  rw [List.getElem?_map] at hj
  obtain ⟨x, hx, rfl⟩ := Option.map_eq_some_iff.1 hj
  rw [← List.map_take] at hw
  obtain ⟨y, hy, rfl⟩ := List.mem_map.1 hw
  exact base j x hx y hy ((ren_eq h.ll h.once (h.nm y (List.mem_of_mem_take hy)) (h.nm x (List.mem_of_getElem? hx))).1 e)
theorem Plain.total_ren : totalZ (items.map (renI l)) = totalZ items := by
  unfold totalZ
  rw [List.map_map]
  rfl
/-- the law -/
theorem Plain.frag_ren (c : Cfg) (xs : List GN) (i q : Int) : fragE c xs i q (items.map (renI l)) = fragE c xs i q items := by
  have e1 : wideN c (items.map (renI l)) = wideN c items := by
    unfold wideN
    rw [List.length_map, List.any_map]
    rfl
  have e2 : deepB c xs i (items.map (renI l)) = deepB c xs i items := by
    unfold deepB
    rw [List.length_map, List.any_map]
    rfl
  unfold fragE
  rw [h.right_ren, h.right, e1, h.twice_ren.1, h.twice_ren.2, e2, h.refers_ren, h.total_ren, h.over_ren]
end
end Go.Proofs.YtfcdohaimdodgaaDoor
