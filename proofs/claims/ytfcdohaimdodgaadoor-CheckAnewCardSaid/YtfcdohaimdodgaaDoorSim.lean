/-
  What a fragment may be does not turn with what is not seen: names outside the scopes of the chain.
-/
import Derived.Test.YtfcdohaimdodgaaDoorSpec
namespace Go.Proofs.YtfcdohaimdodgaaDoor
open Go.RowKit
theorem fragE_of {c : Cfg} {xs ys : List GN} {i q : Int} {items : List Item} (h1 : ∀ nm, seenN ys i nm = seenN xs i nm) (h2 : deepN ys i = deepN xs i) (h3 : ∀ k : Nat, (ys[k]?).map (fun x => (x.k, x.wd)) = (xs[k]?).map (fun x => (x.k, x.wd))) :
    fragE c ys i q items = fragE c xs i q items := by
  have e1 : refsN ys i items = refsN xs i items := by funext nm; unfold refsN; rw [h1]
  have e2 : lostN ys i items = lostN xs i items := by funext nm; unfold lostN; rw [e1]
  have e3 : refersN ys i items = refersN xs i items := by unfold refersN; rw [e2]
  have e4 : overItem ys i items = overItem xs i items := by
    funext x
    unfold overItem
    rw [e1]
    congr 1
    split
    · rfl
    · split
      · have := h3 (refsN xs i items x.ov).2.toNat
        cases hy : ys[(refsN xs i items x.ov).2.toNat]? <;> cases hx : xs[(refsN xs i items x.ov).2.toNat]? <;> rw [hy, hx] at this <;> simp at this
        simp [this.1, this.2]
      · rfl
  have e5 : overN ys i items = overN xs i items := by unfold overN; rw [e4]
  have e6 : deepB c ys i items = deepB c xs i items := by unfold deepB; rw [h2]
  unfold fragE
  rw [e3, e5, e6]
structure Sim (xs ys : List GN) (fl : Int) (os : List Int) : Prop where
  len : ys.length = xs.length
  at_ : ∀ (k : Nat) (x y : GN), xs[k]? = some x → ys[k]? = some y → y.fl = x.fl ∧ y.ow = x.ow ∧ y.k = x.k ∧ y.wd = x.wd ∧ ((x.fl = fl ∧ x.ow ∈ os) → y.nm = x.nm)
theorem Sim.map {xs ys : List GN} {fl : Int} {os : List Int} (h : Sim xs ys fl os) {β : Type} (f : GN → β) (hf : ∀ x y : GN, y.fl = x.fl → y.ow = x.ow → y.k = x.k → y.wd = x.wd → ((x.fl = fl ∧ x.ow ∈ os) → y.nm = x.nm) → f y = f x) (k : Nat) : (ys[k]?).map f = (xs[k]?).map f := by
  have hl := h.len
  rcases Nat.lt_or_ge k xs.length with hk | hk
  · have e1 : xs[k]? = some xs[k] := List.getElem?_eq_getElem hk
    have e2 : ys[k]? = some (ys[k]'(by omega)) := List.getElem?_eq_getElem (by omega)
    obtain ⟨a, b, c, d, e⟩ := h.at_ k _ _ e1 e2
    rw [e1, e2]
    simp only [Option.map_some]
    rw [hf _ _ a b c d e]
  · rw [List.getElem?_eq_none hk, List.getElem?_eq_none (by omega)]
theorem Sim.maps {xs ys : List GN} {fl : Int} {os : List Int} (h : Sim xs ys fl os) {β : Type} (f : GN → β) (hf : ∀ x y : GN, y.fl = x.fl → y.ow = x.ow → y.k = x.k → y.wd = x.wd → ((x.fl = fl ∧ x.ow ∈ os) → y.nm = x.nm) → f y = f x) : ys.map f = xs.map f := by
  apply List.ext_getElem?
  intro k
  rw [List.getElem?_map, List.getElem?_map]
  exact h.map f hf k
theorem findIdx_map (p : GN → Bool) (l : List GN) : l.findIdx? p = (l.map p).findIdx? id := by
  rw [List.findIdx?_map]; rfl
theorem Sim.first {xs ys : List GN} {fl : Int} {os : List Int} (h : Sim xs ys fl os) {o : Int} (ho : o ∈ os) (nm : ByteArray) : firstOf ys fl o nm = firstOf xs fl o nm := by
  unfold firstOf
  split
  · rfl
  · rw [findIdx_map, findIdx_map]
    rw [h.maps (fun x => decide (x.fl = fl) && decide (x.ow = o) && decide (x.nm = nm)) (fun x y a b _ _ e => by
      rw [a, b]
      by_cases h1 : x.fl = fl
      · by_cases h2 : x.ow = o
        · rw [e ⟨h1, by rw [h2]; exact ho⟩]
        · simp [h2]
      · simp [h1])]
theorem Sim.seenL {xs ys : List GN} {fl : Int} {os : List Int} (h : Sim xs ys fl os) (nm : ByteArray) : ∀ l : List Int, (∀ o ∈ l, o ∈ os) → seenL ys fl nm l = seenL xs fl nm l := by
  intro l
  induction l with
  | nil => intro _; rfl
  | cons o r ih =>
    intro hl
    unfold Go.Proofs.YtfcdohaimdodgaaDoor.seenL
    rw [h.first (hl o (by simp)), ih fun z hz => hl z (by simp [hz])]
theorem Sim.chainF {xs ys : List GN} {fl : Int} {os : List Int} (h : Sim xs ys fl os) : ∀ f i, chainF ys f i = chainF xs f i := by
  intro f
  induction f with
  | zero => intro i; rfl
  | succ f ih =>
    intro i
    unfold Go.Proofs.YtfcdohaimdodgaaDoor.chainF
    have := h.map (fun x => x.ow) (fun x y _ b _ _ _ => b) i
    cases hy : ys[i]? <;> cases hx : xs[i]? <;> rw [hy, hx] at this <;> simp at this
    dsimp only
    rw [this, ih]
theorem Sim.chain {xs ys : List GN} {fl : Int} {os : List Int} (h : Sim xs ys fl os) (i : Nat) : chain ys i = chain xs i := h.chainF _ _
/-- the law -/
theorem fragE_sim {c : Cfg} {xs ys : List GN} {i q : Int} {items : List Item} {fl : Int} {os : List Int} (h : Sim xs ys fl os) (hi : 0 ≤ i → ∃ x, xs[i.toNat]? = some x ∧ x.fl = fl ∧ os = Go.Proofs.YtfcdohaimdodgaaDoor.chain xs i.toNat ++ [-1]) :
    fragE c ys i q items = fragE c xs i q items := by
  refine fragE_of (fun nm => ?_) ?_ (h.map _ (fun x y _ _ c d _ => by rw [c, d]))
  · unfold seenN
    split
    · rename_i h0
      obtain ⟨x, hx, hfl, hos⟩ := hi h0
      have hm := h.map (fun x => x.fl) (fun x y a _ _ _ _ => a) i.toNat
      rw [hx] at hm ⊢
      cases hy : ys[i.toNat]? with
      | none => rw [hy] at hm; simp at hm
      | some y =>
        rw [hy] at hm
        simp only [Option.map_some, Option.some.injEq] at hm
        dsimp only
        rw [hm, hfl, h.chain, ← hos, h.seenL nm os (fun o ho => ho)]
    · rfl
  · unfold deepN
    rw [h.len, h.chain]
end Go.Proofs.YtfcdohaimdodgaaDoor
