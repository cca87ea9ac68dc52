/-
  Maps in memory as lists of pairs: look-up, and putting, over any program and any kind of key.
-/
import Derived.Test.YtfcdohaimdodgaaDoorRf
import Derived.Maps.OwnOps
import Derived.Maps.OwnSet
namespace Go.Proofs.YtfcdohaimdodgaaDoor
set_option linter.unusedSectionVars false
set_option linter.unusedSimpArgs false
open Go.RowKit

section
variable {κ β : Type} [DecidableEq κ]

def mget (k : κ) : List (κ × β) → Option β
  | [] => none
  | x :: r => if x.1 = k then some x.2 else mget k r
def mput (k : κ) (v : β) : List (κ × β) → List (κ × β)
  | [] => [(k, v)]
  | x :: r => if x.1 = k then (x.1, v) :: r else x :: mput k v r
theorem mget_mput (k k' : κ) (v : β) (l : List (κ × β)) : mget k' (mput k v l) = if k = k' then some v else mget k' l := by
  induction l with
  | nil => simp [mput, mget]
  | cons x r ih =>
    unfold mput
    by_cases h : x.1 = k
    · rw [if_pos h]; unfold mget; dsimp only; subst h
      by_cases h2 : x.1 = k' <;> simp [h2]
    · rw [if_neg h]; unfold mget; rw [ih]
      by_cases h2 : x.1 = k'
      · simp [h2]; intro h3; exact absurd (h2.trans h3.symm) h
      · simp [h2]

/-- where a key lies, and its value -/
def mfind (k : κ) : List (κ × Value) → Nat → Option (Nat × Value)
  | [], _ => none
  | x :: r, i => if x.1 = k then some (i, x.2) else mfind k r (i + 1)

structure KeyLaw (P : Program) (T : TypeId) (kenc : κ → Value) : Prop where
  chk : ∀ em k w, (Instr.checkKey em 10000 T (kenc k)).run P w = .ok () w
  find : ∀ (k : κ) (l : List (κ × Value)) (es : List MapEntry) w, es.map (fun e => (e.key, e.val)) = l.map (fun x => (kenc x.1, x.2)) → (Instr.findKey T (kenc k) es).run P w = .ok (mfind k l 0) w
  stay : ∀ k, Instr.sameBits 10000 (kenc k) (kenc k) = true

def MapAt (kenc : κ → Value) (venc : β → Value) (w : World) (r : Nat) (l : List (κ × β)) : Prop :=
  ∃ es clock, w.heap[r]? = some (.map es clock) ∧ es.toList.map (fun e => (e.key, e.val)) = l.map (fun x => (kenc x.1, venc x.2))

theorem MapAt.new (kenc : κ → Value) (venc : β → Value) (w : World) : MapAt kenc venc (w.alloc (.map #[] 0)) w.heap.size [] :=
  ⟨#[], 0, World.alloc_heap_new w _, rfl⟩
theorem MapAt.lt {kenc : κ → Value} {venc : β → Value} {w : World} {r : Nat} {l : List (κ × β)} (h : MapAt kenc venc w r l) : r < w.heap.size := by
  obtain ⟨es, clock, h, -⟩ := h; exact lt_of_block h
theorem MapAt.of_block {kenc : κ → Value} {venc : β → Value} {w w' : World} {r : Nat} {l : List (κ × β)} (h : MapAt kenc venc w r l) (hb : w'.heap[r]? = w.heap[r]?) : MapAt kenc venc w' r l := by
  obtain ⟨es, clock, h1, h2⟩ := h; exact ⟨es, clock, hb.trans h1, h2⟩
theorem MapAt.below {kenc : κ → Value} {venc : β → Value} {w w' : World} {r : Nat} {l : List (κ × β)} (h : MapAt kenc venc w r l) (hb : Ext w w') : MapAt kenc venc w' r l := h.of_block (hb.block r h.lt)

theorem mfind_of (k : κ) (venc : β → Value) (l : List (κ × β)) : ∀ i, mfind k (l.map fun x => (x.1, venc x.2)) i = match mget k l with | some b => some (i + l.findIdx (fun x => x.1 = k), venc b) | none => none := by
  induction l with
  | nil => intro i; rfl
  | cons x r ih =>
    intro i
    simp only [List.map_cons, mfind, mget]
    by_cases h : x.1 = k
    · simp [h, List.findIdx_cons]
    · simp only [if_neg h, ih]
      cases mget k r with
      | none => rfl
      | some b => simp [List.findIdx_cons, h]; omega

variable {P : Program} {w : World} {ops : Array Oper} {rest : List Oper} {o : Oper} {a : Act} {Q : Exit → Act → World → Prop}

theorem run_lookup_at {k e t : TypeId} {kenc : κ → Value} {venc : β → Value} (K : KeyLaw P k kenc) (ht : P.underlying t = some (.map k e)) (z : β) (hz : (zeroValue e).run P w = .ok (venc z) w) {r : Nat} {l : List (κ × β)} (hat : MapAt kenc venc w r l) (kk : κ) (ok : Bool) :
    (Instr.lookup t (.map (some r)) (kenc kk) ok).run P w = .ok (if ok then .tuple #[venc ((mget kk l).getD z), .bool (mget kk l).isSome] else venc ((mget kk l).getD z)) w := by
  obtain ⟨es, clock, h1, h2⟩ := hat
  have hf := K.find kk (l.map fun x => (x.1, venc x.2)) es.toList w (by rw [h2]; simp)
  rw [mfind_of] at hf
  have hc := K.chk es.isEmpty kk w
  simp only [Instr.lookup]
  cases hm : mget kk l with
  | none =>
    rw [hm] at hf
    simp [run_underlying ht, Sem.run_bind, Result.andThen, getObj, Sem.run, h1, hc, hf, hz]
  | some b =>
    rw [hm] at hf
    simp [run_underlying ht, Sem.run_bind, Result.andThen, getObj, Sem.run, h1, hc, hf, hz]

theorem map_modify_toList (es : Array MapEntry) (i : Nat) (f : MapEntry → MapEntry) : (es.modify i f).toList = es.toList.modify i f := by simp
theorem mput_map (kenc : κ → Value) (venc : β → Value) (k : κ) (v : β) (l : List (κ × β)) (b : β) (hm : mget k l = some b) : ∀ es : List MapEntry, es.map (fun e => (e.key, e.val)) = l.map (fun x => (kenc x.1, venc x.2)) →
    (es.modify (l.findIdx (fun x => x.1 = k)) fun e => { e with key := kenc k, val := venc v }).map (fun e => (e.key, e.val)) = (mput k v l).map (fun x => (kenc x.1, venc x.2)) := by
  induction l with
  | nil => simp [mget] at hm
  | cons x r ih =>
    intro es hes
    cases es with
    | nil => simp at hes
    | cons e es =>
      simp only [List.map_cons, List.cons.injEq] at hes
      unfold mput
      by_cases h : x.1 = k
      · subst h
        simp [List.findIdx_cons, List.modify_cons, hes.2]
      · rw [if_neg h]
        have := ih (by simpa [mget, h] using hm) es hes.2
        simp [List.findIdx_cons, h, List.modify_cons, hes.1, this]
theorem mput_none (k : κ) (v : β) (l : List (κ × β)) (hm : mget k l = none) : mput k v l = l ++ [(k, v)] := by
  induction l with
  | nil => rfl
  | cons x r ih =>
    by_cases h : x.1 = k
    · simp [mget, h] at hm
    · simp [mput, h, ih (by simpa [mget, h] using hm)]
theorem findIdx_key (kenc : κ → Value) (venc : β → Value) (k : κ) (l : List (κ × β)) (b : β) (hm : mget k l = some b) : ∀ es : List MapEntry, es.map (fun e => (e.key, e.val)) = l.map (fun x => (kenc x.1, venc x.2)) → (es[l.findIdx (fun x => x.1 = k)]?).map (·.key) = some (kenc k) := by
  induction l with
  | nil => simp [mget] at hm
  | cons x r ih =>
    intro es hes
    cases es with
    | nil => simp at hes
    | cons e es =>
      simp only [List.map_cons, List.cons.injEq, Prod.mk.injEq] at hes
      by_cases h : x.1 = k
      · simp [List.findIdx_cons, h, hes.1.1]
      · have := ih (by simpa [mget, h] using hm) es hes.2
        simp [List.findIdx_cons, h, this]

theorem run_mapUpdate_at {k e t : TypeId} {kenc : κ → Value} {venc : β → Value} (K : KeyLaw P k kenc) (ht : P.underlying t = some (.map k e)) {r : Nat} {l : List (κ × β)} (hat : MapAt kenc venc w r l) (kk : κ) (v : β) :
    ∃ w', (Instr.mapUpdate t (.map (some r)) (kenc kk) (venc v)).run P w = .ok () w' ∧ MapAt kenc venc w' r (mput kk v l) ∧ w.grownBy w' (some r) ∧ w'.heap.size = w.heap.size := by
  obtain ⟨es, clock, h1, h2⟩ := hat
  have hlt := lt_of_block h1
  have hf := K.find kk (l.map fun x => (x.1, venc x.2)) es.toList w (by rw [h2]; simp)
  rw [mfind_of] at hf
  have hc := K.chk false kk w
  have hput : ∀ es' c', MapAt kenc venc (w.putObj r (.map es' c')) r (mput kk v l) ↔ es'.toList.map (fun e => (e.key, e.val)) = (mput kk v l).map (fun x => (kenc x.1, venc x.2)) := by
    intro es' c'
    constructor
    · rintro ⟨es2, c2, h3, h4⟩
      rw [World.putObj_heap_same hlt] at h3
      cases h3; exact h4
    · intro h; exact ⟨es', c', World.putObj_heap_same hlt, h⟩
  simp only [Instr.mapUpdate]
  cases hm : mget kk l with
  | none =>
    rw [hm] at hf
    refine ⟨w.putObj r (.map (es.push { key := kenc kk, val := venc v, born := clock }) (clock + 1)), ?_, ?_, grownBy_putObj' _ _ _, by simp [World.putObj]⟩
    · simp [run_underlying ht, Sem.run_bind, Result.andThen, getObj, setObj, Sem.run, h1, hc, hf, World.putObj]
    · rw [hput, mput_none kk v l hm]
      simp [h2]
  | some b =>
    rw [hm] at hf
    have hk := findIdx_key kenc venc kk l b hm es.toList h2
    refine ⟨w.putObj r (.map (es.modify (l.findIdx fun x => x.1 = kk) fun e => { e with key := kenc kk, val := venc v }) clock), ?_, ?_, grownBy_putObj' _ _ _, by simp [World.putObj]⟩
    · have hk2 : (es[l.findIdx fun x => x.1 = kk]?).map (·.key) = some (kenc kk) := by simpa using hk
      have hk3 : ((es[l.findIdx fun x => decide (x.1 = kk)]?).map (·.key)).getD (kenc kk) = kenc kk := by rw [hk2]; rfl
      simp only [Nat.zero_add] at hf
      simp [run_underlying ht, Sem.run_bind, Result.andThen, getObj, setObj, Sem.run, h1, hc, hf, hk3, Instr.keyThatStays, K.stay, World.putObj]
    · rw [hput, map_modify_toList]
      exact mput_map kenc venc kk v l b hm es.toList h2

theorem wpList_lookup_at (hg : o.guard = none) (m x : Operand) (t : TypeId) (ok : Bool) (hop : o.op = Op.lookup t m x ok) {k e : TypeId} {kenc : κ → Value} {venc : β → Value} (K : KeyLaw P k kenc) (ht : P.underlying t = some (.map k e))
    (z : β) (hz : (zeroValue e).run P w = .ok (venc z) w) (r : Nat) (l : List (κ × β)) (hm : a.eval m = .map (some r)) (hat : MapAt kenc venc w r l) (kk : κ) (hx : a.eval x = kenc kk)
    (hK : wpList P ops Q rest (a.put o.dst (if ok then .tuple #[venc ((mget kk l).getD z), .bool (mget kk l).isSome] else venc ((mget kk l).getD z))) w) : wpList P ops Q (o :: rest) a w := by
  refine wpList_plain hg fun K' hK' => ?_
  have hrun := run_lookup_at (P := P) (w := w) K ht z hz hat kk ok
  unfold Oper.wp
  simp [execOp, hop, hm, hx, hrun, Result.andThen]
  exact hK' _ _ hK
theorem wpList_mapUpdate_at (hg : o.guard = none) (m x v : Operand) (t : TypeId) (hop : o.op = Op.mapUpdate t m x v) {k e : TypeId} {kenc : κ → Value} {venc : β → Value} (K : KeyLaw P k kenc) (ht : P.underlying t = some (.map k e))
    (r : Nat) (l : List (κ × β)) (hm : a.eval m = .map (some r)) (hat : MapAt kenc venc w r l) (kk : κ) (hx : a.eval x = kenc kk) (vv : β) (hv : a.eval v = venc vv)
    (hK : ∀ w', MapAt kenc venc w' r (mput kk vv l) → w.grownBy w' (some r) → w'.heap.size = w.heap.size → wpList P ops Q rest (a.put o.dst undef) w') : wpList P ops Q (o :: rest) a w := by
  refine wpList_plain hg fun K' hK' => ?_
  obtain ⟨w', hrun, r1, r2, r3⟩ := run_mapUpdate_at (P := P) (w := w) K ht hat kk vv
  unfold Oper.wp
  simp [execOp, hop, hm, hx, hv, hrun, Result.andThen]
  exact hK' _ _ (hK w' r1 r2 r3)
end
end Go.Proofs.YtfcdohaimdodgaaDoor
