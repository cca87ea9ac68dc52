/-
  The kinds of keys: strings, integers, and names.key (a flow, an owner, a name).
-/
import Derived.Test.YtfcdohaimdodgaaDoorMap
import Derived.Laws.StructEq
namespace Go.Proofs.YtfcdohaimdodgaaDoor
open Go.RowKit
set_option linter.unusedSimpArgs false

theorem ba_beq (a b : ByteArray) : (a == b) = decide (a = b) := by
  rw [beq_toListBytes, Bool.eq_iff_iff]
  simp [ba_inj]
theorem findNow_string (k : ByteArray) : ∀ (l : List (ByteArray × Value)) (es : List MapEntry) (i : Nat), es.map (fun e => (e.key, e.val)) = l.map (fun x => (Value.string x.1, x.2)) → Instr.findNow .string (.string k) es i = some (mfind k l i) := by
  intro l
  induction l with
  | nil => intro es i h; have : es = [] := by simpa using h
           subst this; rfl
  | cons x r ih =>
    intro es i h
    cases es with
    | nil => simp at h
    | cons e es =>
      simp only [List.map_cons, List.cons.injEq, Prod.mk.injEq] at h
      simp only [Instr.findNow, h.1.1, Instr.sameNow, mfind, ba_beq]
      by_cases hk : x.1 = k
      · rw [if_pos hk, decide_eq_true hk.symm, h.1.2]
      · rw [if_neg hk, decide_eq_false (fun h => hk h.symm)]
        exact ih es (i + 1) h.2
theorem keyString {P : Program} {T : TypeId} (hT : P.underlying T = some .string) : KeyLaw P T Value.string where
  chk := fun em k w => by
    rw [show (10000 : Nat) = 9999 + 1 from rfl]
    unfold Instr.checkKey
    simp only [Sem.run_bind, run_underlying hT, Result.andThen]
    rfl
  find := fun k l es w h => by simp [Instr.findKey, run_underlying hT, Sem.run_bind, Result.andThen, findNow_string k l es 0 h]
  stay := fun k => by simp [Instr.sameBits, ba_beq]
theorem findNow_int (q q' : IntKind) (k : Int) : ∀ (l : List (Int × Value)) (es : List MapEntry) (i : Nat), es.map (fun e => (e.key, e.val)) = l.map (fun x => (Value.int q x.1, x.2)) → Instr.findNow (.int q') (.int q k) es i = some (mfind k l i) := by
  intro l
  induction l with
  | nil => intro es i h; have : es = [] := by simpa using h
           subst this; rfl
  | cons x r ih =>
    intro es i h
    cases es with
    | nil => simp at h
    | cons e es =>
      simp only [List.map_cons, List.cons.injEq, Prod.mk.injEq] at h
      simp only [Instr.findNow, h.1.1, Instr.sameNow, mfind, if_true]
      by_cases hk : x.1 = k
      · rw [if_pos hk, hk, h.1.2]; simp
      · rw [if_neg hk, show (k == x.1) = false by simpa using fun h => hk (Eq.symm h)]
        exact ih es (i + 1) h.2
theorem keyInt {P : Program} {T : TypeId} {q : IntKind} (hT : P.underlying T = some (.int q)) : KeyLaw P T (Value.int q) where
  chk := fun em k w => by
    rw [show (10000 : Nat) = 9999 + 1 from rfl]
    unfold Instr.checkKey
    simp only [Sem.run_bind, run_underlying hT, Result.andThen]
    rfl
  find := fun k l es w h => by simp [Instr.findKey, run_underlying hT, Sem.run_bind, Result.andThen, findNow_int q q k l es 0 h]
  stay := fun k => by simp [Instr.sameBits]

/-- a key of a struct's type: what is asked of it -/
theorem keyStruct {P : Program} {T : TypeId} {fs : Array Field} {κ : Type} [DecidableEq κ] {kenc : κ → Value} (hT : P.underlying T = some (.struct fs))
    (chk : ∀ em k w, (Instr.checkKey em 10000 T (kenc k)).run P w = .ok () w) (eq : ∀ a b w, (Op.equal T (kenc a) (kenc b)).run P w = .ok (decide (a = b)) w) (stay : ∀ k, Instr.sameBits 10000 (kenc k) (kenc k) = true) : KeyLaw P T kenc where
  chk := chk
  stay := stay
  find := by
    intro k l es w h
    have ask : ∀ (l : List (κ × Value)) (es : List MapEntry) (i : Nat), es.map (fun e => (e.key, e.val)) = l.map (fun x => (kenc x.1, x.2)) → (Instr.findAsking T (kenc k) es i).run P w = .ok (mfind k l i) w := by
      intro l
      induction l with
      | nil => intro es i h; have : es = [] := by simpa using h
               subst this; rfl
      | cons x r ih =>
        intro es i h
        cases es with
        | nil => simp at h
        | cons e es =>
          simp only [List.map_cons, List.cons.injEq, Prod.mk.injEq] at h
          simp only [Instr.findAsking, h.1.1, mfind]
          have he := eq k x.1 w
          by_cases hk : x.1 = k
          · subst hk; simp [he, Sem.run_bind, Result.andThen, h.1.2]
          · have hk' : ¬ k = x.1 := fun h => hk (Eq.symm h)
            rw [if_neg hk]
            simp [he, Sem.run_bind, Result.andThen, hk', ih es (i + 1) h.2]
    cases l with
    | nil =>
      have : es = [] := by simpa using h
      subst this
      simp [Instr.findKey, run_underlying hT, Sem.run_bind, Result.andThen, Instr.findNow, mfind]
    | cons x r =>
      cases es with
      | nil => simp at h
      | cons e es =>
        have hn : Instr.findNow (.struct fs) (kenc k) (e :: es) 0 = none := by
          simp only [Instr.findNow]
          cases kenc k <;> cases e.key <;> rfl
        have := ask (x :: r) (e :: es) 0 h
        simp [Instr.findKey, run_underlying hT, Sem.run_bind, Result.andThen, hn, this]

/-- names.key -/
abbrev NK := Int × Int × ByteArray
def nkEnc (k : NK) : Value := .agg #[.int .i64 k.1, .int .i64 k.2.1, .string k.2.2]
theorem nkEq (a b : NK) (w : World) : (Op.equal 100 (nkEnc a) (nkEnc b)).run Tryd.prog w = .ok (decide (a = b)) w := by
  obtain ⟨a1, a2, a3⟩ := a
  obtain ⟨b1, b2, b3⟩ := b
  have u3 := Tryd.underlying3
  have g3 := Tryd.isAgg3
  have z3 := Tryd.sizeOf3
  have u9 := Tryd.underlying9
  have g9 := Tryd.isAgg9
  have z9 := Tryd.sizeOf9
  have hS : Tryd.prog.underlying 100 = some (.struct (Tryd.prog.fieldsOf 100)) := by kernel_rfl
  have hp : Tryd.prog.stoodInHeld 100 = false := by kernel_rfl
  unfold nkEnc Op.equal Op.maxDepth
  rw [show (10000 : Nat) = 9999 + 1 from rfl, run_equalIn_agg w 9999 100 _ _ hS hp]
  simp only [Program.fieldsOf, Tryd.underlying100]
  go_simp
  by_cases h1 : a1 = b1 <;> by_cases h2 : a2 = b2 <;> by_cases h3 : a3 = b3 <;> simp [h1, h2, h3, ba_inj]
theorem ckInt {P : Program} {T : TypeId} {q : IntKind} (hT : P.underlying T = some (.int q)) (em : Bool) (m : Nat) (v : Int) (w : World) : (Instr.checkKey em (m + 1) T (.int q v)).run P w = .ok () w := by
  unfold Instr.checkKey
  simp only [Sem.run_bind, run_underlying hT, Result.andThen]
  rfl
theorem ckString {P : Program} {T : TypeId} (hT : P.underlying T = some .string) (em : Bool) (m : Nat) (v : ByteArray) (w : World) : (Instr.checkKey em (m + 1) T (.string v)).run P w = .ok () w := by
  unfold Instr.checkKey
  simp only [Sem.run_bind, run_underlying hT, Result.andThen]
  rfl
theorem nkChk0 (em : Bool) (m : Nat) (k : NK) (w : World) : (Instr.checkKey em (m + 2) 100 (nkEnc k)).run Tryd.prog w = .ok () w := by
  obtain ⟨a1, a2, a3⟩ := k
  have c1 := fun v w => ckInt Tryd.underlying3 em m v w
  have c2 := fun v w => ckString Tryd.underlying9 em m v w
  have g3 := Tryd.isAgg3
  have z3 := Tryd.sizeOf3
  have g9 := Tryd.isAgg9
  have z9 := Tryd.sizeOf9
  unfold nkEnc
  unfold Instr.checkKey
  simp only [Sem.run_bind, run_underlying Tryd.underlying100, Result.andThen]
  go_simp
theorem nkChk (em : Bool) (k : NK) (w : World) : (Instr.checkKey em 10000 100 (nkEnc k)).run Tryd.prog w = .ok () w := nkChk0 em 9998 k w
theorem nkStay (k : NK) : Instr.sameBits 10000 (nkEnc k) (nkEnc k) = true := by
  unfold nkEnc
  simp [Instr.sameBits, ba_beq]
theorem keyNK : KeyLaw Tryd.prog 100 nkEnc := keyStruct Tryd.underlying100 nkChk nkEq nkStay
end Go.Proofs.YtfcdohaimdodgaaDoor
