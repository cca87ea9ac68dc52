/-
  slices.IndexFunc and ContainsFunc at items and at strings, for every function value that answers a bool and leaves what was there as it was.
-/
import Derived.Test.YtfcdohaimdodgaaDoorData
namespace Go.Proofs.YtfcdohaimdodgaaDoor
open Go.RowKit Go.Shelf
set_option linter.unusedVariables false

/-- the first place at which p holds, or -1 -/
def idx {α : Type} (p : α → Bool) : List α → Int
  | [] => -1
  | x :: r => if p x then 0 else (let i := idx p r; if i < 0 then -1 else i + 1)
theorem idx_ge {α : Type} (p : α → Bool) (l : List α) : -1 ≤ idx p l := by
  induction l with
  | nil => simp [idx]
  | cons x r ih => unfold idx; dsimp only; split; · omega
                   split <;> omega
theorem idx_hit {α : Type} {p : α → Bool} {l : List α} {k : Nat} {x : α} (hk : l[k]? = some x) (hx : p x = true) (hb : ∀ y ∈ l.take k, p y = false) : idx p l = k := by
  induction l generalizing k with
  | nil => simp at hk
  | cons y r ih =>
    cases k with
    | zero => simp at hk; subst hk; simp [idx, hx]
    | succ k =>
      have hy : p y = false := hb y (by simp)
      have := ih (k := k) (by simpa using hk) (fun z hz => hb z (by simp [hz]))
      unfold idx; dsimp only; rw [this, hy]; simp
      omega
theorem idx_miss {α : Type} {p : α → Bool} {l : List α} (hb : ∀ y ∈ l, p y = false) : idx p l = -1 := by
  induction l with
  | nil => rfl
  | cons y r ih => unfold idx; dsimp only; rw [hb y (by simp), ih (fun z hz => hb z (by simp [hz]))]; rfl
theorem idx_nonneg {α : Type} (p : α → Bool) (l : List α) : decide (0 ≤ idx p l) = l.any p := by
  induction l with
  | nil => rfl
  | cons y r ih =>
    have := idx_ge p r
    unfold idx; dsimp only; rw [List.any_cons]
    cases h : p y
    · rw [← ih]; simp; split <;> omega
    · simp

set_option maxHeartbeats 400000 in
theorem idxIt_any (sp : Option Addr) (sn sc : Nat) (xs : List It) (p : It → Bool) (g : Nat) (fst cap : Array Value) (w : World) (eg : ∀ args w, (callFunc g args).run Tryd.prog w = .ok (.enter g args) w)
    (hs : RowsAt 6 It.cells w ⟨sp, sn, sc⟩ xs) (hp : PredOn Tryd.prog g fst cap It.enc xs p w) :
    Calls Tryd.prog 47 #[.slice sp sn sc, .func (.func g) fst cap] w fun e w' => e = .returned (.int .i64 (idx p xs)) ∧ Ext w w' := by
  have hlen := hs.len
  have hbig := hs.big
  have hcap := hs.cap
  dsimp only at hlen hbig hcap
  have HL := hide hlen; clear hlen
  go_enter Tryd.func47, Tryd.ntmps47
  go_wp2
  go_loopg [5, 8] sn (fun gg _ s8 wr => ∃ k : Nat, k ≤ sn ∧ sn - k ≤ gg ∧ s8 = .int .i64 k ∧ Aside (Ext w wr) ∧ Aside (∀ y ∈ xs.take k, p y = false))
  case atStart => exact ⟨0, Nat.zero_le _, by omega, rfl, Below.refl _ w, fun y hy => by simp at hy⟩
  case round =>
    obtain ⟨k, hk, hg, rfl, BW, A⟩ := hrel
    by_cases hlt : k < sn
    · obtain ⟨x, hx⟩ := getElem?_of_lt (xs := xs) (k := k) (by have := HL.out; omega)
      obtain ⟨b, o, hsp, hblt, c0, c1, c2, c3, c4, c5⟩ := ItemsAt.cells' (hs.below BW.out) hx
      have hcall := hp x (List.mem_of_getElem? hx) wr BW.out
      have hltz : (k : Int) < (sn : Int) := by omega
      have HX := hide hx; clear hx
      clear hs hp
      subst hsp
      simp only [It.enc, It.cells] at hcall
      cases hq : p x with
      | true =>
        rw [hq] at hcall
        have HQ := hide hq; clear hq
        go_wp2_with (go_at_fn g; refine hcall.mono ?_; rintro e w' ⟨rfl, hb'⟩)
        go_ret
        exact ⟨ret_int (idx_hit HX.out HQ.out A.out).symm, BW.out.trans hb'⟩
      | false =>
        rw [hq] at hcall
        have HQ := hide hq; clear hq
        go_wp2_with (go_at_fn g; refine hcall.mono ?_; rintro e w' ⟨rfl, hb'⟩)
        go_roundg (sn - (k + 1))
        case measure => omega
        case rel =>
          refine ⟨k + 1, by omega, by omega, by go_num, BW.out.trans hb', (show Aside _ from fun y hy => ?_)⟩
          rw [take_snoc HX.out] at hy
          rcases List.mem_append.1 hy with h | h
          · exact A.out y h
          · obtain rfl := List.mem_singleton.1 h; exact HQ.out
    · have hltz : ¬ (k : Int) < (sn : Int) := by omega
      have hkn : k = sn := by omega
      have HK := hide hkn; clear hkn
      go_wp2
      go_ret
      refine ⟨ret_int (idx_miss fun y hy => A.out y ?_).symm, BW.out⟩
      rw [List.take_of_length_le (by have := HL.out; have := HK.out; omega)]; exact hy
set_option maxHeartbeats 400000 in
theorem idxStr_any (sp : Option Addr) (sn sc : Nat) (xs : List ByteArray) (p : ByteArray → Bool) (g : Nat) (fst cap : Array Value) (w : World) (eg : ∀ args w, (callFunc g args).run Tryd.prog w = .ok (.enter g args) w)
    (hs : RowsAt 1 strCells w ⟨sp, sn, sc⟩ xs) (hp : PredOn Tryd.prog g fst cap Value.string xs p w) :
    Calls Tryd.prog 71 #[.slice sp sn sc, .func (.func g) fst cap] w fun e w' => e = .returned (.int .i64 (idx p xs)) ∧ Ext w w' := by
  have hlen := hs.len
  have hbig := hs.big
  have hcap := hs.cap
  dsimp only at hlen hbig hcap
  have HL := hide hlen; clear hlen
  go_enter Tryd.func71, Tryd.ntmps71
  go_wp2
  go_loopg [5, 8] sn (fun gg _ s8 wr => ∃ k : Nat, k ≤ sn ∧ sn - k ≤ gg ∧ s8 = .int .i64 k ∧ Aside (Ext w wr) ∧ Aside (∀ y ∈ xs.take k, p y = false))
  case atStart => exact ⟨0, Nat.zero_le _, by omega, rfl, Below.refl _ w, fun y hy => by simp at hy⟩
  case round =>
    obtain ⟨k, hk, hg, rfl, BW, A⟩ := hrel
    by_cases hlt : k < sn
    · obtain ⟨x, hx⟩ := getElem?_of_lt (xs := xs) (k := k) (by have := HL.out; omega)
      obtain ⟨b, o, hsp, hblt, c0⟩ := strAt (hs.below BW.out) hx
      have hcall := hp x (List.mem_of_getElem? hx) wr BW.out
      have hltz : (k : Int) < (sn : Int) := by omega
      have HX := hide hx; clear hx
      clear hs hp
      subst hsp
      cases hq : p x with
      | true =>
        rw [hq] at hcall
        have HQ := hide hq; clear hq
        go_wp2_with (go_at_fn g; refine hcall.mono ?_; rintro e w' ⟨rfl, hb'⟩)
        go_ret
        exact ⟨ret_int (idx_hit HX.out HQ.out A.out).symm, BW.out.trans hb'⟩
      | false =>
        rw [hq] at hcall
        have HQ := hide hq; clear hq
        go_wp2_with (go_at_fn g; refine hcall.mono ?_; rintro e w' ⟨rfl, hb'⟩)
        go_roundg (sn - (k + 1))
        case measure => omega
        case rel =>
          refine ⟨k + 1, by omega, by omega, by go_num, BW.out.trans hb', (show Aside _ from fun y hy => ?_)⟩
          rw [take_snoc HX.out] at hy
          rcases List.mem_append.1 hy with h | h
          · exact A.out y h
          · obtain rfl := List.mem_singleton.1 h; exact HQ.out
    · have hltz : ¬ (k : Int) < (sn : Int) := by omega
      have hkn : k = sn := by omega
      have HK := hide hkn; clear hkn
      go_wp2
      go_ret
      refine ⟨ret_int (idx_miss fun y hy => A.out y ?_).symm, BW.out⟩
      rw [List.take_of_length_le (by have := HL.out; have := HK.out; omega)]; exact hy
set_option maxHeartbeats 400000 in
theorem contIt_any (sp : Option Addr) (sn sc : Nat) (xs : List It) (p : It → Bool) (g : Nat) (fst cap : Array Value) (w : World) (eg : ∀ args w, (callFunc g args).run Tryd.prog w = .ok (.enter g args) w)
    (hs : RowsAt 6 It.cells w ⟨sp, sn, sc⟩ xs) (hp : PredOn Tryd.prog g fst cap It.enc xs p w) :
    Calls Tryd.prog 25 #[.slice sp sn sc, .func (.func g) fst cap] w fun e w' => e = .returned (.bool (xs.any p)) ∧ Ext w w' := by
  have hcall := idxIt_any sp sn sc xs p g fst cap w eg hs hp
  rw [← idx_nonneg]
  generalize idx p xs = r at *
  clear hs hp
  go_enter Tryd.func25, Tryd.ntmps25
  go_wp2_with (go_at_call 47; refine hcall.mono ?_; rintro e w' ⟨rfl, hb'⟩)
  go_ret
  exact ⟨rfl, hb'⟩
set_option maxHeartbeats 400000 in
theorem contStr_any (sp : Option Addr) (sn sc : Nat) (xs : List ByteArray) (p : ByteArray → Bool) (g : Nat) (fst cap : Array Value) (w : World) (eg : ∀ args w, (callFunc g args).run Tryd.prog w = .ok (.enter g args) w)
    (hs : RowsAt 1 strCells w ⟨sp, sn, sc⟩ xs) (hp : PredOn Tryd.prog g fst cap Value.string xs p w) :
    Calls Tryd.prog 50 #[.slice sp sn sc, .func (.func g) fst cap] w fun e w' => e = .returned (.bool (xs.any p)) ∧ Ext w w' := by
  have hcall := idxStr_any sp sn sc xs p g fst cap w eg hs hp
  rw [← idx_nonneg]
  generalize idx p xs = r at *
  clear hs hp
  go_enter Tryd.func50, Tryd.ntmps50
  go_wp2_with (go_at_call 71; refine hcall.mono ?_; rintro e w' ⟨rfl, hb'⟩)
  go_ret
  exact ⟨rfl, hb'⟩
end Go.Proofs.YtfcdohaimdodgaaDoor
