/-
  slices.IndexFunc and ContainsFunc at items, for a function value that keeps an account of its own.
-/
import Derived.Test.YtfcdohaimdodgaaDoorIdx
namespace Go.Proofs.YtfcdohaimdodgaaDoor
open Go.RowKit Go.Shelf
set_option linter.unusedVariables false

set_option maxHeartbeats 400000 in
theorem idxIt_st (sp : Option Addr) (sn sc : Nat) (xs : List It) (p : Nat → It → Bool) (I : Nat → World → Prop) (g : Nat) (fst cap : Array Value) (w : World) (eg : ∀ args w, (callFunc g args).run Tryd.prog w = .ok (.enter g args) w)
    (hs : ∀ k W, I k W → RowsAt 6 It.cells W ⟨sp, sn, sc⟩ xs) (hp : ∀ k x W, xs[k]? = some x → I k W → Calls Tryd.prog g (fst ++ #[x.enc] ++ cap) W fun e w' => e = .returned (.bool (p k x)) ∧ I (k + 1) w') (h0 : I 0 w) :
    Calls Tryd.prog 47 #[.slice sp sn sc, .func (.func g) fst cap] w fun e w' => e = .returned (.int .i64 (idx (fun y : It × Nat => p y.2 y.1) xs.zipIdx)) ∧ ∃ k, I k w' := by
  have hlen := (hs 0 w h0).len
  have hbig := (hs 0 w h0).big
  have hcap := (hs 0 w h0).cap
  dsimp only at hlen hbig hcap
  have HL := hide hlen; clear hlen
  go_enter Tryd.func47, Tryd.ntmps47
  go_wp2
  go_loopg [5, 8] sn (fun gg _ s8 wr => ∃ k : Nat, k ≤ sn ∧ sn - k ≤ gg ∧ s8 = .int .i64 k ∧ Aside (I k wr) ∧ Aside (∀ y ∈ xs.zipIdx.take k, p y.2 y.1 = false))
  case atStart => exact ⟨0, Nat.zero_le _, by omega, rfl, h0, fun y hy => by simp at hy⟩
  case round =>
    obtain ⟨k, hk, hg, rfl, BW, A⟩ := hrel
    by_cases hlt : k < sn
    · obtain ⟨x, hx⟩ := getElem?_of_lt (xs := xs) (k := k) (by have := HL.out; omega)
      obtain ⟨b, o, hsp, hblt, c0, c1, c2, c3, c4, c5⟩ := ItemsAt.cells' (hs k wr BW.out) hx
      have hcall := hp k x wr hx BW.out
      have hltz : (k : Int) < (sn : Int) := by omega
      have HX := hide (show xs.zipIdx[k]? = some (x, k) by simp [hx]); clear hx
      clear hs hp
      subst hsp
      simp only [It.enc, It.cells] at hcall
      cases hq : p k x with
      | true =>
        rw [hq] at hcall
        have HQ := hide hq; clear hq
        go_wp2_with (go_at_fn g; refine hcall.mono ?_; rintro e w' ⟨rfl, hb'⟩)
        go_ret
        exact ⟨ret_int (idx_hit (p := fun y : It × Nat => p y.2 y.1) HX.out HQ.out A.out).symm, ⟨_, hb'⟩⟩
      | false =>
        rw [hq] at hcall
        have HQ := hide hq; clear hq
        go_wp2_with (go_at_fn g; refine hcall.mono ?_; rintro e w' ⟨rfl, hb'⟩)
        go_roundg (sn - (k + 1))
        case measure => omega
        case rel =>
          refine ⟨k + 1, by omega, by omega, by go_num, hb', (show Aside _ from fun y hy => ?_)⟩
          rw [take_snoc HX.out] at hy
          rcases List.mem_append.1 hy with h | h
          · exact A.out y h
          · obtain rfl := List.mem_singleton.1 h; exact HQ.out
    · have hltz : ¬ (k : Int) < (sn : Int) := by omega
      have hkn : k = sn := by omega
      have HK := hide hkn; clear hkn
      go_wp2
      go_ret
      refine ⟨ret_int (idx_miss fun y hy => A.out y ?_).symm, ⟨_, BW.out⟩⟩
      rw [List.take_of_length_le (by rw [List.length_zipIdx]; have := HL.out; have := HK.out; omega)]; exact hy
set_option maxHeartbeats 400000 in
theorem contIt_st (sp : Option Addr) (sn sc : Nat) (xs : List It) (p : Nat → It → Bool) (I : Nat → World → Prop) (g : Nat) (fst cap : Array Value) (w : World) (eg : ∀ args w, (callFunc g args).run Tryd.prog w = .ok (.enter g args) w)
    (hs : ∀ k W, I k W → RowsAt 6 It.cells W ⟨sp, sn, sc⟩ xs) (hp : ∀ k x W, xs[k]? = some x → I k W → Calls Tryd.prog g (fst ++ #[x.enc] ++ cap) W fun e w' => e = .returned (.bool (p k x)) ∧ I (k + 1) w') (h0 : I 0 w) :
    Calls Tryd.prog 25 #[.slice sp sn sc, .func (.func g) fst cap] w fun e w' => e = .returned (.bool (xs.zipIdx.any (fun y : It × Nat => p y.2 y.1))) ∧ Aside (∃ k, I k w') := by
  have hcall := hide (idxIt_st sp sn sc xs p I g fst cap w eg hs hp h0)
  rw [← idx_nonneg]
  generalize idx (fun y : It × Nat => p y.2 y.1) xs.zipIdx = r at *
  clear hs hp
  go_enter Tryd.func25, Tryd.ntmps25
  go_wp2_with (go_at_call 47; refine hcall.out.mono ?_; rintro e w' ⟨rfl, k, hb'⟩)
  go_ret
  exact ⟨rfl, ⟨k, hb'⟩⟩
end Go.Proofs.YtfcdohaimdodgaaDoor
