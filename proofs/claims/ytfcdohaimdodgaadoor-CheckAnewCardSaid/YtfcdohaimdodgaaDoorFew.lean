/-
  Few of layer 09's law: it answers, and leaves all as it was.
-/
import Derived.Test.YtfcdohaimdodgaaDoorLeaf
namespace Go.Proofs.YtfcdohaimdodgaaDoor
open Go.RowKit Go.Shelf
set_option linter.unusedVariables false
def IsBool (v : Value) : Prop := ∃ b, v = .bool b
set_option maxHeartbeats 4000000 in
set_option maxRecDepth 4000 in
theorem few_any (p : Option Addr) (n c : Nat) (its : List It) (w : World) (hs : ItemsAt w ⟨p, n, c⟩ its) :
    Calls Tryd.prog 13 #[.slice p n c] w fun e w' => ∃ v, e = .returned v ∧ IsBool v ∧ Ext w w' := by
  have HS := hide hs
  have HN : Hid (n = its.length) := hide hs.rows.len
  have hbig : n ≤ 9223372036854775807 := Nat.le_trans hs.rows.cap hs.rows.big
  clear hs
  go_enter Tryd.func13, Tryd.ntmps13
  go_wp2
  go_loopg [9] n (fun gg s9 wr => ∃ k : Nat, k ≤ n ∧ n - k ≤ gg ∧ s9 = .int .i64 k ∧ Aside (Ext w wr))
  case atStart => exact ⟨0, Nat.zero_le _, by omega, rfl, Ext.refl _⟩
  case round =>
    obtain ⟨k, hk, hg, rfl, BW⟩ := hrel
    have BE := BW.out
    by_cases hlt : k < n
    · obtain ⟨x, hx⟩ := getElem?_of_lt (xs := its) (k := k) (by have := HN.out; omega)
      obtain ⟨b, o, hsp, hblt, c0, c1, c2, c3, c4, c5⟩ := ItemsAt.cells' (HS.out.below BW.out).rows hx
      have HOK := hide (HS.out.ok x (List.mem_of_getElem? hx))
      have hltz : (k : Int) < (n : Int) := by omega
      obtain ⟨⟨nm, kd, names, ov, wid, q0⟩, ⟨sp, sn, sc⟩⟩ := x
      dsimp only at c0 c1 c2 c3 c4 c5
      clear hx
      subst hsp
      go_wp2_with fail
      all_goals first | (go_ret; exact ⟨_, rfl, ⟨_, rfl⟩, by (repeat' (first | exact Below.refl _ _ | assumption | refine Ext.alloc ?_ _ | refine Ext.drew ?_ | refine Ext.trans ?_ (by assumption)))⟩) | skip
      go_loopg [32] sn (fun gg s32 wi => ∃ v : Nat, v ≤ sn ∧ sn - v ≤ gg ∧ s32 = .int .i64 v ∧ Aside (Ext w wi))
      case atStart => exact ⟨0, Nat.zero_le _, by omega, rfl, by (repeat' (first | exact Below.refl _ _ | assumption | refine Ext.alloc ?_ _ | refine Ext.drew ?_ | refine Ext.trans ?_ (by assumption)))⟩
      case round =>
        obtain ⟨v, hv, hgv, rfl, BI⟩ := hrel
        have BJ := BI.out
        by_cases hvlt : v < sn
        · obtain ⟨y, hy⟩ := getElem?_of_lt (xs := names) (k := v) (by have := HOK.out.len; dsimp only at this; omega)
          obtain ⟨b2, o2, hsp2, hblt2, hcell2⟩ := (RowsAt.below HOK.out BJ).at_ v y hy
          have c0' : wr.cell? ⟨b2, o2 + v, none⟩ = some (.string y) := by have := hcell2 0 _ rfl; simpa using this
          have hvz : (v : Int) < (sn : Int) := by omega
          dsimp only at hsp2
          clear hcell2 hy
          subst hsp2
          go_wp2_with fail
          all_goals first | (go_ret; exact ⟨_, rfl, ⟨_, rfl⟩, by (repeat' (first | exact Below.refl _ _ | assumption | refine Ext.alloc ?_ _ | refine Ext.drew ?_ | refine Ext.trans ?_ (by assumption)))⟩) | skip
          go_roundg (sn - (v + 1))
          case measure => omega
          case rel => exact ⟨v + 1, by omega, by omega, by go_num, BI⟩
        · have hvz : ¬ (v : Int) < (sn : Int) := by omega
          go_wp2_with fail
          go_roundg (n - (k + 1))
          case measure => omega
          case rel => exact ⟨k + 1, by omega, by omega, by go_num, BI⟩
    · have hltz : ¬ (k : Int) < (n : Int) := by omega
      go_wp2_with fail
      all_goals go_ret
      all_goals exact ⟨_, rfl, ⟨_, rfl⟩, BE⟩
end Go.Proofs.YtfcdohaimdodgaaDoor
