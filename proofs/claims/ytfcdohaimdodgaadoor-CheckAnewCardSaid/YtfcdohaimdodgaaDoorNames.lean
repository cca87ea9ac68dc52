/-
  names: table, owners, Seen by what the document says.
-/
import Derived.Test.YtfcdohaimdodgaaDoorChain
import Derived.Test.YtfcdohaimdodgaaDoorKeys
namespace Go.Proofs.YtfcdohaimdodgaaDoor
open Go.RowKit Go.Shelf
set_option linter.unusedVariables false

abbrev Tab := List (NK × Int) × Bool
def tabStep (s : Tab) (i : Nat) (x : GN) : Tab :=
  if (mget (x.fl, x.ow, x.nm) s.1).isSome || x.nm.size == 0 then (s.1, s.2 || !(x.nm.size == 0)) else (mput (x.fl, x.ow, x.nm) (i : Int) s.1, s.2)
def tabUpTo (xs : List GN) : Nat → Tab
  | 0 => ([], false)
  | k + 1 => match xs[k]? with
    | some x => tabStep (tabUpTo xs k) k x
    | none => tabUpTo xs k
theorem tab_succ {xs : List GN} {k : Nat} {x : GN} (hx : xs[k]? = some x) : tabUpTo xs (k + 1) = tabStep (tabUpTo xs k) k x := by
  conv => lhs; unfold tabUpTo
  rw [hx]
theorem ba_isEmpty (s : ByteArray) : s.toList.isEmpty = (s.size == 0) := by
  rw [Bool.eq_iff_iff, List.isEmpty_iff, beq_iff_eq]; exact ba_nil s
theorem ts1 {tl : List (NK × Int)} {tb : Bool} {i : Nat} {x : GN} (h : mget (x.fl, x.ow, x.nm) tl = none) (he : x.nm.toList.isEmpty = true) : tabStep (tl, tb) i x = (tl, tb) := by
  rw [ba_isEmpty] at he; simp [tabStep, h, he]
theorem ts2 {tl : List (NK × Int)} {tb : Bool} {i : Nat} {x : GN} (h : mget (x.fl, x.ow, x.nm) tl = none) (he : x.nm.toList.isEmpty = false) : tabStep (tl, tb) i x = (mput (x.fl, x.ow, x.nm) (i : Int) tl, tb) := by
  rw [ba_isEmpty] at he; simp [tabStep, h, he]
theorem ts3 {tl : List (NK × Int)} {tb : Bool} {i : Nat} {x : GN} {v : Int} (h : mget (x.fl, x.ow, x.nm) tl = some v) : tabStep (tl, tb) i x = (tl, tb || !x.nm.toList.isEmpty) := by
  simp [tabStep, h, ba_isEmpty]
theorem zeroI (w : World) : (zeroValue 3).run Tryd.prog w = .ok (.int .i64 0) w := by kernel_rfl
theorem undKM : Tryd.prog.underlying 96 = some (.map 100 3) := by kernel_rfl

set_option maxRecDepth 100000 in
set_option maxHeartbeats 1000000 in
theorem table_any (p : Option Addr) (n c : Nat) (xs : List GN) (w : World) (hs : NodesAt w ⟨p, n, c⟩ xs) :
    Calls Tryd.prog 81 #[.slice p n c] w fun e w' => e = .returned (.tuple #[.map (some w.heap.size), .bool (tabUpTo xs n).2]) ∧ MapAt nkEnc (Value.int .i64) w' w.heap.size (tabUpTo xs n).1 ∧ Ext w w' := by
  have hlen := hs.len
  have hbig := hs.big
  have hcap := hs.cap
  dsimp only at hlen hbig hcap
  have HL := hide hlen; clear hlen
  have HS := hide hs; clear hs
  have hmm := @run_makeMap Tryd.prog
  go_enter Tryd.func81, Tryd.ntmps81
  go_wp2
  go_loopg [5, 14] n (fun gg s5 s14 wr => ∃ k : Nat, k ≤ n ∧ n - k ≤ gg ∧ s14 = .int .i64 k ∧ s5 = .bool (tabUpTo xs k).2 ∧ Aside (MapAt nkEnc (Value.int .i64) wr w.heap.size (tabUpTo xs k).1) ∧ Aside (Ext w wr))
  case atStart => exact ⟨0, Nat.zero_le _, by omega, rfl, rfl, MapAt.new _ _ _, (by (repeat' (first | exact Below.refl _ _ | assumption | refine Ext.alloc ?_ _ | refine Ext.drew ?_ | refine Ext.trans ?_ (by assumption))) : Ext w _)⟩
  case round =>
    obtain ⟨k, hk, hg, rfl, rfl, HM, BW⟩ := hrel
    by_cases hlt : k < n
    · obtain ⟨x, hx⟩ := getElem?_of_lt (xs := xs) (k := k) (by have := HL.out; omega)
      obtain ⟨b, o, hsp, hblt, c0, c1, c2, c3, c4, c5, c6, c7, c8, c9, c10, c11, c12, c13, c14, c15⟩ := nodeAt (HS.out.below BW.out) hx
      have HT := hide (tab_succ hx)
      clear hx
      have hltz : (k : Int) < (n : Int) := by omega
      subst hsp
      generalize tabUpTo xs k = T at *
      obtain ⟨tl, tb⟩ := T
      cases hm : mget (x.fl, x.ow, x.nm) tl with
      | none =>
        have HG := hide hm; clear hm
        go_wp2_with (first | (at_lookup; refine wpList_lookup_at rfl (.tmp 27) (.tmp 28) 96 true rfl keyNK undKM (0 : Int) (zeroI _) w.heap.size tl rfl ((HM.out.below (Ext.alloc (Ext.alloc (Ext.refl _) _) _))) (x.fl, x.ow, x.nm) rfl ?_; rw [HG.out]; simp only [Option.getD_none, Option.isSome_none, if_true]) | (at_mapUpdate; refine wpList_mapUpdate_at rfl (.tmp 44) (.tmp 45) (.tmp 46) 96 rfl keyNK undKM w.heap.size tl rfl ((HM.out.below (Ext.alloc (Ext.alloc (Ext.refl _) _) _))) (x.fl, x.ow, x.nm) rfl (k : Int) rfl ?_; intro w2 hM2 hg2 hs2))
        · have he : x.nm.toList.isEmpty = true := by assumption
          go_roundg (n - (k + 1))
          case measure => omega
          case rel =>
            have ht := HT.out.trans (ts1 HG.out he)
            refine ⟨k + 1, by omega, by omega, by go_num, ?_, ?_, BW.out.trans (by (repeat' (first | exact Below.refl _ _ | assumption | refine Ext.alloc ?_ _ | refine Ext.drew ?_ | refine Ext.trans ?_ (by assumption))))⟩
            · go_light; rw [ht]; simp_all
            · show MapAt _ _ _ _ _; rw [ht]; exact HM.out.below (by (repeat' (first | exact Below.refl _ _ | assumption | refine Ext.alloc ?_ _ | refine Ext.drew ?_ | refine Ext.trans ?_ (by assumption))))
        · have he : x.nm.toList.isEmpty = true := by assumption
          go_roundg (n - (k + 1))
          case measure => omega
          case rel =>
            have ht := HT.out.trans (ts1 HG.out he)
            refine ⟨k + 1, by omega, by omega, by go_num, ?_, ?_, BW.out.trans (by (repeat' (first | exact Below.refl _ _ | assumption | refine Ext.alloc ?_ _ | refine Ext.drew ?_ | refine Ext.trans ?_ (by assumption))))⟩
            · go_light; rw [ht]; simp_all
            · show MapAt _ _ _ _ _; rw [ht]; exact HM.out.below (by (repeat' (first | exact Below.refl _ _ | assumption | refine Ext.alloc ?_ _ | refine Ext.drew ?_ | refine Ext.trans ?_ (by assumption))))
        · have he : x.nm.toList.isEmpty = false := by assumption
          go_roundg (n - (k + 1))
          case measure => omega
          case rel =>
            have ht := HT.out.trans (ts2 HG.out he)
            refine ⟨k + 1, by omega, by omega, by go_num, ?_, ?_, ?_⟩
            · rw [ht]
            · show MapAt _ _ _ _ _; rw [ht]; exact hM2
            · exact Below.grown (BW.out.trans (by (repeat' (first | exact Below.refl _ _ | assumption | refine Ext.alloc ?_ _ | refine Ext.drew ?_ | refine Ext.trans ?_ (by assumption))))) hg2 (Nat.le_trans BW.out.size (by simp; omega)) (fun k e => by cases e; exact Nat.le_refl _)
      | some v =>
        have HG := hide hm; clear hm
        go_wp2_with (first | (at_lookup; refine wpList_lookup_at rfl (.tmp 27) (.tmp 28) 96 true rfl keyNK undKM (0 : Int) (zeroI _) w.heap.size tl rfl ((HM.out.below (Ext.alloc (Ext.alloc (Ext.refl _) _) _))) (x.fl, x.ow, x.nm) rfl ?_; rw [HG.out]; simp only [Option.getD_some, Option.isSome_some, if_true]))
        all_goals (go_roundg (n - (k + 1)))
        case measure => omega
        case measure => omega
        all_goals (have ht := HT.out.trans (ts3 HG.out); refine ⟨k + 1, by omega, by omega, by go_num, ?_, ?_, BW.out.trans (by (repeat' (first | exact Below.refl _ _ | assumption | refine Ext.alloc ?_ _ | refine Ext.drew ?_ | refine Ext.trans ?_ (by assumption))))⟩)
        · go_light; rw [ht]; simp_all
        · show MapAt _ _ _ _ _; rw [ht]; exact HM.out.below (by (repeat' (first | exact Below.refl _ _ | assumption | refine Ext.alloc ?_ _ | refine Ext.drew ?_ | refine Ext.trans ?_ (by assumption))))
        · go_light; rw [ht]; simp_all
        · show MapAt _ _ _ _ _; rw [ht]; exact HM.out.below (by (repeat' (first | exact Below.refl _ _ | assumption | refine Ext.alloc ?_ _ | refine Ext.drew ?_ | refine Ext.trans ?_ (by assumption))))
    · have hltz : ¬ (k : Int) < (n : Int) := by omega
      have hkn : k = n := by omega
      subst hkn
      go_wp2
      go_ret2
      exact ⟨rfl, HM.out, BW.out⟩
end Go.Proofs.YtfcdohaimdodgaaDoor
