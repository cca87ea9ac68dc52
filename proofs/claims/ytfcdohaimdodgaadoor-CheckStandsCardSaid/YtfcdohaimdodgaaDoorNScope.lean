/-
  names.Scope: who lies in one's own scope.
-/
import Derived.Test.YtfcdohaimdodgaaDoorOwnS
import Derived.Test.YtfcdohaimdodgaaDoorSeen
import Derived.StillTailTactics
namespace Go.Proofs.YtfcdohaimdodgaaDoor
open Go.RowKit Go.Shelf
set_option linter.unusedVariables false
set_option maxHeartbeats 2000000 in
set_option maxRecDepth 4000 in
theorem nscope_any (p : Option Addr) (n c : Nat) (i : Nat) (xs : List GN) (x : GN) (w : World) (hs : NodesAt w ⟨p, n, c⟩ xs) (hx : xs[i]? = some x) (hl : n ≤ 1000000) :
    Calls Tryd.prog 21 #[.slice p n c, .int .i64 i] w fun e w' => ∃ v, e = .returned v ∧ ∃ l, w'.ownsRow w.heap.size 3 1 v l.length (l.flatMap intCells) ∧ InOwn xs x.fl x.ow n l ∧ Ext w w' := by
  have hlen := hs.len
  dsimp only at hlen
  have hi : i < n := by rw [hlen]; exact (List.getElem?_eq_some_iff.1 hx).1
  have hiz : (i : Int) < (n : Int) := by omega
  clear hlen
  have HP := hide (fun W => nPlace_any p n c i W)
  have HO := hide (fun (W : World) (h : Ext w W) => own_any p n c x.fl x.ow xs W (hs.below h) hl)
  obtain ⟨b, o, hsp, hblt, c0, c1, c2, c3, c4, c5, c6, c7, c8, c9, c10, c11, c12, c13, c14, c15⟩ := nodeAt hs hx
  clear c0 c1 c2 c5 c6 c7 c8 c9 c10 c11 c12 c13 c14 c15 hs hx
  subst hsp
  go_enter Tryd.func21, Tryd.ntmps21
  go_wp2_with (go_at_call 42; refine (HP.out _).mono ?_; rintro e w1 ⟨rfl, rfl⟩)
  go_still_tail 11, (by kernel_rfl)
  change wpList _ _ _ _ _ w.drew
  have hd : Ext w w.drew := Ext.drew (Ext.refl w)
  generalize w.drew = w2 at *
  go_wp2_with (go_at_call 43; refine (HO.out _ hd).mono ?_; rintro e w3 ⟨v, rfl, l, ho, hin, hb⟩)
  go_ret
  exact ⟨v, rfl, l, owns_mono ho hd.size, hin, hd.trans hb⟩
end Go.Proofs.YtfcdohaimdodgaaDoor
