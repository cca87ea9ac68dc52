/-
  Owned: the nodes of the layer's law, some of them maps; and an owner among them.
-/
import Derived.Test.YtfcdohaimdodgaaDoorNamed
import Derived.Laws.Bits64
namespace Go.Proofs.YtfcdohaimdodgaaDoor
open Go.RowKit Go.Shelf
set_option linter.unusedVariables false
theorem ext_drewN {w W : World} (h : Ext w W) (n : Nat) : Ext w (W.drewN n) := Below.trans h ⟨rfl, rfl, rfl, Nat.le_refl _, fun _ _ => rfl⟩
set_option maxHeartbeats 2000000 in
theorem owned_any (p : Option Addr) (n c : Nat) (ss : List Int) (cu : Int) (w : World) (hs : RowsAt 1 intCells w ⟨p, n, c⟩ ss) (hwf : ∀ x ∈ ss, (Lit.int .i64 x).wf = true) :
    Calls Tryd.prog 12 #[.slice p n c, .int .i64 cu] w fun e w' => ∃ v xs, ∃ i : Int, e = .returned (.tuple #[v, .int .i64 i]) ∧ w'.ownsRow w.heap.size 50 16 v xs.length (xs.flatMap GN.cells) ∧ RightF xs ∧ xs.length ≤ 60 ∧ (-1 ≤ i ∧ i < xs.length) ∧ Ext w w' := by
  have HF := hide (named_any p n c ss w hs hwf)
  have HS := hide hs
  clear hs hwf
  go_enter Tryd.func12, Tryd.ntmps12
  go_wp2_with (go_at_call 28; refine HF.out.mono ?_; rintro e w1 ⟨v, xs, rfl, ho, hr, hl, hb⟩; obtain ⟨sp, sn, sc, rfl, HL, HO, hl1, hl2⟩ := own_rows2 ho hl; have HR := hide hr; clear ho hr hl)
  go_loopg [13] sn (fun gg s13 wr => ∃ (k : Nat) (ys : List GN), k ≤ sn ∧ sn - k ≤ gg ∧ s13 = .int .i64 k ∧ Hid (wr.ownsRow w.heap.size 50 16 (.slice sp sn sc) sn (ys.flatMap GN.cells)) ∧ Hid (RightF ys) ∧ Hid (sn = ys.length) ∧ Aside (Ext w wr))
  case atStart => exact ⟨0, xs, Nat.zero_le _, by omega, rfl, HO, HR, HL, hb⟩
  case round =>
    obtain ⟨k, ys, hk, hg, rfl, HO2, HR2, HL2, BW⟩ := hrel
    by_cases hlt : k < sn
    · obtain ⟨g, cap, hv, hg0, hg1⟩ := HO2.out.form (by omega)
      cases hv
      obtain ⟨z, hz⟩ := getElem?_of_lt (xs := ss) (k := k) (by have := HS.out.len; dsimp only at this; omega)
      obtain ⟨b, o, hsp, hblt, hcell⟩ := (HS.out.below BW.out).at_ k z hz
      have c0 : wr.cell? ⟨b, o + k, none⟩ = some (.int .i64 z) := by have := hcell 0 _ rfl; simpa using this
      have hltz : (k : Int) < (sn : Int) := by omega
      have hltn : (k : Int) < (n : Int) := by omega
      dsimp only at hsp
      clear hcell hz
      subst hsp
      obtain ⟨y, hy⟩ := getElem?_of_lt (xs := ys) (k := k) (by have := HL2.out; omega)
      have hfz := HO2.out.frozenAt (k * 16 + 2)
      have hfz7 := HO2.out.frozenAt (k * 16 + 7)
      have HY := hide hy
      clear hy
      have hcl : wr.cell? ⟨g, k * 16 + 2, none⟩ = some (.int .u8 y.k) := (HO2.out.cellAt (k * 16 + 2) (by omega)).trans (flat_at HY.out rfl)
      have hcl7 : wr.cell? ⟨g, k * 16 + 7, none⟩ = some (.int .i64 y.wd) := (HO2.out.cellAt (k * 16 + 7) (by omega)).trans (flat_at HY.out rfl)
      go_wp2_with fail
      all_goals (go_roundg (sn - (k + 1)))
      all_goals first
        | omega
        | exact ⟨k + 1, _, by omega, by omega, by go_num, hide (own_kind HO2.out HY.out _ _), hide (right_kind HR2.out HY.out _ _), hide (by rw [List.length_set]; exact HL2.out), setCell_ext2 (Nat.le_refl _) BW.out HO2.out _ _ _ _⟩
        | exact ⟨k + 1, ys, by omega, by omega, by go_num, HO2, HR2, HL2, BW⟩
    · have hltz : ¬ (k : Int) < (sn : Int) := by omega
      obtain ⟨r, hrr, hrl⟩ : ∃ r : Nat, (IntKind.u64.wrap cu).tmod ((sn : Int) + 1) = r ∧ r ≤ sn := by
        have h0 : 0 ≤ IntKind.u64.wrap cu := by rw [IntKind.wrap_u64]; omega
        have h1 : 0 ≤ (IntKind.u64.wrap cu).tmod ((sn : Int) + 1) := Int.tmod_nonneg _ h0
        have h2 := Int.tmod_lt_of_pos (IntKind.u64.wrap cu) (show (0 : Int) < (sn : Int) + 1 by omega)
        exact ⟨((IntKind.u64.wrap cu).tmod ((sn : Int) + 1)).toNat, by omega, by omega⟩
      go_wp2_with fail
      go_quiet (fail)
      go_wp2
      go_ret2
      refine ⟨_, ys, (r : Int) - 1, ?_, by rw [← HL2.out]; exact HO2.out, HR2.out, by have := HL2.out; omega, by have := HL2.out; omega, ext_drewN BW.out nq⟩
      rfl
end Go.Proofs.YtfcdohaimdodgaaDoor
