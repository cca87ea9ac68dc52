/-
  A mask over an int of either sign.
-/
import Derived.Test.YtfcdohaimdodgaaDoorBase
import Derived.Laws.BitsLemmas
namespace Go.Proofs.YtfcdohaimdodgaaDoor
open Go.RowKit
theorem and_mask (x : Int) (m : Nat) (hm : m < 4611686018427387904) : 0 ≤ bits .and .i64 x m ∧ bits .and .i64 x m ≤ m := by
  have h1 : (BitVec.ofInt 64 (m : Int)).toNat = m := by
    rw [BitVec.toNat_ofInt]
    omega
  have h2 : ((BitVec.ofInt 64 x) &&& (BitVec.ofInt 64 (m : Int))).toNat ≤ m := by
    rw [BitVec.toNat_and, h1]
    exact Nat.and_le_right
  have h3 : bits .and .i64 x m = IntKind.i64.wrap (((BitVec.ofInt 64 x) &&& (BitVec.ofInt 64 (m : Int))).toNat : Int) := rfl
  rw [h3, IntKind.wrap_i64]
  generalize ((BitVec.ofInt 64 x) &&& (BitVec.ofInt 64 (m : Int))).toNat = k at *
  omega
end Go.Proofs.YtfcdohaimdodgaaDoor
