/-
  Nodes as they stand in memory; owners, chains, scopes, names as the document has them (layers 16, 17). No program in sight.
-/
import Derived.Test.YtfcdohaimdodgaaDoorData
namespace Go.Proofs.YtfcdohaimdodgaaDoor
open Go.RowKit

structure GN where
  id : ByteArray
  nm : ByteArray
  k : Int
  fl : Int
  ow : Int
  at_ : Int
  af : Sl
  wd : Int
  q : Int
  st : Int
  fa : Int
  tk : Int
  vk : Int
  vn : Int
  vs : ByteArray
  vl : Sl
def GN.cells (x : GN) : List Value := [.string x.id, .string x.nm, .int .u8 x.k, .int .i64 x.fl, .int .i64 x.ow, .int .i64 x.at_, .slice x.af.p x.af.n x.af.c, .int .i64 x.wd, .int .i64 x.q, .int .u8 x.st, .int .i64 x.fa, .int .i64 x.tk, .int .u8 x.vk, .int .i64 x.vn, .string x.vs, .slice x.vl.p x.vl.n x.vl.c]
abbrev NodesAt (w : World) (s : Sl) (xs : List GN) : Prop := RowsAt 16 GN.cells w s xs
theorem GN.cells_len (x : GN) : x.cells.length = 16 := rfl

theorem nodeAt {w : World} {p : Option Addr} {n c : Nat} {xs : List GN} (h : NodesAt w ⟨p, n, c⟩ xs) {k : Nat} {x : GN} (hx : xs[k]? = some x) :
    ∃ b o, p = some ⟨b, o, none⟩ ∧ b < w.heap.size ∧ w.cell? ⟨b, o + k * 16, none⟩ = some (.string x.id) ∧ w.cell? ⟨b, o + k * 16 + 1, none⟩ = some (.string x.nm) ∧ w.cell? ⟨b, o + k * 16 + 2, none⟩ = some (.int .u8 x.k) ∧
      w.cell? ⟨b, o + k * 16 + 3, none⟩ = some (.int .i64 x.fl) ∧ w.cell? ⟨b, o + k * 16 + 4, none⟩ = some (.int .i64 x.ow) ∧ w.cell? ⟨b, o + k * 16 + 5, none⟩ = some (.int .i64 x.at_) ∧ w.cell? ⟨b, o + k * 16 + 6, none⟩ = some (.slice x.af.p x.af.n x.af.c) ∧
      w.cell? ⟨b, o + k * 16 + 7, none⟩ = some (.int .i64 x.wd) ∧ w.cell? ⟨b, o + k * 16 + 8, none⟩ = some (.int .i64 x.q) ∧ w.cell? ⟨b, o + k * 16 + 9, none⟩ = some (.int .u8 x.st) ∧ w.cell? ⟨b, o + k * 16 + 10, none⟩ = some (.int .i64 x.fa) ∧
      w.cell? ⟨b, o + k * 16 + 11, none⟩ = some (.int .i64 x.tk) ∧ w.cell? ⟨b, o + k * 16 + 12, none⟩ = some (.int .u8 x.vk) ∧ w.cell? ⟨b, o + k * 16 + 13, none⟩ = some (.int .i64 x.vn) ∧ w.cell? ⟨b, o + k * 16 + 14, none⟩ = some (.string x.vs) ∧
      w.cell? ⟨b, o + k * 16 + 15, none⟩ = some (.slice x.vl.p x.vl.n x.vl.c) := by
  obtain ⟨b, o, hp, hlt, hc⟩ := h.at_ k x hx
  exact ⟨b, o, hp, hlt, hc 0 _ rfl, hc 1 _ rfl, hc 2 _ rfl, hc 3 _ rfl, hc 4 _ rfl, hc 5 _ rfl, hc 6 _ rfl, hc 7 _ rfl, hc 8 _ rfl, hc 9 _ rfl, hc 10 _ rfl, hc 11 _ rfl, hc 12 _ rfl, hc 13 _ rfl, hc 14 _ rfl, hc 15 _ rfl⟩
/-- the owner alone -/
theorem ownAt {w : World} {p : Option Addr} {n c : Nat} {xs : List GN} (h : NodesAt w ⟨p, n, c⟩ xs) {k : Nat} {x : GN} (hx : xs[k]? = some x) :
    ∃ b o, p = some ⟨b, o, none⟩ ∧ b < w.heap.size ∧ w.cell? ⟨b, o + k * 16 + 4, none⟩ = some (.int .i64 x.ow) := by
  obtain ⟨b, o, hp, hlt, hc⟩ := h.at_ k x hx
  exact ⟨b, o, hp, hlt, hc 4 _ rfl⟩

/-- P16.1: whose owners are right -/
def RightN (xs : List GN) : Prop := ∀ (k : Nat) (x : GN), xs[k]? = some x → -1 ≤ x.ow ∧ x.ow < k ∧ (0 ≤ x.ow → ∀ (y : GN), xs[x.ow.toNat]? = some y → y.fl = x.fl)

/-- owners, the nearest one first -/
def chainF (xs : List GN) : Nat → Nat → List Int
  | 0, _ => []
  | f + 1, i => match xs[i]? with
    | some x => if 0 ≤ x.ow then x.ow :: chainF xs f x.ow.toNat else []
    | none => []
def chain (xs : List GN) (i : Nat) : List Int := chainF xs (i + 1) i
theorem chainF_eq {xs : List GN} (hr : RightN xs) : ∀ (f i : Nat), i < f → chainF xs f i = chain xs i := by
  intro f
  induction f using Nat.strongRecOn with
  | _ f ih =>
    intro i hi
    cases f with
    | zero => omega
    | succ f =>
      unfold chain
      unfold chainF
      cases hx : xs[i]? with
      | none => rfl
      | some x =>
        dsimp only
        split
        · rename_i h0
          have h := hr i x hx
          congr 1
          rw [ih f (by omega) x.ow.toNat (by omega)]
          cases Nat.lt_or_ge i f with
          | inl hlt => rw [ih i (by omega) x.ow.toNat (by omega)]
          | inr hge =>
            have : i = f := by omega
            subst this
            rw [ih i (by omega) x.ow.toNat (by omega)]
        · rfl
theorem chain_eq {xs : List GN} (hr : RightN xs) {i : Nat} {x : GN} (hx : xs[i]? = some x) : chain xs i = if 0 ≤ x.ow then x.ow :: chain xs x.ow.toNat else [] := by
  conv => lhs; unfold chain chainF
  rw [hx]
  dsimp only
  split
  · have h := hr i x hx
    rw [chainF_eq hr _ _ (by omega)]
  · rfl
theorem chain_mem {xs : List GN} (hr : RightN xs) : ∀ (i : Nat), ∀ o ∈ chain xs i, 0 ≤ o ∧ o < i ∧ (i < xs.length → o < xs.length) := by
  intro i
  induction i using Nat.strongRecOn with
  | _ i ih =>
    intro o ho
    cases hx : xs[i]? with
    | none => simp [chain, chainF, hx] at ho
    | some x =>
      rw [chain_eq hr hx] at ho
      have h := hr i x hx
      split at ho
      · rcases List.mem_cons.1 ho with rfl | ho
        · refine ⟨by omega, by omega, fun hl => by omega⟩
        · have := ih x.ow.toNat (by omega) o ho
          refine ⟨this.1, by omega, fun hl => by omega⟩
      · simp at ho
theorem chain_len {xs : List GN} (hr : RightN xs) : ∀ (i : Nat), (chain xs i).length ≤ i := by
  intro i
  induction i using Nat.strongRecOn with
  | _ i ih =>
    cases hx : xs[i]? with
    | none => simp [chain, chainF, hx]
    | some x =>
      rw [chain_eq hr hx]
      have h := hr i x hx
      split
      · have := ih x.ow.toNat (by omega)
        simp only [List.length_cons]; omega
      · simp
/-- P16.1: how deep a place is -/
def deepN (xs : List GN) (i : Int) : Int := if 0 ≤ i ∧ i < xs.length then 1 + (chain xs i.toNat).length else 0
end Go.Proofs.YtfcdohaimdodgaaDoor
