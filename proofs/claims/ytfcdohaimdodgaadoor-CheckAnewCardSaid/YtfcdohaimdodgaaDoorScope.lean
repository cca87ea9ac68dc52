/-
  scope: up as an iterator over owners; Deep, Chain, Own by what the document says.
-/
import Derived.Test.YtfcdohaimdodgaaDoorNode
import Derived.Test.YtfcdohaimdodgaaDoorLeaf
import Derived.Test.YtfcdohaimdodgaaDoorRf
import Derived.Shelf.RegionOpen
import Derived.OwnWalkIn
import Derived.TacticsInMore
import Derived.LoopNIn
import Derived.LoopIn
namespace Go.Proofs.YtfcdohaimdodgaaDoor
open Go.RowKit Go.Shelf
attribute [local go_sem] Oper.semAt_some
set_option linter.unusedVariables false

def chainO (xs : List GN) (o : Int) : List Int := if 0 ≤ o then o :: chain xs o.toNat else []

theorem up_any (p : Option Addr) (n c : Nat) (i : Int) (w : World) : Calls Tryd.prog 40 #[.slice p n c, .int .i64 i] w fun e w' =>
    e = .returned (.func (.func 68) #[] #[.pointer (some ⟨w.heap.size, 0, none⟩), .pointer (some ⟨w.heap.size + 1, 0, none⟩)]) ∧ w' = (w.alloc (.cells #[.slice p n c] 34)).alloc (.cells #[.int .i64 i] 3) := by
  go_enter Tryd.func40, Tryd.ntmps40
  go_wp2
  go_ret
  exact ⟨rfl, rfl⟩

set_option maxHeartbeats 1000000 in
/-- the iterator over the owners of a place, for every body that keeps what lay ahead of the loop -/
theorem up1_stops (m lo hi B1 B2 : Nat) (p : Option Addr) (n c : Nat) (i : Nat) (xs : List GN) (w : World) (hs : NodesAt w ⟨p, n, c⟩ xs) (hr : RightN xs) (hil0 : i < xs.length)
    (hlo : ∀ b o, p = some ⟨b, o, none⟩ → b < lo) (hhi : B1 < lo ∨ hi ≤ B1) (hB1 : w.cell? ⟨B1, 0, none⟩ = some (.slice p n c)) (hB2 : w.cell? ⟨B2, 0, none⟩ = some (.int .i64 i)) (hm : 1 ≤ m) :
    SeqStopsK Fence.wide m Tryd.prog 68 #[.pointer (some ⟨B1, 0, none⟩), .pointer (some ⟨B2, 0, none⟩)] (fun x : Int => #[.int .i64 x]) (Keeps lo hi w.heap.size) (fun ys => ys = chain xs i) (fun ys => ys <+: chain xs i) (chain xs i).length w := by
  intro l J Jx W hW hJ hJx hY h0
  have hlen := hs.len
  dsimp only at hlen
  obtain ⟨x0, hx0⟩ := getElem?_of_lt hil0
  have hb1 := lt_of_cell hB1
  have hb2 := lt_of_cell hB2
  have kB1 : ∀ W', Keeps lo hi w.heap.size w W' → W'.cell? ⟨B1, 0, none⟩ = some (.slice p n c) := fun W' h => (h.cell hb1 hhi).trans hB1
  obtain ⟨b, o, hp, hblt, -⟩ := ownAt hs hx0
  subst hp
  have hblo := hlo b o rfl
  have kO : ∀ (W' : World) (k : Nat) (x : GN), Keeps lo hi w.heap.size w W' → xs[k]? = some x → W'.cell? ⟨b, o + k * 16 + 4, none⟩ = some (.int .i64 x.ow) := fun W' k x h hx => by
    obtain ⟨b', o', hp', hlt', hc'⟩ := ownAt hs hx
    obtain ⟨rfl, rfl⟩ : b = b' ∧ o = o' := by simpa using hp'
    exact (h.cell hblt (.inl hblo)).trans hc'
  have hx0o := kO W i x0 (.of_below hW) hx0
  have c1 := kB1 W (.of_below hW)
  have c2 := (hW.cell (p := ⟨B2, 0, none⟩) hb2).trans hB2
  have hin : i < n := by omega
  have hpl := fun W => callsIn_wide (n := m - 1).2 (sPlace_any (some ⟨b, o, none⟩) n c i W)
  rw [show (decide ((0 : Int) ≤ i) && decide ((i : Int) < n)) = true by simp; omega] at hpl
  have HC : Hid (chain xs i = chainO xs x0.ow) := hide (chain_eq hr hx0)
  have HN := hide hlen; clear hlen
  have hrx := hr i x0 hx0
  have hn62 := hs.big
  have hcap := hs.cap
  dsimp only at hn62 hcap
  have hil : (i : Int) < (n : Int) := by omega
  have hF1 : Fence.wide.fn 39 := trivial
  have KO := hide kO; clear kO
  have KB := hide kB1; clear kB1
  have HX0 := hide hx0; clear hx0
  refine callsIn_of_wp Tryd.func68 rfl trivial ?_ rfl
  simp only [Tryd.ntmps68, List.size_toArray, List.length_cons, List.length_nil, Nat.reduceAdd, Nat.reduceSub, Array.replicate_succ, Array.replicate_zero, List.push_toArray, List.append_toArray, List.nil_append, List.cons_append]
  gi_wp2_with (gi_at_call 39; refine (hpl _).mono ?_; rintro e w' ⟨rfl, rfl⟩)
  gi_loopw [4] (fun s4 wr => ∃ (pre : List Int) (o' : Int), s4 = .int .i64 o' ∧ Aside (chain xs i = pre ++ chainO xs o') ∧ -1 ≤ o' ∧ o' < n ∧ J pre wr ∧ Aside (Keeps lo hi w.heap.size w wr)) (fun s4 _ => (intOf s4 + 1).toNat)
  case atStart => exact ⟨[], x0.ow, rfl, HC.out, by omega, by omega, h0, (Keeps.of_below hW : Keeps lo hi w.heap.size w W)⟩
  case round =>
    obtain ⟨pre, o', rfl, HE, hlo', hhi', hJs, HB⟩ := hrel
    by_cases h : 0 ≤ o'
    · obtain ⟨x, hx⟩ := getElem?_of_lt (xs := xs) (k := o'.toNat) (by have := HN.out; omega)
      have hcO : chainO xs o' = o' :: chainO xs x.ow := by unfold chainO; rw [if_pos h, chain_eq hr hx]
      have hE := HE.out
      have hpl : pre.length < (chain xs i).length := by rw [hE, hcO]; simp
      obtain ⟨fn, tmps, assign, body, hy, hR⟩ := hY pre o' wr hJs hpl
      have hrx' := hr o'.toNat x hx
      have HE2 : Aside (chain xs i = (pre ++ [o']) ++ chainO xs x.ow) := by show _ = _; rw [hE, hcO]; simp [List.append_assoc]
      have HPre : Hid (pre ++ [o'] <+: chain xs i) := hide ⟨chainO xs x.ow, by rw [HE2]⟩
      have HX := hide hx
      clear hcO hE hpl hx
      gi_wp2
      refine hR.mono ?_
      rintro e W3 (⟨rfl, hJ3, hk3⟩ | ⟨rfl, hJx3⟩)
      · have hB3 := HB.out.trans hk3
        have c1' := KB.out W3 hB3
        have c3' := KO.out W3 o'.toNat x hB3 HX.out
        have hlt : o' < (n : Int) := hhi'
        gi_wp2
        go_roundw
        case rel => exact ⟨pre ++ [o'], x.ow, rfl, HE2, by omega, by omega, hJ3, hB3⟩
        case measure => simp [intOf]; omega
      · gi_wp2
        refine bodyPost_ret (results_none rfl _ _ _) rfl ?_
        exact ⟨⟨_, rfl⟩, .inr ⟨pre ++ [o'], HPre.out, hJx3⟩⟩
    · have hc : chainO xs o' = [] := by unfold chainO; rw [if_neg h]
      have HE2 : Hid (chain xs i = pre) := hide (by have := HE.out; rw [this, hc]; simp)
      clear hc
      gi_wp2
      go_end0
      exact ⟨⟨_, rfl⟩, .inl (by rw [HE2.out]; exact hJs)⟩
end Go.Proofs.YtfcdohaimdodgaaDoor
