/-
  names: owners, Seen by what the document says.
-/
import Derived.Test.YtfcdohaimdodgaaDoorNames
namespace Go.Proofs.YtfcdohaimdodgaaDoor
open Go.RowKit Go.Shelf
set_option linter.unusedVariables false
set_option linter.unusedSimpArgs false

theorem nPlace_any (p : Option Addr) (n c : Nat) (i : Int) (w : World) : Calls Tryd.prog 42 #[.slice p n c, .int .i64 i] w fun e w' => e = .returned (.bool (decide (0 ≤ i) && decide (i < n))) ∧ w = w' := by
  go_enter Tryd.func42, Tryd.ntmps42
  go_wp2
  all_goals go_ret
  all_goals (refine ⟨ret_bool ?_, rfl⟩; simp; try omega)
set_option maxHeartbeats 400000 in
theorem owners_any (p : Option Addr) (n c : Nat) (i : Nat) (xs : List GN) (w : World) (hs : NodesAt w ⟨p, n, c⟩ xs) (hr : RightN xs) (hil0 : i < xs.length) (hxl : xs.length ≤ 1000000) :
    Calls Tryd.prog 82 #[.slice p n c, .int .i64 i] w fun e w' => ∃ s : Sl, e = .returned (.slice s.p s.n s.c) ∧ RowsAt 1 intCells w' s (chain xs i ++ [-1]) ∧ Ext w w' := by
  have H := hide (chain_yes p n c i xs w hs hr hil0 hxl)
  have hcl := chain_len hr i
  obtain ⟨i0, hi, hz0, hz1, hz2⟩ := info_parts infoInt
  clear hs
  go_enter Tryd.func82, Tryd.ntmps82
  go_wp2_with (first | (go_at_call 20; refine H.out.mono ?_; rintro e w1 ⟨v, rfl, ho, hb⟩) | (at_builtin; refine wpList_append_own _ rfl _ _ 33 rfl w.heap.size 3 i0 (.int .i64 0) 1 8 Tryd.underlying33 hi hz0 hz1 hz2 rfl (by decide) _ _ _ rfl (ho.alloc _) ⟨w1.heap.size, 0, none⟩ 1 1 [.int .i64 (-1)] rfl rfl (cell_one_new _ _ _) (by simp [Value.oneCell']) (by unfold maxLen; omega) (by omega) (by have := hb.size; simp; omega) ?_; intro v' w2 hown' hgrow _))
  go_ret
  have ho2 : w2.ownsRow w.heap.size 3 1 v' (chain xs i ++ [-1]).length ((chain xs i ++ [-1]).flatMap intCells) := by simpa [intCells] using hown'
  obtain ⟨s, rfl, hr2, -⟩ := RowsAt.of_owns intCells_len ho2
  refine ⟨s, rfl, hr2, Below.grown (hb.alloc _) hgrow (by have := hb.size; simp; omega) ?_⟩
  intro k hk
  obtain ⟨-, ⟨rfl, -⟩ | ⟨g, cap, cur, rfl, hg, -⟩⟩ := ho
  · cases hk
  · cases hk; exact hg

/-- the first place of a name in a scope -/
def firstOf (xs : List GN) (fl ow : Int) (nm : ByteArray) : Option Nat := if nm.size = 0 then none else xs.findIdx? (fun x => decide (x.fl = fl) && decide (x.ow = ow) && decide (x.nm = nm))
/-- the first one of a name in some scopes, or -1 -/
def seenL (xs : List GN) (fl : Int) (nm : ByteArray) : List Int → Int
  | [] => -1
  | o :: r => match firstOf xs fl o nm with
    | some k => k
    | none => seenL xs fl nm r
/-- P17.1: who is seen, or -1 -/
def seenN (xs : List GN) (i : Int) (nm : ByteArray) : Int := if 0 ≤ i then (match xs[i.toNat]? with | some x => seenL xs x.fl nm (chain xs i.toNat ++ [-1]) | none => -1) else -1
theorem firstOf_snoc (l : List GN) (x : GN) (fl ow : Int) (nm : ByteArray) : firstOf (l ++ [x]) fl ow nm = if nm.size = 0 then none else match firstOf l fl ow nm with
    | some j => some j
    | none => if (x.fl = fl ∧ x.ow = ow ∧ x.nm = nm) then some l.length else none := by
  unfold firstOf
  split
  · rfl
  · rw [List.findIdx?_append]
    cases List.findIdx? (fun x : GN => decide (x.fl = fl) && decide (x.ow = ow) && decide (x.nm = nm)) l with
    | some j => rfl
    | none =>
      by_cases h : x.fl = fl ∧ x.ow = ow ∧ x.nm = nm
      · simp [h.1, h.2.1, h.2.2]
      · rw [if_neg h]
        have : (decide (x.fl = fl) && decide (x.ow = ow) && decide (x.nm = nm)) = false := by
          simp; intro h1 h2 h3; exact h ⟨h1, h2, h3⟩
        simp [List.findIdx?_cons, this]
theorem tab_first (xs : List GN) : ∀ k, k ≤ xs.length → ∀ (fl ow : Int) (nm : ByteArray), mget (fl, ow, nm) (tabUpTo xs k).1 = (firstOf (xs.take k) fl ow nm).map (fun j => (j : Int)) := by
  intro k
  induction k with
  | zero => intro _ fl ow nm; simp [tabUpTo, mget, firstOf]
  | succ k ih =>
    intro hk fl ow nm
    obtain ⟨x, hx⟩ := getElem?_of_lt (xs := xs) (k := k) (by omega)
    have ih := ih (by omega)
    have hlen : (xs.take k).length = k := by simp; omega
    rw [tab_succ hx, take_snoc hx, firstOf_snoc, hlen]
    have h0 := ih fl ow nm
    have hx0 := ih x.fl x.ow x.nm
    generalize tabUpTo xs k = T at *
    by_cases hn : nm.size = 0
    · have hf : firstOf (xs.take k) fl ow nm = none := by simp [firstOf, hn]
      rw [hf] at h0
      rw [if_pos hn]
      unfold tabStep
      split
      · exact h0
      · rename_i hc
        dsimp only
        rw [mget_mput, h0]
        split
        · rename_i he
          cases he
          simp [hn] at hc
        · rfl
    · rw [if_neg hn]
      by_cases hkey : x.fl = fl ∧ x.ow = ow ∧ x.nm = nm
      · obtain ⟨rfl, rfl, rfl⟩ := hkey
        cases hf : firstOf (xs.take k) x.fl x.ow x.nm with
        | some j =>
          rw [hf] at h0
          simp [tabStep, h0]
        | none =>
          rw [hf] at h0
          simp [tabStep, h0, hn, mget_mput]
      · rw [if_neg hkey]
        have : mget (fl, ow, nm) (tabStep T k x).1 = mget (fl, ow, nm) T.1 := by
          unfold tabStep
          split
          · rfl
          · dsimp only
            rw [mget_mput, if_neg]
            intro he
            cases he
            exact hkey ⟨rfl, rfl, rfl⟩
        rw [this, h0]
        cases firstOf (xs.take k) fl ow nm <;> rfl
theorem seenL_ge (xs : List GN) (fl : Int) (nm : ByteArray) (l : List Int) : -1 ≤ seenL xs fl nm l := by
  induction l with
  | nil => simp [seenL]
  | cons o r ih => unfold seenL; split <;> omega
/-- what Seen answers -/
def seenR (s : Int) : Value := .tuple #[.int .i64 (if 0 ≤ s then s else 0), .bool (decide (0 ≤ s))]
set_option maxRecDepth 100000 in
set_option maxHeartbeats 1000000 in
theorem seen_yes (p : Option Addr) (n c : Nat) (i : Nat) (nm : ByteArray) (xs : List GN) (w : World) (hs : NodesAt w ⟨p, n, c⟩ xs) (hr : RightN xs) (hil0 : i < xs.length) (hxl : xs.length ≤ 1000000) :
    Calls Tryd.prog 65 #[.slice p n c, .int .i64 i, .string nm] w fun e w' => e = .returned (seenR (seenN xs i nm)) ∧ Ext w w' := by
  obtain ⟨x0, hx0⟩ := getElem?_of_lt hil0
  have hlen := hs.len
  have hbig := hs.big
  have hcap := hs.cap
  dsimp only at hlen hbig hcap
  have hpl := fun W => nPlace_any p n c i W
  rw [show (decide ((0 : Int) ≤ i) && decide ((i : Int) < n)) = true by simp; omega] at hpl
  have HP := hide hpl; clear hpl
  have HT := hide (fun (W : World) (hb : Ext w W) => table_any p n c xs W (hs.below hb))
  have HO := hide (fun (W : World) (hb : Ext w W) => owners_any p n c i xs W (hs.below hb) hr hil0 hxl)
  have HE : Hid (seenN xs i nm = seenL xs x0.fl nm (chain xs i ++ [-1])) := by
    apply hide; unfold seenN; rw [if_pos (by omega)]; simp [hx0]
  have hTF := tab_first xs xs.length (Nat.le_refl _)
  rw [List.take_length, ← hlen] at hTF
  have HF := hide hTF; clear hTF
  have HL := hide hlen
  have hin : (i : Int) < (n : Int) := by omega
  have hnl : n ≤ 1000000 := by omega
  have hcl := chain_len hr i
  clear hlen
  have HS := hide hs; clear hs
  obtain ⟨b, o, hsp, hblt, -⟩ := nodeAt HS.out hx0
  subst hsp
  have HX := hide hx0; clear hx0
  generalize seenN xs i nm = S at *
  go_enter Tryd.func65, Tryd.ntmps65
  go_wp2_with (first | (go_at_call 42; refine (HP.out _).mono ?_; rintro e w' ⟨rfl, rfl⟩) | (go_at_call 81; refine (HT.out _ (by (repeat' (first | exact Below.refl _ _ | assumption | refine Ext.alloc ?_ _ | refine Ext.drew ?_ | refine Ext.trans ?_ (by assumption))))).mono ?_; rintro e w1 ⟨rfl, hm1, hb1⟩) | (go_at_call 82; refine (HO.out _ (by (repeat' (first | exact Below.refl _ _ | assumption | refine Ext.alloc ?_ _ | refine Ext.drew ?_ | refine Ext.trans ?_ (by assumption))))).mono ?_; rintro e w2 ⟨⟨sp, sn, sc⟩, rfl, hr2, hb2⟩))
  have hsl := hr2.len
  have hsb := hr2.big
  have hsc := hr2.cap
  dsimp only at hsl hsb hsc
  have HSL := hide hsl; clear hsl
  have hB2 : Ext w w2 := by (repeat' (first | exact Below.refl _ _ | assumption | refine Ext.alloc ?_ _ | refine Ext.drew ?_ | refine Ext.trans ?_ (by assumption)))
  have hM2 := hide (hm1.below hb2)
  obtain ⟨b', o', hsp', hblt', d0, d1, d2, d3, d4, d5, d6, d7, d8, d9, d10, d11, d12, d13, d14, d15⟩ := nodeAt (HS.out.below hB2) HX.out
  obtain ⟨rfl, rfl⟩ : b = b' ∧ o = o' := by simpa using hsp'
  clear hsp' d0 d1 d2 d4 d5 d6 d7 d8 d9 d10 d11 d12 d13 d14 d15 hm1
  have HR := hide hr2; clear hr2
  go_loop [27] (fun s27 => ∃ k : Nat, k ≤ sn ∧ s27 = .int .i64 k ∧ Aside (S = seenL xs x0.fl nm ((chain xs i ++ [-1]).drop k))) (fun s27 => sn - (intOf s27).toNat)
  case atStart => exact ⟨0, Nat.zero_le _, rfl, HE.out⟩
  case round =>
    obtain ⟨k, hk, rfl, HS2⟩ := hrel
    by_cases hlt : k < sn
    · obtain ⟨y, hy⟩ := getElem?_of_lt (xs := chain xs i ++ [-1]) (k := k) (by have := HSL.out; omega)
      obtain ⟨b3, o3, hsp3, hblt3, e0⟩ := intAt HR.out hy
      have hdrop : (chain xs i ++ [-1]).drop k = y :: (chain xs i ++ [-1]).drop (k + 1) := by
        rw [List.drop_eq_getElem_cons (by have := HSL.out; omega)]
        congr 1
        rw [List.getElem?_eq_getElem (by have := HSL.out; omega)] at hy
        exact Option.some.inj hy
      have hkz : (k : Int) < (sn : Int) := by omega
      clear hy
      subst hsp3
      have hg := HF.out x0.fl y nm
      have h2 := HS2.out
      rw [hdrop] at h2
      unfold seenL at h2
      clear hdrop
      cases hfo : firstOf xs x0.fl y nm with
      | none =>
        rw [hfo] at hg h2
        have HG := hide hg; clear hg
        have H2 := hide h2; clear h2 hfo
        go_wp2_with (at_lookup; refine wpList_lookup_at rfl (.tmp 32) (.tmp 40) 96 true rfl keyNK undKM (0 : Int) (zeroI _) w.heap.size _ rfl hM2.out (x0.fl, y, nm) rfl ?_; rw [HG.out]; simp only [Option.map_none, Option.getD_none, Option.isSome_none, if_true])
        go_round
        case rel => exact ⟨k + 1, by omega, by go_num, H2.out⟩
        case measure => simp [intOf]; omega
      | some j =>
        rw [hfo] at hg h2
        have HG := hide hg; clear hg
        have H2 := hide h2; clear h2 hfo
        go_wp2_with (at_lookup; refine wpList_lookup_at rfl (.tmp 32) (.tmp 40) 96 true rfl keyNK undKM (0 : Int) (zeroI _) w.heap.size _ rfl hM2.out (x0.fl, y, nm) rfl ?_; rw [HG.out]; simp only [Option.map_some, Option.getD_some, Option.isSome_some, if_true])
        go_ret2
        have := H2.out
        refine ⟨?_, hB2⟩
        rw [this]
        simp [seenR]
    · have hkz : ¬ (k : Int) < (sn : Int) := by omega
      have H2 : Hid (S = -1) := by
        apply hide
        rw [HS2.out, List.drop_of_length_le (by have := HSL.out; omega)]; rfl
      go_wp2
      go_ret2
      refine ⟨?_, hB2⟩
      rw [H2.out]
      rfl
theorem seen_any (p : Option Addr) (n c : Nat) (i : Int) (nm : ByteArray) (xs : List GN) (w : World) (hs : NodesAt w ⟨p, n, c⟩ xs) (hr : RightN xs) (hi : 0 ≤ i ∧ i < n) (hxl : xs.length ≤ 1000000) :
    Calls Tryd.prog 65 #[.slice p n c, .int .i64 i, .string nm] w fun e w' => e = .returned (seenR (seenN xs i nm)) ∧ Ext w w' := by
  have hl : n = xs.length := hs.len
  obtain ⟨k, rfl⟩ := Int.eq_ofNat_of_zero_le hi.1
  exact seen_yes p n c k nm xs w hs hr (by omega) hxl
theorem seen_hit (p : Option Addr) (n c : Nat) (i : Int) (nm : ByteArray) (xs : List GN) (w : World) (hs : NodesAt w ⟨p, n, c⟩ xs) (hr : RightN xs) (hi : 0 ≤ i ∧ i < n) (hxl : xs.length ≤ 1000000) (h : 0 ≤ seenN xs i nm) :
    Calls Tryd.prog 65 #[.slice p n c, .int .i64 i, .string nm] w fun e w' => e = .returned (.tuple #[.int .i64 (seenN xs i nm), .bool true]) ∧ Ext w w' := by
  refine (seen_any p n c i nm xs w hs hr hi hxl).mono ?_
  rintro e w' ⟨rfl, hb⟩
  exact ⟨by simp [seenR, h], hb⟩
theorem seen_miss (p : Option Addr) (n c : Nat) (i : Int) (nm : ByteArray) (xs : List GN) (w : World) (hs : NodesAt w ⟨p, n, c⟩ xs) (hr : RightN xs) (hi : 0 ≤ i ∧ i < n) (hxl : xs.length ≤ 1000000) (h : seenN xs i nm < 0) :
    Calls Tryd.prog 65 #[.slice p n c, .int .i64 i, .string nm] w fun e w' => e = .returned (.tuple #[.int .i64 0, .bool false]) ∧ Ext w w' := by
  refine (seen_any p n c i nm xs w hs hr hi hxl).mono ?_
  rintro e w' ⟨rfl, hb⟩
  have h2 : ¬ 0 ≤ seenN xs i nm := by omega
  exact ⟨by simp [seenR, h2], hb⟩
end Go.Proofs.YtfcdohaimdodgaaDoor
