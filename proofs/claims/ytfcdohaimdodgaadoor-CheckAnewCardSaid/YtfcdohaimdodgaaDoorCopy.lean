/-
  frag.Copy: items in memory of their own, each After in a row of its own, apart from all others.
-/
import Derived.Test.YtfcdohaimdodgaaDoorPre
namespace Go.Proofs.YtfcdohaimdodgaaDoor
open Go.RowKit Go.Shelf
set_option linter.unusedVariables false
theorem own_type {w : World} {b1 b2 : Nat} {e1 e2 : TypeId} {s1 s2 n1 n2 : Nat} {v1 v2 : Value} {c1 c2 : List Value} (h1 : w.ownsRow b1 e1 s1 v1 n1 c1) (h2 : w.ownsRow b2 e2 s2 v2 n2 c2) (hne : e1 ≠ e2) : v1.ownBlock = none ∨ v1.ownBlock ≠ v2.ownBlock := by
  rcases h1.2 with ⟨rfl, _⟩ | ⟨g, cap, cur, rfl, _, hg, _⟩
  · exact .inl rfl
  · right
    rcases h2.2 with ⟨rfl, _⟩ | ⟨g', cap', cur', rfl, _, hg', _⟩
    · simp [Value.ownBlock]
    · simp only [Value.ownBlock]
      intro e
      cases e
      rw [hg] at hg'
      cases hg'
      exact hne rfl
theorem own_far {w : World} {b1 b2 : Nat} {e1 e2 : TypeId} {s1 s2 n1 n2 g n c : Nat} {v1 : Value} {c1 c2 : List Value} (h1 : w.ownsRow b1 e1 s1 v1 n1 c1) (h2 : w.ownsRow b2 e2 s2 (.slice (some ⟨g, 0, none⟩) n c) n2 c2) (hne : e1 ≠ e2) : v1.ownBlock = none ∨ v1.ownBlock ≠ some g := own_type h1 h2 hne
def afv (y : It) : Value := .slice y.af.p y.af.n y.af.c
/-- items in a row of the call's own; the Afters of the first k of them in rows of their own, apart -/
structure OwnIt (W : World) (base : Nat) (v : Value) (ys : List It) (k : Nat) : Prop where
  row : W.ownsRow base 27 6 v ys.length (ys.flatMap It.cells)
  strs : ∀ (j : Nat) (y : It), j < k → ys[j]? = some y → W.ownsRow base 9 1 (afv y) y.d.names.length (y.d.names.flatMap strCells) ∧ y.af.n = y.d.names.length
  apart : ∀ (j j' : Nat) (y y' : It), j < k → j' < k → j ≠ j' → ys[j]? = some y → ys[j']? = some y' → (afv y).ownBlock = none ∨ (afv y).ownBlock ≠ (afv y').ownBlock
theorem OwnIt.below {W W' : World} {base k : Nat} {v : Value} {ys : List It} (h : OwnIt W base v ys k) (hb : Ext W W') : OwnIt W' base v ys k :=
  ⟨owns_below h.row hb, fun j y hj hy => ⟨owns_below (h.strs j y hj hy).1 hb, (h.strs j y hj hy).2⟩, h.apart⟩
theorem set_at {α : Type} {ys : List α} {k j : Nat} {x y : α} (h : (ys.set k x)[j]? = some y) : (j = k ∧ y = x) ∨ (j ≠ k ∧ ys[j]? = some y) := by
  rw [List.getElem?_set] at h
  split at h
  · rename_i e
    split at h
    · cases h; exact .inl ⟨e.symm, rfl⟩
    · cases h
  · rename_i e
    exact .inr ⟨fun e' => e e'.symm, h⟩
theorem OwnIt.step {wr w1 W' : World} {base g n cap k : Nat} {ys : List It} {y : It} {s : Sl} (h : OwnIt wr base (.slice (some ⟨g, 0, none⟩) n cap) ys k) (hb : Ext wr w1) (hy : ys[k]? = some y) (hbase : base ≤ wr.heap.size)
    (hv : w1.ownsRow wr.heap.size 9 1 (.slice s.p s.n s.c) y.d.names.length (y.d.names.flatMap strCells)) (hs : s.n = y.d.names.length) (hr : W'.ownsRow base 27 6 (.slice (some ⟨g, 0, none⟩) n cap) n ((ys.set k ⟨y.d, s⟩).flatMap It.cells)) (hn : n = ys.length) (hg : w1.grownBy W' (some g)) :
    OwnIt W' base (.slice (some ⟨g, 0, none⟩) n cap) (ys.set k ⟨y.d, s⟩) (k + 1) := by
  have hrow1 := owns_below h.row hb
  have hne : (9 : TypeId) ≠ 27 := by decide
  refine ⟨by rw [List.length_set, ← hn]; exact hr, fun j z hj hz => ?_, fun j j' z z' hj hj' hjj hz hz' => ?_⟩
  · rcases set_at hz with ⟨rfl, rfl⟩ | ⟨h1, h2⟩
    · exact ⟨(owns_mono hv hbase).kept hg (own_far hv hrow1 hne), hs⟩
    · have h3 := h.strs j z (by omega) h2
      have h4 := owns_below h3.1 hb
      exact ⟨h4.kept hg (own_far h4 hrow1 hne), h3.2⟩
  · rcases set_at hz with ⟨rfl, rfl⟩ | ⟨h1, h2⟩
    · rcases set_at hz' with ⟨rfl, rfl⟩ | ⟨h3, h4⟩
      · exact absurd rfl hjj
      · have h5 := (h.strs j' z' (by omega) h4).1.lt
        have h6 := hv.lt
        show (Value.slice s.p s.n s.c).ownBlock = none ∨ (Value.slice s.p s.n s.c).ownBlock ≠ _
        cases hx : (Value.slice s.p s.n s.c).ownBlock with
        | none => exact .inl rfl
        | some b =>
          right
          intro e
          have := h5 b e.symm
          have := h6 b hx
          omega
    · rcases set_at hz' with ⟨rfl, rfl⟩ | ⟨h3, h4⟩
      · have h5 := (h.strs j z (by omega) h2).1.lt
        have h6 := hv.lt
        show _ ∨ _ ≠ (Value.slice s.p s.n s.c).ownBlock
        cases hx : (afv z).ownBlock with
        | none => exact .inl rfl
        | some b =>
          right
          intro e
          have := h5 b hx
          have := h6 b e.symm
          omega
      · exact h.apart j j' z z' (by omega) (by omega) hjj h2 h4
theorem sStrs : (Tryd.prog.info? 25).map (·.size) = some 1 := by kernel_rfl
theorem itemOf_set {ys : List It} {k : Nat} {y : It} {s : Sl} (hy : ys[k]? = some y) : itemOf (ys.set k ⟨y.d, s⟩) = itemOf ys := by
  unfold itemOf
  apply List.ext_getElem?
  intro i
  rw [List.getElem?_map, List.getElem?_map, List.getElem?_set]
  split
  · rename_i e
    subst e
    rw [if_pos (List.getElem?_eq_some_iff.1 hy).1, hy]
    rfl
  · rfl
theorem own_items_form {W : World} {base n : Nat} {v : Value} {ys : List It} (hn : n = ys.length) (h : W.ownsRow base 27 6 v n (ys.flatMap It.cells)) : ∃ (sp : Option Addr) (sn sc : Nat), v = .slice sp sn sc ∧ Hid (sn = ys.length) ∧ Hid (RowsAt 6 It.cells W ⟨sp, sn, sc⟩ ys) := by
  subst hn
  obtain ⟨⟨sp, sn, sc⟩, h1, h2, _⟩ := RowsAt.of_owns It.cells_len h
  exact ⟨sp, sn, sc, h1, hide h2.len, hide h2⟩
/-- what Copy hands back -/
def CopyPost (its : List It) (w : World) (e : Ending) (w' : World) : Prop := ∃ (sp : Option Addr) (sn sc : Nat) (ys : List It), e = .returned (.slice sp sn sc) ∧ sn = ys.length ∧ itemOf ys = itemOf its ∧ OwnIt w' w.heap.size (.slice sp sn sc) ys ys.length ∧ Ext w w'
set_option maxHeartbeats 2000000 in
set_option maxRecDepth 4000 in
theorem copy_any (p : Option Addr) (n c : Nat) (its : List It) (w : World) (hs : ItemsAt w ⟨p, n, c⟩ its) (hl : n ≤ 1000) (hnl : ∀ x ∈ its, x.d.names.length ≤ 1000) :
    Calls Tryd.prog 23 #[.slice p n c] w (CopyPost its w) := by
  have HS := hide hs
  have HN : Hid (n = its.length) := hide hs.rows.len
  have HNL := hide hnl
  clear hs hnl
  have HC := hide (cloneIt_any p n c its w HS.out.rows hl)
  go_enter Tryd.func23, Tryd.ntmps23
  go_wp2_with (go_at_call 45; refine HC.out.mono ?_; rintro e w1 ⟨v, rfl, ho, hb⟩; obtain ⟨sp, sn, sc, rfl, HL, HR⟩ := own_items_form HN.out ho; have HO := hide ho; clear ho)
  have hsn : sn ≤ 1000 := by have := HL.out; have := HN.out; omega
  go_loopg [9] sn (fun gg s9 wr => ∃ (k : Nat) (ys : List It), k ≤ sn ∧ sn - k ≤ gg ∧ s9 = .int .i64 k ∧ Hid (OwnIt wr w.heap.size (.slice sp sn sc) ys k) ∧ Hid (sn = ys.length) ∧ Hid (itemOf ys = itemOf its) ∧ Hid (∀ (j : Nat) (y : It), k ≤ j → ys[j]? = some y → y.ok w ∧ y.d.names.length ≤ 1000) ∧ Aside (Ext w wr))
  case atStart => exact ⟨0, its, Nat.zero_le _, by omega, rfl, hide ⟨by rw [← HN.out]; exact HO.out, fun j y hj _ => by omega, fun j j' y y' hj _ _ _ _ => by omega⟩, HL, rfl, hide (fun j y _ hy => ⟨HS.out.ok y (List.mem_of_getElem? hy), HNL.out y (List.mem_of_getElem? hy)⟩), hb⟩
  case round =>
    obtain ⟨k, ys, hk, hg, rfl, HOI, HL2, HI, HOk, BW⟩ := hrel
    have BE := BW.out
    by_cases hlt : k < sn
    · obtain ⟨g, cap, hv, hg0, hg1⟩ := HOI.out.row.form (by have := HL2.out; omega)
      have hv' : sp = some ⟨g, 0, none⟩ ∧ sc = cap := by simpa using (by have := hv; simp only [Value.slice.injEq] at this; exact ⟨this.1, this.2.2⟩ : sp = some ⟨g, 0, none⟩ ∧ sc = cap)
      obtain ⟨rfl, rfl⟩ := hv'
      obtain ⟨y, hy⟩ := getElem?_of_lt (xs := ys) (k := k) (by have := HL2.out; omega)
      obtain ⟨hok, hnl⟩ := HOk.out k y (Nat.le_refl _) hy
      have hrow : wr.ownsRow w.heap.size 27 6 (.slice (some ⟨g, 0, none⟩) sn sc) sn (ys.flatMap It.cells) := by have := HOI.out.row; rwa [← HL2.out] at this
      have hc2 : wr.cell? ⟨g, k * 6 + 2, none⟩ = some (.slice y.af.p y.af.n y.af.c) := (hrow.cellAt (k * 6 + 2) (by omega)).trans (flatG_at It.cells_len hy rfl)
      have HCl := hide (cloneStr_any y.af.p y.af.n y.af.c y.d.names wr (RowsAt.below hok BE) (by have := hok.len; omega))
      have hkz : (k : Int) < (sn : Int) := by omega
      have HYL : Hid (y.af.n = y.d.names.length) := hide hok.len
      have HRow := hide hrow
      have HY := hide hy
      have hwz := BE.size
      clear hv hy hok hnl hrow
      go_wp2_with (first
        | (go_at_call 46; refine HCl.out.mono ?_; rintro e w3 ⟨v3, rfl, ho3, hb3⟩; obtain ⟨lp, ln, lc, rfl, HLn, HLr, hln, HLb⟩ := own_strs' HYL.out ho3; have HO3 := hide ho3; clear ho3)
        | (refine wpList_storeG (cells := It.cells) It.cells_len rfl _ _ _ rfl sStrs g k 2 _ 27 rfl rfl rfl (owns_below HRow.out hb3) (by omega) HY.out (by decide) (nd' := ⟨y.d, ⟨lp, ln, lc⟩⟩) rfl ?_; intro w4 ho4 hg4; have HO4 := hide ho4; have HG4 := hide hg4; clear ho4 hg4))
      go_roundg (sn - (k + 1))
      case measure => omega
      case rel =>
        refine ⟨k + 1, _, by omega, by omega, by go_num, hide (OwnIt.step HOI.out hb3 HY.out hwz (by have := HO3.out; rwa [HYL.out] at this) HLn.out HO4.out HL2.out HG4.out), hide (by rw [List.length_set]; exact HL2.out), hide ((itemOf_set HY.out).trans HI.out), hide (fun j z hj hz => ?_), Below.grown (BE.trans hb3) HG4.out (BE.trans hb3).size (fun b hb => by cases hb; exact hg0)⟩
        rcases set_at hz with ⟨rfl, rfl⟩ | ⟨h1, h2⟩
        · omega
        · exact HOk.out j z (by omega) h2
    · have hkz : ¬ (k : Int) < (sn : Int) := by omega
      have HK : Hid (k = sn) := hide (by omega)
      go_wp2_with fail
      go_ret
      exact ⟨sp, sn, sc, ys, rfl, HL2.out, HI.out, by have := HOI.out; rw [HK.out] at this; rw [← HL2.out]; exact this, BE⟩
end Go.Proofs.YtfcdohaimdodgaaDoor
