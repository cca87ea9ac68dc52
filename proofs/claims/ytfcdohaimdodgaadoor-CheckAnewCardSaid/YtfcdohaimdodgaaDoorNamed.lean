/-
  Named: Forest's nodes, some of them named.
-/
import Derived.Test.YtfcdohaimdodgaaDoorForest
import Derived.Laws.OwnMore
import Derived.Deep.AppendLies
namespace Go.Proofs.YtfcdohaimdodgaaDoor
open Go.RowKit Go.Shelf
set_option linter.unusedVariables false

theorem flat_at {ys : List GN} {k j : Nat} {x : GN} {v : Value} (hx : ys[k]? = some x) (hv : x.cells[j]? = some v) : (ys.flatMap GN.cells)[k * 16 + j]? = some v := by
  have hj : j < 16 := by
    rcases Nat.lt_or_ge j 16 with h | h
    · exact h
    · rw [List.getElem?_eq_none (by rw [GN.cells_len]; exact h)] at hv; cases hv
  induction ys generalizing k with
  | nil => simp at hx
  | cons y r ih =>
    cases k with
    | zero =>
      obtain rfl : y = x := by simpa using hx
      rw [List.flatMap_cons, List.getElem?_append_left (by rw [GN.cells_len]; omega)]
      simpa using hv
    | succ k =>
      rw [List.flatMap_cons, List.getElem?_append_right (by rw [GN.cells_len]; omega), GN.cells_len, ← ih (k := k) (by simpa using hx)]
      congr 1
      omega
theorem flat_set (ys : List GN) (k j : Nat) (x x' : GN) (u : Value) (hx : ys[k]? = some x) (hj : j < 16) (hc : x.cells.set j u = x'.cells) :
    (ys.flatMap GN.cells).set (k * 16 + j) u = (ys.set k x').flatMap GN.cells := by
  induction ys generalizing k with
  | nil => simp at hx
  | cons y r ih =>
    cases k with
    | zero =>
      obtain rfl : y = x := by simpa using hx
      simp only [Nat.zero_mul, Nat.zero_add, List.flatMap_cons, List.set_cons_zero]
      rw [List.set_append_left _ _ (by rw [GN.cells_len]; exact hj), hc]
    | succ k =>
      have h := ih k (by simpa using hx)
      simp only [List.flatMap_cons, List.set_cons_succ]
      rw [List.set_append_right _ _ (by rw [GN.cells_len]; omega), GN.cells_len, ← h]
      congr 2
      omega
theorem right_set {ys : List GN} {k : Nat} {x x' : GN} (hr : RightN ys) (hx : ys[k]? = some x) (h1 : x'.ow = x.ow) (h2 : x'.fl = x.fl) : RightN (ys.set k x') := by
  have hk : k < ys.length := (List.getElem?_eq_some_iff.1 hx).1
  have key : ∀ (i : Nat) (y : GN), (ys.set k x')[i]? = some y → ∃ z, ys[i]? = some z ∧ z.ow = y.ow ∧ z.fl = y.fl := by
    intro i y hy
    rw [List.getElem?_set] at hy
    split at hy
    · rename_i he
      subst he
      cases hy
      exact ⟨x, hx, h1.symm, h2.symm⟩
    · exact ⟨y, hy, rfl, rfl⟩
  intro i y hy
  obtain ⟨z, hz, ho, hf⟩ := key i y hy
  obtain ⟨a, b, c⟩ := hr i z hz
  rw [← ho]
  refine ⟨a, b, fun h0 v hv => ?_⟩
  obtain ⟨u, hu, _, hf2⟩ := key _ _ hv
  rw [← hf2, ← hf]
  exact c h0 u hu
/-- a store into one cell of the call's own nodes -/
theorem own_store {W : World} {base g n cap : Nat} {ys : List GN} {k j : Nat} {x x' : GN} {u : Value} (ho : W.ownsRow base 50 16 (.slice (some ⟨g, 0, none⟩) n cap) n (ys.flatMap GN.cells)) (hx : ys[k]? = some x) (hj : j < 16) (hc : x.cells.set j u = x'.cells) :
    (W.setCell ⟨g, k * 16 + j, none⟩ u).ownsRow base 50 16 (.slice (some ⟨g, 0, none⟩) n cap) n ((ys.set k x').flatMap GN.cells) := by
  have := (ho.stored (k * 16 + j) u).1
  rw [flat_set ys k j x x' u hx hj hc] at this
  exact this
theorem own_name {W : World} {base g n cap : Nat} {ys : List GN} {k : Nat} {x : GN} (ho : W.ownsRow base 50 16 (.slice (some ⟨g, 0, none⟩) n cap) n (ys.flatMap GN.cells)) (hx : ys[k]? = some x) (s : ByteArray) :
    (W.setCell ⟨g, k * 16 + 1, none⟩ (.string s)).ownsRow base 50 16 (.slice (some ⟨g, 0, none⟩) n cap) n ((ys.set k { x with nm := s }).flatMap GN.cells) := own_store ho hx (by decide) rfl
theorem rightF_set {ys : List GN} {k : Nat} {x x' : GN} (hr : RightF ys) (hx : ys[k]? = some x) (h1 : x'.ow = x.ow) (h2 : x'.fl = x.fl) (h3 : Flat x → Flat x') : RightF (ys.set k x') :=
  ⟨right_set hr.r hx h1 h2, fun y hy => by
    rcases List.mem_or_eq_of_mem_set hy with h | rfl
    · exact hr.f y h
    · exact h3 (hr.f x (List.mem_of_getElem? hx))⟩
theorem right_name {ys : List GN} {k : Nat} {x : GN} (hr : RightF ys) (hx : ys[k]? = some x) (s : ByteArray) : RightF (ys.set k { x with nm := s }) := rightF_set hr hx rfl rfl id
theorem own_kind {W : World} {base g n cap : Nat} {ys : List GN} {k : Nat} {x : GN} (ho : W.ownsRow base 50 16 (.slice (some ⟨g, 0, none⟩) n cap) n (ys.flatMap GN.cells)) (hx : ys[k]? = some x) (a b : Int) :
    ((W.setCell ⟨g, k * 16 + 2, none⟩ (.int .u8 a)).setCell ⟨g, k * 16 + 7, none⟩ (.int .i64 b)).ownsRow base 50 16 (.slice (some ⟨g, 0, none⟩) n cap) n ((ys.set k { x with k := a, wd := b }).flatMap GN.cells) := by
  have h1 := own_store (x' := { x with k := a }) ho hx (j := 2) (u := .int .u8 a) (by decide) rfl
  have hk : k < ys.length := (List.getElem?_eq_some_iff.1 hx).1
  have h2 := own_store (x := { x with k := a }) (x' := { x with k := a, wd := b }) h1 (by rw [List.getElem?_set, if_pos rfl]; simp [hk]) (j := 7) (u := .int .i64 b) (by decide) rfl
  rw [List.set_set] at h2
  exact h2
theorem right_kind {ys : List GN} {k : Nat} {x : GN} (hr : RightF ys) (hx : ys[k]? = some x) (a b : Int) : RightF (ys.set k { x with k := a, wd := b }) := rightF_set hr hx rfl rfl id
theorem setCell_ext2 {w W : World} {base g n cap : Nat} {cs : List Value} (hb : w.heap.size ≤ base) (h : Ext w W) (ho : W.ownsRow base 50 16 (.slice (some ⟨g, 0, none⟩) n cap) n cs) (i j : Nat) (u v : Value) : Ext w ((W.setCell ⟨g, i, none⟩ u).setCell ⟨g, j, none⟩ v) := by
  have := (ho.lt g rfl).1
  have hg : w.heap.size ≤ g := by omega
  exact Ext.setCell (Ext.setCell h hg u) hg v
theorem setCell_ext {w W : World} {base g n cap : Nat} {cs : List Value} (hb : w.heap.size ≤ base) (h : Ext w W) (ho : W.ownsRow base 50 16 (.slice (some ⟨g, 0, none⟩) n cap) n cs) (j : Nat) (u : Value) : Ext w (W.setCell ⟨g, j, none⟩ u) := by
  refine Ext.setCell h ?_ u
  have := (ho.lt g rfl).1
  show w.heap.size ≤ g
  omega
theorem own_rows2 {W : World} {base n : Nat} {v : Value} {xs : List GN} (h : W.ownsRow base 50 16 v xs.length (xs.flatMap GN.cells)) (hl : xs.length ≤ 60 ∧ xs.length ≤ n) :
    ∃ (sp : Option Addr) (sn sc : Nat), v = .slice sp sn sc ∧ Hid (sn = xs.length) ∧ Hid (W.ownsRow base 50 16 (.slice sp sn sc) sn (xs.flatMap GN.cells)) ∧ sn ≤ 60 ∧ sn ≤ n := by
  obtain ⟨⟨sp, sn, sc⟩, rfl, hrow⟩ := own_rows rfl h
  have hn : sn = xs.length := hrow.out.len
  subst hn
  exact ⟨sp, _, sc, rfl, hide rfl, hide h, hl.1, hl.2⟩
set_option maxHeartbeats 2000000 in
theorem named_any (p : Option Addr) (n c : Nat) (ss : List Int) (w : World) (hs : RowsAt 1 intCells w ⟨p, n, c⟩ ss) (hwf : ∀ x ∈ ss, (Lit.int .i64 x).wf = true) :
    Calls Tryd.prog 28 #[.slice p n c] w fun e w' => ∃ v xs, e = .returned v ∧ w'.ownsRow w.heap.size 50 16 v xs.length (xs.flatMap GN.cells) ∧ RightF xs ∧ (xs.length ≤ 60 ∧ xs.length ≤ n) ∧ Ext w w' := by
  have HF := hide (forest_any p n c ss w hs hwf)
  have HS := hide hs
  clear hs hwf
  go_enter Tryd.func28, Tryd.ntmps28
  go_wp2_with (go_at_call 52; refine HF.out.mono ?_; rintro e w1 ⟨v, xs, rfl, ho, hr, hl, hb⟩; obtain ⟨sp, sn, sc, rfl, HL, HO, hl1, hl2⟩ := own_rows2 ho hl; have HR := hide hr; clear ho hr hl)
  go_loopg [10] sn (fun gg s10 wr => ∃ (k : Nat) (ys : List GN), k ≤ sn ∧ sn - k ≤ gg ∧ s10 = .int .i64 k ∧ Hid (wr.ownsRow w.heap.size 50 16 (.slice sp sn sc) sn (ys.flatMap GN.cells)) ∧ Hid (RightF ys) ∧ Hid (sn = ys.length) ∧ Aside (Ext w wr))
  case atStart => exact ⟨0, xs, Nat.zero_le _, by omega, rfl, HO, HR, HL, hb⟩
  case round =>
    obtain ⟨k, ys, hk, hg, rfl, HO2, HR2, HL2, BW⟩ := hrel
    by_cases hlt : k < sn
    · obtain ⟨g, cap, hv, hg0, hg1⟩ := HO2.out.form (by omega)
      cases hv
      obtain ⟨z, hz⟩ := getElem?_of_lt (xs := ss) (k := k) (by have := HS.out.len; dsimp only at this; omega)
      obtain ⟨b, o, hsp, hblt, hcell⟩ := (HS.out.below BW.out).at_ k z hz
      have c0 : wr.cell? ⟨b, o + k, none⟩ = some (.int .i64 z) := by have := hcell 0 _ rfl; simpa using this
      have hltz : (k : Int) < (sn : Int) := by omega
      have hltn : (k : Int) < (n : Int) := by omega
      dsimp only at hsp
      clear hcell hz
      subst hsp
      obtain ⟨y, hy⟩ := getElem?_of_lt (xs := ys) (k := k) (by have := HL2.out; omega)
      have hfz := HO2.out.frozenAt (k * 16 + 1)
      have HY := hide hy
      clear hy
      have hcl : wr.cell? ⟨g, k * 16 + 1, none⟩ = some (.string y.nm) := (HO2.out.cellAt (k * 16 + 1) (by omega)).trans (flat_at HY.out rfl)
      have hm : 0 ≤ bits BinOp.and IntKind.i64 (z / 512) 7 ∧ bits BinOp.and IntKind.i64 (z / 512) 7 ≤ 7 := and_mask (z / 512) 7 (by decide)
      obtain ⟨V, hV, hV7⟩ : ∃ V : Nat, bits BinOp.and IntKind.i64 (z / 512) 7 = V ∧ V ≤ 7 := ⟨(bits BinOp.and IntKind.i64 (z / 512) 7).toNat, by omega, by omega⟩
      clear hm
      obtain rfl | rfl | rfl | rfl | rfl | rfl | rfl | rfl : V = 0 ∨ V = 1 ∨ V = 2 ∨ V = 3 ∨ V = 4 ∨ V = 5 ∨ V = 6 ∨ V = 7 := by omega
      all_goals go_wp2_with fail
      all_goals (go_roundg (sn - (k + 1)))
      all_goals first
        | omega
        | exact ⟨k + 1, _, by omega, by omega, by go_num, hide (own_name HO2.out HY.out _), hide (right_name HR2.out HY.out _), hide (by rw [List.length_set]; exact HL2.out), setCell_ext (Nat.le_refl _) BW.out HO2.out _ _⟩
        | exact ⟨k + 1, ys, by omega, by omega, by go_num, HO2, HR2, HL2, BW⟩
    · have hltz : ¬ (k : Int) < (sn : Int) := by omega
      go_wp2_with fail
      go_ret
      exact ⟨_, rfl, ys, by rw [← HL2.out]; exact HO2.out, HR2.out, by have := HL2.out; omega, BW.out⟩
end Go.Proofs.YtfcdohaimdodgaaDoor
