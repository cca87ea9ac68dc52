/-
  CheckStands: its walk.
-/
import Derived.Test.YtfcdohaimdodgaaDoorAwakeb
import Derived.Test.YtfcdohaimdodgaaDoorOwned
import Derived.Test.YtfcdohaimdodgaaDoorNScope
import Derived.Test.YtfcdohaimdodgaaDoorFew
import Derived.Test.YtfcdohaimdodgaaDoorStore
import Derived.Test.YtfcdohaimdodgaaDoorKeys
namespace Go.Proofs.YtfcdohaimdodgaaDoor
open Go.RowKit Go.Shelf
set_option linter.unusedVariables false
theorem owns_below {w W : World} {base : Nat} {e : TypeId} {sz : Nat} {v : Value} {n : Nat} {xs : List Value} (h : w.ownsRow base e sz v n xs) (hb : Ext w W) : W.ownsRow base e sz v n xs := by
  obtain ⟨h1, h2 | ⟨g, cap, cur, hv, hg, hh, r⟩⟩ := h
  · exact ⟨h1, .inl h2⟩
  · exact ⟨h1, .inr ⟨g, cap, cur, hv, hg, (hb.block g (lt_of_block hh)).trans hh, r⟩⟩
theorem own_nodes {W : World} {base : Nat} {v : Value} {xs : List GN} {i : Int} (h : W.ownsRow base 50 16 v xs.length (xs.flatMap GN.cells)) (hl : xs.length ≤ 60) (hi : -1 ≤ i ∧ i < xs.length) :
    ∃ (sp : Option Addr) (sn sc : Nat), v = .slice sp sn sc ∧ Hid (sn = xs.length) ∧ Hid (W.ownsRow base 50 16 (.slice sp sn sc) sn (xs.flatMap GN.cells)) ∧ sn ≤ 60 ∧ -1 ≤ i ∧ i < sn := by
  obtain ⟨⟨sp, sn, sc⟩, rfl, hrow⟩ := own_rows rfl h
  have hn : sn = xs.length := hrow.out.len
  subst hn
  exact ⟨sp, _, sc, rfl, hide rfl, hide h, hl, hi.1, hi.2⟩
theorem askAt_of {W w1 w : World} {base : Nat} {cf : Cfg} {sp q : Option Addr} {sn sc m1 k : Nat} {i qu : Int} {xs : List GN} {its : List It} (ho : Hid (w1.ownsRow base 50 16 (.slice sp sn sc) sn (xs.flatMap GN.cells))) (hL : Hid (sn = xs.length)) (hr : Hid (RightN xs))
    (h1 : -1 ≤ i) (h2 : i < sn) (h60 : sn ≤ 60) (hi : Hid (ItemsAt w ⟨q, m1, k⟩ its)) (hb : Ext w1 W) (hb' : Ext w W) : AskAt W ⟨cf, ⟨sp, sn, sc⟩, i, qu, ⟨q, m1, k⟩⟩ xs its := by
  obtain ⟨s, hv, hrow⟩ := own_rows hL.out ho.out
  cases hv
  have := hL.out
  exact ⟨hrow.out.below hb, hr.out, ⟨by show i < _; omega, h1⟩, hi.out.below hb', by omega⟩
theorem box_cells (w : World) (a b c d e : Int) : ∃ w0, w0 = w.alloc (.cells #[.int .i64 a, .int .i64 b, .int .i64 c, .int .i64 d, .int .i64 e] 32) ∧ Ext w w0 ∧ w.heap.size < w0.heap.size ∧ w0.cell? ⟨w.heap.size, 0, none⟩ = some (.int .i64 a) ∧ w0.cell? ⟨w.heap.size, 1, none⟩ = some (.int .i64 b) ∧
    w0.cell? ⟨w.heap.size, 2, none⟩ = some (.int .i64 c) ∧ w0.cell? ⟨w.heap.size, 3, none⟩ = some (.int .i64 d) ∧ w0.cell? ⟨w.heap.size, 4, none⟩ = some (.int .i64 e) := by
  refine ⟨_, rfl, Ext.alloc (Ext.refl w) _, by simp, ?_, ?_, ?_, ?_, ?_⟩ <;> simp [go_sem]
set_option maxRecDepth 8000 in
theorem chain_at (sp : Option Addr) (sn sc : Nat) (i : Nat) (xs : List GN) (W w1 : World) (base : Nat) (ho : w1.ownsRow base 50 16 (.slice sp sn sc) sn (xs.flatMap GN.cells)) (hn : sn = xs.length) (hr : RightN xs) (hi : i < sn) (h60 : sn ≤ 60) (hb : Ext w1 W) :
    Calls Tryd.prog 20 #[.slice sp sn sc, .int .i64 i] W fun e w' => ∃ v, e = .returned v ∧ w'.ownsRow W.heap.size 3 1 v (chain xs i).length ((chain xs i).flatMap intCells) ∧ Ext W w' := by
  obtain ⟨⟨p', n', c'⟩, hv, hrow⟩ := own_rows hn ho
  obtain ⟨rfl, rfl, rfl⟩ : sp = p' ∧ sn = n' ∧ sc = c' := by simpa using hv
  exact chain_yes sp sn sc i xs W (hrow.out.below hb) hr (by rw [← hn]; exact hi) (by rw [← hn]; exact Nat.le_trans h60 (by decide))
theorem own1 (W : World) (g : Nat) (hg : W.heap.size = g) (x : Int) : (W.alloc (.cells #[.int .i64 x] 3)).ownsRow g 3 1 (.slice (some ⟨g, 0, none⟩) 1 1) 1 [.int .i64 x] := by
  subst hg
  exact ⟨by simp, .inr ⟨W.heap.size, 1, #[.int .i64 x], rfl, Nat.le_refl _, heap_alloc_new W _, Nat.le_refl _, by simp [maxLen], by simp, by simp⟩⟩
theorem chainInts {W : World} {base : Nat} {v : Value} {xs : List GN} {i : Nat} (hr : RightN xs) (hi : i < 60) (h : W.ownsRow base 3 1 v (chain xs i).length ((chain xs i).flatMap intCells)) :
    ∃ (sp : Option Addr) (sn sc : Nat), v = .slice sp sn sc ∧ Hid (RowsAt 1 intCells W ⟨sp, sn, sc⟩ (chain xs i)) ∧ sn ≤ 60 ∧ Hid (sn = (chain xs i).length) := by
  obtain ⟨⟨sp, sn, sc⟩, h1, h2⟩ := ownInts rfl h
  have := chain_len hr i
  have hl : sn = (chain xs i).length := h2.out.len
  exact ⟨sp, sn, sc, h1, h2, by omega, hl⟩
theorem list_of_own {W : World} {base cn : Nat} {v : Value} {z : Int} {l : List Int} (hn : cn = l.length) (h : W.ownsRow base 3 1 v (1 + cn) ([.int .i64 z] ++ l.flatMap intCells)) :
    ∃ (lp : Option Addr) (ln lc : Nat), v = .slice lp ln lc ∧ Hid (ln = (z :: l).length) ∧ Hid (W.ownsRow base 3 1 (.slice lp ln lc) ln ((z :: l).flatMap intCells)) := by
  have h' : W.ownsRow base 3 1 v (z :: l).length ((z :: l).flatMap intCells) := by
    have e : 1 + cn = (z :: l).length := by rw [List.length_cons, hn]; omega
    rw [e] at h
    exact h
  obtain ⟨⟨lp, ln, lc⟩, rfl, h2⟩ := ownInts rfl h'
  have hl : ln = (z :: l).length := h2.out.len
  subst hl
  exact ⟨lp, _, lc, rfl, hide rfl, hide h'⟩
def Vis (xs : List GN) (o z : Int) : Prop := ∃ y : GN, xs[o.toNat]? = some y ∧ ∃ (u : Nat) (x : GN), u < xs.length ∧ xs[u]? = some x ∧ x.fl = y.fl ∧ x.ow = y.ow ∧ z = u
def Vs (xs : List GN) (L : List Int) (a : Nat) (S : List Int) : Prop := ∀ z : Int, z ∈ S ↔ ∃ (t : Nat) (o : Int), t < a ∧ L[t]? = some o ∧ Vis xs o z
def Mp (M : List (Int × Int)) (S : List Int) : Prop := ∀ z : Int, mget z M = if z ∈ S then some 1 else none
theorem Vs.zero (xs : List GN) (L : List Int) : Vs xs L 0 [] := fun z => ⟨fun h => by simp at h, fun ⟨t, o, h, _⟩ => by omega⟩
theorem Mp.nil : Mp [] [] := fun z => by simp [mget]
theorem Mp.put {M : List (Int × Int)} {S : List Int} (h : Mp M S) (z : Int) : Mp (mput z 1 M) (S ++ [z]) := by
  intro z'
  rw [mget_mput, h z']
  by_cases e : z = z'
  · subst e; simp
  · rw [if_neg e]
    have : (z' ∈ S ++ [z]) ↔ z' ∈ S := by simp [Ne.symm e]
    simp only [this]
theorem Vs.next {xs : List GN} {L : List Int} {a oN : Nat} {S l : List Int} {y : GN} (h : Vs xs L a S) (ho : L[a]? = some (oN : Int)) (hy : xs[oN]? = some y) (hl : InOwn xs y.fl y.ow xs.length l) : Vs xs L (a + 1) (S ++ l) := by
  intro z
  rw [List.mem_append, h z, hl.1]
  constructor
  · rintro (⟨t, o, h1, h2, h3⟩ | ⟨j, x, h1, h2, h3, h4, rfl⟩)
    · exact ⟨t, o, by omega, h2, h3⟩
    · exact ⟨a, oN, by omega, ho, y, by simpa using hy, j, x, h1, h2, h3, h4, rfl⟩
  · rintro ⟨t, o, h1, h2, h3⟩
    rcases Nat.lt_or_ge t a with ht | ht
    · exact .inl ⟨t, o, ht, h2, h3⟩
    · obtain rfl : t = a := by omega
      rw [ho] at h2; cases h2
      obtain ⟨y', hy', u, x, g1, g2, g3, g4, rfl⟩ := h3
      have : xs[oN]? = some y' := by simpa using hy'
      rw [hy] at this; cases this
      exact .inr ⟨u, x, g1, g2, g3, g4, rfl⟩
/-- the list that is walked: a place and its chain -/
theorem walked {xs : List GN} {i sn : Nat} (hr : RightN xs) (hi : i < sn) (hn : sn = xs.length) {a : Nat} {o : Int} (h : ((i : Int) :: chain xs i)[a]? = some o) : ∃ (oN : Nat) (y : GN), o = oN ∧ oN < sn ∧ xs[oN]? = some y := by
  have key : 0 ≤ o ∧ o < xs.length := by
    have hm := List.mem_of_getElem? h
    rcases List.mem_cons.1 hm with rfl | hm
    · omega
    · have := chain_mem hr i o hm
      have h2 := this.2.2 (by omega)
      exact ⟨this.1, h2⟩
  obtain ⟨oN, rfl⟩ := Int.eq_ofNat_of_zero_le key.1
  obtain ⟨y, hy⟩ := getElem?_of_lt (xs := xs) (k := oN) (by omega)
  exact ⟨oN, y, rfl, by omega, hy⟩
theorem undII : Tryd.prog.underlying 52 = some (.map 3 3) := by kernel_rfl
theorem keyI : KeyLaw Tryd.prog 3 (Value.int .i64) := keyInt Tryd.underlying3
theorem nscope_at (sp : Option Addr) (sn sc : Nat) (i : Nat) (xs : List GN) (x : GN) (W w1 : World) (base : Nat) (ho : w1.ownsRow base 50 16 (.slice sp sn sc) sn (xs.flatMap GN.cells)) (hn : sn = xs.length) (hx : xs[i]? = some x) (h60 : sn ≤ 60) (hb : Ext w1 W) :
    Calls Tryd.prog 21 #[.slice sp sn sc, .int .i64 i] W fun e w' => ∃ v, e = .returned v ∧ ∃ l, w'.ownsRow W.heap.size 3 1 v l.length (l.flatMap intCells) ∧ InOwn xs x.fl x.ow sn l ∧ Ext W w' := by
  obtain ⟨⟨p', n', c'⟩, hv, hrow⟩ := own_rows hn ho
  obtain ⟨rfl, rfl, rfl⟩ : sp = p' ∧ sn = n' ∧ sc = c' := by simpa using hv
  exact nscope_any sp sn sc i xs x W (hrow.out.below hb) hx (Nat.le_trans h60 (by decide))
theorem ints_at {W : World} {base : Nat} {lp : Option Addr} {ln lc a : Nat} {L : List Int} {o : Int} (h : W.ownsRow base 3 1 (.slice lp ln lc) ln (L.flatMap intCells)) (hn : ln = L.length) (ho : L[a]? = some o) :
    ∃ b f, lp = some ⟨b, f, none⟩ ∧ b < W.heap.size ∧ W.cell? ⟨b, f + a, none⟩ = some (.int .i64 o) := by
  obtain ⟨⟨p', n', c'⟩, hv, hrow⟩ := ownInts hn h
  obtain ⟨rfl, rfl, rfl⟩ : lp = p' ∧ ln = n' ∧ lc = c' := by simpa using hv
  obtain ⟨b, f, h1, h2, h3⟩ := hrow.out.at_ a o ho
  exact ⟨b, f, h1, h2, by have := h3 0 _ rfl; simpa using this⟩
theorem list_own {W : World} {base : Nat} {v : Value} {l : List Int} (h : W.ownsRow base 3 1 v l.length (l.flatMap intCells)) :
    ∃ (lp : Option Addr) (ln lc : Nat), v = .slice lp ln lc ∧ Hid (ln = l.length) ∧ Hid (W.ownsRow base 3 1 (.slice lp ln lc) ln (l.flatMap intCells)) := by
  obtain ⟨⟨lp, ln, lc⟩, rfl, h2⟩ := ownInts rfl h
  have hl : ln = l.length := h2.out.len
  subst hl
  exact ⟨lp, _, lc, rfl, hide rfl, hide h⟩
theorem owns_put {W W' : World} {r : Nat} {e : TypeId} {sz : Nat} {v : Value} {n : Nat} {xs : List Value} (h : W.ownsRow (r + 1) e sz v n xs) (hg : W.grownBy W' (some r)) : W'.ownsRow (r + 1) e sz v n xs := by
  refine h.kept hg ?_
  cases hv : v.ownBlock with
  | none => exact .inl rfl
  | some k =>
    refine .inr fun he => ?_
    cases he
    have := (h.lt _ hv).1
    omega
theorem ext_put {w3 W W' : World} {r : Nat} (h : Ext w3 W) (hr : w3.heap.size ≤ r) (hg : W.grownBy W' (some r)) : Ext w3 W' := Below.grown h hg h.size (fun k hk => by cases hk; exact hr)
theorem s5 : (Tryd.prog.info? 5).map (·.size) = some 1 := by kernel_rfl
theorem s3 : (Tryd.prog.info? 3).map (·.size) = some 1 := by kernel_rfl
theorem s9 : (Tryd.prog.info? 9).map (·.size) = some 1 := by kernel_rfl
theorem s2 : (Tryd.prog.info? 2).map (·.size) = some 1 := by kernel_rfl
theorem s48 : (Tryd.prog.info? 48).map (·.size) = some 4 := by kernel_rfl
theorem map_grown {W W' : World} {r g : Nat} {M : List (Int × Int)} (hne : g ≠ r) (h : MapAt (Value.int .i64) (Value.int .i64) W r M) (hg : W.grownBy W' (some g)) : MapAt (Value.int .i64) (Value.int .i64) W' r M :=
  h.of_block (hg.block r h.lt (fun e => hne (by cases e; rfl)))
theorem map_set {W : World} {r g j : Nat} {u : Value} {M : List (Int × Int)} (hne : g ≠ r) (h : MapAt (Value.int .i64) (Value.int .i64) W r M) : MapAt (Value.int .i64) (Value.int .i64) (W.setCell ⟨g, j, none⟩ u) r M :=
  h.of_block (Below.heap_setCell W ⟨g, j, none⟩ u r (fun e => hne e.symm))
theorem node_facts {W : World} {base g n cap : Nat} {ys : List GN} {k : Nat} {y : GN} (h : W.ownsRow base 50 16 (.slice (some ⟨g, 0, none⟩) n cap) n (ys.flatMap GN.cells)) (hk : k < n) (hy : ys[k]? = some y) :
    (W.frozen? ⟨g, k * 16 + 1, none⟩ = false ∧ W.frozen? ⟨g, k * 16 + 9, none⟩ = false ∧ W.frozen? ⟨g, k * 16 + 10, none⟩ = false ∧ W.frozen? ⟨g, k * 16 + 11, none⟩ = false ∧ W.frozen? ⟨g, k * 16 + 12, none⟩ = false ∧ W.frozen? ⟨g, k * 16 + 13, none⟩ = false ∧ W.frozen? ⟨g, k * 16 + 14, none⟩ = false ∧ W.frozen? ⟨g, k * 16 + 15, none⟩ = false) ∧
    W.cell? ⟨g, k * 16 + 1, none⟩ = some (.string y.nm) ∧ W.cell? ⟨g, k * 16 + 9, none⟩ = some (.int .u8 y.st) ∧ W.cell? ⟨g, k * 16 + 10, none⟩ = some (.int .i64 y.fa) ∧ W.cell? ⟨g, k * 16 + 11, none⟩ = some (.int .i64 y.tk) ∧ W.cell? ⟨g, k * 16 + 12, none⟩ = some (.int .u8 y.vk) ∧ W.cell? ⟨g, k * 16 + 13, none⟩ = some (.int .i64 y.vn) ∧ W.cell? ⟨g, k * 16 + 14, none⟩ = some (.string y.vs) ∧ W.cell? ⟨g, k * 16 + 15, none⟩ = some (.slice y.vl.p y.vl.n y.vl.c) :=
  ⟨⟨h.frozenAt _, h.frozenAt _, h.frozenAt _, h.frozenAt _, h.frozenAt _, h.frozenAt _, h.frozenAt _, h.frozenAt _⟩, (h.cellAt _ (by omega)).trans (flat_at hy rfl), (h.cellAt _ (by omega)).trans (flat_at hy rfl), (h.cellAt _ (by omega)).trans (flat_at hy rfl), (h.cellAt _ (by omega)).trans (flat_at hy rfl), (h.cellAt _ (by omega)).trans (flat_at hy rfl), (h.cellAt _ (by omega)).trans (flat_at hy rfl), (h.cellAt _ (by omega)).trans (flat_at hy rfl), (h.cellAt _ (by omega)).trans (flat_at hy rfl)⟩
theorem box_at {w0 W : World} {B : Nat} {a b c d e : Value} (h : Ext w0 W) (hz : B < w0.heap.size) (h0 : w0.cell? ⟨B, 0, none⟩ = some a) (h1 : w0.cell? ⟨B, 1, none⟩ = some b) (h2 : w0.cell? ⟨B, 2, none⟩ = some c) (h3 : w0.cell? ⟨B, 3, none⟩ = some d) (h4 : w0.cell? ⟨B, 4, none⟩ = some e) :
    B < W.heap.size ∧ W.cell? ⟨B, 0, none⟩ = some a ∧ W.cell? ⟨B, 1, none⟩ = some b ∧ W.cell? ⟨B, 2, none⟩ = some c ∧ W.cell? ⟨B, 3, none⟩ = some d ∧ W.cell? ⟨B, 4, none⟩ = some e :=
  ⟨Nat.lt_of_lt_of_le hz h.size, (h.cell (p := ⟨B, 0, none⟩) hz).trans h0, (h.cell (p := ⟨B, 1, none⟩) hz).trans h1, (h.cell (p := ⟨B, 2, none⟩) hz).trans h2, (h.cell (p := ⟨B, 3, none⟩) hz).trans h3, (h.cell (p := ⟨B, 4, none⟩) hz).trans h4⟩
theorem walk_owner {xs : List GN} (hr : RightN xs) : ∀ (i : Nat) (x : GN), xs[i]? = some x → ∀ o' ∈ chain xs i ++ [-1], ∃ (t : Nat) (o : Int), ((i : Int) :: chain xs i)[t]? = some o ∧ ∃ y : GN, xs[o.toNat]? = some y ∧ y.ow = o' ∧ y.fl = x.fl := by
  intro i
  induction i using Nat.strongRecOn with
  | _ i ih =>
    intro x hx o' ho
    have h := hr i x hx
    rw [chain_eq hr hx] at ho ⊢
    split at ho
    · rename_i h0
      rw [if_pos h0, List.cons_append] at *
      rcases List.mem_cons.1 ho with rfl | ho
      · exact ⟨0, i, rfl, x, by simpa using hx, rfl, rfl⟩
      · obtain ⟨z, hz⟩ := getElem?_of_lt (xs := xs) (k := x.ow.toNat) (by have := (List.getElem?_eq_some_iff.1 hx).1; omega)
        obtain ⟨t, o, ht, y, hy, h1, h2⟩ := ih x.ow.toNat (by omega) z hz o' ho
        refine ⟨t + 1, o, ?_, y, hy, h1, h2.trans (h.2.2 h0 z hz)⟩
        rw [List.getElem?_cons_succ]
        rwa [show ((x.ow.toNat : Nat) : Int) = x.ow by omega] at ht
    · rename_i h0
      rw [if_neg h0]
      have : o' = -1 := by simpa using ho
      exact ⟨0, i, rfl, x, by simpa using hx, by omega, rfl⟩
theorem sim_of {xs ys : List GN} {S : List Int} {i ln : Nat} (hr : RightN xs) (hs : SimS xs ys S) (hv : Vs xs ((i : Int) :: chain xs i) ln S) (hl : ln = ((i : Int) :: chain xs i).length) {x : GN} (hx : xs[i]? = some x) : Sim xs ys x.fl (chain xs i ++ [-1]) := by
  refine ⟨hs.len, fun k x' y' hk hk' => ?_⟩
  obtain ⟨a, b, c, d, e⟩ := hs.at_ k x' y' hk hk'
  refine ⟨a, b, c, d, fun ⟨h1, h2⟩ => e ?_⟩
  obtain ⟨t, o, ht, y, hy, g1, g2⟩ := walk_owner hr i x hx x'.ow h2
  exact (hv k).2 ⟨t, o, by rw [hl]; exact (List.getElem?_eq_some_iff.1 ht).1, ht, y, hy, k, x', (List.getElem?_eq_some_iff.1 hk).1, hk, h1.trans g2.symm, g1.symm, rfl⟩
theorem same_of {c : Cfg} {xs ys : List GN} {S : List Int} {i ln sn : Nat} {q : Int} {items : List Item} (hr : RightN xs) (hs : SimS xs ys S) (hv : Vs xs ((i : Int) :: chain xs i) ln S) (hl : ln = ((i : Int) :: chain xs i).length) (hi : (i : Int) < sn) (hn : sn = xs.length) : fragE c ys i q items = fragE c xs i q items := by
  obtain ⟨x, hx⟩ := getElem?_of_lt (xs := xs) (k := i) (by omega)
  exact fragE_sim (sim_of hr hs hv hl hx) (fun _ => ⟨x, by simpa using hx, rfl, by simp⟩)
theorem same_no {c : Cfg} {xs ys : List GN} {i q : Int} {items : List Item} (hs : SimS xs ys []) (hi : ¬ 0 ≤ i) : fragE c ys i q items = fragE c xs i q items := by
  refine fragE_sim (fl := 0) (os := []) ⟨hs.len, fun k x y hx hy => ?_⟩ (fun h => absurd h hi)
  obtain ⟨a, b, c, d, e⟩ := hs.at_ k x y hx hy
  exact ⟨a, b, c, d, fun h => by simp at h⟩
theorem frag_same (cf : Cfg) (sp q : Option Addr) (sn sc m1 k : Nat) (i qu : Int) (ys : List GN) (its : List It) (wr w W : World) (base : Nat) (E : Int) (ho : wr.ownsRow base 50 16 (.slice sp sn sc) sn (ys.flatMap GN.cells)) (hL : sn = ys.length) (hr : RightN ys)
    (h1 : -1 ≤ i) (h2 : i < sn) (h60 : sn ≤ 60) (hi : ItemsAt w ⟨q, m1, k⟩ its) (hb : Ext wr W) (hb' : Ext w wr) (hE : fragE cf ys i qu (itemOf its) = E) :
    Calls Tryd.prog 14 #[.agg #[.int .i64 cf.quota, .int .i64 cf.depth, .int .i64 cf.width, .int .i64 cf.retry, .int .i64 cf.flows], .slice sp sn sc, .int .i64 i, .int .i64 qu, .slice q m1 k] W fun e w' => e = .returned (.int .i64 E) ∧ Ext W w' := by
  subst hE
  exact frag_any ⟨cf, ⟨sp, sn, sc⟩, i, qu, ⟨q, m1, k⟩⟩ ys its W (askAt_of (hide ho) (hide hL) (hide hr) h1 h2 h60 (hide hi) hb (hb'.trans hb))
set_option maxHeartbeats 8000000 in
set_option maxRecDepth 8000 in
theorem stands_any (cf : Cfg) (p : Option Addr) (n c : Nat) (ss : List Int) (cu qu : Int) (q : Option Addr) (m k : Nat) (its : List It) (sd : Int) (w : World) (hs : RowsAt 1 intCells w ⟨p, n, c⟩ ss) (hwf : ∀ x ∈ ss, (Lit.int .i64 x).wf = true)
    (hi : ItemsAt w ⟨q, m, k⟩ its) :
    Calls Tryd.prog 6 #[.agg #[.int .i64 cf.quota, .int .i64 cf.depth, .int .i64 cf.width, .int .i64 cf.retry, .int .i64 cf.flows], .slice p n c, .int .i64 cu, .int .i64 qu, .slice q m k, .int .u8 sd] w fun e w' => e = .returned (.bool true) ∧ Ext w w' := by
  have hmk := hi.rows.cap
  dsimp only at hmk
  have HOwn := hide (fun (W : World) (h : Ext w W) => owned_any p n c ss cu W (hs.below h) hwf)
  have HI := hide hi
  have HAW := hide awake_any
  clear hs hwf hi
  obtain ⟨cq, cd, cw, cr, cfl⟩ := cf
  dsimp only
  go_enter Tryd.func6, Tryd.ntmps6
  obtain ⟨w0, hw0, hx0, hz0, b0, b1, b2, b3, b4⟩ := box_cells w cq cd cw cr cfl
  have hmm := @run_makeMap Tryd.prog
  go_wp2_with (first
    | (go_at_call 12; rw [← hw0]; refine (HOwn.out _ hx0).mono ?_; rintro e w1 ⟨v, xs, i, rfl, ho, hr, hl, hil, hb⟩; obtain ⟨sp, sn, sc, rfl, HL, HO, hl1, hi1, hi2⟩ := own_nodes ho hl hil; have HR := hide hr; clear ho hr hl hil hw0)
    | (refine wpList_minN rfl _ _ _ rfl m 30 rfl rfl ?_; intro m1 hN hN30; have HI2 := hide (HI.out.take m1 hN))
    | (go_at_call 13; refine (few_any q m1 k (its.take m1) _ (HI2.out.below (hx0.trans hb))).mono ?_; rintro e w2 ⟨v, rfl, ⟨fb, rfl⟩, hb2⟩; have hE2 : Ext w1 w2 := hb2; obtain ⟨bz, d0, d1, d2, d3, d4⟩ := box_at (hb.trans hb2) hz0 b0 b1 b2 b3 b4; have hEw2 : Ext w w2 := hx0.trans (hb.trans hb2))
    | (go_at_call 14; refine (frag_any ⟨⟨cq, cd, cw, cr, cfl⟩, ⟨sp, sn, sc⟩, i, qu, ⟨q, m1, k⟩⟩ xs (its.take m1) _ (askAt_of HO HL HR hi1 hi2 hl1 HI2 hE2 hEw2)).mono ?_; rintro e w3 ⟨rfl, hb3⟩; have hE3 : Ext w1 w3 := hE2.trans hb3; have hE03 : Ext w0 w3 := hb.trans hE3)
    | (go_at_call 9; with_reducible refine (HAW.out _).mono ?_; rintro e w1 ⟨rfl, hb⟩; have hb : Ext w w1 := Ext.trans (by (repeat' (first | exact Below.refl _ _ | assumption | refine Ext.alloc ?_ _ | refine Ext.drew ?_ | refine Ext.trans ?_ (by assumption)))) hb))
  · go_ret
    exact ⟨rfl, hb⟩
  rotate_left
  · have hneg : ¬ 0 ≤ i := by omega
    generalize hE : fragE _ _ _ _ _ = E at *
    have HE := hide hE
    clear hE
    have HM0 : Hid (MapAt (Value.int .i64) (Value.int .i64) (w3.alloc (.map #[] 0)) w3.heap.size []) := hide (MapAt.new (Value.int .i64) (Value.int .i64) w3)
    have hE0r : Ext w0 (w3.alloc (.map #[] 0)) := Ext.alloc hE03 _
    have HOr := hide (owns_below HO.out (Ext.alloc hE3 (.map #[] 0)))
    go_wp2_with fail
    go_loopg [71] sn (fun gg s71 wr => ∃ (j : Nat) (ys : List GN), j ≤ sn ∧ sn - j ≤ gg ∧ s71 = .int .i64 j ∧ Hid (wr.ownsRow w0.heap.size 50 16 (.slice sp sn sc) sn (ys.flatMap GN.cells)) ∧ Hid (RightN ys) ∧ Hid (SimS xs ys []) ∧ Hid (MapAt (Value.int .i64) (Value.int .i64) wr w3.heap.size []) ∧ Aside (Ext w0 wr))
    case atStart => exact ⟨0, xs, Nat.zero_le _, by omega, rfl, HOr, HR, SimS.refl _ _, HM0, hE0r⟩
    case round =>
      obtain ⟨j, ys, hj, hgj, rfl, HO3, HR3, HS3, HM3, BK⟩ := hrel
      have BKE := BK.out
      by_cases hjl : j < sn
      · obtain ⟨g, cap, hv, hg0, hg1⟩ := HO3.out.form (by omega)
        obtain ⟨rfl, rfl⟩ : sp = some ⟨g, 0, none⟩ ∧ sc = cap := by simpa using hv
        obtain ⟨y, hy⟩ := getElem?_of_lt (xs := ys) (k := j) (by have e1 := HS3.out.len; have e2 := HL.out; omega)
        have hgr : g ≠ w3.heap.size := by (have e1 := (HO.out.lt g rfl).2; have e2 := hE3.size; omega)
        have hjz : (j : Int) < (sn : Int) := by omega
        have hjy : j < ys.length := (List.getElem?_eq_some_iff.1 hy).1
        have HY := hide hy
        clear hv hy
        have HG : Hid (mget (j : Int) ([] : List (Int × Int)) = none) := hide rfl
        go_wp2_with (first
          | (refine wpList_store_st rfl _ _ _ rfl s5 g j _ rfl rfl HO3.out hjl HY.out ?_; intro W1 ho1 hg1; have o1 := hide ho1; clear ho1)
          | (refine wpList_store_value rfl _ _ _ rfl s48 g j _ _ _ _ ⟨none, 0, 0⟩ rfl rfl rfl o1.out hjl (set_same hjy) ?_; intro W2 ho2 hg2; rw [List.set_set] at ho2; have o2 := hide ho2; clear ho2)
          | (refine wpList_store_fa rfl _ _ _ rfl s3 g j _ rfl rfl o2.out hjl (set_same hjy) ?_; intro W3 ho3 hg3; rw [List.set_set] at ho3; have o3 := hide ho3; clear ho3)
          | (refine wpList_store_tk rfl _ _ _ rfl s2 g j _ rfl rfl o3.out hjl (set_same hjy) ?_; intro W4 ho4 hg4; rw [List.set_set] at ho4; have o4 := hide ho4; clear ho4; have HM4 := hide (map_grown hgr HM3.out (((hg1.trans hg2).trans hg3).trans hg4)))
          | (at_lookup; refine wpList_lookup_at rfl _ _ 52 false rfl keyI undII (0 : Int) (zeroI _) w3.heap.size [] rfl HM4.out (j : Int) rfl ?_; rw [HG.out]; simp only [Option.getD_none, if_false, Bool.false_eq_true])
          | (refine wpList_store_nm rfl _ _ _ rfl s9 g j _ rfl rfl o4.out hjl (set_same hjy) ?_; intro W5 ho5 hg5; rw [List.set_set] at ho5; have o5 := hide ho5; clear ho5; have HM5 := hide (map_grown hgr HM4.out hg5)))
        go_roundg (sn - (j + 1))
        case measure => omega
        case rel => exact ⟨j + 1, _, by omega, by omega, by go_num, o5, hide (right_set HR3.out HY.out rfl rfl), hide (HS3.out.set HY.out rfl rfl rfl rfl (fun hs => by simp at hs)), HM5, Below.grown BKE ((((hg1.trans hg2).trans hg3).trans hg4).trans hg5) BKE.size (fun k hk => by cases hk; exact hg0)⟩
      · have hjz : ¬ (j : Int) < (sn : Int) := by omega
        obtain ⟨bz', f0, f1, f2, f3, f4⟩ := box_at BKE hz0 b0 b1 b2 b3 b4
        have hjn : sn = ys.length := by have e1 := HS3.out.len; have e2 := HL.out; omega
        have HFr := hide (fun (W : World) (h : Ext wr W) => frag_same ⟨cq, cd, cw, cr, cfl⟩ sp q sn sc m1 k i qu ys (its.take m1) wr w W w0.heap.size E HO3.out hjn HR3.out hi1 hi2 hl1 HI2.out h (hx0.trans BKE) ((same_no HS3.out (by omega)).trans HE.out))
        clear hjn
        have hww : Ext w wr := hx0.trans BKE
        go_wp2_with (first
          | (go_at_call 14; refine (HFr.out _ (by (repeat' (first | exact Below.refl _ _ | assumption | refine Ext.alloc ?_ _ | refine Ext.drew ?_ | refine Ext.trans ?_ (by assumption))))).mono ?_; rintro e w8 ⟨rfl, hb8⟩)
          | (go_at_call 9; with_reducible refine (HAW.out _).mono ?_; rintro e w1 ⟨rfl, hb⟩; have hb : Ext w w1 := Ext.trans (by (repeat' (first | exact Below.refl _ _ | assumption | refine Ext.alloc ?_ _ | refine Ext.drew ?_ | refine Ext.trans ?_ (by assumption)))) hb))
        go_ret
        exact ⟨rfl, hb⟩
  have h0 : 0 ≤ i := by assumption
  obtain ⟨iN, rfl⟩ := Int.eq_ofNat_of_zero_le h0
  have HCh := hide (fun (W : World) (h : Ext w1 W) => chain_at sp sn sc iN xs W w1 w0.heap.size HO.out HL.out HR.out (by omega) hl1 h)
  obtain ⟨i0, hiI, hzz, hz1, hz2⟩ := info_parts infoInt
  have hs13 := hE3.size
  generalize hE : fragE _ _ _ _ _ = E at *
  have HE := hide hE
  clear hE
  go_wp2_with (first
    | (go_at_call 20; refine (HCh.out _ (by (repeat' (first | exact Below.refl _ _ | assumption | refine Ext.alloc ?_ _ | refine Ext.drew ?_ | refine Ext.trans ?_ (by assumption))))).mono ?_; rintro e w4 ⟨v4, rfl, ho4, hb4⟩; obtain ⟨cp, cn, cc, rfl, hrow4, hcn, HCN⟩ := chainInts HR.out (by omega) ho4; clear ho4)
    | (at_builtin; refine wpList_append_rows (cells := intCells) rfl _ _ 33 rfl (w3.heap.size + 1) 3 i0 (.int .i64 0) 1 8 Tryd.underlying33 hiI hzz hz1 hz2 rfl (by decide) _ _ _ rfl (owns_below (own1 _ _ (by simp) _) hb4) cp cn cc (chain xs iN) rfl hrow4.out intCells_len intCells_one (by unfold maxLen; omega) (by omega) (Nat.le_trans (by simp) hb4.size) ?_; intro v5 w5 ho5 hg5 _; have he5 : Ext (w3.alloc (.map #[] 0)) w5 := ext_grown (Ext.trans (Ext.alloc (Ext.refl _) _) hb4) (owns_below (own1 _ _ (by simp) _) hb4) (by simp) hg5; obtain ⟨lp, ln, lc, rfl, HLn, HLo⟩ := list_of_own HCN.out ho5; clear ho5 hg5))
  have HM0 : Hid (MapAt (Value.int .i64) (Value.int .i64) w5 w3.heap.size []) := hide ((MapAt.new (Value.int .i64) (Value.int .i64) w3).below he5)
  have hE5 : Ext w3 w5 := Ext.trans (Ext.alloc (Ext.refl _) _) he5
  generalize hLL : ((iN : Int) :: chain xs iN) = L at *
  have HLL := hide hLL
  clear hLL
  have hln : ln ≤ 61 := by
    have e1 := HLn.out
    have e2 := HLL.out
    have e3 := chain_len HR.out iN
    rw [← e2, List.length_cons] at e1
    omega
  go_loopg [53] ln (fun gg s53 wr => ∃ (a : Nat) (S : List Int) (M : List (Int × Int)), a ≤ ln ∧ ln - a ≤ gg ∧ s53 = .int .i64 a ∧ Hid (MapAt (Value.int .i64) (Value.int .i64) wr w3.heap.size M) ∧ Hid (Mp M S) ∧ Hid (Vs xs L a S) ∧ Hid (wr.ownsRow (w3.heap.size + 1) 3 1 (.slice lp ln lc) ln (L.flatMap intCells)) ∧ Aside (Ext w3 wr))
  case atStart => exact ⟨0, [], [], Nat.zero_le _, by omega, rfl, HM0, Mp.nil, Vs.zero _ _, HLo, hE5⟩
  case round =>
    obtain ⟨a, S, M, ha, hg, rfl, HM, HMp, HVs, HLo2, BW⟩ := hrel
    have BE := BW.out
    by_cases hlt : a < ln
    · obtain ⟨o, ho⟩ := getElem?_of_lt (xs := L) (k := a) (by have := HLn.out; omega)
      obtain ⟨oN, y, rfl, hoN, hy⟩ := walked (i := iN) HR.out (by omega) HL.out (by rw [HLL.out]; exact ho)
      obtain ⟨b, f, hlp, hblt, c0⟩ := ints_at HLo2.out HLn.out ho
      have HSc := hide (nscope_at sp sn sc oN xs y wr w1 w0.heap.size HO.out HL.out hy hl1 (hE3.trans BE))
      have HO' := hide ho
      have HY := hide hy
      have hltz : (a : Int) < (ln : Int) := by omega
      clear ho hy
      subst hlp
      go_wp2_with (go_at_call 21; refine HSc.out.mono ?_; rintro e w6 ⟨v6, rfl, l, ho6, hin6, hb6⟩; obtain ⟨qp, qn, qc, rfl, HQn, HQo⟩ := list_own ho6; have HIn := hide hin6; clear ho6 hin6)
      have hrz : w3.heap.size + 1 ≤ wr.heap.size := HM.out.lt
      have HM6 := hide (HM.out.below hb6)
      have HL6 := hide (owns_below HLo2.out hb6)
      have HQ6 := hide (owns_mono HQo.out hrz)
      have hE6 : Ext w3 w6 := BE.trans hb6
      have hqn : qn ≤ 60 := by (have e1 := HQn.out; have e2 := HIn.out.2; omega)
      clear HM HLo2 HQo HSc
      go_loopg [61] qn (fun gg s61 wr => ∃ (b' : Nat) (M' : List (Int × Int)), b' ≤ qn ∧ qn - b' ≤ gg ∧ s61 = .int .i64 b' ∧ Hid (MapAt (Value.int .i64) (Value.int .i64) wr w3.heap.size M') ∧ Hid (Mp M' (S ++ l.take b')) ∧ Hid (wr.ownsRow (w3.heap.size + 1) 3 1 (.slice (some ⟨b, f, none⟩) ln lc) ln (L.flatMap intCells)) ∧ Hid (wr.ownsRow (w3.heap.size + 1) 3 1 (.slice qp qn qc) qn (l.flatMap intCells)) ∧ Aside (Ext w3 wr))
      case atStart => exact ⟨0, M, Nat.zero_le _, by omega, rfl, HM6, hide (by simpa using HMp.out), HL6, HQ6, hE6⟩
      case round =>
        obtain ⟨b', M', hb', hgb, rfl, HM, HMp2, HL7, HQ7, BI⟩ := hrel
        have BJ := BI.out
        by_cases hblt2 : b' < qn
        · obtain ⟨z, hz⟩ := getElem?_of_lt (xs := l) (k := b') (by have := HQn.out; omega)
          obtain ⟨b2, f2, hqp, hblt3, c1⟩ := ints_at HQ7.out HQn.out hz
          have HZ := hide hz
          have hbz : (b' : Int) < (qn : Int) := by omega
          clear hz
          subst hqp
          go_wp2_with (at_mapUpdate; refine wpList_mapUpdate_at rfl _ _ _ 52 rfl keyI undII w3.heap.size M' rfl HM.out z rfl (1 : Int) rfl ?_; intro w7 hM7 hg7 hs7)
          go_roundg (qn - (b' + 1))
          case measure => omega
          case rel => exact ⟨b' + 1, _, by omega, by omega, by go_num, hide hM7, hide (by rw [take_snoc HZ.out, ← List.append_assoc]; exact HMp2.out.put z), hide (owns_put HL7.out hg7), hide (owns_put HQ7.out hg7), ext_put BJ (Nat.le_refl _) hg7⟩
        · have hbz : ¬ (b' : Int) < (qn : Int) := by omega
          go_wp2_with fail
          go_roundg (ln - (a + 1))
          case measure => omega
          case rel => exact ⟨a + 1, S ++ l, M', by omega, by omega, by go_num, HM, hide (by have := HMp2.out; rw [List.take_of_length_le (by have := HQn.out; omega)] at this; exact this), hide (HVs.out.next HO'.out HY.out (by rw [← HL.out]; exact HIn.out)), HL7, BI⟩
    · have hltz : ¬ (a : Int) < (ln : Int) := by omega
      have haln : a = ln := by omega
      have HVF : Hid (Vs xs L ln S) := by rw [← haln]; exact HVs
      clear haln HVs HLo2
      have HOr := hide (owns_below HO.out (hE3.trans BE))
      have hE0r : Ext w0 wr := hb.trans (hE3.trans BE)
      go_wp2_with fail
      go_loopg [71] sn (fun gg s71 wr => ∃ (j : Nat) (ys : List GN), j ≤ sn ∧ sn - j ≤ gg ∧ s71 = .int .i64 j ∧ Hid (wr.ownsRow w0.heap.size 50 16 (.slice sp sn sc) sn (ys.flatMap GN.cells)) ∧ Hid (RightN ys) ∧ Hid (SimS xs ys S) ∧ Hid (MapAt (Value.int .i64) (Value.int .i64) wr w3.heap.size M) ∧ Aside (Ext w0 wr))
      case atStart => exact ⟨0, xs, Nat.zero_le _, by omega, rfl, HOr, HR, SimS.refl _ _, HM, hE0r⟩
      case round =>
        obtain ⟨j, ys, hj, hgj, rfl, HO3, HR3, HS3, HM3, BK⟩ := hrel
        have BKE := BK.out
        by_cases hjl : j < sn
        · obtain ⟨g, cap, hv, hg0, hg1⟩ := HO3.out.form (by omega)
          obtain ⟨rfl, rfl⟩ : sp = some ⟨g, 0, none⟩ ∧ sc = cap := by simpa using hv
          obtain ⟨y, hy⟩ := getElem?_of_lt (xs := ys) (k := j) (by have e1 := HS3.out.len; have e2 := HL.out; omega)
          have hgr : g ≠ w3.heap.size := by (have e1 := (HO.out.lt g rfl).2; have e2 := hE3.size; omega)
          have hjz : (j : Int) < (sn : Int) := by omega
          have hjy : j < ys.length := (List.getElem?_eq_some_iff.1 hy).1
          have HY := hide hy
          clear hv hy
          by_cases hjs : (j : Int) ∈ S
          · have HG : Hid (mget (j : Int) M = some 1) := hide (by rw [HMp.out, if_pos hjs])
            go_wp2_with (first
              | (refine wpList_store_st rfl _ _ _ rfl s5 g j _ rfl rfl HO3.out hjl HY.out ?_; intro W1 ho1 hg1; have o1 := hide ho1; clear ho1)
              | (refine wpList_store_value rfl _ _ _ rfl s48 g j _ _ _ _ ⟨none, 0, 0⟩ rfl rfl rfl o1.out hjl (set_same hjy) ?_; intro W2 ho2 hg2; rw [List.set_set] at ho2; have o2 := hide ho2; clear ho2)
              | (refine wpList_store_fa rfl _ _ _ rfl s3 g j _ rfl rfl o2.out hjl (set_same hjy) ?_; intro W3 ho3 hg3; rw [List.set_set] at ho3; have o3 := hide ho3; clear ho3)
              | (refine wpList_store_tk rfl _ _ _ rfl s2 g j _ rfl rfl o3.out hjl (set_same hjy) ?_; intro W4 ho4 hg4; rw [List.set_set] at ho4; have o4 := hide ho4; clear ho4; have HM4 := hide (map_grown hgr HM3.out (((hg1.trans hg2).trans hg3).trans hg4)))
              | (at_lookup; refine wpList_lookup_at rfl _ _ 52 false rfl keyI undII (0 : Int) (zeroI _) w3.heap.size M rfl HM4.out (j : Int) rfl ?_; rw [HG.out]; simp only [Option.getD_some, if_false, Bool.false_eq_true]))
            go_roundg (sn - (j + 1))
            case measure => omega
            case rel => exact ⟨j + 1, _, by omega, by omega, by go_num, o4, hide (right_set HR3.out HY.out rfl rfl), hide (HS3.out.set HY.out rfl rfl rfl rfl (fun hs => rfl)), HM4, Below.grown BKE (((hg1.trans hg2).trans hg3).trans hg4) BKE.size (fun k hk => by cases hk; exact hg0)⟩
          · have HG : Hid (mget (j : Int) M = none) := hide (by rw [HMp.out, if_neg hjs])
            go_wp2_with (first
              | (refine wpList_store_st rfl _ _ _ rfl s5 g j _ rfl rfl HO3.out hjl HY.out ?_; intro W1 ho1 hg1; have o1 := hide ho1; clear ho1)
              | (refine wpList_store_value rfl _ _ _ rfl s48 g j _ _ _ _ ⟨none, 0, 0⟩ rfl rfl rfl o1.out hjl (set_same hjy) ?_; intro W2 ho2 hg2; rw [List.set_set] at ho2; have o2 := hide ho2; clear ho2)
              | (refine wpList_store_fa rfl _ _ _ rfl s3 g j _ rfl rfl o2.out hjl (set_same hjy) ?_; intro W3 ho3 hg3; rw [List.set_set] at ho3; have o3 := hide ho3; clear ho3)
              | (refine wpList_store_tk rfl _ _ _ rfl s2 g j _ rfl rfl o3.out hjl (set_same hjy) ?_; intro W4 ho4 hg4; rw [List.set_set] at ho4; have o4 := hide ho4; clear ho4; have HM4 := hide (map_grown hgr HM3.out (((hg1.trans hg2).trans hg3).trans hg4)))
              | (at_lookup; refine wpList_lookup_at rfl _ _ 52 false rfl keyI undII (0 : Int) (zeroI _) w3.heap.size M rfl HM4.out (j : Int) rfl ?_; rw [HG.out]; simp only [Option.getD_none, if_false, Bool.false_eq_true])
              | (refine wpList_store_nm rfl _ _ _ rfl s9 g j _ rfl rfl o4.out hjl (set_same hjy) ?_; intro W5 ho5 hg5; rw [List.set_set] at ho5; have o5 := hide ho5; clear ho5; have HM5 := hide (map_grown hgr HM4.out hg5)))
            go_roundg (sn - (j + 1))
            case measure => omega
            case rel => exact ⟨j + 1, _, by omega, by omega, by go_num, o5, hide (right_set HR3.out HY.out rfl rfl), hide (HS3.out.set HY.out rfl rfl rfl rfl (fun hs => absurd hs hjs)), HM5, Below.grown BKE ((((hg1.trans hg2).trans hg3).trans hg4).trans hg5) BKE.size (fun k hk => by cases hk; exact hg0)⟩
        · have hjz : ¬ (j : Int) < (sn : Int) := by omega
          obtain ⟨bz', f0, f1, f2, f3, f4⟩ := box_at BKE hz0 b0 b1 b2 b3 b4
          have hjn : sn = ys.length := by have e1 := HS3.out.len; have e2 := HL.out; omega
          have HFr := hide (fun (W : World) (h : Ext wr W) => frag_same ⟨cq, cd, cw, cr, cfl⟩ sp q sn sc m1 k iN qu ys (its.take m1) wr w W w0.heap.size E HO3.out hjn HR3.out hi1 hi2 hl1 HI2.out h (hx0.trans BKE) ((same_of HR.out HS3.out (by have := HVF.out; rwa [← HLL.out] at this) (by rw [HLn.out, HLL.out]) hi2 HL.out).trans HE.out))
          clear hjn
          have hww : Ext w wr := hx0.trans BKE
          go_wp2_with (first
            | (go_at_call 14; refine (HFr.out _ (by (repeat' (first | exact Below.refl _ _ | assumption | refine Ext.alloc ?_ _ | refine Ext.drew ?_ | refine Ext.trans ?_ (by assumption))))).mono ?_; rintro e w8 ⟨rfl, hb8⟩)
            | (go_at_call 9; with_reducible refine (HAW.out _).mono ?_; rintro e w1 ⟨rfl, hb⟩; have hb : Ext w w1 := Ext.trans (by (repeat' (first | exact Below.refl _ _ | assumption | refine Ext.alloc ?_ _ | refine Ext.drew ?_ | refine Ext.trans ?_ (by assumption)))) hb))
          go_ret
          exact ⟨rfl, hb⟩
end Go.Proofs.YtfcdohaimdodgaaDoor
