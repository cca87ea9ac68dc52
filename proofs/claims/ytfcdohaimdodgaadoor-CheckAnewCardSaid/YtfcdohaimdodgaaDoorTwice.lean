/-
  check: twice, by an account of names.
-/
import Derived.Test.YtfcdohaimdodgaaDoorCheck
import Derived.Test.YtfcdohaimdodgaaDoorIdxst
namespace Go.Proofs.YtfcdohaimdodgaaDoor
open Go.RowKit Go.Shelf
set_option linter.unusedVariables false

theorem gb_of_ext {a b : World} (h : Ext a b) : a.grownBy b none := ⟨h.os, h.tape, h.output, h.size, fun k hk _ => h.block k hk⟩
theorem ext_of_gb {a b : World} (h : a.grownBy b none) : Ext a b := ⟨h.os, h.tape, h.output, h.size, fun k hk => h.block k hk (by simp)⟩
theorem gb_some {a b : World} (h : a.grownBy b none) (r : Option Nat) : a.grownBy b r := ⟨h.os, h.tape, h.output, h.size, fun k hk _ => h.block k hk (by simp)⟩
theorem gb_trans {a b c : World} {r : Option Nat} (h : a.grownBy b r) (k : b.grownBy c r) : a.grownBy c r :=
  ⟨k.os.trans h.os, k.tape.trans h.tape, k.output.trans h.output, Nat.le_trans h.size k.size, fun i hi hne => (k.block i (Nat.lt_of_lt_of_le hi h.size) hne).trans (h.block i hi hne)⟩
theorem RowsAt.grown {α : Type} {sz : Nat} {cells : α → List Value} {w w' : World} {s : Sl} {xs : List α} {r : Nat} (h : RowsAt sz cells w s xs) (hg : w.grownBy w' (some r)) (hs : ∀ b o, s.p = some ⟨b, o, none⟩ → b ≠ r) : RowsAt sz cells w' s xs :=
  ⟨h.len, h.cap, h.big, fun k x hx => by
    obtain ⟨b, o, hp, hlt, hc⟩ := h.at_ k x hx
    refine ⟨b, o, hp, Nat.lt_of_lt_of_le hlt hg.size, fun j v hv => ?_⟩
    rw [World.cell?_of_block (w := w) (a := ⟨b, o + k * sz + j, none⟩) (hg.block b hlt (by have := hs b o hp; simpa using this))]
    exact hc j v hv⟩
theorem gb_cell {w w' : World} {r b o : Nat} {v : Value} (hg : w.grownBy w' (some r)) (h : w.cell? ⟨b, o, none⟩ = some v) (hne : b ≠ r) : w'.cell? ⟨b, o, none⟩ = some v := by
  rw [World.cell?_of_block (w := w) (a := ⟨b, o, none⟩) (hg.block b (lt_of_cell h) (by simpa using hne))]
  exact h

theorem zeroS (w : World) : (zeroValue 3).run Tryd.prog w = .ok (.int .i64 0) w := by kernel_rfl
theorem undSI : Tryd.prog.underlying 45 = some (.map 9 3) := by kernel_rfl
theorem keyS : KeyLaw Tryd.prog 9 Value.string := keyString Tryd.underlying9
abbrev SMap (w : World) (r : Nat) (l : List (ByteArray × Int)) : Prop := MapAt Value.string (Value.int .i64) w r l

theorem enters_aTwice1 : ∀ args w, (callFunc 75 args).run Tryd.prog w = .ok (.enter 75 args) w := enters_of Tryd.func75 (by kernel_rfl) rfl
set_option maxHeartbeats 1000000 in
theorem twice1_any (x : It) (B r : Nat) (l : List (ByteArray × Int)) (w : World) (hB : w.cell? ⟨B, 0, none⟩ = some (.map (some r))) (hM : SMap w r l) (hne : B ≠ r) (hbd : 0 ≤ (mget x.d.nm l).getD 0 ∧ (mget x.d.nm l).getD 0 < 9223372036854775807) :
    Calls Tryd.prog 75 #[.agg #[.string x.d.nm, .int .u8 x.d.k, .slice x.af.p x.af.n x.af.c, .string x.d.ov, .int .i64 x.d.wd, .int .i64 x.d.q], .pointer (some ⟨B, 0, none⟩)] w fun e w' =>
      e = .returned (.bool (decide (0 < (mget x.d.nm l).getD 0))) ∧ SMap w' r (mput x.d.nm ((mget x.d.nm l).getD 0 + 1) l) ∧ w.grownBy w' (some r) := by
  have hlt := lt_of_cell hB
  have hrl := hM.lt
  have hne2 : B ≠ w.heap.size := by omega
  have hMa := hide (hM.below (Ext.alloc (Ext.refl w) (.cells #[.string x.d.nm, .int .u8 x.d.k, .slice x.af.p x.af.n x.af.c, .string x.d.ov, .int .i64 x.d.wd, .int .i64 x.d.q] 27)))
  have HG : Hid (mget x.d.nm (mput x.d.nm ((mget x.d.nm l).getD 0 + 1) l) = some ((mget x.d.nm l).getD 0 + 1)) := hide (by rw [mget_mput]; simp)
  obtain ⟨hb0, hb1⟩ := hbd
  have HBX := hide (show (w.alloc (.cells #[.string x.d.nm, .int .u8 x.d.k, .slice x.af.p x.af.n x.af.c, .string x.d.ov, .int .i64 x.d.wd, .int .i64 x.d.q] 27)).cell? ⟨w.heap.size, 0, none⟩ = some (.string x.d.nm) by
    simp only [World.cell?, World.alloc_heap_new w _]; rfl)
  clear hM
  generalize hc : (mget x.d.nm l).getD 0 = c at *
  have HC := hide hc; clear hc
  go_enter Tryd.func75, Tryd.ntmps75
  go_wp2_with (first | (at_lookup; refine wpList_lookup_at rfl (.tmp 4) (.tmp 6) 45 false rfl keyS undSI (0 : Int) (zeroS _) r l rfl hMa.out x.d.nm rfl ?_; rw [HC.out]; simp only [if_false, Bool.false_eq_true]) | (at_mapUpdate; refine wpList_mapUpdate_at rfl (.tmp 4) (.tmp 6) (.tmp 8) 45 rfl keyS undSI r l rfl hMa.out x.d.nm rfl (c + 1) rfl ?_; intro w2 hM2 hg2 hs2; have hB2 := gb_cell hg2 (cell_alloc_l _ hB) hne; have hN2 := gb_cell hg2 HBX.out (by omega)) | (at_lookup; refine wpList_lookup_at rfl (.tmp 9) (.tmp 11) 45 false rfl keyS undSI (0 : Int) (zeroS _) r _ rfl hM2 x.d.nm rfl ?_; rw [HG.out]; simp only [if_false, Bool.false_eq_true, Option.getD_some]))
  go_ret
  refine ⟨ret_bool (by go_light; simp; omega), hM2, gb_trans (gb_some (World.grownBy_alloc w _ none) _) hg2⟩

/-- the account of names -/
def cntUpTo (l : List ByteArray) : Nat → List (ByteArray × Int)
  | 0 => []
  | k + 1 => match l[k]? with
    | some s => mput s ((mget s (cntUpTo l k)).getD 0 + 1) (cntUpTo l k)
    | none => cntUpTo l k
theorem cnt_get (l : List ByteArray) : ∀ k s, (mget s (cntUpTo l k)).getD 0 = ((l.take k).countP (fun t => decide (t = s)) : Int) := by
  intro k
  induction k with
  | zero => intro s; simp [cntUpTo, mget]
  | succ k ih =>
    intro s
    cases hx : l[k]? with
    | none =>
      have hk : l.length ≤ k := List.getElem?_eq_none_iff.1 hx
      unfold cntUpTo; rw [hx]; dsimp only
      rw [ih s, List.take_of_length_le hk, List.take_of_length_le (by omega)]
    | some u =>
      unfold cntUpTo; rw [hx]; dsimp only
      rw [mget_mput, take_snoc hx, List.countP_append]
      by_cases h : u = s
      · subst h; simp [ih u]
      · simp [h, ih s]
theorem cnt_le (l : List ByteArray) (k : Nat) (s : ByteArray) : 0 ≤ (mget s (cntUpTo l k)).getD 0 ∧ (mget s (cntUpTo l k)).getD 0 ≤ k := by
  rw [cnt_get]
  have h1 := List.countP_le_length (p := fun t => decide (t = s)) (l := l.take k)
  have h2 : (l.take k).length ≤ k := List.length_take_le _ _
  omega
theorem twiceF_eq (all : List ByteArray) : ∀ (rest : List Item) (n : Nat) (seen : List ByteArray), all.drop n = rest.map Item.nm → (∀ s, seen.any (fun t => decide (t = s)) = decide (0 < (mget s (cntUpTo all n)).getD 0)) →
    twiceF seen rest = (rest.zipIdx n).any (fun y : Item × Nat => decide (0 < (mget y.1.nm (cntUpTo all y.2)).getD 0)) := by
  intro rest
  induction rest with
  | nil => intro n seen _ _; rfl
  | cons x r ih =>
    intro n seen hd hs
    have hx : all[n]? = some x.nm := by
      have := congrArg (fun l => l[0]?) hd
      simpa using this
    have hd2 : all.drop (n + 1) = r.map Item.nm := by
      have := congrArg (fun l => l.drop 1) hd
      simpa [List.drop_drop, Nat.add_comm] using this
    unfold twiceF
    rw [List.zipIdx_cons, List.any_cons, hs]
    dsimp only
    congr 1
    apply ih (n + 1) (x.nm :: seen) hd2
    intro s
    rw [List.any_cons, hs, cnt_get, cnt_get, take_snoc hx, List.countP_append]
    by_cases h : x.nm = s
    · simp [h]
    · simp [h]
theorem twice_eq (its : List It) : twiceN (itemOf its) = its.zipIdx.any (fun y : It × Nat => decide (0 < (mget y.1.d.nm (cntUpTo ((itemOf its).map Item.nm) y.2)).getD 0)) := by
  unfold twiceN
  rw [twiceF_eq ((itemOf its).map Item.nm) (itemOf its) 0 [] (by simp) (fun s => by simp [cntUpTo, mget])]
  unfold itemOf
  rw [List.zipIdx_map, List.any_map]
  rfl
theorem has_st (a : Ask) (its : List It) (p : Nat → It → Bool) (I : Nat → World → Prop) (g : Nat) (fst cap : Array Value) (w : World) (eg : ∀ args w, (callFunc g args).run Tryd.prog w = .ok (.enter g args) w)
    (hs : ∀ k W, I k W → RowsAt 6 It.cells W a.is its) (hp : ∀ k x W, its[k]? = some x → I k W → Calls Tryd.prog g (fst ++ #[x.enc] ++ cap) W fun e w' => e = .returned (.bool (p k x)) ∧ I (k + 1) w') (hIa : ∀ k W o, I k W → I k (W.alloc o)) (h0 : I 0 w) :
    Calls Tryd.prog 72 #[.agg a.cells.toArray, .func (.func g) fst cap] w fun e w' => e = .returned (.bool (its.zipIdx.any (fun y : It × Nat => p y.2 y.1))) ∧ Aside (∃ k, I k w') := by
  have H := hide (fun (W : World) (h0 : I 0 W) => contIt_st a.is.p a.is.n a.is.c its p I g fst cap W eg hs hp h0)
  have HI := hide (fun o => hIa 0 w o h0)
  clear hs hp eg hIa h0
  generalize its.zipIdx.any (fun y : It × Nat => p y.2 y.1) = R at *
  simp only [Ask.cells] at *
  go_enter Tryd.func72, Tryd.ntmps72
  go_wp2_with (go_at_call 25; refine (H.out _ (HI.out _)).mono ?_; rintro e w' ⟨rfl, hb⟩)
  go_ret
  exact ⟨rfl, hb⟩
theorem twice_any (a : Ask) (its : List It) (w : World) (hi : ItemsAt w a.is its) :
    Calls Tryd.prog 55 #[.agg a.cells.toArray] w fun e w' => e = .returned (.bool (twiceN (itemOf its))) ∧ Ext w w' := by
  have hl := hi.rows.len
  have hbig := hi.rows.big
  have hcap := hi.rows.cap
  have HR := hide (twice_eq its)
  have hE : Ext w (((w.alloc (.cells a.cells.toArray 67)).alloc (.map #[] 0)).alloc (.cells #[.map (some (w.heap.size + 1))] 45)) := by (repeat' (first | exact Below.refl _ _ | assumption | refine Ext.alloc ?_ _ | refine Ext.drew ?_ | refine Ext.trans ?_ (by assumption)))
  have hm0 := MapAt.new Value.string (Value.int .i64) (w.alloc (.cells a.cells.toArray 67))
  rw [World.size_alloc] at hm0
  have hb0 := cell_new_l ((w.alloc (.cells a.cells.toArray 67)).alloc (.map #[] 0)) (.map (some (w.heap.size + 1))) 45
  simp only [World.size_alloc] at hb0
  have hm1 := hm0.below (Ext.alloc (Ext.refl _) (.cells #[.map (some (w.heap.size + 1))] 45))
  have hblt : ∀ b o, a.is.p = some ⟨b, o, none⟩ → its ≠ [] → b < w.heap.size := fun b o hp hne => hi.rows.block_lt (by rw [hl]; exact List.length_pos_iff.2 hne) b o hp
  generalize hW : ((w.alloc (.cells a.cells.toArray 67)).alloc (.map #[] 0)).alloc (.cells #[.map (some (w.heap.size + 1))] 45) = W0 at *
  have H := hide (has_st a its (fun k x => decide (0 < (mget x.d.nm (cntUpTo ((itemOf its).map Item.nm) k)).getD 0))
    (fun k W => W.cell? ⟨w.heap.size + 2, 0, none⟩ = some (.map (some (w.heap.size + 1))) ∧ SMap W (w.heap.size + 1) (cntUpTo ((itemOf its).map Item.nm) k) ∧ W0.grownBy W (some (w.heap.size + 1)))
    75 #[] #[.pointer (some ⟨w.heap.size + 2, 0, none⟩)] W0 enters_aTwice1
    (fun k W hI => by
      by_cases hne : its = []
      · subst hne
        exact ⟨hl, hcap, hbig, fun k x hx => by simp at hx⟩
      · exact (hi.rows.below hE).grown hI.2.2 (fun b o hp => by have := hblt b o hp hne; omega))
    (fun k x W hx hI => by
      have hk : k < its.length := by
        rcases Nat.lt_or_ge k its.length with h | h
        · exact h
        · rw [List.getElem?_eq_none h] at hx; cases hx
      have hc := cnt_le ((itemOf its).map Item.nm) k x.d.nm
      refine (twice1_any x (w.heap.size + 2) (w.heap.size + 1) _ W hI.1 hI.2.1 (by omega) ⟨hc.1, by omega⟩).mono ?_
      rintro e w' ⟨rfl, h2, h3⟩
      refine ⟨rfl, gb_cell h3 hI.1 (by omega), ?_, gb_trans hI.2.2 h3⟩
      have : cntUpTo ((itemOf its).map Item.nm) (k + 1) = mput x.d.nm ((mget x.d.nm (cntUpTo ((itemOf its).map Item.nm) k)).getD 0 + 1) (cntUpTo ((itemOf its).map Item.nm) k) := by
        conv => lhs; unfold cntUpTo
        rw [show ((itemOf its).map Item.nm)[k]? = some x.d.nm by simp [itemOf, hx]]
      rw [this]; exact h2)
    (fun k W o hI => ⟨cell_alloc_l _ hI.1, hI.2.1.below (Ext.alloc (Ext.refl _) _), gb_trans hI.2.2 (gb_some (World.grownBy_alloc W o none) _)⟩)
    ⟨hb0.1, hm1, gb_some (gb_of_ext (Ext.refl _)) _⟩)
  subst hW
  rw [← HR.out] at H
  clear hi hl hbig hcap hm0 hm1 hb0 HR hblt
  have HE := hide hE; clear hE
  generalize twiceN (itemOf its) = R at *
  simp only [Ask.cells] at *
  have hmm := @run_makeMap Tryd.prog
  go_enter Tryd.func55, Tryd.ntmps55
  go_wp2_with (go_at_call 72; refine H.out.mono ?_; rintro e w' ⟨rfl, hb⟩)
  go_ret
  refine ⟨rfl, ?_⟩
  obtain ⟨k, -, -, hg⟩ := hb
  exact Below.grown HE.out hg HE.out.size (fun k e => by cases e; omega)
end Go.Proofs.YtfcdohaimdodgaaDoor
