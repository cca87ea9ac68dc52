/-
  frag: Name, within, fits, Right, by what the document says.
-/
import Derived.Test.YtfcdohaimdodgaaDoorIdx
import Derived.Test.YtfcdohaimdodgaaDoorTrim
namespace Go.Proofs.YtfcdohaimdodgaaDoor
open Go.RowKit Go.Shelf Go.Lib
set_option linter.unusedVariables false

theorem within_any (n h : Int) (w : World) : Calls Tryd.prog 49 #[.int .i64 n, .int .i64 h] w fun e w' => e = .returned (.bool (withinB n h)) ∧ w = w' := by
  unfold withinB
  go_enter Tryd.func49, Tryd.ntmps49
  go_wp2
  all_goals go_ret
  all_goals (refine ⟨ret_bool ?_, rfl⟩; simp; try omega)
theorem isMap_any (x : It) (w : World) : Calls Tryd.prog 74 #[.agg #[.string x.d.nm, .int .u8 x.d.k, .slice x.af.p x.af.n x.af.c, .string x.d.ov, .int .i64 x.d.wd, .int .i64 x.d.q]] w fun e w' => e = .returned (.bool (x.d.k == 1)) ∧ Ext w w' := by
  go_enter Tryd.func74, Tryd.ntmps74
  go_wp2
  go_ret
  exact ⟨rfl, (Below.refl _ _).alloc (Nat.le_refl _) _⟩
theorem sPlace_any (p : Option Addr) (n c : Nat) (i : Int) (w : World) : Calls Tryd.prog 39 #[.slice p n c, .int .i64 i] w fun e w' => e = .returned (.bool (decide (0 ≤ i) && decide (i < n))) ∧ w = w' := by
  go_enter Tryd.func39, Tryd.ntmps39
  go_wp2
  all_goals go_ret
  all_goals (refine ⟨ret_bool ?_, rfl⟩; simp; try omega)
def cs37 : List UInt8 := [97, 98, 99, 100, 101, 102, 103, 104, 105, 106, 107, 108, 109, 110, 111, 112, 113, 114, 115, 116, 117, 118, 119, 120, 121, 122, 48, 49, 50, 51, 52, 53, 54, 55, 56, 57, 95]
theorem letter_eq (b : UInt8) : cs37.contains b = letter b := by
  have h : ∀ n : Fin 256, cs37.contains (UInt8.ofFin n) = letter (UInt8.ofFin n) := by decide +kernel
  exact h b.toFin
theorem dropWhile_nil {α : Type} (p : α → Bool) (l : List α) : l.dropWhile p = [] ↔ l.all p = true := by
  induction l with
  | nil => simp
  | cons x r ih => simp only [List.dropWhile_cons, List.all_cons]; cases h : p x <;> simp_all
theorem lettersAll (l : List UInt8) : (Lib.trimS l cs37 = []) ↔ l.all letter = true := by
  have e : (fun b => cs37.contains b) = letter := funext letter_eq
  unfold Lib.trimS Lib.trimRightS Lib.trimLeftS
  rw [e, dropWhile_nil, List.all_reverse]
  have key : ∀ m : List UInt8, (m.dropWhile letter).all letter = m.all letter := by
    intro m
    induction m with
    | nil => rfl
    | cons x r ih =>
      rw [List.dropWhile_cons]
      cases hx : letter x
      · simp
      · simpa [hx] using ih
  rw [key, List.all_reverse]
theorem name_any (s : ByteArray) (w : World) : Calls Tryd.prog 48 #[.string s] w fun e w' => e = .returned (.bool (nameOk s)) ∧ Ext w w' := by
  have hcon := fun (hs : s.size ≤ 9223372036854775807) (W : World) => Any.strings_Trim_laid Tryd.lays160 (by kernel_rfl) s ⟨#[97, 98, 99, 100, 101, 102, 103, 104, 105, 106, 107, 108, 109, 110, 111, 112, 113, 114, 115, 116, 117, 118, 119, 120, 121, 122, 48, 49, 50, 51, 52, 53, 54, 55, 56, 57, 95]⟩ W hs (by decide) (ascii_of_all (by decide))
  have hl := lettersAll s.data.toList
  unfold cs37 at hl
  dsimp only [List.toList_toArray] at hcon
  generalize Lib.trimS s.data.toList [97, 98, 99, 100, 101, 102, 103, 104, 105, 106, 107, 108, 109, 110, 111, 112, 113, 114, 115, 116, 117, 118, 119, 120, 121, 122, 48, 49, 50, 51, 52, 53, 54, 55, 56, 57, 95] = r at hl hcon
  have HL := hide hl; clear hl
  go_enter Tryd.func48, Tryd.ntmps48
  go_wp2_with (go_at_call 70; refine (hcon (by omega) _).mono ?_; rintro e w' ⟨rfl, hb⟩)
  all_goals go_ret
  · refine ⟨ret_bool ?_, hb⟩
    unfold nameOk
    have := HL.out
    have h1 : 1 ≤ s.size ∧ s.size ≤ 20 := by omega
    cases r with
    | nil => simp [h1, this.1 rfl]
    | cons a b =>
      have h2 : s.data.toList.all letter = false := by
        cases h3 : s.data.toList.all letter
        · rfl
        · exact absurd (this.2 h3) (by simp)
      simp [h2]
  · refine ⟨ret_bool ?_, Below.refl _ _⟩
    unfold nameOk
    simp; omega
  · refine ⟨ret_bool ?_, Below.refl _ _⟩
    unfold nameOk
    simp; omega
theorem fits1_any (s : ByteArray) (w : World) : Calls Tryd.prog 51 #[.string s] w fun e w' => e = .returned (.bool (!nameOk s)) ∧ Ext w w' := by
  have h := name_any s w
  generalize nameOk s = r at h ⊢
  go_enter Tryd.func51, Tryd.ntmps51
  go_wp2_with (go_at_call 48; refine h.mono ?_; rintro e w' ⟨rfl, hb⟩)
  go_ret
  exact ⟨rfl, hb⟩
theorem enters_fits1 : ∀ args w, (callFunc 51 args).run Tryd.prog w = .ok (.enter 51 args) w := enters_of Tryd.func51 (by kernel_rfl) rfl
theorem enters_fRight1 : ∀ args w, (callFunc 26 args).run Tryd.prog w = .ok (.enter 26 args) w := enters_of Tryd.func26 (by kernel_rfl) rfl
set_option maxHeartbeats 400000 in
theorem fits_any (x : It) (w : World) (hx : x.ok w) : Calls Tryd.prog 27 #[.agg #[.string x.d.nm, .int .u8 x.d.k, .slice x.af.p x.af.n x.af.c, .string x.d.ov, .int .i64 x.d.wd, .int .i64 x.d.q]] w fun e w' => e = .returned (.bool (fitsB x.d)) ∧ Ext w w' := by
  obtain ⟨⟨nm, k, names, ov, wd, q⟩, ⟨sp, sn, sc⟩⟩ := x
  have hlen := hx.len
  dsimp only at hlen ⊢
  have hco := fun (W : World) (hb : Ext w W) => contStr_any sp sn sc names (fun s => !nameOk s) 51 #[] #[] W enters_fits1 (RowsAt.below hx hb) (fun s _ W' _ => fits1_any s W')
  have HE : Hid (fitsB ⟨nm, k, names, ov, wd, q⟩ = (nameOk nm && decide (sn ≤ 20) && withinB q 400 && !(names.any fun s => !nameOk s) && ((k == 0 && ov.size == 0 && wd == 0) || (k == 1 && nameOk ov && withinB wd 40)))) := by
    apply hide
    have e : names.all nameOk = !(names.any fun s => !nameOk s) := by rw [List.all_eq_not_any_not]
    simp only [fitsB, hlen, e]
  generalize fitsB ⟨nm, k, names, ov, wd, q⟩ = R at *
  generalize (names.any fun s => !nameOk s) = r5 at *
  clear hx hlen
  go_enter Tryd.func27, Tryd.ntmps27
  go_wp2_with (first | (go_at_call 48; refine (name_any _ _).mono ?_; rintro e w' ⟨rfl, hb⟩; obtain ⟨hc, hf, hz⟩ := bcell hb; (try have zw0 := hz (w.heap.size) (by first | (simp; omega) | omega | (simp; done) | assumption)); (try have zw1 := hz (w.heap.size + 1) (by first | (simp; omega) | omega | (simp; done) | assumption)); (try have zw2 := hz (w.heap.size + 2) (by first | (simp; omega) | omega | (simp; done) | assumption)); (try have zr0 := hz (wr.heap.size) (by first | (simp; omega) | omega | (simp; done) | assumption)); (try have zr1 := hz (wr.heap.size + 1) (by first | (simp; omega) | omega | (simp; done) | assumption)); (try have zr2 := hz (wr.heap.size + 2) (by first | (simp; omega) | omega | (simp; done) | assumption)); (try have zB0 := hz (B) (by first | (simp; omega) | omega | (simp; done) | assumption)); clear hz) | (go_at_call 49; refine (within_any _ _ _).mono ?_; rintro e w' ⟨rfl, rfl⟩) | (go_at_call 50; refine (hco _ (by (repeat' (first | exact Below.refl _ _ | assumption | refine Ext.alloc ?_ _ | refine Ext.drew ?_ | refine Ext.trans ?_ (by assumption))))).mono ?_; rintro e w' ⟨rfl, hb⟩; obtain ⟨hc, hf, hz⟩ := bcell hb; (try have zw0 := hz (w.heap.size) (by first | (simp; omega) | omega | (simp; done) | assumption)); (try have zw1 := hz (w.heap.size + 1) (by first | (simp; omega) | omega | (simp; done) | assumption)); (try have zw2 := hz (w.heap.size + 2) (by first | (simp; omega) | omega | (simp; done) | assumption)); (try have zr0 := hz (wr.heap.size) (by first | (simp; omega) | omega | (simp; done) | assumption)); (try have zr1 := hz (wr.heap.size + 1) (by first | (simp; omega) | omega | (simp; done) | assumption)); (try have zr2 := hz (wr.heap.size + 2) (by first | (simp; omega) | omega | (simp; done) | assumption)); (try have zB0 := hz (B) (by first | (simp; omega) | omega | (simp; done) | assumption)); clear hz))
  all_goals go_ret
  all_goals refine ⟨ret_bool ?_, by (repeat' (first | exact Below.refl _ _ | assumption | refine Ext.alloc ?_ _ | refine Ext.drew ?_ | refine Ext.trans ?_ (by assumption)))⟩
  all_goals (have he := HE.out; clear HE; subst he)
  all_goals (go_light; grind [ba_nil])
theorem right1_any (x : It) (w : World) (hx : x.ok w) : Calls Tryd.prog 26 #[.agg #[.string x.d.nm, .int .u8 x.d.k, .slice x.af.p x.af.n x.af.c, .string x.d.ov, .int .i64 x.d.wd, .int .i64 x.d.q]] w fun e w' => e = .returned (.bool (!fitsB x.d)) ∧ Ext w w' := by
  have h := fun (W : World) (hb : Ext w W) => fits_any x W (hx.below hb)
  generalize fitsB x.d = R at *
  clear hx
  go_enter Tryd.func26, Tryd.ntmps26
  go_wp2_with (go_at_call 27; refine (h _ (by (repeat' (first | exact Below.refl _ _ | assumption | refine Ext.alloc ?_ _ | refine Ext.drew ?_ | refine Ext.trans ?_ (by assumption))))).mono ?_; rintro e w' ⟨rfl, hb⟩; obtain ⟨hc, hf, hz⟩ := bcell hb; (try have zw0 := hz (w.heap.size) (by first | (simp; omega) | omega | (simp; done) | assumption)); (try have zw1 := hz (w.heap.size + 1) (by first | (simp; omega) | omega | (simp; done) | assumption)); (try have zw2 := hz (w.heap.size + 2) (by first | (simp; omega) | omega | (simp; done) | assumption)); (try have zr0 := hz (wr.heap.size) (by first | (simp; omega) | omega | (simp; done) | assumption)); (try have zr1 := hz (wr.heap.size + 1) (by first | (simp; omega) | omega | (simp; done) | assumption)); (try have zr2 := hz (wr.heap.size + 2) (by first | (simp; omega) | omega | (simp; done) | assumption)); (try have zB0 := hz (B) (by first | (simp; omega) | omega | (simp; done) | assumption)); clear hz)
  go_ret
  exact ⟨rfl, by (repeat' (first | exact Below.refl _ _ | assumption | refine Ext.alloc ?_ _ | refine Ext.drew ?_ | refine Ext.trans ?_ (by assumption)))⟩
theorem right_any (p : Option Addr) (n c : Nat) (xs : List It) (w : World) (hs : ItemsAt w ⟨p, n, c⟩ xs) : Calls Tryd.prog 8 #[.slice p n c] w fun e w' => e = .returned (.bool (rightB (itemOf xs))) ∧ Ext w w' := by
  have hlen := hs.rows.len
  dsimp only at hlen
  have hco := contIt_any p n c xs (fun x => !fitsB x.d) 26 #[] #[] w enters_fRight1 hs.rows (fun x hx W hb => right1_any x W ((hs.ok x hx).below hb))
  have HE : Hid (rightB (itemOf xs) = (decide (n ≤ 40) && !(xs.any fun x => !fitsB x.d))) := by
    apply hide
    simp only [rightB, itemOf, hlen, List.length_map, List.all_eq_not_any_not, List.any_map]
    rfl
  generalize rightB (itemOf xs) = R at *
  generalize (xs.any fun x => !fitsB x.d) = r5 at *
  clear hs hlen
  go_enter Tryd.func8, Tryd.ntmps8
  go_wp2_with (go_at_call 25; refine (hco).mono ?_; rintro e w' ⟨rfl, hb⟩; obtain ⟨hc, hf, hz⟩ := bcell hb; (try have zw0 := hz (w.heap.size) (by first | (simp; omega) | omega | (simp; done) | assumption)); (try have zw1 := hz (w.heap.size + 1) (by first | (simp; omega) | omega | (simp; done) | assumption)); (try have zw2 := hz (w.heap.size + 2) (by first | (simp; omega) | omega | (simp; done) | assumption)); (try have zr0 := hz (wr.heap.size) (by first | (simp; omega) | omega | (simp; done) | assumption)); (try have zr1 := hz (wr.heap.size + 1) (by first | (simp; omega) | omega | (simp; done) | assumption)); (try have zr2 := hz (wr.heap.size + 2) (by first | (simp; omega) | omega | (simp; done) | assumption)); (try have zB0 := hz (B) (by first | (simp; omega) | omega | (simp; done) | assumption)); clear hz)
  all_goals go_ret
  all_goals refine ⟨ret_bool ?_, by (repeat' (first | exact Below.refl _ _ | assumption | refine Ext.alloc ?_ _ | refine Ext.drew ?_ | refine Ext.trans ?_ (by assumption)))⟩
  all_goals (have he := HE.out; clear HE; subst he)
  all_goals (go_light; grind)
theorem cost_any (x : It) (w : World) (hx : fitsB x.d = true ∨ ((0 ≤ x.d.wd ∧ x.d.wd ≤ 40) ∧ (0 ≤ x.d.q ∧ x.d.q ≤ 400))) : Calls Tryd.prog 10 #[.agg #[.string x.d.nm, .int .u8 x.d.k, .slice x.af.p x.af.n x.af.c, .string x.d.ov, .int .i64 x.d.wd, .int .i64 x.d.q]] w fun e w' => e = .returned (.int .i64 (costZ x.d)) ∧ Ext w w' := by
  obtain ⟨⟨nm, k, names, ov, wd, q⟩, ⟨sp, sn, sc⟩⟩ := x
  have hb : (0 ≤ wd ∧ wd ≤ 40) ∧ (0 ≤ q ∧ q ≤ 400) := by
    rcases hx with h | h
    · have := fits_bd h; exact ⟨this.2.1, this.1⟩
    · exact h
  obtain ⟨hw, hq⟩ := hb
  clear hx
  have h1 : 0 ≤ wd * (1 + q) := Int.mul_nonneg (by omega) (by omega)
  have h2 : wd * (1 + q) ≤ 40 * (1 + q) := Int.mul_le_mul_of_nonneg_right (by omega) (by omega)
  go_enter Tryd.func10, Tryd.ntmps10
  go_wp2
  all_goals go_ret
  all_goals refine ⟨ret_int ?_, by (repeat' (first | exact Below.refl _ _ | assumption | refine Ext.alloc ?_ _ | refine Ext.drew ?_ | refine Ext.trans ?_ (by assumption)))⟩
  all_goals (unfold costZ; go_light; simp_all)
set_option maxHeartbeats 400000 in
theorem total_any (p : Option Addr) (n c : Nat) (xs : List It) (w : World) (hs : RowsAt 6 It.cells w ⟨p, n, c⟩ xs) (hx : ∀ x ∈ xs, fitsB x.d = true) (hl : xs.length ≤ 1000) : Calls Tryd.prog 11 #[.slice p n c] w fun e w' => e = .returned (.int .i64 (totalZ (itemOf xs))) ∧ Ext w w' := by
  have hlen := hs.len
  dsimp only at hlen
  have hn : n ≤ 1000 := by omega
  have HL := hide hlen; clear hlen
  have HX := hide hx; clear hx
  go_enter Tryd.func11, Tryd.ntmps11
  go_wp2
  go_loopg [3, 8] n (fun gg s3 s8 wr => ∃ k : Nat, k ≤ n ∧ n - k ≤ gg ∧ s8 = .int .i64 k ∧ s3 = .int .i64 (totalZ (itemOf (xs.take k))) ∧ Aside (Ext w wr))
  case atStart => exact ⟨0, Nat.zero_le _, by omega, rfl, rfl, Ext.refl _⟩
  case round =>
    obtain ⟨k, hk, hg, rfl, rfl, BW⟩ := hrel
    by_cases hlt : k < n
    · obtain ⟨x, hx⟩ := getElem?_of_lt (xs := xs) (k := k) (by have := HL.out; omega)
      obtain ⟨b, o, hsp, hblt, c0, c1, c2, c3, c4, c5⟩ := ItemsAt.cells' (hs.below BW.out) hx
      have hfx := HX.out x (List.mem_of_getElem? hx)
      have hcost := fun W => cost_any x W (.inl hfx)
      have hcb := cost_bd (x := x.d) (fits_bd hfx).2.1 (fits_bd hfx).1
      have htb := total_bd (l := itemOf (xs.take k)) (fun y hy => by
        obtain ⟨z, hz, rfl⟩ := List.mem_map.1 hy
        exact HX.out z (List.mem_of_mem_take hz))
      have htl : (itemOf (xs.take k)).length ≤ k := by simp [itemOf]; omega
      have htb2 : totalZ (itemOf (xs.take k)) ≤ 17000000 := by omega
      have htb1 := htb.1
      clear htb htl
      have HS : Hid (totalZ (itemOf (xs.take (k + 1))) = totalZ (itemOf (xs.take k)) + costZ x.d) := by
        apply hide
        rw [take_snoc hx, itemOf, List.map_append, totalZ_append]
        simp [totalZ, itemOf]
      generalize totalZ (itemOf (xs.take k)) = T at *
      generalize costZ x.d = C at *
      have hltz : (k : Int) < (n : Int) := by omega
      clear hs hx hfx
      subst hsp
      go_wp2_with (go_at_call 10; refine (hcost _).mono ?_; rintro e w' ⟨rfl, hb⟩; obtain ⟨hc, hf, hz⟩ := bcell hb; (try have zw0 := hz (w.heap.size) (by first | (simp; omega) | omega | (simp; done) | assumption)); (try have zw1 := hz (w.heap.size + 1) (by first | (simp; omega) | omega | (simp; done) | assumption)); (try have zw2 := hz (w.heap.size + 2) (by first | (simp; omega) | omega | (simp; done) | assumption)); (try have zr0 := hz (wr.heap.size) (by first | (simp; omega) | omega | (simp; done) | assumption)); (try have zr1 := hz (wr.heap.size + 1) (by first | (simp; omega) | omega | (simp; done) | assumption)); (try have zr2 := hz (wr.heap.size + 2) (by first | (simp; omega) | omega | (simp; done) | assumption)); (try have zB0 := hz (B) (by first | (simp; omega) | omega | (simp; done) | assumption)); clear hz)
      go_roundg (n - (k + 1))
      case measure => omega
      case rel => exact ⟨k + 1, by omega, by omega, by go_num, by rw [HS.out], BW.out.trans (by (repeat' (first | exact Below.refl _ _ | assumption | refine Ext.alloc ?_ _ | refine Ext.drew ?_ | refine Ext.trans ?_ (by assumption))))⟩
    · have hltz : ¬ (k : Int) < (n : Int) := by omega
      have hkn : k = n := by omega
      have HK := hide hkn; clear hkn
      go_wp2
      go_ret
      refine ⟨ret_int ?_, BW.out⟩
      rw [List.take_of_length_le (by have := HL.out; have := HK.out; omega)]
end Go.Proofs.YtfcdohaimdodgaaDoor
