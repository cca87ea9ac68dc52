/-
  check: what is asked of a fragment, one by one.
-/
import Derived.Test.YtfcdohaimdodgaaDoorOver
namespace Go.Proofs.YtfcdohaimdodgaaDoor
open Go.RowKit Go.Shelf
set_option linter.unusedVariables false

theorem all1_any (a : Ask) (its : List It) (B : Nat) (w : World) (hi : ItemsAt w a.is its) (hB : AskBox w B a) :
    Calls Tryd.prog 53 #[.pointer (some ⟨B, 0, none⟩)] w fun e w' => e = .returned (.bool (!rightB (itemOf its))) ∧ Ext w w' := by
  have H := hide (fun (W : World) (hb : Ext w W) => right_any a.is.p a.is.n a.is.c its W (hi.below hb))
  obtain ⟨b0, b1, b2, b3, b4, b5, b6, b7, b8⟩ := hB.all
  clear hB hi
  generalize rightB (itemOf its) = R at *
  go_enter Tryd.func53, Tryd.ntmps53
  go_wp2_with (go_at_call 8; refine (H.out _ (by (repeat' (first | exact Below.refl _ _ | assumption | refine Ext.alloc ?_ _ | refine Ext.drew ?_ | refine Ext.trans ?_ (by assumption))))).mono ?_; rintro e w' ⟨rfl, hb⟩; obtain ⟨hc, hf, hz⟩ := bcell hb; (try have zw0 := hz (w.heap.size) (by first | (simp; omega) | omega | (simp; done) | assumption)); (try have zw1 := hz (w.heap.size + 1) (by first | (simp; omega) | omega | (simp; done) | assumption)); (try have zw2 := hz (w.heap.size + 2) (by first | (simp; omega) | omega | (simp; done) | assumption)); (try have zr0 := hz (wr.heap.size) (by first | (simp; omega) | omega | (simp; done) | assumption)); (try have zr1 := hz (wr.heap.size + 1) (by first | (simp; omega) | omega | (simp; done) | assumption)); (try have zr2 := hz (wr.heap.size + 2) (by first | (simp; omega) | omega | (simp; done) | assumption)); (try have zB0 := hz (B) (by first | (simp; omega) | omega | (simp; done) | assumption)); clear hz)
  go_ret
  exact ⟨rfl, by (repeat' (first | exact Below.refl _ _ | assumption | refine Ext.alloc ?_ _ | refine Ext.drew ?_ | refine Ext.trans ?_ (by assumption)))⟩
/-- what Cost and Total answer of anything, right or not -/
def costW (x : Item) : Int := if x.k = 1 then wrap64 (wrap64 (x.wd * wrap64 (1 + x.q)) + 1) else wrap64 (wrap64 (1 + x.q))
def totalW (l : List Item) : Int := l.foldl (fun s x => wrap64 (s + costW x)) 0
theorem totalW_snoc (l : List Item) (x : Item) : totalW (l ++ [x]) = wrap64 (totalW l + costW x) := by simp [totalW]
theorem costW_any (x : It) (w : World) : Calls Tryd.prog 10 #[.agg #[.string x.d.nm, .int .u8 x.d.k, .slice x.af.p x.af.n x.af.c, .string x.d.ov, .int .i64 x.d.wd, .int .i64 x.d.q]] w fun e w' => (e = .returned (.int .i64 (costW x.d))) ∧ Ext w w' := by
  obtain ⟨⟨nm, k, names, ov, wd, q⟩, ⟨sp, sn, sc⟩⟩ := x
  go_enter Tryd.func10, Tryd.ntmps10
  go_wp2
  all_goals go_ret
  all_goals refine ⟨ret_int ?_, by (repeat' (first | exact Below.refl _ _ | assumption | refine Ext.alloc ?_ _ | refine Ext.drew ?_ | refine Ext.trans ?_ (by assumption)))⟩
  all_goals (unfold costW; go_light; simp_all)
set_option maxHeartbeats 400000 in
theorem totalW_any (p : Option Addr) (n c : Nat) (xs : List It) (w : World) (hs : RowsAt 6 It.cells w ⟨p, n, c⟩ xs) : Calls Tryd.prog 11 #[.slice p n c] w fun e w' => e = .returned (.int .i64 (totalW (itemOf xs))) ∧ Ext w w' := by
  have hlen := hs.len
  have hbig := hs.big
  have hcap := hs.cap
  dsimp only at hlen hbig hcap
  have HL := hide hlen; clear hlen
  go_enter Tryd.func11, Tryd.ntmps11
  go_wp2
  go_loopg [3, 8] n (fun gg s3 s8 wr => ∃ (k : Nat), k ≤ n ∧ n - k ≤ gg ∧ s8 = .int .i64 k ∧ s3 = .int .i64 (totalW (itemOf (xs.take k))) ∧ Aside (Ext w wr))
  case atStart => exact ⟨0, Nat.zero_le _, by omega, rfl, rfl, Ext.refl _⟩
  case round =>
    obtain ⟨k, hk, hg, rfl, rfl, BW⟩ := hrel
    by_cases hlt : k < n
    · obtain ⟨x, hx⟩ := getElem?_of_lt (xs := xs) (k := k) (by have := HL.out; omega)
      obtain ⟨b, o, hsp, hblt, c0, c1, c2, c3, c4, c5⟩ := ItemsAt.cells' (hs.below BW.out) hx
      have hcost := hide (fun W => costW_any x W)
      have HS : Hid (totalW (itemOf (xs.take (k + 1))) = wrap64 (totalW (itemOf (xs.take k)) + costW x.d)) := by
        apply hide
        rw [take_snoc hx, itemOf, List.map_append]
        exact totalW_snoc _ _
      have hltz : (k : Int) < (n : Int) := by omega
      generalize totalW (itemOf (xs.take k)) = T at *
      generalize costW x.d = C at *
      clear hs hx
      subst hsp
      go_wp2_with (go_at_call 10; refine (hcost.out _).mono ?_; rintro e w' ⟨rfl, hb⟩; obtain ⟨hc, hf, hz⟩ := bcell hb; (try have zw0 := hz (w.heap.size) (by first | (simp; omega) | omega | (simp; done) | assumption)); (try have zw1 := hz (w.heap.size + 1) (by first | (simp; omega) | omega | (simp; done) | assumption)); (try have zw2 := hz (w.heap.size + 2) (by first | (simp; omega) | omega | (simp; done) | assumption)); (try have zr0 := hz (wr.heap.size) (by first | (simp; omega) | omega | (simp; done) | assumption)); (try have zr1 := hz (wr.heap.size + 1) (by first | (simp; omega) | omega | (simp; done) | assumption)); (try have zr2 := hz (wr.heap.size + 2) (by first | (simp; omega) | omega | (simp; done) | assumption)); (try have zB0 := hz (B) (by first | (simp; omega) | omega | (simp; done) | assumption)); clear hz)
      go_roundg (n - (k + 1))
      case measure => omega
      case rel => exact ⟨k + 1, by omega, by omega, by go_num, by rw [HS.out], BW.out.trans (by (repeat' (first | exact Below.refl _ _ | assumption | refine Ext.alloc ?_ _ | refine Ext.drew ?_ | refine Ext.trans ?_ (by assumption))))⟩
    · have hltz : ¬ (k : Int) < (n : Int) := by omega
      have hkn : k = n := by omega
      have HK := hide hkn; clear hkn
      go_wp2
      go_ret
      refine ⟨ret_int ?_, BW.out⟩
      rw [List.take_of_length_le (by have := HL.out; have := HK.out; omega)]
theorem all2_any (a : Ask) (its : List It) (B : Nat) (w : World) (hi : ItemsAt w a.is its) (hB : AskBox w B a) (hr : rightB (itemOf its) = true) :
    Calls Tryd.prog 58 #[.pointer (some ⟨B, 0, none⟩)] w fun e w' => e = .returned (.bool (decide (a.quota < totalZ (itemOf its)))) ∧ Ext w w' := by
  have hall : ∀ x ∈ its, fitsB x.d = true := by
    intro x hx
    simp only [rightB, Bool.and_eq_true, List.all_eq_true] at hr
    exact hr.2 x.d (List.mem_map_of_mem hx)
  have hl : its.length ≤ 1000 := by
    simp only [rightB, Bool.and_eq_true, decide_eq_true_eq, itemOf, List.length_map] at hr
    omega
  have H := hide (fun (W : World) (hb : Ext w W) => total_any a.is.p a.is.n a.is.c its W (hi.below hb).rows hall hl)
  have hlt := hB.lt
  obtain ⟨b0, b1, b2, b3, b4, b5, b6, b7, b8⟩ := hB.all
  clear hB hi hr hall hl
  generalize totalZ (itemOf its) = T at *
  have hcE : ∀ W b o, Ext w W → b < w.heap.size → W.cell? ⟨b, o, none⟩ = w.cell? ⟨b, o, none⟩ := fun W b o h hb => h.cell (p := ⟨b, o, none⟩) hb
  go_enter Tryd.func58, Tryd.ntmps58
  go_wp2
  refine wp_region_ext_lit (by kernel_rfl) (by kernel_rfl) ?_
  (repeat (first | (go_big_quiet_skip; (try simp only [Act.put, List.setIfInBounds_toArray, List.set_cons_succ, List.set_cons_zero])) | (go_big_quiet_want; apply Exists.intro; refine ⟨fun W hW => ?_, ?_⟩; (focus (unfold Oper.quietAt; go_simp; (first | done | exact rfl | exact ⟨rfl, rfl⟩ | (go_at_call 11; refine (H.out _ hW).mono ?_; rintro e w3 ⟨rfl, hb3⟩; exact ⟨rfl, Ext.trans hW hb3⟩)))); go_big_quiet_on; (try simp only [Act.put, List.setIfInBounds_toArray, List.set_cons_succ, List.set_cons_zero]))))
  refine wpQuiet_nil ?_
  intro w3 hw3
  go_wp2
  go_ret
  exact ⟨rfl, hw3⟩
theorem all2W_any (a : Ask) (its : List It) (B : Nat) (w : World) (hi : ItemsAt w a.is its) (hB : AskBox w B a) :
    Calls Tryd.prog 58 #[.pointer (some ⟨B, 0, none⟩)] w fun e w' => e = .returned (.bool (decide (a.quota < totalW (itemOf its)))) ∧ Ext w w' := by
  have H := hide (fun (W : World) (hb : Ext w W) => totalW_any a.is.p a.is.n a.is.c its W (hi.below hb).rows)
  have hlt := hB.lt
  obtain ⟨b0, b1, b2, b3, b4, b5, b6, b7, b8⟩ := hB.all
  clear hB hi
  generalize totalW (itemOf its) = T at *
  have hcE : ∀ W b o, Ext w W → b < w.heap.size → W.cell? ⟨b, o, none⟩ = w.cell? ⟨b, o, none⟩ := fun W b o h hb => h.cell (p := ⟨b, o, none⟩) hb
  go_enter Tryd.func58, Tryd.ntmps58
  go_wp2
  refine wp_region_ext_lit (by kernel_rfl) (by kernel_rfl) ?_
  (repeat (first | (go_big_quiet_skip; (try simp only [Act.put, List.setIfInBounds_toArray, List.set_cons_succ, List.set_cons_zero])) | (go_big_quiet_want; apply Exists.intro; refine ⟨fun W hW => ?_, ?_⟩; (focus (unfold Oper.quietAt; go_simp; (first | done | exact rfl | exact ⟨rfl, rfl⟩ | (go_at_call 11; refine (H.out _ hW).mono ?_; rintro e w3 ⟨rfl, hb3⟩; exact ⟨rfl, Ext.trans hW hb3⟩)))); go_big_quiet_on; (try simp only [Act.put, List.setIfInBounds_toArray, List.set_cons_succ, List.set_cons_zero]))))
  refine wpQuiet_nil ?_
  intro w3 hw3
  go_wp2
  go_ret
  exact ⟨rfl, hw3⟩
end Go.Proofs.YtfcdohaimdodgaaDoor
