/-
  awake of the layer's law: its walk.
-/
import Derived.Test.YtfcdohaimdodgaaDoorAwake
namespace Go.Proofs.YtfcdohaimdodgaaDoor
open Go.RowKit Go.Shelf
set_option linter.unusedVariables false
theorem calls_eq {p : Program} {f : FuncId} {a a' : Array Value} {W W' : World} {Q : Ending → World → Prop} (h : Calls p f a' W' Q) (ha : a' = a) (hW : W' = W) : Calls p f a W Q := by subst ha hW; exact h
set_option maxRecDepth 100000 in
set_option maxHeartbeats 4000000 in
theorem awake_any (w : World) : Calls Tryd.prog 9 #[] w fun e w' => e = .returned (.bool true) ∧ Ext w w' := by
  have H0 := hide (aw_first w)
  go_enter Tryd.func9, Tryd.ntmps9
  go_wp2_with fail
  go_at_call 14
  refine calls_eq ((frag2 cAw iA (iB (w.heap.size + 1)) 0 (allocs w (awRows w.heap.size)) (iA_ok _) H0.out.b (aw1' _)).mono ?_) (by rw [allocs_size]; rfl) (by kernel_rfl)
  rintro e w1 ⟨rfl, hb⟩
  have HA1 := hide (H0.out.next (Ext.trans (Ext.alloc (Ext.refl _) _) hb))
  clear hb H0
  obtain ⟨q0_0, q0_1, q0_2, q0_3, q0_4, q2_0, q2_1, q2_2, q2_3, q2_4, q2_5, q3_0, q3_1, q3_2, q3_3, q3_4, q3_5, q4_0, q4_1, q4_2, q4_3, q4_4, q4_5, q5_0, q5_1, q5_2, q5_3, q5_4, q5_5, q6_0, q6_1, q6_2, q6_3, q6_4, q6_5, s0, s1, s2, s3, s4, s5, s6, s7, s8⟩ := Aw.all HA1.out
  go_wp2_with fail
  go_at_call 11
  refine (tot2 w w1 HA1.out).mono ?_
  rintro e w2 ⟨rfl, hb⟩
  have HA2 := hide (HA1.out.next (Ext.trans (Ext.alloc (Ext.refl _) _) hb))
  clear hb HA1 q0_0 q0_1 q0_2 q0_3 q0_4 q2_0 q2_1 q2_2 q2_3 q2_4 q2_5 q3_0 q3_1 q3_2 q3_3 q3_4 q3_5 q4_0 q4_1 q4_2 q4_3 q4_4 q4_5 q5_0 q5_1 q5_2 q5_3 q5_4 q5_5 q6_0 q6_1 q6_2 q6_3 q6_4 q6_5 s0 s1 s2 s3 s4 s5 s6 s7 s8
  obtain ⟨q0_0, q0_1, q0_2, q0_3, q0_4, q2_0, q2_1, q2_2, q2_3, q2_4, q2_5, q3_0, q3_1, q3_2, q3_3, q3_4, q3_5, q4_0, q4_1, q4_2, q4_3, q4_4, q4_5, q5_0, q5_1, q5_2, q5_3, q5_4, q5_5, q6_0, q6_1, q6_2, q6_3, q6_4, q6_5, s0, s1, s2, s3, s4, s5, s6, s7, s8⟩ := Aw.all HA2.out
  go_wp2_with fail
  go_at_call 14
  refine (frag2 cAw iA (iL (w.heap.size + 7)) 21 _ (iA_ok _) HA2.out.l (aw3' _)).mono ?_
  rintro e w3 ⟨rfl, hb⟩
  have HA3 := hide (HA2.out.next (Ext.trans (Ext.alloc (Ext.refl _) _) hb))
  clear hb HA2 q0_0 q0_1 q0_2 q0_3 q0_4 q2_0 q2_1 q2_2 q2_3 q2_4 q2_5 q3_0 q3_1 q3_2 q3_3 q3_4 q3_5 q4_0 q4_1 q4_2 q4_3 q4_4 q4_5 q5_0 q5_1 q5_2 q5_3 q5_4 q5_5 q6_0 q6_1 q6_2 q6_3 q6_4 q6_5 s0 s1 s2 s3 s4 s5 s6 s7 s8
  obtain ⟨q0_0, q0_1, q0_2, q0_3, q0_4, q2_0, q2_1, q2_2, q2_3, q2_4, q2_5, q3_0, q3_1, q3_2, q3_3, q3_4, q3_5, q4_0, q4_1, q4_2, q4_3, q4_4, q4_5, q5_0, q5_1, q5_2, q5_3, q5_4, q5_5, q6_0, q6_1, q6_2, q6_3, q6_4, q6_5, s0, s1, s2, s3, s4, s5, s6, s7, s8⟩ := Aw.all HA3.out
  go_wp2_with fail
  go_at_call 10
  refine (costM _).mono ?_
  rintro e w4 ⟨rfl, hb⟩
  have HA4 := hide (HA3.out.next hb)
  clear hb HA3 q0_0 q0_1 q0_2 q0_3 q0_4 q2_0 q2_1 q2_2 q2_3 q2_4 q2_5 q3_0 q3_1 q3_2 q3_3 q3_4 q3_5 q4_0 q4_1 q4_2 q4_3 q4_4 q4_5 q5_0 q5_1 q5_2 q5_3 q5_4 q5_5 q6_0 q6_1 q6_2 q6_3 q6_4 q6_5 s0 s1 s2 s3 s4 s5 s6 s7 s8
  obtain ⟨q0_0, q0_1, q0_2, q0_3, q0_4, q2_0, q2_1, q2_2, q2_3, q2_4, q2_5, q3_0, q3_1, q3_2, q3_3, q3_4, q3_5, q4_0, q4_1, q4_2, q4_3, q4_4, q4_5, q5_0, q5_1, q5_2, q5_3, q5_4, q5_5, q6_0, q6_1, q6_2, q6_3, q6_4, q6_5, s0, s1, s2, s3, s4, s5, s6, s7, s8⟩ := Aw.all HA4.out
  go_wp2_with fail
  go_at_call 14
  refine (frag2 cAw iA iM 22 _ (iA_ok _) (iM_ok _) aw4).mono ?_
  rintro e w5 ⟨rfl, hb⟩
  have HA5 := hide (HA4.out.next (Ext.trans (Ext.alloc (Ext.refl _) _) hb))
  clear hb HA4 q0_0 q0_1 q0_2 q0_3 q0_4 q2_0 q2_1 q2_2 q2_3 q2_4 q2_5 q3_0 q3_1 q3_2 q3_3 q3_4 q3_5 q4_0 q4_1 q4_2 q4_3 q4_4 q4_5 q5_0 q5_1 q5_2 q5_3 q5_4 q5_5 q6_0 q6_1 q6_2 q6_3 q6_4 q6_5 s0 s1 s2 s3 s4 s5 s6 s7 s8
  obtain ⟨q0_0, q0_1, q0_2, q0_3, q0_4, q2_0, q2_1, q2_2, q2_3, q2_4, q2_5, q3_0, q3_1, q3_2, q3_3, q3_4, q3_5, q4_0, q4_1, q4_2, q4_3, q4_4, q4_5, q5_0, q5_1, q5_2, q5_3, q5_4, q5_5, q6_0, q6_1, q6_2, q6_3, q6_4, q6_5, s0, s1, s2, s3, s4, s5, s6, s7, s8⟩ := Aw.all HA5.out
  go_wp2_with fail
  go_at_call 14
  refine (frag2 cAw iA iA 20 _ (iA_ok _) (iA_ok _) aw5).mono ?_
  rintro e w6 ⟨rfl, hb⟩
  have HA6 := hide (HA5.out.next (Ext.trans (Ext.alloc (Ext.refl _) _) hb))
  clear hb HA5 q0_0 q0_1 q0_2 q0_3 q0_4 q2_0 q2_1 q2_2 q2_3 q2_4 q2_5 q3_0 q3_1 q3_2 q3_3 q3_4 q3_5 q4_0 q4_1 q4_2 q4_3 q4_4 q4_5 q5_0 q5_1 q5_2 q5_3 q5_4 q5_5 q6_0 q6_1 q6_2 q6_3 q6_4 q6_5 s0 s1 s2 s3 s4 s5 s6 s7 s8
  obtain ⟨q0_0, q0_1, q0_2, q0_3, q0_4, q2_0, q2_1, q2_2, q2_3, q2_4, q2_5, q3_0, q3_1, q3_2, q3_3, q3_4, q3_5, q4_0, q4_1, q4_2, q4_3, q4_4, q4_5, q5_0, q5_1, q5_2, q5_3, q5_4, q5_5, q6_0, q6_1, q6_2, q6_3, q6_4, q6_5, s0, s1, s2, s3, s4, s5, s6, s7, s8⟩ := Aw.all HA6.out
  go_wp2_with fail
  go_at_call 14
  refine (frag2 cAw iA iW 24 _ (iA_ok _) (iW_ok _) aw6).mono ?_
  rintro e w7 ⟨rfl, hb⟩
  have HA7 := hide (HA6.out.next (Ext.trans (Ext.alloc (Ext.refl _) _) hb))
  clear hb HA6 q0_0 q0_1 q0_2 q0_3 q0_4 q2_0 q2_1 q2_2 q2_3 q2_4 q2_5 q3_0 q3_1 q3_2 q3_3 q3_4 q3_5 q4_0 q4_1 q4_2 q4_3 q4_4 q4_5 q5_0 q5_1 q5_2 q5_3 q5_4 q5_5 q6_0 q6_1 q6_2 q6_3 q6_4 q6_5 s0 s1 s2 s3 s4 s5 s6 s7 s8
  obtain ⟨q0_0, q0_1, q0_2, q0_3, q0_4, q2_0, q2_1, q2_2, q2_3, q2_4, q2_5, q3_0, q3_1, q3_2, q3_3, q3_4, q3_5, q4_0, q4_1, q4_2, q4_3, q4_4, q4_5, q5_0, q5_1, q5_2, q5_3, q5_4, q5_5, q6_0, q6_1, q6_2, q6_3, q6_4, q6_5, s0, s1, s2, s3, s4, s5, s6, s7, s8⟩ := Aw.all HA7.out
  go_wp2_with fail
  go_at_call 14
  refine (frag3 w _ HA7.out).mono ?_
  rintro e w8 ⟨rfl, hb⟩
  have HA8 := hide (HA7.out.next (Ext.trans (Ext.alloc (Ext.refl _) _) hb))
  clear hb HA7 q0_0 q0_1 q0_2 q0_3 q0_4 q2_0 q2_1 q2_2 q2_3 q2_4 q2_5 q3_0 q3_1 q3_2 q3_3 q3_4 q3_5 q4_0 q4_1 q4_2 q4_3 q4_4 q4_5 q5_0 q5_1 q5_2 q5_3 q5_4 q5_5 q6_0 q6_1 q6_2 q6_3 q6_4 q6_5 s0 s1 s2 s3 s4 s5 s6 s7 s8
  obtain ⟨q0_0, q0_1, q0_2, q0_3, q0_4, q2_0, q2_1, q2_2, q2_3, q2_4, q2_5, q3_0, q3_1, q3_2, q3_3, q3_4, q3_5, q4_0, q4_1, q4_2, q4_3, q4_4, q4_5, q5_0, q5_1, q5_2, q5_3, q5_4, q5_5, q6_0, q6_1, q6_2, q6_3, q6_4, q6_5, s0, s1, s2, s3, s4, s5, s6, s7, s8⟩ := Aw.all HA8.out
  go_wp2_with fail
  go_ret
  exact ⟨rfl, HA8.out.ext⟩
end Go.Proofs.YtfcdohaimdodgaaDoor
