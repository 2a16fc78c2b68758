/- Texts behind ThreadRanked, part 23: contracts of the program's functions and the plain words for them. -/
import Derived.Test.YtagdbadljcongaaTpav
section
/- The law ThreadRanked, walked. -/
set_option linter.unusedVariables false
set_option linter.unusedSimpArgs false
namespace Go.Proofs.Ytagdbadljcongaa.X
open Go Go.RowKit Go.Proofs Go.Proofs.YtagdbadljcongaaW.PrintWords Go.Proofs.YtagdbadljcongaaW.PrintLast Go.Proofs.YtagdbadljcongaaW.PrintMore
set_option maxHeartbeats 8000000 in
set_option maxRecDepth 1000000 in
theorem ThreadRanked_calls (a0 : ByteArray) (k : Int) (w : World) : Calls Try.prog 13 #[.string a0, .int .i64 k] w fun e w' => e = .returned (.bool true) ∧ Below w.heap.size w w' := by
  have TA := Aside0.mk (show Calls Try.prog 26 #[.string a0, .int .i64 60, .int .i64 4] w fun e w' => ∃ s, e = .returned (.string s) ∧ Aside0 (Tame s 60 4) ∧ Below w.heap.size w w' from tame_any a0 60 4 w (by decide) (by decide) (by decide))
  go_enter Try.func13, Try.ntmps13
  go_upto_region 2 with (go_at_call 26; (with_reducible refine TA.out.mono ?_); rintro e w1 ⟨x, rfl, HX, hb⟩; have HB1 := Aside0.mk hb; clear hb)
  clear TA
  have HA := Aside0.mk (HX.out.isW (by decide) (by decide))
  have HX60 := Aside0.mk (show x.size ≤ 60 from HX.out.size)
  obtain ⟨C, hC⟩ : ∃ C, cs (bl x) = C := ⟨_, rfl⟩
  have HC := Aside0.mk hC
  have hC1 : 1 ≤ C := by rw [← hC, cs_less]; omega
  have hC2 : C ≤ 1152921504606846976 := by rw [← hC]; exact cs_60 (by rw [bl_length]; exact HX60.out)
  have CY := Aside0.mk (fun W => show Calls Try.prog 27 #[.string x] W fun e w' => e = .returned (.tuple #[.int .i64 (C : Int), .int .i64 0]) ∧ Below W.heap.size W w' by rw [← hC]; exact count_y x W HA.out)
  have hC1I : ¬ ((C : Int) < 1) := by omega
  have HC1 := Aside0.mk hC1
  have HC2 := Aside0.mk hC2
  clear hC hC1 hC2
  go_upto_region 6 with (first | (go_at_call 27; (with_reducible refine (CY.out _).mono ?_); rintro e w2 ⟨rfl, hb⟩; have HB2 := Aside0.mk (below_step HB1.out hb); clear hb) | (go_at_call 31; (with_reducible refine (mod_any k C _ HC1.out HC2.out).mono ?_); rintro e w3 ⟨r, rfl, hr, hd⟩; have HR := Aside0.mk hr; have HB3 := Aside0.mk (below_step HB2.out hd.below); clear hd hr))
  have HRC := Aside0.mk (show r < cs (bl x) by rw [HC.out]; exact HR.out)
  have HIW := Aside0.mk (item_isW (l := bl x) (by rw [bl_length]; exact HX60.out) HRC.out)
  have HID := Aside0.mk (show idx (bl x) 0 (itemL (bl x) r) = some r by
    have h := idx_item (bl x) (bl x).length r 0 (by omega) (by rw [List.drop_zero]; exact HRC.out)
    rw [List.drop_zero] at h
    exact h)
  obtain ⟨xs, hxs⟩ : ∃ xs, wth (bl x) 0 (itemL (bl x) r) = some xs := by
    have h := wth_idx (bl x) (itemL (bl x) r) 0
    rw [HID.out] at h
    exact Option.isSome_iff_exists.1 h
  have HXS := Aside0.mk hxs
  clear hxs
  have hrC : (r : Int) < 1152921504606846976 := by have := HR.out; have := HC2.out; omega
  by_cases hl : r + 1 = C
  · have hlI : (r : Int) + 1 = (C : Int) := by omega
    clear hl
    go_wp2_with (first | (go_at_call 36; (with_reducible refine (item_ok x r _ HA.out HRC.out _ rfl).mono ?_); rintro e w4 ⟨o, ho, rfl, hb⟩; have HO := Aside0.mk ho; have HB4 := Aside0.mk (below_step HB3.out hb); clear hb ho) | (go_at_call 33; (with_reducible refine (index_some x o _ HA.out (by rw [HO.out]; exact HIW.out) r (by rw [HO.out]; exact HID.out)).mono ?_); rintro e w5 ⟨rfl, hb⟩; have HB5 := Aside0.mk (below_step HB4.out hb); clear hb) | (go_at_call 34; (with_reducible refine (rwithin_any o x _ (by have := ((isW_iff _).1 HIW.out).1; rw [← bl_length, HO.out]; omega) (by have := HX60.out; omega) (some xs) (by rw [HO.out]; exact HXS.out)).mono ?_); rintro e w6 ⟨v, rfl, _, hb⟩; have HB6 := Aside0.mk (below_step HB5.out hb); clear hb) | (go_at_call 22; (with_reducible refine (awake_ok _).mono ?_); rintro e w7 ⟨rfl, hb⟩; have HB7 := Aside0.mk (below_step HB6.out hb); clear hb))
    go_ret
    exact ⟨rfl, HB7.out⟩
  · have hlI : ((r : Int) + 1 == (C : Int)) = false := beq_eq_false_iff_ne.mpr (by omega)
    have HRC1 := Aside0.mk (show r + 1 < cs (bl x) by rw [HC.out]; have := HR.out; omega)
    have HLS := Aside0.mk (show lessN (itemL (bl x) r) (itemL (bl x) (r + 1)) = true by
      have h := item_less (bl x) (bl x).length r (r + 1) 0 (by omega) (by omega) (by rw [List.drop_zero]; exact HRC1.out)
      rw [List.drop_zero] at h
      exact h)
    have IT := Aside0.mk (fun W => show Calls Try.prog 36 #[.string x, .int .i64 ((r : Int) + 1)] W (ItPost x (itemL (bl x) (r + 1)) W) from item_ok x (r + 1) W HA.out HRC1.out _ rfl)
    clear hl
    go_upto_region 14 with (first | (go_at_call 36; (with_reducible refine (item_ok x r _ HA.out HRC.out _ rfl).mono ?_); rintro e w4 ⟨o, ho, rfl, hb⟩; have HO := Aside0.mk ho; have HB4 := Aside0.mk (below_step HB3.out hb); clear hb ho) | (go_at_call 33; (with_reducible refine (index_some x o _ HA.out (by rw [HO.out]; exact HIW.out) r (by rw [HO.out]; exact HID.out)).mono ?_); rintro e w5 ⟨rfl, hb⟩; have HB5 := Aside0.mk (below_step HB4.out hb); clear hb) | (go_at_call 34; (with_reducible refine (rwithin_any o x _ (by have := ((isW_iff _).1 HIW.out).1; rw [← bl_length, HO.out]; omega) (by have := HX60.out; omega) (some xs) (by rw [HO.out]; exact HXS.out)).mono ?_); rintro e w6 ⟨v, rfl, _, hb⟩; have HB6 := Aside0.mk (below_step HB5.out hb); clear hb))
    go_at_call 36
    refine (IT.out _).mono ?_
    rintro e w8 ⟨t, ht, rfl, hb⟩
    have HB8 := Aside0.mk (below_step HB6.out hb)
    have hlt : Op.bytesLess o.toList t.toList = true := by rw [bytesLess_bl, HO.out, ht]; exact HLS.out
    clear hb ht
    go_wp2_with (go_at_call 22; (with_reducible refine (awake_ok _).mono ?_); rintro e w7 ⟨rfl, hb⟩; have HB7 := Aside0.mk (below_step HB8.out hb); clear hb)
    go_ret
    exact ⟨rfl, HB7.out⟩
end Go.Proofs.Ytagdbadljcongaa.X
end
