/- Texts behind ThreadArches, part 24: contracts of the program's functions and the plain words for them. -/
import Derived.Test.YtagdbadljcongaaTpaw
section
/- The law ThreadArches, walked. -/
set_option linter.unusedVariables false
set_option linter.unusedSimpArgs false
namespace Go.Proofs.Ytagdbadljcongaa.X
open Go Go.RowKit Go.Proofs Go.Proofs.YtagdbadljcongaaW.PrintWords Go.Proofs.YtagdbadljcongaaW.PrintLast Go.Proofs.YtagdbadljcongaaW.PrintMore
theorem tame_of {x : ByteArray} {k : Nat} (h1 : isW (bl x) = true) (h2 : ovr (bl x) k = true) : Tame x 60 k := by
  have h := (isW_iff _).1 h1
  refine ⟨by rw [← bl_length]; exact h.1, fun b hb => ⟨(h.2 b hb).1, ?_⟩⟩
  exact of_decide_eq_true (List.all_eq_true.1 h2 b hb)
set_option maxHeartbeats 8000000 in
set_option maxRecDepth 1000000 in
theorem ThreadArches_calls (a0 : ByteArray) (k : Int) (w : World) : Calls Try.prog 3 #[.string a0, .int .i64 k] w fun e w' => e = .returned (.bool true) ∧ Below w.heap.size w w' := by
  go_enter Try.func3, Try.ntmps3
  go_upto_region 2 with (go_at_call 17; (with_reducible refine (short_any a0 w).mono ?_); rintro e w1 ⟨x, rfl, HX, hb⟩; have HB1 := Aside0.mk hb; clear hb)
  by_cases hok : okK x k
  · obtain ⟨k, rfl⟩ : ∃ n : Nat, k = (n : Int) := Int.eq_ofNat_of_zero_le (by have := hok.2.1; omega)
    have HW := Aside0.mk hok.1
    have HK := Aside0.mk (show 1 ≤ k ∧ k ≤ 4 by have := hok.2.1; have := hok.2.2.1; omega)
    have HV := Aside0.mk (show ovr (bl x) k = true by have := hok.2.2.2; rwa [Int.toNat_natCast] at this)
    have HT := Aside0.mk (tame_of HW.out HV.out)
    have hk1 : (1 : Int) ≤ (k : Int) := by have := HK.out; omega
    have hk4 : (k : Int) ≤ 4 := by have := HK.out; omega
    have hk1n : ¬ ((k : Int) < 1) := by omega
    have hk4n : ¬ ((4 : Int) < (k : Int)) := by omega
    obtain ⟨R, hR⟩ : ∃ R, arch (bl x) k 0 = R := ⟨_, rfl⟩
    have HR := Aside0.mk hR
    have hRl : R.length ≤ 1000000 := by
      have h1 := lst_arch (bl x) k
      have h2 := lst_le (bl x) k 0
      rw [hR] at h1
      have h3 := HT.out.size
      rw [bl_length] at h2
      omega
    have HRL := Aside0.mk hRl
    obtain ⟨xs, hxs⟩ : ∃ xs : List Int, (R.map fun (n : Nat) => (n : Int)) = xs := ⟨_, rfl⟩
    have HXL := Aside0.mk (show xs.length = R.length by rw [← hxs, List.length_map])
    have HXB := Aside0.mk (show xs.length ≤ 1000000 by rw [HXL.out]; exact HRL.out)
    have AR := Aside0.mk (fun W => show Calls Try.prog 18 #[.string x, .int .i64 (k : Int)] W fun e w' => ∃ A c, e = .returned (.tuple #[.slice A xs.length c, .int .i64 0]) ∧ Aside0 (xs.length ≤ c ∧ Kd.C (Kd.int .i64) w' A xs.length xs) ∧ Below W.heap.size W w' by
      refine (arches_ok x k W HW.out HK.out.1 HK.out.2 HV.out R hR).mono ?_
      rintro e w' ⟨v, rfl, hr, hb⟩
      rw [hxs] at hr
      obtain ⟨A, c, rfl⟩ := Kd.R_slice hr
      exact ⟨A, c, rfl, ⟨(Kd.R_reads' hr).2⟩, hb⟩)
    have RA := Aside0.mk (fun W => show Calls Try.prog 24 #[.string x, .int .i64 (k : Int)] W fun e w' => ∃ A c, e = .returned (.slice A xs.length c) ∧ Aside0 (xs.length ≤ c ∧ Kd.C (Kd.int .i64) w' A xs.length xs) ∧ Below W.heap.size W w' by
      have h := rarches_any x k W HT.out HK.out.1 HK.out.2 R hR
      rw [hxs, ← HXL.out] at h
      exact h)
    clear hok hR hRl hxs
    go_upto_region 4 with (first | (go_at_call 18; (with_reducible refine (AR.out _).mono ?_); rintro e w2 ⟨A, c, rfl, HC, hb⟩; have HB2 := Aside0.mk (below_step HB1.out hb); clear hb) | (go_at_call 19; (with_reducible refine (absent_ok x k _ HW.out HK.out.1 HK.out.2 HV.out _ rfl).mono ?_); rintro e w3 ⟨o, ho, rfl, hb⟩; have HO := Aside0.mk ho; have HC3 := Aside0.mk (Kd.C_below HC.out.2 hb); have HB3 := Aside0.mk (below_step HB2.out hb); clear hb ho))
    clear HB2
    go_wp2_with (first | (go_at_call 20; (with_reducible refine (word_any x true _ (by have := HX.out; omega) HW.out).mono ?_); rintro e w4 ⟨rfl, hd⟩; have HC4 := Aside0.mk (Kd.C_below HC3.out hd.below); have HB4 := Aside0.mk (below_step HB3.out hd.below); clear hd) | (go_at_call 21; (with_reducible refine (lettersK_any x k _ HW.out HK.out.2 true HV.out).mono ?_); rintro e w5 ⟨rfl, hd⟩; have HC5 := Aside0.mk (Kd.C_below HC4.out hd.below); have HB5 := Aside0.mk (below_step HB4.out hd.below); clear hd) | (go_at_call 24; (with_reducible refine (RA.out _).mono ?_); rintro e w6 ⟨B, d, rfl, HD, hb⟩; have HC6 := Aside0.mk (Kd.C_below HC5.out hb); have HB6 := Aside0.mk (below_step HB5.out hb); clear hb) | (go_at_call 23; (with_reducible refine (ints_yes _ _ _ _ _ _ HXB.out HC6.out HC.out.1 HD.out.2 HD.out.1).mono ?_); rintro e w7 ⟨rfl, hd⟩; have HB7 := Aside0.mk (below_step HB6.out hd.below); clear hd) | (go_at_call 25; (with_reducible refine (rabsent_any x k _ HT.out HK.out.1 HK.out.2 o HO.out).mono ?_); rintro e w8 ⟨rfl, hb⟩; have HB8 := Aside0.mk (below_step HB7.out hb); clear hb) | (go_at_call 22; (with_reducible refine (awake_ok _).mono ?_); rintro e w9 ⟨rfl, hb⟩; have HB9 := Aside0.mk (below_step HB8.out hb); clear hb))
    go_ret
    exact ⟨rfl, HB9.out⟩
  · have HBAD := Aside0.mk hok
    go_upto_region 4 with (first | (go_at_call 18; (with_reducible refine (arches_bad x k _ HBAD.out).mono ?_); rintro e w2 ⟨rfl, hb⟩; have HB2 := Aside0.mk (below_step HB1.out hb); clear hb) | (go_at_call 19; (with_reducible refine (absent_bad x k _ HBAD.out).mono ?_); rintro e w3 ⟨rfl, hb⟩; have HB3 := Aside0.mk (below_step HB2.out hb); clear hb))
    clear HB2
    by_cases hw : isW (bl x) = true
    · have HW := Aside0.mk hw
      by_cases h1 : k < 1
      · clear hok hw
        go_wp2_with (first | (go_at_call 20; (with_reducible refine (word_any x true _ (by have := HX.out; omega) HW.out).mono ?_); rintro e w4 ⟨rfl, hd⟩; have HB4 := Aside0.mk (below_step HB3.out hd.below); clear hd) | (go_at_call 22; (with_reducible refine (awake_ok _).mono ?_); rintro e w9 ⟨rfl, hb⟩; have HB9 := Aside0.mk (below_step HB4.out hb); clear hb))
        go_ret
        exact ⟨rfl, HB9.out⟩
      · by_cases h4 : 4 < k
        · clear hok hw
          go_wp2_with (first | (go_at_call 20; (with_reducible refine (word_any x true _ (by have := HX.out; omega) HW.out).mono ?_); rintro e w4 ⟨rfl, hd⟩; have HB4 := Aside0.mk (below_step HB3.out hd.below); clear hd) | (go_at_call 22; (with_reducible refine (awake_ok _).mono ?_); rintro e w9 ⟨rfl, hb⟩; have HB9 := Aside0.mk (below_step HB4.out hb); clear hb))
          go_ret
          exact ⟨rfl, HB9.out⟩
        · obtain ⟨k, rfl⟩ : ∃ n : Nat, k = (n : Int) := Int.eq_ofNat_of_zero_le (by omega)
          have HK := Aside0.mk (show 1 ≤ k ∧ k ≤ 4 by omega)
          have HV := Aside0.mk (show ovr (bl x) k = false by
            cases e : ovr (bl x) k with
            | false => rfl
            | true => exact absurd ⟨hw, by omega, by omega, by rw [Int.toNat_natCast]; exact e⟩ hok)
          have hk1 : (1 : Int) ≤ (k : Int) := by omega
          have hk4 : (k : Int) ≤ 4 := by omega
          clear hok hw
          go_wp2_with (first | (go_at_call 20; (with_reducible refine (word_any x true _ (by have := HX.out; omega) HW.out).mono ?_); rintro e w4 ⟨rfl, hd⟩; have HB4 := Aside0.mk (below_step HB3.out hd.below); clear hd) | (go_at_call 21; (with_reducible refine (lettersK_any x k _ HW.out HK.out.2 false HV.out).mono ?_); rintro e w5 ⟨rfl, hd⟩; have HB5 := Aside0.mk (below_step HB4.out hd.below); clear hd) | (go_at_call 22; (with_reducible refine (awake_ok _).mono ?_); rintro e w9 ⟨rfl, hb⟩; have HB9 := Aside0.mk (below_step HB5.out hb); clear hb))
          go_ret
          exact ⟨rfl, HB9.out⟩
    · have HW := Aside0.mk (show isW (bl x) = false by simpa using hw)
      clear hok hw
      go_wp2_with (first | (go_at_call 20; (with_reducible refine (word_any x false _ (by have := HX.out; omega) HW.out).mono ?_); rintro e w4 ⟨rfl, hd⟩; have HB4 := Aside0.mk (below_step HB3.out hd.below); clear hd) | (go_at_call 22; (with_reducible refine (awake_ok _).mono ?_); rintro e w9 ⟨rfl, hb⟩; have HB9 := Aside0.mk (below_step HB4.out hb); clear hb))
      go_ret
      exact ⟨rfl, HB9.out⟩
end Go.Proofs.Ytagdbadljcongaa.X
end
