/- Texts behind ThreadUniversal, part 22: contracts of the program's functions and the plain words for them. -/
import Derived.Test.YtagdbadljcongaaTpaq
import Derived.Test.YtagdbadljcongaaTpar
import Derived.Test.YtagdbadljcongaaTpas
import Derived.Test.YtagdbadljcongaaTpat
import Derived.Test.YtagdbadljcongaaTpau
section
/- The law ThreadUniversal, walked. -/
set_option linter.unusedVariables false
set_option linter.unusedSimpArgs false
namespace Go.Proofs.Ytagdbadljcongaa.X
open Go Go.RowKit Go.Proofs Go.Proofs.YtagdbadljcongaaW.PrintWords Go.Proofs.YtagdbadljcongaaW.PrintLast Go.Proofs.YtagdbadljcongaaW.PrintMore
theorem rdm (L : List Nat) (i : Nat) (h : i < L.length) : rd (L.map fun (n : Nat) => (n : Int)) (i : Int) = ((L[i] : Nat) : Int) := by simp [rd, List.getD_eq_getElem?_getD, h]
theorem bl_extract (x : ByteArray) (a b : Nat) : bl (x.extract a b) = ((bl x).drop a).take (b - a) := by
  unfold bl
  rw [ByteArray.data_extract, Array.toList_extract, List.extract_eq_take_drop, List.map_take, List.map_drop]
theorem arch_lt {l : List Nat} {k : Nat} : ∀ (n i : Nat), l.length + 1 - i = n → i ≤ l.length → ∀ a ∈ arch l k i, a < l.length := by
  intro n
  induction n using Nat.strongRecOn with
  | _ n ih =>
    intro i hn hi a ha
    have h1 := amx_le (k := k) hi
    rw [arch_eq hi] at ha
    split at ha
    · rename_i h
      rcases List.mem_cons.1 ha with rfl | ha
      · exact h
      · exact ih _ (by omega) (amx l k i + 1) rfl (by omega) a ha
    · cases ha
theorem wi_some (u s : ByteArray) (w : World) (hu : isW (bl u) = true) (hs : isW (bl s) = true) (h : (wth (bl s) 0 (bl u)).isSome = true) : Calls Try.prog 32 #[.string u, .string s] w fun e w' => ∃ v, e = .returned (.tuple #[v, .int .i64 0]) ∧ Below w.heap.size w w' := by
  obtain ⟨r, hr⟩ := Option.isSome_iff_exists.1 h
  refine (within_ok u s w hu hs _ hr).mono ?_
  rintro e w' ⟨v, ⟨h1, _⟩, h2⟩
  exact ⟨v, h1, h2⟩
theorem wi_none (u s : ByteArray) (w : World) (hu : isW (bl u) = true) (hs : isW (bl s) = true) (h : wth (bl s) 0 (bl u) = none) : Calls Try.prog 32 #[.string u, .string s] w fun e w' => e = .returned (.tuple #[.slice none 0 0, .int .i64 6]) ∧ Below w.heap.size w w' := by
  refine (within_ok u s w hu hs _ h).mono ?_
  rintro e w' ⟨v, ⟨rfl, h1⟩, h2⟩
  exact ⟨h1, h2⟩
set_option maxHeartbeats 8000000 in
set_option maxRecDepth 1000000 in
theorem ThreadUniversal_calls (a0 : ByteArray) (a1 : Int) (w : World) : Calls Try.prog 6 #[.string a0, .int .i64 a1] w fun e w' => e = .returned (.bool true) ∧ Below w.heap.size w w' := by
  have MD := Aside0.mk (show Calls Try.prog 31 #[.int .i64 a1, .int .i64 4] w fun e w' => ∃ r : Nat, e = .returned (.int .i64 (r : Int)) ∧ r < 4 ∧ Drawn0 w w' from mod_any a1 4 w (by decide) (by decide))
  go_enter Try.func6, Try.ntmps6
  go_upto_region 2 with (go_at_call 31; (with_reducible refine MD.out.mono ?_); rintro e w1 ⟨r, rfl, hr, hd⟩; have hr4 : (r : Int) < 4 := (by omega); have HB1 := Aside0.mk (show Below w.heap.size w w1 from hd.below); clear hd)
  obtain ⟨k, hk⟩ : ∃ k : Nat, 1 + (r : Int) = (k : Int) := ⟨1 + r, by omega⟩
  have HK := Aside0.mk (show 1 ≤ k ∧ k ≤ 4 by omega)
  rw [hk]
  clear hk hr hr4 MD
  have TA := Aside0.mk (fun W => show Calls Try.prog 26 #[.string a0, .int .i64 30, .int .i64 (k : Int)] W fun e w' => ∃ s, e = .returned (.string s) ∧ Aside0 (Tame s 30 k) ∧ Below W.heap.size W w' from tame_any a0 30 k W (by decide) HK.out.1 HK.out.2)
  go_upto_region 3 with (go_at_call 26; (with_reducible refine (TA.out _).mono ?_); rintro e w2 ⟨x, rfl, HX, hb⟩; have HB2 := Aside0.mk (below_step HB1.out hb); clear hb)
  clear TA HB1
  have HXW := Aside0.mk (HX.out.isW (by decide) HK.out.2)
  have HXO := Aside0.mk HX.out.ovr
  obtain ⟨L, hL⟩ : ∃ L, arch (bl x) k 0 = L := ⟨_, rfl⟩
  have HL := Aside0.mk hL
  obtain ⟨xs, hxs⟩ : ∃ xs : List Int, (L.map fun (n : Nat) => (n : Int)) = xs := ⟨_, rfl⟩
  have HXS := Aside0.mk hxs
  have HLX := Aside0.mk (show xs.length = L.length by rw [← hxs, List.length_map])
  have AR := Aside0.mk (fun W => show Calls Try.prog 18 #[.string x, .int .i64 (k : Int)] W fun e w' => ∃ A c, e = .returned (.tuple #[.slice A xs.length c, .int .i64 0]) ∧ Aside0 (Kd.C (Kd.int .i64) w' A xs.length xs) ∧ Below W.heap.size W w' by
    refine (arches_ok x k W HXW.out HK.out.1 HK.out.2 HXO.out L hL).mono ?_
    rintro e w' ⟨v, rfl, hR, hb⟩
    rw [hxs] at hR
    obtain ⟨A, c, rfl⟩ := Kd.R_slice hR
    exact ⟨A, c, rfl, ⟨(Kd.R_reads' hR).2.2⟩, hb⟩)
  clear hL hxs
  go_upto_region 4 with (go_at_call 18; (with_reducible refine (AR.out _).mono ?_); rintro e w3 ⟨A, c, rfl, HC, hb⟩; have HB3 := Aside0.mk (below_step HB2.out hb); clear hb)
  clear HB2 AR
  have hx30 : (x.size : Int) ≤ 30 := by have := HX.out.size; omega
  have HXL := Aside0.mk (show (bl x).length ≤ 30 by rw [bl_length]; exact HX.out.size)
  have hn30 : (xs.length : Int) ≤ 31 := by
    have h1 := lst_arch (bl x) k
    have h2 := lst_le (bl x) k 0
    rw [HL.out] at h1
    rw [HLX.out]
    have := HXL.out
    omega
  go_upto_region 5 with (go_at_call 19; (with_reducible refine (absent_ok x k _ HXW.out HK.out.1 HK.out.2 HXO.out _ rfl).mono ?_); rintro e w4 ⟨o, ho, rfl, hb⟩; have HO := Aside0.mk ho; have HC4 := Aside0.mk (Kd.C_below HC.out hb); have HB4 := Aside0.mk (below_step HB3.out hb); clear hb ho)
  clear HB3 HC
  have HOS := Aside0.mk (show o.size = xs.length + 1 by
    rw [← bl_length, HO.out, abs_len HK.out.1 _ 0 rfl, lst_arch, HL.out, HLX.out])
  have hoI : (o.size : Int) = (xs.length : Int) + 1 := by have := HOS.out; omega
  have HOL := Aside0.mk (show ∀ b ∈ bl o, 97 ≤ b ∧ b < 97 + k by rw [HO.out]; exact abs_ltr HK.out.1 _ 0 rfl)
  have HOW := Aside0.mk (show isW (bl o) = true from (isW_iff _).2 ⟨by rw [bl_length]; omega, fun b hb => by have := HOL.out b hb; have := HK.out; omega⟩)
  have WN := Aside0.mk (fun W => wi_none o x W HOW.out HXW.out (by rw [HO.out]; exact abs_not HK.out.1 _ 0 rfl (Nat.zero_le _)))
  go_upto_region 8 with (go_at_call 32; (with_reducible refine (WN.out _).mono ?_); rintro e w5 ⟨rfl, hb⟩; have HC5 := Aside0.mk (Kd.C_below HC4.out hb); have HB5 := Aside0.mk (below_step HB4.out hb); clear hb)
  clear HB4 HC4 WN
  have SW := Aside0.mk (fun (i : Nat) (hi : i < o.size) W => wi_some (o.extract 0 i ++ o.extract (i + 1) o.size) x W (by
    rw [bl_append, bl_extract, bl_extract]
    refine (isW_iff _).2 ⟨?_, fun b hb => ?_⟩
    · simp [bl_length]; omega
    · have hb2 : b ∈ bl o := by
        rcases List.mem_append.1 hb with h | h
        · exact List.mem_of_mem_drop (List.mem_of_mem_take h)
        · exact List.mem_of_mem_drop (List.mem_of_mem_take h)
      have := HOL.out b hb2
      have := HK.out
      omega) HXW.out (by
    rw [bl_append, bl_extract, bl_extract]
    refine sub_short (k := k) _ 0 (Nat.zero_le _) (fun b hb => HOL.out b ?_) ?_
    · rcases List.mem_append.1 hb with h | h
      · exact List.mem_of_mem_drop (List.mem_of_mem_take h)
      · exact List.mem_of_mem_drop (List.mem_of_mem_take h)
    · rw [lst_arch, HL.out, ← HLX.out]
      simp [bl_length]
      omega))
  have hos32 : (o.size : Int) ≤ 32 := by omega
  have HOI := Aside0.mk hoI
  clear hoI
  go_wp2
  go_loopw [11, 12, 13] (fun v11 v12 v13 wr => ∃ i : Nat, v11 = .int .i64 i ∧ i ≤ o.size ∧ Aside0 (Kd.C (Kd.int .i64) wr A xs.length xs) ∧ Aside0 (Below w.heap.size w wr)) (fun v11 _ _ _ => o.size - (intOf v11).toNat)
  case atStart => exact ⟨0, rfl, by omega, HC5, HB5⟩
  case round =>
    clear HC5 HB5
    obtain ⟨i, rfl, hi, HC, HB⟩ := hrel
    by_cases hlt : i < o.size
    · have hltI : (i : Int) < (o.size : Int) := by omega
      have hi0 : (0 : Int) ≤ (i : Int) := by omega
      have HLT := Aside0.mk hlt
      have hiI : (i : Int) ≤ (o.size : Int) := by omega
      have hi1 : (i : Int) + 1 ≤ (o.size : Int) := by omega
      have e1 : ((i : Int) + 1).toNat = i + 1 := by omega
      have e2 : wrap64 ((i : Int) + 1) = (i : Int) + 1 := by unfold wrap64; omega
      have hz3 : ¬ (9223372036854775807 < min i o.size + (o.size - (i + 1))) := by omega
      have hi2 : (0 : Int) ≤ (i : Int) + 1 := by omega
      have hz : (o.extract 0 i).size + (o.extract (i + 1) o.size).size ≤ 9223372036854775807 := by
        rw [ByteArray.size_extract, ByteArray.size_extract]; omega
      have hz2 : ¬ (9223372036854775807 < (o.extract 0 i).size + (o.extract (i + 1) o.size).size) := by omega
      clear hi hlt
      go_upto_region 11 with (fail)
      have HB0 := Aside0.mk (show Below wr.heap.size wr wr.drew from below_drew (Below.refl _ _))
      refine start_ (n := 15) (S := fun w' => True) (ds := [13, 14]) #[false, false, false, false, false, false, false, false, false, false, false, false, false, false, false] (by kernel_rfl) rfl rfl trivial (fun hHeld => ?_)
      refine pure_ (i := 0) (N := (some 66)) (v := ?_) (a' := ?_) #[true, false, false, false, false, false, false, false, false, false, false, false, false, false, false] rfl rfl (by kernel_rfl) (fun _ _ _ h => h) (Or.inl ⟨by rfl, ?_⟩) ?_ ?_
      rotate_left
      · intro w'
        go_simp
        with_reducible rfl
      rotate_left
      · simp only [Act.put, List.setIfInBounds_toArray, List.set_cons_zero, List.set_cons_succ, i64_w, i32_w]
        rfl
      refine pure_ (i := 1) (N := (some 67)) (v := ?_) (a' := ?_) #[true, true, false, false, false, false, false, false, false, false, false, false, false, false, false] rfl rfl (by kernel_rfl) (fun _ _ _ h => h) (Or.inl ⟨by rfl, ?_⟩) ?_ ?_
      rotate_left
      · intro w'
        go_simp
        with_reducible rfl
      rotate_left
      · simp only [Act.put, List.setIfInBounds_toArray, List.set_cons_zero, List.set_cons_succ, i64_w, i32_w]
        rfl
      refine pure_ (i := 2) (N := (some 68)) (v := ?_) (a' := ?_) #[true, true, true, false, false, false, false, false, false, false, false, false, false, false, false] rfl rfl (by kernel_rfl) (fun _ _ _ h => h) (Or.inl ⟨by rfl, ?_⟩) ?_ ?_
      rotate_left
      · intro w'
        go_simp
        with_reducible rfl
      rotate_left
      · simp only [Act.put, List.setIfInBounds_toArray, List.set_cons_zero, List.set_cons_succ, i64_w, i32_w]
        rfl
      refine pure_ (i := 3) (N := (some 69)) (v := ?_) (a' := ?_) #[true, true, true, true, false, false, false, false, false, false, false, false, false, false, false] rfl rfl (by kernel_rfl) (fun _ _ _ h => h) (Or.inl ⟨by rfl, ?_⟩) ?_ ?_
      rotate_left
      · intro w'
        go_simp
        with_reducible rfl
      rotate_left
      · simp only [Act.put, List.setIfInBounds_toArray, List.set_cons_zero, List.set_cons_succ, i64_w, i32_w]
        rfl
      refine pure_ (i := 4) (N := (some 70)) (v := ?_) (a' := ?_) #[true, true, true, true, true, false, false, false, false, false, false, false, false, false, false] rfl rfl (by kernel_rfl) (fun _ _ _ h => h) (Or.inl ⟨by rfl, ?_⟩) ?_ ?_
      rotate_left
      · intro w'
        go_simp
        with_reducible rfl
      rotate_left
      · simp only [Act.put, List.setIfInBounds_toArray, List.set_cons_zero, List.set_cons_succ, i64_w, i32_w]
        rfl
      refine pure_ (i := 5) (N := (some 71)) (v := ?_) (a' := ?_) #[true, true, true, true, true, true, false, false, false, false, false, false, false, false, false] rfl rfl (by kernel_rfl) (fun _ _ _ h => h) (Or.inl ⟨by rfl, ?_⟩) ?_ ?_
      rotate_left
      · intro w'
        go_simp
        with_reducible rfl
      rotate_left
      · simp only [Act.put, List.setIfInBounds_toArray, List.set_cons_zero, List.set_cons_succ, i64_w, i32_w]
        rfl
      refine pure_ (i := 6) (N := (some 72)) (v := ?_) (a' := ?_) #[true, true, true, true, true, true, true, false, false, false, false, false, false, false, false] rfl rfl (by kernel_rfl) (fun _ _ _ h => h) (Or.inl ⟨by rfl, ?_⟩) ?_ ?_
      rotate_left
      · intro w'
        go_simp
        with_reducible rfl
      rotate_left
      · simp only [Act.put, List.setIfInBounds_toArray, List.set_cons_zero, List.set_cons_succ, i64_w, i32_w]
        rfl
      refine pure_ (i := 7) (N := (some 73)) (v := ?_) (a' := ?_) #[true, true, true, true, true, true, true, true, false, false, false, false, false, false, false] rfl rfl (by kernel_rfl) (fun _ _ _ h => h) (Or.inl ⟨by rfl, ?_⟩) ?_ ?_
      rotate_left
      · intro w'
        go_simp
        with_reducible rfl
      rotate_left
      · simp only [Act.put, List.setIfInBounds_toArray, List.set_cons_zero, List.set_cons_succ, i64_w, i32_w]
        rfl
      refine pure_ (i := 8) (N := (some 74)) (v := ?_) (a' := ?_) #[true, true, true, true, true, true, true, true, true, false, false, false, false, false, false] rfl rfl (by kernel_rfl) (fun _ _ _ h => h) (Or.inl ⟨by rfl, ?_⟩) ?_ ?_
      rotate_left
      · intro w'
        go_simp
        with_reducible rfl
      rotate_left
      · simp only [Act.put, List.setIfInBounds_toArray, List.set_cons_zero, List.set_cons_succ, i64_w, i32_w]
        rfl
      refine one_ (i := 9) (N := (some 75)) #[true, true, true, true, true, true, true, true, true, true, false, false, false, false, false] rfl rfl (by kernel_rfl) (by decide) (fun K hK => ?_)
      refine goes_ Try.func32 (by kernel_rfl) rfl #[.string (o.extract 0 i ++ o.extract (i + 1) o.size), .string x] (by rfl) rfl rfl (by (try simp only [List.map_toArray, List.map_cons, List.map_nil]); first | done | rfl) ?_
      refine (SW.out i HLT.out _).mono ?_
      rintro e w6 ⟨v6, rfl, hb⟩
      refine ⟨_, rfl, ?_⟩
      have HB6 := Aside0.mk (below_step HB0.out hb)
      refine hK.out _ _ trivial (fun hHeld => ?_)
      clear hK K
      refine norm_ (a' := ?_) ?_ ?_
      rotate_left
      · show Act.put _ (some 75) _ = _
        simp only [Act.put, List.setIfInBounds_toArray, List.set_cons_zero, List.set_cons_succ, i64_w, i32_w]
        rfl
      refine pure_ (i := 10) (N := (some 65)) (v := ?_) (a' := ?_) #[true, true, true, true, true, true, true, true, true, true, true, false, false, false, false] rfl rfl (by kernel_rfl) (fun _ _ _ h => h) (Or.inl ⟨by rfl, ?_⟩) ?_ ?_
      rotate_left
      · intro w'
        go_simp
        with_reducible rfl
      rotate_left
      · simp only [Act.put, List.setIfInBounds_toArray, List.set_cons_zero, List.set_cons_succ, i64_w, i32_w]
        rfl
      refine pure_ (i := 11) (N := (some 76)) (v := ?_) (a' := ?_) #[true, true, true, true, true, true, true, true, true, true, true, true, false, false, false] rfl rfl (by kernel_rfl) (fun _ _ _ h => h) (Or.inl ⟨by rfl, ?_⟩) ?_ ?_
      rotate_left
      · intro w'
        go_simp
        with_reducible rfl
      rotate_left
      · simp only [Act.put, List.setIfInBounds_toArray, List.set_cons_zero, List.set_cons_succ, i64_w, i32_w]
        rfl
      refine pure_ (i := 12) (N := (some 77)) (v := ?_) (a' := ?_) #[true, true, true, true, true, true, true, true, true, true, true, true, true, false, false] rfl rfl (by kernel_rfl) (fun _ _ _ h => h) (Or.inl ⟨by rfl, ?_⟩) ?_ ?_
      rotate_left
      · intro w'
        go_simp
        with_reducible rfl
      rotate_left
      · simp only [Act.put, List.setIfInBounds_toArray, List.set_cons_zero, List.set_cons_succ, i64_w, i32_w]
        rfl
      refine pure_ (i := 13) (N := (some 12)) (v := ?_) (a' := ?_) #[true, true, true, true, true, true, true, true, true, true, true, true, true, true, false] rfl rfl (by kernel_rfl) (fun _ _ _ h => h) (Or.inl ⟨by rfl, ?_⟩) ?_ ?_
      rotate_left
      · intro w'
        go_simp
        with_reducible rfl
      rotate_left
      · simp only [Act.put, List.setIfInBounds_toArray, List.set_cons_zero, List.set_cons_succ, i64_w, i32_w]
        rfl
      refine pure_ (i := 14) (N := (some 13)) (v := ?_) (a' := ?_) #[true, true, true, true, true, true, true, true, true, true, true, true, true, true, true] rfl rfl (by kernel_rfl) (fun _ _ _ h => h) (Or.inl ⟨by rfl, ?_⟩) ?_ ?_
      rotate_left
      · intro w'
        go_simp
        with_reducible rfl
      rotate_left
      · simp only [Act.put, List.setIfInBounds_toArray, List.set_cons_zero, List.set_cons_succ, i64_w, i32_w]
        rfl
      refine done_ (by kernel_rfl) ?_
      go_wp2
      go_roundw
      case rel => exact ⟨i + 1, by go_num, by have := HLT.out; omega, ⟨Kd.C_below HC.out HB6.out⟩, ⟨below_step HB.out HB6.out⟩⟩
      case measure => simp [intOf]; have := HLT.out; omega
    · have hltI : ¬ ((i : Int) < (o.size : Int)) := by omega
      clear hlt hi SW
      by_cases hz : xs.length = 0
      · have hzI : (xs.length : Int) = 0 := by omega
        clear hz
        go_wp2_with (go_at_call 22; (with_reducible refine (awake_ok _).mono ?_); rintro e w7 ⟨rfl, hb⟩; have HB7 := Aside0.mk (below_step HB.out hb); clear hb)
        go_ret
        exact ⟨rfl, HB7.out⟩
      · obtain ⟨ad, e1, hx⟩ := Kd.at_int HC.out ((xs.length : Int) - 1) (by omega) (by omega)
        cases e1
        have hzI : ¬ ((xs.length : Int) = 0) := by omega
        have hxn : ¬ (xs = []) := fun e => hz (by rw [e]; rfl)
        have hz1 : (1 : Int) ≤ (xs.length : Int) := by omega
        have hLl : L.length - 1 < L.length := by have := HLX.out; omega
        obtain ⟨y, hy⟩ : ∃ y : Nat, L[L.length - 1] = y := ⟨_, rfl⟩
        have hrd : rd xs ((xs.length : Int) - 1) = (y : Int) := by
          rw [← HXS.out, List.length_map, show ((L.length : Int) - 1) = ((L.length - 1 : Nat) : Int) by omega, rdm L _ hLl, hy]
        rw [hrd, show ((xs.length : Int) - 1).toNat = xs.length - 1 from by omega] at hx
        have hla : (0 : Int) ≤ (xs.length : Int) - 1 := by omega
        have hyx : (y : Int) < 30 := by
          have := arch_lt (k := k) _ 0 rfl (Nat.zero_le (bl x).length) y (by rw [HL.out, ← hy]; exact List.getElem_mem hLl)
          have := HXL.out
          omega
        have HY := Aside0.mk hy
        have HZ := Aside0.mk hz
        clear hz hrd hy
        have e9 : wrap64 ((x.size : Int) - 1) = (x.size : Int) - 1 := by unfold wrap64; omega
        by_cases hye : (y : Int) = (x.size : Int) - 1
        · have HM := Aside0.mk (show arch (bl (x ++ x)) k 0 = L ++ L.map (· + x.size) by
            rw [bl_append, arch_twice (by
              rw [HL.out, List.getLast?_eq_getElem?, List.getElem?_eq_getElem hLl, HY.out, bl_length]
              congr 1
              omega), HL.out, bl_length])
          obtain ⟨ys, hys⟩ : ∃ ys : List Int, ((L ++ L.map (· + x.size)).map fun (n : Nat) => (n : Int)) = ys := ⟨_, rfl⟩
          have hyl : ys.length = 2 * xs.length := by rw [← hys, List.length_map, List.length_append, List.length_map, HLX.out]; omega
          have hylI : (ys.length : Int) = 2 * (xs.length : Int) := by omega
          have FA := Aside0.mk (show ∀ i : Nat, i < xs.length → ∃ a : Nat, (a : Int) < 30 ∧ rd xs (i : Int) = a ∧ rd ys (i : Int) = a ∧ rd ys ((xs.length : Int) + (i : Int)) = (a : Int) + (x.size : Int) from fun i hi => by
            have hiL : i < L.length := by have := HLX.out; omega
            refine ⟨L[i], ?_, ?_, ?_, ?_⟩
            · have := arch_lt (k := k) _ 0 rfl (Nat.zero_le (bl x).length) L[i] (by rw [HL.out]; exact List.getElem_mem hiL)
              have := HXL.out
              omega
            · rw [← HXS.out, rdm L i hiL]
            · rw [← hys, rdm _ i (by rw [List.length_append]; omega), List.getElem_append_left hiL]
            · rw [← hys, HLX.out, show (L.length : Int) + (i : Int) = ((L.length + i : Nat) : Int) by omega, rdm _ _ (by rw [List.length_append, List.length_map]; omega), List.getElem_append_right (by omega)]
              simp)
          have hxx : x.size + x.size ≤ 9223372036854775807 := by omega
          have AX := Aside0.mk (fun W => show Calls Try.prog 18 #[.string (x ++ x), .int .i64 (k : Int)] W fun e w' => ∃ A c, e = .returned (.tuple #[.slice A ys.length c, .int .i64 0]) ∧ Aside0 (Kd.C (Kd.int .i64) w' A ys.length ys) ∧ Below W.heap.size W w' by
            refine (arches_ok (x ++ x) k W (by
              rw [bl_append]
              refine (isW_iff _).2 ⟨by have := HXL.out; rw [List.length_append]; omega, fun b hb => ?_⟩
              have := ((isW_iff _).1 HXW.out).2 b (by rcases List.mem_append.1 hb with h | h <;> exact h)
              exact this) HK.out.1 HK.out.2 (by
              rw [bl_append]
              unfold ovr at *
              rw [List.all_append]
              have := HXO.out
              unfold ovr at this
              rw [this]; rfl) _ HM.out).mono ?_
            rintro e w' ⟨v, rfl, hR, hb⟩
            rw [hys] at hR
            obtain ⟨A, c, rfl⟩ := Kd.R_slice hR
            exact ⟨A, c, rfl, ⟨(Kd.R_reads' hR).2.2⟩, hb⟩)
          clear hyl hys
          go_upto_region 19 with (go_at_call 18; (with_reducible refine (AX.out _).mono ?_); rintro e w7 ⟨A2, c2, rfl, HD, hb⟩; have HC7 := Aside0.mk (Kd.C_below HC.out hb); have HB7 := Aside0.mk (below_step HB.out hb); clear hb)
          clear HC HB hx AX
          go_wp2
          go_loopw [16] (fun v16 wz => ∃ i : Nat, v16 = .int .i64 i ∧ i ≤ xs.length ∧ Aside0 (Kd.C (Kd.int .i64) wz (some ad) xs.length xs) ∧ Aside0 (Kd.C (Kd.int .i64) wz A2 ys.length ys) ∧ Aside0 (Below w.heap.size w wz)) (fun v16 _ => xs.length - (intOf v16).toNat)
          case atStart => exact ⟨0, rfl, Nat.zero_le _, HC7, HD, HB7⟩
          case round =>
            clear HC7 HD HB7
            obtain ⟨j, rfl, hj, HC, HD, HB⟩ := hrel
            by_cases hlt : j < xs.length
            · have hjI : (j : Int) < (xs.length : Int) := by omega
              have hj0 : (0 : Int) ≤ (j : Int) := by omega
              obtain ⟨a, ha30, f1, f2, f3⟩ := FA.out j hlt
              obtain ⟨ad1, e1, c1⟩ := Kd.at_int HC.out (j : Int) (by omega) (by omega)
              cases e1
              obtain ⟨ad2, e2, d1⟩ := Kd.at_int HD.out (j : Int) (by omega) (by omega)
              cases e2
              obtain ⟨ad3, e3, d2⟩ := Kd.at_int HD.out ((xs.length : Int) + (j : Int)) (by omega) (by omega)
              cases e3
              rw [f1] at c1
              rw [f2] at d1
              rw [f3, show ((xs.length : Int) + (j : Int)).toNat = xs.length + j from by omega] at d2
              rw [Int.toNat_natCast] at c1 d1
              have HLT := Aside0.mk hlt
              clear f1 f2 f3 hlt hj
              go_upto_region 22 with (fail)
              go_quiet (fail)
              go_wp2
              go_roundw
              case rel => exact ⟨j + 1, by go_num, HLT.out, ⟨Kd.C_below HC.out (pw_below_drewN (Below.refl _ _) _)⟩, ⟨Kd.C_below HD.out (pw_below_drewN (Below.refl _ _) _)⟩, ⟨below_step HB.out (pw_below_drewN (Below.refl _ _) _)⟩⟩
              case measure => simp [intOf]; have := HLT.out; omega
            · have hjI : ¬ ((j : Int) < (xs.length : Int)) := by omega
              clear hlt hj
              go_wp2_with (go_at_call 22; (with_reducible refine (awake_ok _).mono ?_); rintro e w8 ⟨rfl, hb⟩; have HB8 := Aside0.mk (below_step HB.out hb); clear hb)
              go_ret
              exact ⟨rfl, HB8.out⟩
        · have hq3 : ((y : Int) != (x.size : Int) - 1) = true := bne_iff_ne.mpr hye
          clear hye
          go_wp2_with (go_at_call 22; (with_reducible refine (awake_ok _).mono ?_); rintro e w7 ⟨rfl, hb⟩; have HB7 := Aside0.mk (below_step HB.out hb); clear hb)
          go_ret
          exact ⟨rfl, HB7.out⟩
end Go.Proofs.Ytagdbadljcongaa.X
end
