/- Texts behind ThreadAll, part 22: contracts of the program's functions and the plain words for them. -/
import Derived.Test.YtagdbadljcongaaTpat
import Derived.Test.YtagdbadljcongaaTpau
section
/- The law ThreadAll, walked. -/
set_option linter.unusedVariables false
set_option linter.unusedSimpArgs false
namespace Go.Proofs.Ytagdbadljcongaa.X
open Go Go.RowKit Go.Proofs Go.Proofs.YtagdbadljcongaaW.PrintWords Go.Proofs.YtagdbadljcongaaW.PrintLast Go.Proofs.YtagdbadljcongaaW.PrintMore
theorem index_v (s u : ByteArray) (w : World) (hs : isW (bl s) = true) (hu : isW (bl u) = true) (r : Nat) (hr : idx (bl s) 0 (bl u) = some r) : Calls Try.prog 33 #[.string s, .string u] w fun e w' => e = .returned (.tuple #[.int .i64 (r : Int), .int .i64 0]) ∧ Below w.heap.size w w' :=
  (index_ok s u w hs hu _ hr).mono fun e w' ⟨h1, h2⟩ => ⟨h1, h2⟩
theorem sel_succ (l : List Nat) (S i : Nat) : sel l S (i + 1) = sel l S i ++ (if S / 2 ^ i % 2 = 1 then [l.getD i 0] else []) := rfl
theorem bit_eq (S i : Nat) : (((S : Int) / 2 ^ i).tmod 2 == 1) = decide (S / 2 ^ i % 2 = 1) := by
  have e : (S : Int) / 2 ^ i = ((S / 2 ^ i : Nat) : Int) := by rw [Int.natCast_ediv, Int.natCast_pow]; rfl
  rw [e]
  generalize S / 2 ^ i = m
  have e2 : ((m : Int)).tmod 2 = ((m % 2 : Nat) : Int) := rfl
  rw [e2, Bool.eq_iff_iff, beq_iff_eq, decide_eq_true_iff]
  omega
theorem info4b : (Try.prog.info? 4).map (fun i => (i.zero, i.size, i.bytes)) = some (some (.bool false), 1, 1) := by kernel_rfl
set_option maxHeartbeats 2000000 in
set_option maxRecDepth 1000000 in
theorem ThreadAll_calls (a0 : ByteArray) (w : World) : Calls Try.prog 8 #[.string a0] w fun e w' => e = .returned (.bool true) ∧ Below w.heap.size w w' := by
  have TA := Aside0.mk (show Calls Try.prog 26 #[.string a0, .int .i64 9, .int .i64 4] w fun e w' => ∃ x, e = .returned (.string x) ∧ Aside0 (Tame x 9 4) ∧ Below w.heap.size w w' from tame_any a0 9 4 w (by decide) (by decide) (by decide))
  go_enter Try.func8, Try.ntmps8
  go_upto_region 2 with (go_at_call 26; (with_reducible refine TA.out.mono ?_); rintro e w1 ⟨x, rfl, HX, hb⟩; have HB1 := Aside0.mk hb; clear hb)
  clear TA
  have HXW := Aside0.mk (HX.out.isW (by decide) (by decide))
  obtain ⟨n, hn⟩ : ∃ n, x.size = n := ⟨_, rfl⟩
  have HXN := Aside0.mk hn
  have hn9 : (n : Int) ≤ 9 := by have := HX.out.size; omega
  have hn0 : (0 : Int) ≤ (n : Int) := by omega
  obtain ⟨N, hN⟩ : ∃ N, 2 ^ n = N := ⟨_, rfl⟩
  have HN := Aside0.mk hN
  have hN512 : N ≤ 512 := by
    rw [← hN]
    exact Nat.le_trans (Nat.pow_le_pow_right (by decide) (show n ≤ 9 by omega)) (by decide)
  have WP := Aside0.mk (show wrap64 (2 ^ n) = (N : Int) by
    have h : ((2 : Int) ^ n) = (N : Int) := by rw [← hN, Int.natCast_pow]; rfl
    rw [h]; unfold wrap64; omega)
  clear hN
  go_wp2
  go_loopw [3, 4, 5, 6, 7, 8] (fun v3 v4 v5 v6 v7 v8 wr => ∃ (S : Nat) (A : Option Addr) (c : Nat) (ws : List ByteArray), v4 = .int .i64 S ∧ v3 = .slice A ws.length c ∧ S ≤ N ∧ ws.length ≤ S ∧ Aside0 (Kd.R Kd.string 9 wr w.heap.size (fun _ => True) (.slice A ws.length c) ws) ∧ Aside0 (AllOk (bl x) S (ws.map bl)) ∧ Aside0 (Below w.heap.size w wr)) (fun _ v4 _ _ _ _ _ => N - (intOf v4).toNat)
  case atStart => exact ⟨0, none, 0, [], rfl, rfl, Nat.zero_le _, Nat.le_refl _, ⟨Kd.R_nil _ _ _ _ _⟩, ⟨AllOk.start _⟩, HB1⟩
  case round =>
    clear HB1
    obtain ⟨S, A, c, ws, rfl, rfl, hS, hws, HR, HA, HB⟩ := hrel
    by_cases hlt : S < N
    · have hltI : (S : Int) < (N : Int) := by omega
      have HLT := Aside0.mk hlt
      have S0 : (0 : Int) ≤ (S : Int) := by omega
      have S512 : (S : Int) < 512 := by omega
      have wp := WP.out
      clear hlt
      go_upto_region 8 with (fail)
      clear wp
      go_loopw [5, 6] (fun v5 v6 wz => ∃ (i : Nat) (s : ByteArray), v6 = .int .i64 i ∧ v5 = .string s ∧ i ≤ n ∧ s.size ≤ i ∧ Aside0 (bl s = sel (bl x) S i) ∧ wz = wr) (fun _ v6 _ => n - (intOf v6).toNat)
      case atStart => exact ⟨0, ⟨#[]⟩, rfl, rfl, Nat.zero_le _, by simp [ByteArray.size], ⟨rfl⟩, rfl⟩
      case round =>
        obtain ⟨i, s, rfl, rfl, hi, hs, HS, rfl⟩ := hrel
        by_cases hin : i < n
        · have hinI : (i : Int) < (n : Int) := by omega
          have i0 : (0 : Int) ≤ (i : Int) := by omega
          have HIN := Aside0.mk hin
          have hix : i < x.size := by omega
          have e1 : ((i : Int) + 1).toNat = i + 1 := by omega
          obtain ⟨t, ht⟩ : ∃ t, x.extract i (i + 1) = t := ⟨_, rfl⟩
          have HT := Aside0.mk (show bl t = [(bl x).getD i 0] by
            rw [← ht, bl_extract1 x i hix]
            have : i < (bl x).length := by rw [bl_length]; exact hix
            simp [List.getD_eq_getElem?_getD, this])
          have hts : t.size = 1 := by rw [← bl_length, HT.out]; rfl
          have hz : s.size + t.size ≤ 9223372036854775807 := by omega
          have HTS := Aside0.mk hts
          have HSZ := Aside0.mk hs
          obtain ⟨q, hq⟩ : ∃ q, (((S : Int) / 2 ^ i).tmod 2 == 1) = q := ⟨_, rfl⟩
          have HQ := Aside0.mk (show q = decide (S / 2 ^ i % 2 = 1) by rw [← hq, bit_eq])
          clear hin hts hs hix
          cases q with
          | true =>
            go_wp2
            go_roundw
            case rel => exact ⟨i + 1, s ++ t, by go_num, rfl, by have := HIN.out; omega, by rw [ByteArray.size_append, HTS.out]; have := HSZ.out; omega, ⟨by
              rw [bl_append, HS.out, HT.out]
              rw [sel_succ, if_pos (of_decide_eq_true HQ.out.symm)]⟩, trivial⟩
            case measure => simp [intOf]; have := HIN.out; omega
          | false =>
            go_wp2
            go_roundw
            case rel => exact ⟨i + 1, s, by go_num, rfl, by have := HIN.out; omega, by have := HSZ.out; omega, ⟨by
              rw [HS.out, sel_succ, if_neg (of_decide_eq_false HQ.out.symm), List.append_nil]⟩, trivial⟩
            case measure => simp [intOf]; have := HIN.out; omega
        · have hinI : ¬ ((i : Int) < (n : Int)) := by omega
          obtain rfl : i = n := by omega
          have HSE := Aside0.mk (show bl s = sel (bl x) S (bl x).length by rw [bl_length, HXN.out]; exact HS.out)
          have hwI : (ws.length : Int) ≤ 512 := by omega
          have HC := Aside0.mk (Kd.R_reads' HR.out).2.2
          clear hin hi hs HS
          go_upto_region 14 with (fail)
          go_loopw [7, 8] (fun v7 v8 wz => ∃ (j : Nat) (fb : Bool), v8 = .int .i64 j ∧ v7 = .bool fb ∧ j ≤ ws.length ∧ Aside0 ((fb = true → s ∈ ws) ∧ (fb = false → ∀ q, ∀ h : q < ws.length, q < j → ws[q] ≠ s)) ∧ wz = wr) (fun _ v8 _ => ws.length - (intOf v8).toNat)
          case atStart => exact ⟨0, false, rfl, rfl, Nat.zero_le _, Aside0.mk ⟨fun h => (by cases h), fun _ q h h0 => absurd h0 (Nat.not_lt_zero _)⟩, rfl⟩
          case round =>
            obtain ⟨j, fb, rfl, rfl, hj, HF, rfl⟩ := hrel
            cases fb with
            | true =>
              have HIN := Aside0.mk (HF.out.1 rfl)
              by_cases hjl : j < ws.length
              all_goals
                first | have hjI : (j : Int) < (ws.length : Int) := by omega | have hjI : ¬ ((j : Int) < (ws.length : Int)) := by omega
                clear hjl hj
                go_wp2
                go_roundw
                case rel => exact ⟨S + 1, A, c, ws, by go_num, rfl, by have := HLT.out; omega, by omega, HR, ⟨HA.out.old (by rw [← HSE.out]; exact List.mem_map.2 ⟨s, HIN.out, rfl⟩)⟩, HB⟩
                case measure => simp [intOf]; have := HLT.out; omega
            | false =>
              by_cases hjl : j < ws.length
              · have hjI : (j : Int) < (ws.length : Int) := by omega
                have j0 : (0 : Int) ≤ (j : Int) := by omega
                obtain ⟨ad, e, h1⟩ := Kd.at_string HC.out (j : Int) (by omega) (by omega)
                cases e
                rw [Int.toNat_natCast, rdOf_nat ws j hjl] at h1
                obtain ⟨y, hy⟩ : ∃ y, ws[j] = y := ⟨_, rfl⟩
                rw [hy] at h1
                obtain ⟨b, hb⟩ : ∃ b, (y.toList == s.toList) = b := ⟨_, rfl⟩
                have HBB := Aside0.mk hb
                have HY := Aside0.mk (show ∀ h : j < ws.length, ws[j] = y from fun _ => hy)
                have HJL := Aside0.mk hjl
                have HF2 := Aside0.mk (HF.out.2 rfl)
                clear hjl hj hy
                go_wp2
                go_roundw
                case rel => exact ⟨j + 1, b, by go_num, by first | rfl | rw [hb], by have := HJL.out; omega, ⟨fun hbt => by
                  have e : y = s := toList_inj (by rw [hbt] at hb; exact beq_iff_eq.mp hb)
                  rw [← e, ← HY.out HJL.out]; exact List.getElem_mem _, fun hbf q h hq => by
                  by_cases e : q = j
                  · subst e
                    rw [HY.out h]
                    intro e2
                    rw [e2, hbf] at hb
                    simp at hb
                  · exact HF2.out q h (by omega)⟩, trivial⟩
                case measure => simp [intOf]; have := HJL.out; omega
              · have hjI : ¬ ((j : Int) < (ws.length : Int)) := by omega
                have HNO := Aside0.mk (show s ∉ ws from fun hm => by
                  obtain ⟨q, hq, e⟩ := List.getElem_of_mem hm
                  exact HF.out.2 rfl q hq (by omega) e)
                have HWS := Aside0.mk hws
                have KEY := Aside0.mk (app_str (x := s) HR.out HB.out HB.out.size (fun _ _ => trivial) (by omega) 60 62)
                clear hjl hj hws
                go_wp2_with (at_builtin; refine KEY.out _ _ _ _ _ rfl rfl rfl rfl ?_; intro A2 c2 w4 hr3 hb3 hg3 hat3; have HR3 := Aside0.mk hr3; have HB3 := Aside0.mk hb3; clear hr3 hb3 hg3 hat3)
                go_roundw
                case rel => exact ⟨S + 1, A2, c2, ws ++ [s], by go_num, by rw [List.length_append]; rfl, by have := HLT.out; omega, by rw [List.length_append]; have := HWS.out; simp; omega, ⟨by rw [List.length_append]; exact HR3.out⟩, ⟨by
                  rw [List.map_append, List.map_cons, List.map_nil, HSE.out]
                  refine HA.out.new (fun hm => HNO.out ?_)
                  obtain ⟨y, h1, h2⟩ := List.mem_map.1 hm
                  rw [← HSE.out] at h2
                  rw [← bl_inj h2]; exact h1⟩, HB3⟩
                case measure => simp [intOf]; have := HLT.out; omega
    · have hltI : ¬ ((S : Int) < (N : Int)) := by omega
      obtain rfl : S = N := by omega
      have wp := WP.out
      have HLT2 := Aside0.mk (show ∀ b ∈ bl x, 97 ≤ b ∧ b ≤ 100 from ((isW_iff _).1 HXW.out).2)
      have HA2 := Aside0.mk (show AllOk (bl x) (2 ^ (bl x).length) (ws.map bl) by rw [bl_length, HXN.out, HN.out]; exact HA.out)
      have hcs : (cs (bl x) : Int) = (ws.length : Int) := by
        have := HA2.out.len HLT2.out
        rw [List.length_map] at this
        omega
      have CY := Aside0.mk (fun W => show Calls Try.prog 27 #[.string x] W fun e w' => e = .returned (.tuple #[.int .i64 (ws.length : Int), .int .i64 0]) ∧ Below W.heap.size W w' by rw [← hcs]; exact count_y x W HXW.out)
      have hwI : (ws.length : Int) ≤ 512 := by omega
      have hw0 : (0 : Int) ≤ (ws.length : Int) := by omega
      clear hcs hlt hS hws
      go_upto_region 20 with (go_at_call 27; (with_reducible refine (CY.out _).mono ?_); rintro e w19 ⟨rfl, hb⟩; have HC := Aside0.mk (Kd.C_below (Kd.R_reads' HR.out).2.2 hb); have HB9 := Aside0.mk (below_step HB.out hb); clear hb)
      clear HB HR HA CY
      go_wp2_with ((with_reducible refine gate_dst (N := 71) rfl ?_); refine Kd.R_make Kd.bool _ 4 rfl (N := 71) rfl 54 _ _ rfl (ws.length : Int) rfl rfl Try.underlying54 (.bool false) 1 info4b rfl (by decide) (by omega) false (ok := fun _ => True) (okp := fun _ => True) rfl (fun _ hk => hk) trivial (by omega) (by omega) (Below.refl _ _) (Nat.le_refl _) ?_; intro v20 w20 h1 h2 h3 h4; have HR0 := Aside0.mk h1; have HB20 := Aside0.mk h2; clear h1 h2 h3 h4)
      obtain ⟨A3, c3, e3⟩ := Kd.R_slice HR0.out
      rw [List.length_replicate, Int.toNat_natCast] at e3
      subst e3
      have HRS := Aside0.mk (show Kd.R Kd.bool 4 w20 w19.heap.size (fun _ => True) (.slice A3 ws.length c3) (List.replicate ws.length false) by have h := HR0.out; rwa [Int.toNat_natCast] at h)
      clear HR0
      go_loopw [12, 13, 14] (fun v12 v13 v14 wz => ∃ (i : Nat) (sb : List Bool), v12 = .int .i64 i ∧ i ≤ ws.length ∧ Aside0 (sb.length = ws.length ∧ ∀ q, sb[q]? = some true → ∃ j, ∃ h : j < ws.length, j < i ∧ idx (bl x) 0 (bl ws[j]) = some q) ∧ Aside0 (Kd.R Kd.bool 4 wz w19.heap.size (fun _ => True) (.slice A3 ws.length c3) sb) ∧ Aside0 (Below w19.heap.size w19 wz)) (fun v12 _ _ _ => ws.length - (intOf v12).toNat)
      case atStart => exact ⟨0, _, rfl, Nat.zero_le _, Aside0.mk ⟨by simp, fun q h => by
        rw [List.getElem?_replicate] at h
        split at h <;> simp at h⟩, HRS, HB20⟩
      case round =>
        clear HRS HB20
        obtain ⟨i, sb, rfl, hi, HSB, HRS, HBZ⟩ := hrel
        by_cases hlt : i < ws.length
        · have hltI : (i : Int) < (ws.length : Int) := by omega
          have i0 : (0 : Int) ≤ (i : Int) := by omega
          have HLT := Aside0.mk hlt
          obtain ⟨ad, e, h1⟩ := Kd.at_string (Kd.C_below HC.out HBZ.out) (i : Int) (by omega) (by omega)
          cases e
          rw [Int.toNat_natCast, rdOf_nat ws i hlt] at h1
          obtain ⟨y, hy⟩ : ∃ y, ws[i] = y := ⟨_, rfl⟩
          rw [hy] at h1
          have HY := Aside0.mk (show ∀ h : i < ws.length, ws[i] = y from fun _ => hy)
          obtain ⟨r, hr, hrl, hru⟩ := HA2.out.rank HLT2.out i (by rw [List.length_map]; exact hlt)
          rw [List.length_map] at hrl
          simp only [List.getElem_map] at hr hru
          rw [hy] at hr
          have HRK := Aside0.mk hr
          have HRU := Aside0.mk (show ∀ j, ∀ hj : j < ws.length, idx (bl x) 0 (bl ws[j]) = some r → j = i from fun j hj h => hru j (by rw [List.length_map]; exact hj) h)
          have HYW := Aside0.mk (show isW (bl y) = true from by
            have hs := (HA2.out.sub (bl y)).1 (List.mem_map.2 ⟨y, by rw [← hy]; exact List.getElem_mem _, rfl⟩)
            have hx := (isW_iff _).1 HXW.out
            refine (isW_iff _).2 ⟨Nat.le_trans hs.length_le hx.1, fun b hb => hx.2 b (hs.subset hb)⟩)
          have IV := Aside0.mk (fun W => index_v x y W HXW.out HYW.out r hr)
          have hrlI : (r : Int) < (ws.length : Int) := by omega
          have r0 : (0 : Int) ≤ (r : Int) := by omega
          have HSR := Aside0.mk (show sb[r]? = some false by
            have hl : r < sb.length := by rw [HSB.out.1]; exact hrl
            cases e : sb[r]? with
            | none => rw [List.getElem?_eq_getElem hl] at e; cases e
            | some b =>
              cases b with
              | false => rfl
              | true =>
                obtain ⟨j, hj, hji, hjr⟩ := HSB.out.2 r e
                have := HRU.out j hj hjr
                omega)
          have HRL := Aside0.mk hrl
          have hsl : sb.length = ws.length := HSB.out.1
          obtain ⟨go3, co3, eo3, gb3, gl3, cl3, HG3⟩ := Kd.R_form HRS.out (by omega)
          injection eo3 with ea3 el3 ec3
          clear el3
          subst ea3 ec3
          have HGB := Aside0.mk gb3
          clear gb3 gl3 cl3 HG3 hlt hi hr hrl hru hy
          have HSL := Aside0.mk hsl
          clear hsl
          go_upto_region 25 with (go_at_call 33; (with_reducible refine (IV.out _).mono ?_); rintro e w21 ⟨rfl, hb⟩; have HR21 := Aside0.mk (Kd.R_below HRS.out hb); have HB21 := Aside0.mk (below_step HBZ.out hb); clear hb)
          obtain ⟨hx0, hf0⟩ := Kd.R_celln false HR21.out (r : Int) (by omega) hrlI
          have HP := Aside0.mk (Kd.R_putg HR21.out (r : Int) true)
          have hrv : rdOf false sb (r : Int) = false := by
            unfold rdOf
            rw [Int.toNat_natCast, List.getD_eq_getElem?_getD, HSR.out]
            rfl
          rw [hrv, Int.toNat_natCast] at hx0
          rw [Int.toNat_natCast] at hf0
          have HP2 := Aside0.mk (show Kd.R Kd.bool 4 (w21.setCell ⟨go3, r, none⟩ (.bool true)) w19.heap.size (fun _ => True) (.slice (some ⟨go3, 0, none⟩) ws.length c3) (sb.set r true) by
            have h := HP.out.1
            rw [Int.toNat_natCast] at h
            exact h)
          have HB2 := Aside0.mk (show Below w19.heap.size w19 (w21.setCell ⟨go3, r, none⟩ (.bool true)) from below_set HB21.out HGB.out)
          clear hrv HP
          go_wp2
          go_roundw
          case rel => exact ⟨i + 1, sb.set r true, by go_num, by have := HLT.out; omega, Aside0.mk ⟨by rw [List.length_set, HSL.out], fun q h => by
            by_cases e : r = q
            · subst e
              exact ⟨i, HLT.out, by omega, by rw [HY.out HLT.out]; exact HRK.out⟩
            · rw [List.getElem?_set_ne e] at h
              obtain ⟨j, hj, hji, hjr⟩ := HSB.out.2 q h
              exact ⟨j, hj, by omega, hjr⟩⟩, HP2, HB2⟩
          case measure => simp [intOf]; have := HLT.out; omega
        · have hltI : ¬ ((i : Int) < (ws.length : Int)) := by omega
          have HBF := Aside0.mk (show Below w.heap.size w wr from below_step HB9.out HBZ.out)
          clear hlt hi
          go_wp2_with (go_at_call 22; (with_reducible refine (awake_ok _).mono ?_); rintro e w22 ⟨rfl, hb⟩; have HB22 := Aside0.mk (below_step HBF.out hb); clear hb)
          go_ret
          exact ⟨rfl, HB22.out⟩
end Go.Proofs.Ytagdbadljcongaa.X
end
