/- Texts behind ThreadSparse, part 25: contracts of the program's functions and the plain words for them. -/
import Derived.WalkKit
import Derived.ProofKit
import Derived.OpenShut
import Derived.ShutString
import Derived.ChangeOld
import Derived.Lib.SmallJoins
import Derived.SliceStrings
import Derived.Test.YtagdbadljcongaaTpae
import Derived.Test.YtagdbadljcongaaTpar
import Derived.Test.YtagdbadljcongaaTpas
import Derived.Test.YtagdbadljcongaaTpaw
import Derived.Test.YtagdbadljcongaaTpax
section
/- The law ThreadSparse, walked. -/
set_option linter.unusedVariables false
set_option linter.unusedSimpArgs false
namespace Go.Proofs.Ytagdbadljcongaa.X
open Go Go.RowKit Go.Proofs Go.Proofs.YtagdbadljcongaaW.PrintWords Go.Proofs.YtagdbadljcongaaW.PrintLast Go.Proofs.YtagdbadljcongaaW.PrintMore
set_option maxHeartbeats 8000000 in
set_option maxRecDepth 1000000 in
theorem ThreadSparse_calls (A : Option Addr) (c : Nat) (ws : List ByteArray) (x y : Int) (w : World) (hC : Kd.C Kd.string w A ws.length ws) : Calls Try.prog 15 #[.slice A ws.length c, .agg #[.int .i64 x, .int .i64 y]] w fun e w' => e = .returned (.bool true) ∧ Below w.heap.size w w' := by
  have TA := Aside0.mk (fun (s : ByteArray) W => show Calls Try.prog 26 #[.string s, .int .i64 6, .int .i64 4] W fun e w' => ∃ x, e = .returned (.string x) ∧ Aside0 (Tame x 6 4) ∧ Below W.heap.size W w' from tame_any s 6 4 W (by decide) (by decide) (by decide))
  have MDK := Aside0.mk (fun W => show Calls Try.prog 31 #[.int .i64 x, .int .i64 4] W fun e w' => ∃ r : Nat, e = .returned (.int .i64 (r : Int)) ∧ r < 4 ∧ Drawn0 W w' from mod_any x 4 W (by decide) (by decide))
  have MDN := Aside0.mk (fun W => show Calls Try.prog 31 #[.int .i64 y, .int .i64 21] W fun e w' => ∃ r : Nat, e = .returned (.int .i64 (r : Int)) ∧ r < 21 ∧ Drawn0 W w' from mod_any y 21 W (by decide) (by decide))
  have hwm : (ws.length : Int) ≤ 9223372036854775807 := by have := Kd.C_max hC; omega
  have HC := Aside0.mk hC
  clear hC
  go_enter Try.func15, Try.ntmps15
  go_upto_region 1 with (fail)
  have hbx : (w.alloc (.cells #[.int .i64 x, .int .i64 y] 60)).heap[w.heap.size]? = some (.cells #[.int .i64 x, .int .i64 y] 60 (0, 0)) := blk_new w _
  have HBW := Aside0.mk (show Below w.heap.size w (w.alloc (.cells #[.int .i64 x, .int .i64 y] 60)) from below_alloc (Below.refl _ _) _)
  have hC1 := Kd.C_below HC.out HBW.out
  obtain ⟨W0, hW0⟩ : ∃ W0, w.alloc (.cells #[.int .i64 x, .int .i64 y] 60) = W0 := ⟨_, rfl⟩
  rw [hW0] at hbx HBW hC1 ⊢
  have HC1 := Aside0.mk hC1
  clear hW0 HC hC1
  have HSW := Aside0.mk (fun (w' : World) (hb : Below W0.heap.size W0 w') => show w'.cell? ⟨w.heap.size, 0, none⟩ = some (.int .i64 x) ∧ w'.cell? ⟨w.heap.size, 1, none⟩ = some (.int .i64 y) from
    ⟨(blk_cell (blk_below hbx hb) 0).trans rfl, (blk_cell (blk_below hbx hb) 1).trans rfl⟩)
  clear hbx
  go_wp2
  go_loopw [5, 6] (fun v5 v6 wr => ∃ (i : Nat) (A2 : Option Addr) (c2 : Nat) (ls : List ByteArray), v6 = .int .i64 i ∧ v5 = .slice A2 ls.length c2 ∧ Aside0 (ls.length = i ∧ i ≤ ws.length ∧ (ls.length = 0 → A2 = none)) ∧ Aside0 (Fam6 ls) ∧ Aside0 (Kd.R Kd.string 9 wr W0.heap.size (fun _ => True) (.slice A2 ls.length c2) ls) ∧ Aside0 (Below W0.heap.size W0 wr)) (fun _ v6 _ => ws.length - (intOf v6).toNat)
  case atStart => exact ⟨0, none, 0, [], rfl, rfl, Aside0.mk ⟨rfl, Nat.zero_le _, fun _ => rfl⟩, ⟨Fam6.nil⟩, ⟨Kd.R_nil _ _ _ _ _⟩, ⟨Below.refl _ _⟩⟩
  case round =>
    obtain ⟨i, A2, c2, ls, rfl, rfl, HI, HF, HR, HB⟩ := hrel
    by_cases hlt : i < ws.length ∧ i < 4
    · have hltI : (i : Int) < (ws.length : Int) := by omega
      have hlt4 : (i : Int) < 4 := by omega
      have hi0 : (0 : Int) ≤ (i : Int) := by omega
      have HLT := Aside0.mk hlt
      obtain ⟨ad, e, hx⟩ := Kd.at_string (Kd.C_below HC1.out HB.out) (i : Int) hi0 hltI
      cases e
      rw [rdOf_nat ws i hlt.1, Int.toNat_natCast] at hx
      obtain ⟨s, hs⟩ : ∃ s, ws[i]'hlt.1 = s := ⟨_, rfl⟩
      rw [hs] at hx
      have HIL := Aside0.mk (show ls.length = i ∧ ls.length < 4 from ⟨HI.out.1, by rw [HI.out.1]; exact hlt.2⟩)
      clear hlt hs
      have HXX := Aside0.mk hx
      go_wp2_with (first | (go_at_call 26; (with_reducible refine (TA.out _ _).mono ?_); rintro e w1 ⟨t, rfl, HT, hb⟩; have HB1 := Aside0.mk (below_step HB.out hb); have HR1 := Aside0.mk (Kd.R_below HR.out hb); have KEY := Aside0.mk (app_str (x := t) HR1.out HB1.out HB1.out.size (fun _ _ => trivial) (by have := HIL.out; omega) 30 36); clear hb) | (at_builtin; refine KEY.out _ _ _ _ _ rfl rfl rfl rfl ?_; intro A3 c3 w2 hr3 hb3 hg3 hat3; have HR3 := Aside0.mk hr3; have HB3 := Aside0.mk hb3; clear hr3 hb3 hg3 hat3))
      go_roundw
      case rel => exact ⟨i + 1, A3, c3, ls ++ [t], by go_num, by rw [List.length_append]; rfl, Aside0.mk ⟨by rw [List.length_append, HIL.out.1]; rfl, by have := hltI; omega, fun h => by rw [List.length_append] at h; simp at h⟩, ⟨HF.out.snoc HT.out HIL.out.2⟩, ⟨by rw [List.length_append]; exact HR3.out⟩, HB3⟩
      case measure => simp [intOf]; omega
    · have HI2 := Aside0.mk (show ls.length = i ∧ (ls.length = 0 → A2 = none) from ⟨HI.out.1, HI.out.2.2⟩)
      have h12 : ¬ ((i : Int) < (ws.length : Int)) ∨ (i : Int) < (ws.length : Int) ∧ ¬ ((i : Int) < 4) := by omega
      clear hlt HI HC1
      rcases h12 with h1 | ⟨h1, h2⟩
      all_goals
        go_upto_region 6 with (fail)
        refine start_ (n := 9) (S := fun w' => w'.cell? ⟨w.heap.size, 0, none⟩ = some (.int .i64 x) ∧ w'.cell? ⟨w.heap.size, 1, none⟩ = some (.int .i64 y)) (ds := [7, 8]) #[false, false, false, false, false, false, false, false, false] (by kernel_rfl) rfl rfl (HSW.out _ (below_step HB.out (below_drew (Below.refl _ _)))) (fun hHeld => ?_)
        refine pure_ (i := 0) (N := (some 38)) (v := ?_) (a' := ?_) #[true, false, false, false, false, false, false, false, false] rfl rfl (by kernel_rfl) (fun _ _ _ h => h) (Or.inl ⟨by rfl, ?_⟩) ?_ ?_
        rotate_left
        · intro w'
          go_simp
          with_reducible rfl
        rotate_left
        · simp only [Act.put, List.setIfInBounds_toArray, List.set_cons_zero, List.set_cons_succ, i64_w, i32_w]
          rfl
        refine take_ (i := 1) (N := (some 39)) (v := ?_) (a' := ?_) #[true, true, false, false, false, false, false, false, false] rfl rfl (by kernel_rfl) (fun _ _ _ h => h) (Or.inl ⟨by rfl, ?_⟩) hHeld ?_ ?_
        rotate_left
        · rintro w' ⟨s0, s1⟩
          go_simp
          with_reducible rfl
        rotate_left
        · simp only [Act.put, List.setIfInBounds_toArray, List.set_cons_zero, List.set_cons_succ, i64_w, i32_w]
          rfl
        refine pure_ (i := 4) (N := (some 42)) (v := ?_) (a' := ?_) #[true, true, false, false, true, false, false, false, false] rfl rfl (by kernel_rfl) (fun _ _ _ h => h) (Or.inl ⟨by rfl, ?_⟩) ?_ ?_
        rotate_left
        · intro w'
          go_simp
          with_reducible rfl
        rotate_left
        · simp only [Act.put, List.setIfInBounds_toArray, List.set_cons_zero, List.set_cons_succ, i64_w, i32_w]
          rfl
        refine take_ (i := 5) (N := (some 43)) (v := ?_) (a' := ?_) #[true, true, false, false, true, true, false, false, false] rfl rfl (by kernel_rfl) (fun _ _ _ h => h) (Or.inl ⟨by rfl, ?_⟩) hHeld ?_ ?_
        rotate_left
        · rintro w' ⟨s0, s1⟩
          go_simp
          with_reducible rfl
        rotate_left
        · simp only [Act.put, List.setIfInBounds_toArray, List.set_cons_zero, List.set_cons_succ, i64_w, i32_w]
          rfl
        refine one_ (i := 2) (N := (some 40)) #[true, true, true, false, true, true, false, false, false] rfl rfl (by kernel_rfl) (by decide) (fun K hK => ?_)
        refine goes_ Try.func31 (by kernel_rfl) rfl #[.int .i64 x, .int .i64 4] (by rfl) rfl rfl (by (try simp only [List.map_toArray, List.map_cons, List.map_nil]); first | done | rfl) ?_
        refine (MDK.out _).mono ?_
        rintro e w1 ⟨kr, rfl, hk, hd⟩
        refine ⟨_, rfl, ?_⟩
        have HK := Aside0.mk hk
        have HD1 := Aside0.mk (below_step (below_drew (Below.refl wr.heap.size wr)) hd.below)
        have HB1 := Aside0.mk (below_step HB.out HD1.out)
        refine hK.out _ _ (HSW.out _ HB1.out) (fun hHeld => ?_)
        clear hK K
        refine norm_ (a' := ?_) ?_ ?_
        rotate_left
        · show Act.put _ (some 40) _ = _
          simp only [Act.put, List.setIfInBounds_toArray, List.set_cons_zero, List.set_cons_succ, i64_w, i32_w]
          rfl
        clear hd hk
        refine pure_ (i := 3) (N := (some 41)) (v := ?_) (a' := ?_) #[true, true, true, true, true, true, false, false, false] rfl rfl (by kernel_rfl) (fun _ _ _ h => h) (Or.inl ⟨by rfl, ?_⟩) ?_ ?_
        rotate_left
        · intro w'
          go_simp
          with_reducible rfl
        rotate_left
        · simp only [Act.put, List.setIfInBounds_toArray, List.set_cons_zero, List.set_cons_succ, i64_w, i32_w]
          rfl
        refine one_ (i := 6) (N := (some 44)) #[true, true, true, true, true, true, true, false, false] rfl rfl (by kernel_rfl) (by decide) (fun K hK => ?_)
        refine goes_ Try.func31 (by kernel_rfl) rfl #[.int .i64 y, .int .i64 21] (by rfl) rfl rfl (by (try simp only [List.map_toArray, List.map_cons, List.map_nil]); first | done | rfl) ?_
        refine (MDN.out _).mono ?_
        rintro e w2 ⟨n, rfl, hn, hd⟩
        refine ⟨_, rfl, ?_⟩
        have HN := Aside0.mk hn
        have HD2 := Aside0.mk (below_step HD1.out hd.below)
        have HB2 := Aside0.mk (below_step HB.out HD2.out)
        refine hK.out _ _ (HSW.out _ HB2.out) (fun hHeld => ?_)
        clear hK K
        refine norm_ (a' := ?_) ?_ ?_
        rotate_left
        · show Act.put _ (some 44) _ = _
          simp only [Act.put, List.setIfInBounds_toArray, List.set_cons_zero, List.set_cons_succ, i64_w, i32_w]
          rfl
        clear hd hn
        refine pure_ (i := 7) (N := (some 7)) (v := ?_) (a' := ?_) #[true, true, true, true, true, true, true, true, false] rfl rfl (by kernel_rfl) (fun _ _ _ h => h) (Or.inl ⟨by rfl, ?_⟩) ?_ ?_
        rotate_left
        · intro w'
          go_simp
          with_reducible rfl
        rotate_left
        · simp only [Act.put, List.setIfInBounds_toArray, List.set_cons_zero, List.set_cons_succ, i64_w, i32_w]
          rfl
        refine pure_ (i := 8) (N := (some 8)) (v := ?_) (a' := ?_) #[true, true, true, true, true, true, true, true, true] rfl rfl (by kernel_rfl) (fun _ _ _ h => h) (Or.inl ⟨by rfl, ?_⟩) ?_ ?_
        rotate_left
        · intro w'
          go_simp
          with_reducible rfl
        rotate_left
        · simp only [Act.put, List.setIfInBounds_toArray, List.set_cons_zero, List.set_cons_succ, i64_w, i32_w]
          rfl
        refine done_ (by kernel_rfl) ?_
        obtain ⟨k, hk⟩ : ∃ k : Nat, 1 + kr = k := ⟨_, rfl⟩
        rw [show wrap64 (1 + (kr : Int)) = (k : Int) from by have := HK.out; unfold wrap64; omega]
        have HKK := Aside0.mk (show 1 ≤ k ∧ k ≤ 4 by have := HK.out; omega)
        clear hk HK
        have HR2 := Aside0.mk (Kd.R_below HR.out HD2.out)
        have HC2 := Aside0.mk (Kd.R_reads' HR2.out)
        have MIN := Aside0.mk (minimal_ok ls A2 c2 w2 HF.out.len HF.out.fam (spot_of HR2.out HI2.out.2) HC2.out.2.2)
        clear HD1 HB1 HD2 HB HR HR2 MDK MDN TA HSW
        have hk4 : (k : Int) ≤ 4 := by have := HKK.out; omega
        have hk1 : (1 : Int) ≤ (k : Int) := by have := HKK.out; omega
        have hn21 : (n : Int) < 21 := by have := HN.out; omega
        go_upto_region 8 with (go_at_call 42; (with_reducible refine MIN.out.mono ?_); rintro e w3 ⟨B, d, ms, rfl, HM, HRM, hb⟩; have HB23 := Aside0.mk hb; have HC3 := Aside0.mk (Kd.C_below HC2.out.2.2 hb); clear hb)
        obtain ⟨rs, hR⟩ : ∃ rs, frI (ls.map bl) k n = rs := ⟨_, rfl⟩
        have hrl : rs.length = n + 1 := by rw [← hR, frI_len]
        have HRD := Aside0.mk hR
        have HRL := Aside0.mk hrl
        have hm4 : ms.length ≤ 4 := by have := HM.out.len4; have := HF.out.len; omega
        have FR := Aside0.mk (show Calls Try.prog 43 #[.slice A2 ls.length c2, .int .i64 (k : Int), .int .i64 (n : Int)] w3 fun e w' => ∃ g c, e = .returned (.tuple #[.slice (some ⟨g, 0, none⟩) (n + 1) c, .int .i64 0]) ∧ Aside0 (n + 1 ≤ c ∧ Kd.C (Kd.int .i64) w' (some ⟨g, 0, none⟩) (n + 1) rs) ∧ Below w3.heap.size w3 w' by
          have h := free_fr (A := A2) (c := c2) HC3.out HC2.out.2.1 HF.out.len HF.out.fam k n HKK.out.1 HKK.out.2 (by have := HN.out; omega) rs hR
          exact h)
        have FM := Aside0.mk (fun W (hb : Below w3.heap.size w3 W) => show Calls Try.prog 43 #[.slice B ms.length d, .int .i64 (k : Int), .int .i64 (n : Int)] W fun e w' => ∃ g c, e = .returned (.tuple #[.slice (some ⟨g, 0, none⟩) (n + 1) c, .int .i64 0]) ∧ Aside0 (n + 1 ≤ c ∧ Kd.C (Kd.int .i64) w' (some ⟨g, 0, none⟩) (n + 1) rs) ∧ Below W.heap.size W w' by
          have h := free_fr (A := B) (c := d) (Kd.C_below (Kd.R_reads' HRM.out).2.2 hb) (Kd.R_reads' HRM.out).2.1 hm4 (HM.out.fam HF.out.fam) k n HKK.out.1 HKK.out.2 (by have := HN.out; omega) rs (by
            unfold frI at hR ⊢
            rw [HM.out.free HF.out.len HF.out.fam, hR])
          exact h)
        have IY := Aside0.mk (fun (A4 A5 : Option Addr) (c4 c5 : Nat) (W : World) (h4 : n + 1 ≤ c4 ∧ Kd.C (Kd.int .i64) W A4 (n + 1) rs) (h5 : n + 1 ≤ c5 ∧ Kd.C (Kd.int .i64) W A5 (n + 1) rs) => show Calls Try.prog 23 #[.slice A4 (n + 1) c4, .slice A5 (n + 1) c5] W fun e w' => e = .returned (.bool true) ∧ Drawn0 W w' by
          have h := ints_yes A4 c4 A5 c5 rs W (by have := HN.out; omega) (by rw [hrl]; exact h4.2) (by rw [hrl]; exact h4.1) (by rw [hrl]; exact h5.2) (by rw [hrl]; exact h5.1)
          rw [hrl] at h
          exact h)
        have hm0 : 0 < ls.length → 0 < ms.length := HM.out.pos
        have HM4 := Aside0.mk hm4
        have HM0 := Aside0.mk hm0
        have HL4 := Aside0.mk HF.out.len
        have h12 : 0 < ls.length ∨ ¬ 0 < ls.length := by omega
        clear MIN hR hm4 hm0 hrl
        go_upto_region 10 with (first | (go_at_call 43; (with_reducible refine FR.out.mono ?_); rintro e w4 ⟨g4, c4, rfl, HR4, hb⟩; have HD4 := Aside0.mk hb; clear hb) | (go_at_call 43; (with_reducible refine (FM.out _ HD4.out).mono ?_); rintro e w5 ⟨g5, c5, rfl, HR5, hb⟩; have HC4 := Aside0.mk (Kd.C_below HR4.out.2 hb); have HD5 := Aside0.mk (below_step HD4.out hb); clear hb))
        have IY2 := Aside0.mk (IY.out (some ⟨g4, 0, none⟩) (some ⟨g5, 0, none⟩) c4 c5 w5 ⟨HR4.out.1, HC4.out⟩ HR5.out)
        clear FR FM IY
        rcases h12 with h3 | h3
        all_goals
          first | have h4 : (0 : Int) < (ls.length : Int) := by omega | have h4 : ¬ (0 : Int) < (ls.length : Int) := by omega
          have h5 : 0 < ls.length → ((ms.length : Int) == 0) = false := fun h => beq_eq_false_iff_ne.mpr (by have := HM0.out h; omega)
          first | have h6 := h5 h3 | have h6 := trivial
          clear h5
          go_upto_region 12 with (go_at_call 23; (with_reducible refine IY2.out.mono ?_); rintro e w6 ⟨rfl, hd⟩; have HD6 := Aside0.mk (below_step HD5.out hd.below); have HC6 := Aside0.mk (Kd.C_below HC4.out hd.below); clear hd)
          have HCM := Aside0.mk (Kd.C_below (Kd.R_reads' HRM.out).2.2 HD6.out)
          have HB6 := Aside0.mk (below_step HB2.out (below_step (show Below w2.heap.size w2 w3 from HB23.out) HD6.out))
          have hm4 : (ms.length : Int) ≤ 4 := by have := HM4.out; omega
          clear IY2 HD4 HD5 HR4 HR5 HC3 HC4 HC2 h3 h6
          go_wp2
          go_loopw [15, 16, 17, 18] (fun v15 v16 v17 v18 wr => ∃ p : Nat, v15 = .int .i64 p ∧ p ≤ ms.length ∧ Aside0 (Below w6.heap.size w6 wr)) (fun v15 _ _ _ _ => ms.length - (intOf v15).toNat)
          case atStart => exact ⟨0, rfl, Nat.zero_le _, ⟨Below.refl _ _⟩⟩
          case round =>
            obtain ⟨p, rfl, hp, HBP⟩ := hrel
            by_cases hpl : p < ms.length
            · have hpI : (p : Int) < (ms.length : Int) := by omega
              have hp0 : (0 : Int) ≤ (p : Int) := by omega
              have HPL := Aside0.mk hpl
              clear hpl hp
              go_upto_region 16 with (fail)
              go_loopw [16, 17, 18] (fun v16 v17 v18 wz => ∃ q : Nat, v16 = .int .i64 q ∧ q ≤ ms.length ∧ Aside0 (Below w6.heap.size w6 wz)) (fun v16 _ _ _ => ms.length - (intOf v16).toNat)
              case atStart => exact ⟨0, rfl, Nat.zero_le _, HBP⟩
              case round =>
                clear HBP
                obtain ⟨q, rfl, hq, HBQ⟩ := hrel
                by_cases hql : q < ms.length
                · have hqI : (q : Int) < (ms.length : Int) := by omega
                  have hq0 : (0 : Int) ≤ (q : Int) := by omega
                  have HQL := Aside0.mk hql
                  obtain ⟨ad, e, hx1⟩ := Kd.at_string (Kd.C_below HCM.out HBQ.out) (p : Int) hp0 hpI
                  cases e
                  obtain ⟨ad2, e, hx2⟩ := Kd.at_string (Kd.C_below HCM.out HBQ.out) (q : Int) hq0 hqI
                  injection e with e
                  subst e
                  rw [rdOf_nat ms p HPL.out, Int.toNat_natCast] at hx1
                  rw [rdOf_nat ms q hql, Int.toNat_natCast] at hx2
                  have hpw := HM.out.mem ms[p] |>.1 (List.getElem_mem HPL.out)
                  have hqw := HM.out.mem ms[q] |>.1 (List.getElem_mem hql)
                  have hps := (HF.out.tm _ hpw.1).size
                  have hqs := (HF.out.tm _ hqw.1).size
                  obtain ⟨b, hb⟩ : ∃ b, (wth (bl (ms[p]'HPL.out)) 0 (bl ms[q])).isSome = b := ⟨_, rfl⟩
                  have RW := Aside0.mk (fun W => (rwithin_any ms[q] (ms[p]'HPL.out) W (by omega) (by omega) _ rfl))
                  rw [hb] at RW
                  have hbe : b = false ∨ p = q := by
                    by_cases e : p = q
                    · exact .inr e
                    · left; rw [← hb, HM.out.apart p q HPL.out hql e]; rfl
                  obtain ⟨s1, hs1⟩ : ∃ s, ms[p]'HPL.out = s := ⟨_, rfl⟩
                  obtain ⟨s2, hs2⟩ : ∃ s, ms[q] = s := ⟨_, rfl⟩
                  rw [hs1] at hx1 RW
                  rw [hs2] at hx2 RW
                  clear hpw hqw hps hqs hb hs1 hs2 hql hq
                  go_upto_region 18 with (fail)
                  have HXC := Aside0.mk (fun (w' : World) (hb : Below wr.heap.size wr w') => show w'.cell? (ad.add q) = some (.string s2) ∧ w'.cell? (ad.add p) = some (.string s1) from ⟨pw_cell_below hb hx2, pw_cell_below hb hx1⟩)
                  clear hx1 hx2
                  refine start_ (n := 14) (S := fun w' => w'.cell? (ad.add q) = some (.string s2) ∧ w'.cell? (ad.add p) = some (.string s1)) (ds := [12, 13]) #[false, false, false, false, false, false, false, false, false, false, false, false, false, false] (by kernel_rfl) rfl rfl (HXC.out _ (below_drew (Below.refl _ _))) (fun hHeld => ?_)
                  refine pure_ (i := 0) (N := (some 110)) (v := ?_) (a' := ?_) #[true, false, false, false, false, false, false, false, false, false, false, false, false, false] rfl rfl (by kernel_rfl) (fun _ _ _ h => h) (Or.inl ⟨by rfl, ?_⟩) ?_ ?_
                  rotate_left
                  · intro w'
                    go_simp
                    with_reducible rfl
                  rotate_left
                  · simp only [Act.put, List.setIfInBounds_toArray, List.set_cons_zero, List.set_cons_succ, i64_w, i32_w]
                    rfl
                  refine pure_ (i := 1) (N := (some 111)) (v := ?_) (a' := ?_) #[true, true, false, false, false, false, false, false, false, false, false, false, false, false] rfl rfl (by kernel_rfl) (fun _ _ _ h => h) (Or.inl ⟨by rfl, ?_⟩) ?_ ?_
                  rotate_left
                  · intro w'
                    go_simp
                    with_reducible rfl
                  rotate_left
                  · simp only [Act.put, List.setIfInBounds_toArray, List.set_cons_zero, List.set_cons_succ, i64_w, i32_w]
                    rfl
                  refine pure_ (i := 2) (N := (some 112)) (v := ?_) (a' := ?_) #[true, true, true, false, false, false, false, false, false, false, false, false, false, false] rfl rfl (by kernel_rfl) (fun _ _ _ h => h) (Or.inl ⟨by rfl, ?_⟩) ?_ ?_
                  rotate_left
                  · intro w'
                    go_simp
                    with_reducible rfl
                  rotate_left
                  · simp only [Act.put, List.setIfInBounds_toArray, List.set_cons_zero, List.set_cons_succ, i64_w, i32_w]
                    rfl
                  refine take_ (i := 3) (N := (some 113)) (v := ?_) (a' := ?_) #[true, true, true, true, false, false, false, false, false, false, false, false, false, false] rfl rfl (by kernel_rfl) (fun _ _ _ h => h) (Or.inl ⟨by rfl, ?_⟩) hHeld ?_ ?_
                  rotate_left
                  · rintro w' ⟨s0, s1⟩
                    go_simp
                    with_reducible rfl
                  rotate_left
                  · simp only [Act.put, List.setIfInBounds_toArray, List.set_cons_zero, List.set_cons_succ, i64_w, i32_w]
                    rfl
                  refine pure_ (i := 4) (N := (some 114)) (v := ?_) (a' := ?_) #[true, true, true, true, true, false, false, false, false, false, false, false, false, false] rfl rfl (by kernel_rfl) (fun _ _ _ h => h) (Or.inl ⟨by rfl, ?_⟩) ?_ ?_
                  rotate_left
                  · intro w'
                    go_simp
                    with_reducible rfl
                  rotate_left
                  · simp only [Act.put, List.setIfInBounds_toArray, List.set_cons_zero, List.set_cons_succ, i64_w, i32_w]
                    rfl
                  refine pure_ (i := 5) (N := (some 115)) (v := ?_) (a' := ?_) #[true, true, true, true, true, true, false, false, false, false, false, false, false, false] rfl rfl (by kernel_rfl) (fun _ _ _ h => h) (Or.inl ⟨by rfl, ?_⟩) ?_ ?_
                  rotate_left
                  · intro w'
                    go_simp
                    with_reducible rfl
                  rotate_left
                  · simp only [Act.put, List.setIfInBounds_toArray, List.set_cons_zero, List.set_cons_succ, i64_w, i32_w]
                    rfl
                  refine pure_ (i := 6) (N := (some 116)) (v := ?_) (a' := ?_) #[true, true, true, true, true, true, true, false, false, false, false, false, false, false] rfl rfl (by kernel_rfl) (fun _ _ _ h => h) (Or.inl ⟨by rfl, ?_⟩) ?_ ?_
                  rotate_left
                  · intro w'
                    go_simp
                    with_reducible rfl
                  rotate_left
                  · simp only [Act.put, List.setIfInBounds_toArray, List.set_cons_zero, List.set_cons_succ, i64_w, i32_w]
                    rfl
                  refine take_ (i := 7) (N := (some 117)) (v := ?_) (a' := ?_) #[true, true, true, true, true, true, true, true, false, false, false, false, false, false] rfl rfl (by kernel_rfl) (fun _ _ _ h => h) (Or.inl ⟨by rfl, ?_⟩) hHeld ?_ ?_
                  rotate_left
                  · rintro w' ⟨s0, s1⟩
                    go_simp
                    with_reducible rfl
                  rotate_left
                  · simp only [Act.put, List.setIfInBounds_toArray, List.set_cons_zero, List.set_cons_succ, i64_w, i32_w]
                    rfl
                  refine one_ (i := 8) (N := (some 118)) #[true, true, true, true, true, true, true, true, true, false, false, false, false, false] rfl rfl (by kernel_rfl) (by decide) (fun K hK => ?_)
                  refine goes_ Try.func34 (by kernel_rfl) rfl #[.string s2, .string s1] (by rfl) rfl rfl (by (try simp only [List.map_toArray, List.map_cons, List.map_nil]); first | done | rfl) ?_
                  refine (RW.out _).mono ?_
                  rintro e w7 ⟨v, rfl, _, hb⟩
                  refine ⟨_, rfl, ?_⟩
                  have HD7 := Aside0.mk (below_step (below_drew (Below.refl wr.heap.size wr)) hb)
                  refine hK.out _ _ (HXC.out _ HD7.out) (fun hHeld => ?_)
                  clear hK K
                  refine norm_ (a' := ?_) ?_ ?_
                  rotate_left
                  · show Act.put _ (some 118) _ = _
                    simp only [Act.put, List.setIfInBounds_toArray, List.set_cons_zero, List.set_cons_succ, i64_w, i32_w]
                    rfl
                  clear hb
                  refine pure_ (i := 9) (N := (some 109)) (v := ?_) (a' := ?_) #[true, true, true, true, true, true, true, true, true, true, false, false, false, false] rfl rfl (by kernel_rfl) (fun _ _ _ h => h) (Or.inl ⟨by rfl, ?_⟩) ?_ ?_
                  rotate_left
                  · intro w'
                    go_simp
                    with_reducible rfl
                  rotate_left
                  · simp only [Act.put, List.setIfInBounds_toArray, List.set_cons_zero, List.set_cons_succ, i64_w, i32_w]
                    rfl
                  refine pure_ (i := 10) (N := (some 119)) (v := ?_) (a' := ?_) #[true, true, true, true, true, true, true, true, true, true, true, false, false, false] rfl rfl (by kernel_rfl) (fun _ _ _ h => h) (Or.inl ⟨by rfl, ?_⟩) ?_ ?_
                  rotate_left
                  · intro w'
                    go_simp
                    with_reducible rfl
                  rotate_left
                  · simp only [Act.put, List.setIfInBounds_toArray, List.set_cons_zero, List.set_cons_succ, i64_w, i32_w]
                    rfl
                  refine pure_ (i := 11) (N := (some 120)) (v := ?_) (a' := ?_) #[true, true, true, true, true, true, true, true, true, true, true, true, false, false] rfl rfl (by kernel_rfl) (fun _ _ _ h => h) (Or.inl ⟨by rfl, ?_⟩) ?_ ?_
                  rotate_left
                  · intro w'
                    go_simp
                    with_reducible rfl
                  rotate_left
                  · simp only [Act.put, List.setIfInBounds_toArray, List.set_cons_zero, List.set_cons_succ, i64_w, i32_w]
                    rfl
                  refine pure_ (i := 12) (N := (some 17)) (v := ?_) (a' := ?_) #[true, true, true, true, true, true, true, true, true, true, true, true, true, false] rfl rfl (by kernel_rfl) (fun _ _ _ h => h) (Or.inl ⟨by rfl, ?_⟩) ?_ ?_
                  rotate_left
                  · intro w'
                    go_simp
                    with_reducible rfl
                  rotate_left
                  · simp only [Act.put, List.setIfInBounds_toArray, List.set_cons_zero, List.set_cons_succ, i64_w, i32_w]
                    rfl
                  refine pure_ (i := 13) (N := (some 18)) (v := ?_) (a' := ?_) #[true, true, true, true, true, true, true, true, true, true, true, true, true, true] rfl rfl (by kernel_rfl) (fun _ _ _ h => h) (Or.inl ⟨by rfl, ?_⟩) ?_ ?_
                  rotate_left
                  · intro w'
                    go_simp
                    with_reducible rfl
                  rotate_left
                  · simp only [Act.put, List.setIfInBounds_toArray, List.set_cons_zero, List.set_cons_succ, i64_w, i32_w]
                    rfl
                  refine done_ (by kernel_rfl) ?_
                  have HB7 := Aside0.mk (below_step HBQ.out HD7.out)
                  clear HXC RW HD7
                  rcases hbe with rfl | rfl
                  · go_wp2
                    go_roundw
                    case rel => exact ⟨q + 1, by go_num, by have := HQL.out; omega, HB7⟩
                    case measure => simp [intOf]; have := HQL.out; omega
                  · cases b
                    all_goals
                      go_wp2
                      go_roundw
                      case rel => exact ⟨p + 1, by go_num, by have := HQL.out; omega, HB7⟩
                      case measure => simp [intOf]; have := HQL.out; omega
                · have hqI : ¬ (q : Int) < (ms.length : Int) := by omega
                  clear hql hq
                  go_wp2
                  go_roundw
                  case rel => exact ⟨p + 1, by go_num, by have := HPL.out; omega, HBQ⟩
                  case measure => simp [intOf]; have := HPL.out; omega
            · have hpI : ¬ (p : Int) < (ms.length : Int) := by omega
              have HB7 := Aside0.mk (below_step HB6.out HBP.out)
              have HC7 := Aside0.mk (Kd.C_below HC6.out HBP.out)
              obtain ⟨ad, e, hx0⟩ := Kd.at_int HC7.out 0 (by omega) (by omega)
              injection e with e
              subst e
              have hr0 : rd rs 0 = ((lev (ls.map bl) k 0).length : Int) := by rw [← HRD.out]; exact frI_at _ _ _ 0 (Nat.zero_le _)
              obtain ⟨z, hz⟩ : ∃ z, (lev (ls.map bl) k 0).length = z := ⟨_, rfl⟩
              have hz1 : (z : Int) ≤ 1 := by have := lev_0 (ls.map bl) k; omega
              have hz0 : (0 : Int) ≤ (z : Int) := by omega
              rw [hr0, hz] at hx0
              rw [show (⟨g4, 0, none⟩ : Addr).add (0 : Int).toNat = ⟨g4, 0, none⟩ from rfl] at hx0
              clear hpl hp hr0 hz
              go_upto_region 24 with (fail)
              clear hx0 hz0 hz1
              go_loopw [19] (fun v19 wr => ∃ q : Nat, v19 = .int .i64 ((q : Int) + 1) ∧ q ≤ n ∧ Aside0 (Below w6.heap.size w6 wr)) (fun v19 _ => n + 1 - (intOf v19).toNat)
              case atStart => exact ⟨0, rfl, Nat.zero_le _, HBP⟩
              case round =>
                clear HB7 HC7 HBP
                obtain ⟨q, rfl, hq, HBQ⟩ := hrel
                by_cases hql : q < n
                · have hqI : (q : Int) + 1 ≤ (n : Int) := by omega
                  have hq0 : (0 : Int) ≤ (q : Int) := by omega
                  have HQL := Aside0.mk hql
                  have hx1 := (Kd.at_int (Kd.C_below HC6.out HBQ.out) ((q : Int) + 1) (by omega) (by omega))
                  have hx2 := (Kd.at_int (Kd.C_below HC6.out HBQ.out) (q : Int) (by omega) (by omega))
                  obtain ⟨ad1, e, hx1⟩ := hx1
                  injection e with e
                  subst e
                  obtain ⟨ad2, e, hx2⟩ := hx2
                  injection e with e
                  subst e
                  obtain ⟨z1, z2, hr1, hr2, hsI, hmI, hm0⟩ := frI_step (ls.map bl) k n q HKK.out.2 hql (by have := HN.out; omega)
                  rw [HRD.out] at hr1 hr2
                  rw [hr1] at hx1
                  rw [hr2] at hx2
                  rw [show ((q : Int) + 1).toNat = q + 1 by omega, addr_add, Nat.zero_add] at hx1
                  rw [Int.toNat_natCast, addr_add, Nat.zero_add] at hx2
                  clear hr1 hr2 hq
                  have hq1 : (0 : Int) ≤ (q : Int) + 1 := by omega
                  have hqn : q < n + 1 := by omega
                  have hqnI : (q : Int) < (n : Int) + 1 := by omega
                  have hz10 : ¬ ((z1 : Int) < 0) := by omega
                  have WQ := Aside0.mk (show wrap64 (q : Int) = (q : Int) by unfold wrap64; omega)
                  have WM := Aside0.mk (show wrap64 ((k : Int) * (z2 : Int)) = (k : Int) * (z2 : Int) by unfold wrap64; omega)
                  have HXC := Aside0.mk (fun (w' : World) (hb : Below wr.heap.size wr w') => show w'.cell? ⟨g4, q + 1, none⟩ = some (.int .i64 (z1 : Int)) ∧ w'.cell? ⟨g4, q, none⟩ = some (.int .i64 (z2 : Int)) from ⟨pw_cell_below hb hx1, pw_cell_below hb hx2⟩)
                  clear hx1 hx2
                  go_upto_region 26 with (fail)
                  refine start_ (n := 19) (S := fun w' => w'.cell? ⟨g4, q + 1, none⟩ = some (.int .i64 (z1 : Int)) ∧ w'.cell? ⟨g4, q, none⟩ = some (.int .i64 (z2 : Int))) (ds := []) #[false, false, false, false, false, false, false, false, false, false, false, false, false, false, false, false, false, false, false] (by kernel_rfl) rfl rfl (HXC.out _ (below_drew (Below.refl _ _))) (fun hHeld => ?_)
                  refine pure_ (i := 0) (N := (some 142)) (v := ?_) (a' := ?_) #[true, false, false, false, false, false, false, false, false, false, false, false, false, false, false, false, false, false, false] rfl rfl (by kernel_rfl) (fun _ _ _ h => h) (Or.inl ⟨by rfl, ?_⟩) ?_ ?_
                  rotate_left
                  · intro w'
                    go_simp
                    with_reducible rfl
                  rotate_left
                  · simp only [Act.put, List.setIfInBounds_toArray, List.set_cons_zero, List.set_cons_succ, i64_w, i32_w]
                    rfl
                  refine pure_ (i := 1) (N := (some 143)) (v := ?_) (a' := ?_) #[true, true, false, false, false, false, false, false, false, false, false, false, false, false, false, false, false, false, false] rfl rfl (by kernel_rfl) (fun _ _ _ h => h) (Or.inl ⟨by rfl, ?_⟩) ?_ ?_
                  rotate_left
                  · intro w'
                    go_simp
                    with_reducible rfl
                  rotate_left
                  · simp only [Act.put, List.setIfInBounds_toArray, List.set_cons_zero, List.set_cons_succ, i64_w, i32_w]
                    rfl
                  refine pure_ (i := 2) (N := (some 144)) (v := ?_) (a' := ?_) #[true, true, true, false, false, false, false, false, false, false, false, false, false, false, false, false, false, false, false] rfl rfl (by kernel_rfl) (fun _ _ _ h => h) (Or.inl ⟨by rfl, ?_⟩) ?_ ?_
                  rotate_left
                  · intro w'
                    go_simp
                    with_reducible rfl
                  rotate_left
                  · simp only [Act.put, List.setIfInBounds_toArray, List.set_cons_zero, List.set_cons_succ, i64_w, i32_w]
                    rfl
                  refine take_ (i := 3) (N := (some 145)) (v := ?_) (a' := ?_) #[true, true, true, true, false, false, false, false, false, false, false, false, false, false, false, false, false, false, false] rfl rfl (by kernel_rfl) (fun _ _ _ h => h) (Or.inl ⟨by rfl, ?_⟩) hHeld ?_ ?_
                  rotate_left
                  · rintro w' ⟨s0, s1⟩
                    go_simp
                    with_reducible rfl
                  rotate_left
                  · simp only [Act.put, List.setIfInBounds_toArray, List.set_cons_zero, List.set_cons_succ, i64_w, i32_w]
                    rfl
                  refine pure_ (i := 4) (N := (some 146)) (v := ?_) (a' := ?_) #[true, true, true, true, true, false, false, false, false, false, false, false, false, false, false, false, false, false, false] rfl rfl (by kernel_rfl) (fun _ _ _ h => h) (Or.inl ⟨by rfl, ?_⟩) ?_ ?_
                  rotate_left
                  · intro w'
                    go_simp
                    with_reducible rfl
                  rotate_left
                  · simp only [Act.put, List.setIfInBounds_toArray, List.set_cons_zero, List.set_cons_succ, i64_w, i32_w]
                    rfl
                  refine pure_ (i := 5) (N := (some 147)) (v := ?_) (a' := ?_) #[true, true, true, true, true, true, false, false, false, false, false, false, false, false, false, false, false, false, false] rfl rfl (by kernel_rfl) (fun _ _ _ h => h) (Or.inl ⟨by rfl, ?_⟩) ?_ ?_
                  rotate_left
                  · intro w'
                    go_simp
                    with_reducible rfl
                  rotate_left
                  · simp only [Act.put, List.setIfInBounds_toArray, List.set_cons_zero, List.set_cons_succ, i64_w, i32_w]
                    rfl
                  refine pure_ (i := 6) (N := (some 148)) (v := ?_) (a' := ?_) #[true, true, true, true, true, true, true, false, false, false, false, false, false, false, false, false, false, false, false] rfl rfl (by kernel_rfl) (fun _ _ _ h => h) (Or.inl ⟨by rfl, ?_⟩) ?_ ?_
                  rotate_left
                  · intro w'
                    go_simp
                    with_reducible rfl
                  rotate_left
                  · simp only [Act.put, List.setIfInBounds_toArray, List.set_cons_zero, List.set_cons_succ, i64_w, i32_w]
                    rfl
                  refine pure_ (i := 7) (N := (some 149)) (v := ?_) (a' := ?_) #[true, true, true, true, true, true, true, true, false, false, false, false, false, false, false, false, false, false, false] rfl rfl (by kernel_rfl) (fun _ _ _ h => h) (Or.inl ⟨by rfl, ?_⟩) ?_ ?_
                  rotate_left
                  · intro w'
                    go_simp
                    with_reducible rfl
                  rotate_left
                  · simp only [Act.put, List.setIfInBounds_toArray, List.set_cons_zero, List.set_cons_succ, i64_w, i32_w]
                    rfl
                  refine pure_ (i := 8) (N := (some 150)) (v := ?_) (a' := ?_) #[true, true, true, true, true, true, true, true, true, false, false, false, false, false, false, false, false, false, false] rfl rfl (by kernel_rfl) (fun _ _ _ h => h) (Or.inl ⟨by rfl, ?_⟩) ?_ ?_
                  rotate_left
                  · intro w'
                    go_simp
                    with_reducible rfl
                  rotate_left
                  · simp only [Act.put, List.setIfInBounds_toArray, List.set_cons_zero, List.set_cons_succ, i64_w, i32_w]
                    rfl
                  refine take_ (i := 9) (N := (some 151)) (v := ?_) (a' := ?_) #[true, true, true, true, true, true, true, true, true, true, false, false, false, false, false, false, false, false, false] rfl rfl (by kernel_rfl) (fun _ _ _ h => h) (Or.inl ⟨by rfl, ?_⟩) hHeld ?_ ?_
                  rotate_left
                  · rintro w' ⟨s0, s1⟩
                    go_simp
                    with_reducible rfl
                  rotate_left
                  · simp only [Act.put, List.setIfInBounds_toArray, List.set_cons_zero, List.set_cons_succ, i64_w, i32_w]
                    rfl
                  refine pure_ (i := 10) (N := (some 152)) (v := ?_) (a' := ?_) #[true, true, true, true, true, true, true, true, true, true, true, false, false, false, false, false, false, false, false] rfl rfl (by kernel_rfl) (fun _ _ _ h => h) (Or.inl ⟨by rfl, ?_⟩) ?_ ?_
                  rotate_left
                  · intro w'
                    go_simp
                    with_reducible rfl
                  rotate_left
                  · simp only [Act.put, List.setIfInBounds_toArray, List.set_cons_zero, List.set_cons_succ, i64_w, i32_w]
                    rfl
                  refine pure_ (i := 11) (N := (some 153)) (v := ?_) (a' := ?_) #[true, true, true, true, true, true, true, true, true, true, true, true, false, false, false, false, false, false, false] rfl rfl (by kernel_rfl) (fun _ _ _ h => h) (Or.inl ⟨by rfl, ?_⟩) ?_ ?_
                  rotate_left
                  · intro w'
                    go_simp
                    with_reducible rfl
                  rotate_left
                  · simp only [Act.put, List.setIfInBounds_toArray, List.set_cons_zero, List.set_cons_succ, i64_w, i32_w]
                    rfl
                  refine pure_ (i := 12) (N := (some 154)) (v := ?_) (a' := ?_) #[true, true, true, true, true, true, true, true, true, true, true, true, true, false, false, false, false, false, false] rfl rfl (by kernel_rfl) (fun _ _ _ h => h) (Or.inl ⟨by rfl, ?_⟩) ?_ ?_
                  rotate_left
                  · intro w'
                    go_simp
                    with_reducible rfl
                  rotate_left
                  · simp only [Act.put, List.setIfInBounds_toArray, List.set_cons_zero, List.set_cons_succ, i64_w, i32_w]
                    rfl
                  refine pure_ (i := 13) (N := (some 155)) (v := ?_) (a' := ?_) #[true, true, true, true, true, true, true, true, true, true, true, true, true, true, false, false, false, false, false] rfl rfl (by kernel_rfl) (fun _ _ _ h => h) (Or.inl ⟨by rfl, ?_⟩) ?_ ?_
                  rotate_left
                  · intro w'
                    go_simp
                    with_reducible rfl
                  rotate_left
                  · simp only [Act.put, List.setIfInBounds_toArray, List.set_cons_zero, List.set_cons_succ, i64_w, i32_w]
                    rfl
                  rw [WQ.out]
                  refine pure_ (i := 14) (N := (some 156)) (v := ?_) (a' := ?_) #[true, true, true, true, true, true, true, true, true, true, true, true, true, true, true, false, false, false, false] rfl rfl (by kernel_rfl) (fun _ _ _ h => h) (Or.inl ⟨by rfl, ?_⟩) ?_ ?_
                  rotate_left
                  · intro w'
                    go_simp
                    with_reducible rfl
                  rotate_left
                  · simp only [Act.put, List.setIfInBounds_toArray, List.set_cons_zero, List.set_cons_succ, i64_w, i32_w]
                    rfl
                  refine take_ (i := 15) (N := (some 157)) (v := ?_) (a' := ?_) #[true, true, true, true, true, true, true, true, true, true, true, true, true, true, true, true, false, false, false] rfl rfl (by kernel_rfl) (fun _ _ _ h => h) (Or.inl ⟨by rfl, ?_⟩) hHeld ?_ ?_
                  rotate_left
                  · rintro w' ⟨s0, s1⟩
                    go_simp
                    with_reducible rfl
                  rotate_left
                  · simp only [Act.put, List.setIfInBounds_toArray, List.set_cons_zero, List.set_cons_succ, i64_w, i32_w]
                    rfl
                  refine pure_ (i := 16) (N := (some 158)) (v := ?_) (a' := ?_) #[true, true, true, true, true, true, true, true, true, true, true, true, true, true, true, true, true, false, false] rfl rfl (by kernel_rfl) (fun _ _ _ h => h) (Or.inl ⟨by rfl, ?_⟩) ?_ ?_
                  rotate_left
                  · intro w'
                    go_simp
                    with_reducible rfl
                  rotate_left
                  · simp only [Act.put, List.setIfInBounds_toArray, List.set_cons_zero, List.set_cons_succ, i64_w, i32_w]
                    rfl
                  rw [WM.out]
                  refine pure_ (i := 17) (N := (some 159)) (v := ?_) (a' := ?_) #[true, true, true, true, true, true, true, true, true, true, true, true, true, true, true, true, true, true, false] rfl rfl (by kernel_rfl) (fun _ _ _ h => h) (Or.inl ⟨by rfl, ?_⟩) ?_ ?_
                  rotate_left
                  · intro w'
                    go_simp
                    with_reducible rfl
                  rotate_left
                  · simp only [Act.put, List.setIfInBounds_toArray, List.set_cons_zero, List.set_cons_succ, i64_w, i32_w]
                    rfl
                  refine pure_ (i := 18) (N := (some 160)) (v := ?_) (a' := ?_) #[true, true, true, true, true, true, true, true, true, true, true, true, true, true, true, true, true, true, true] rfl rfl (by kernel_rfl) (fun _ _ _ h => h) (Or.inl ⟨by rfl, ?_⟩) ?_ ?_
                  rotate_left
                  · intro w'
                    go_simp
                    with_reducible rfl
                  rotate_left
                  · simp only [Act.put, List.setIfInBounds_toArray, List.set_cons_zero, List.set_cons_succ, i64_w, i32_w]
                    rfl
                  refine done_ (by kernel_rfl) ?_
                  go_wp2
                  go_roundw
                  case rel => exact ⟨q + 1, by go_num, by have := HQL.out; omega, ⟨below_step HBQ.out (below_drew (Below.refl _ _))⟩⟩
                  case measure => simp [intOf]; have := HQL.out; omega
                · have hqI : ¬ (q : Int) + 1 ≤ (n : Int) := by omega
                  have HB8 := Aside0.mk (below_step HB6.out HBQ.out)
                  clear hql hq
                  go_wp2_with (go_at_call 22; (with_reducible refine (awake_ok _).mono ?_); rintro e w9 ⟨rfl, hb⟩; have HB9 := Aside0.mk (below_step HB8.out hb); clear hb)
                  go_ret
                  exact ⟨rfl, below_step HBW.out HB9.out⟩
end Go.Proofs.Ytagdbadljcongaa.X
end

section
/- Arguments as they come in: a slice of strings. -/
set_option linter.unusedVariables false
set_option linter.unusedSimpArgs false
namespace Go.Proofs.Ytagdbadljcongaa.X
open Go Go.ChangeShapes Go.WideShapes Go.ChangeAt Go.RowKit Go.Proofs.YtagdbadljcongaaW.PrintWords
section
variable {H : Type} {enc : TypeId × Value → H} {P : Program} {W : World} {base : Nat}
theorem open_ss {t e : TypeId} {v : Value} {d : DataW H} {p : List MemPlace} (ht : P.underlying t = some (.slice e)) (he : P.underlying e = some .string) (ce : P.cellsOf e = 1)
    (hv : Value.okWide P W .any base t v) (h : DataW.Trod enc P W 0 (fun _ => true) true t v d p) :
    ∃ (a : Option Addr) (l : List ByteArray) (cap : Nat), v = .slice a l.length cap ∧ l.length ≤ cap ∧ Kd.C Kd.string W a l.length l := by
  obtain ⟨a, len, cap, rfl⟩ := okWide_slice ht hv
  obtain ⟨fuel, hf⟩ := h
  rcases open_strings ht he ce hf with ⟨hcs, _⟩ | ⟨x, l, c, ss, hcs, _, hl, hm, hz, _, hcell, hwz⟩
  · simp [Value.cells] at hcs
    obtain ⟨rfl, rfl, rfl⟩ := hcs
    exact ⟨none, [], 0, rfl, Nat.le_refl _, Kd.C_nil _ _⟩
  · simp [Value.cells] at hcs
    obtain ⟨rfl, rfl, rfl⟩ := hcs
    have hz2 : ss.length = cap := by simpa using hz
    have hlen : (ss.take len).length = len := by rw [List.length_take]; omega
    refine ⟨some x, ss.take len, cap, by rw [hlen], by rw [hlen]; exact hl, ?_⟩
    refine Kd.C_of_reads (d := ByteArray.empty) (h1 := fun _ => rfl) ⟨rfl, by rw [hlen]; have := Nat.le_trans hl hm; simpa [maxLen] using this, fun hp => ⟨x, rfl, fun j hj => ?_⟩⟩
    rw [hlen] at hj
    rw [hcell j (by omega)]
    simp [List.getD, List.getElem?_take, hj]
theorem okWide_ar {r : Reach} {n : Nat} {e : TypeId} {b0 : Nat} {t : TypeId} {v : Value} (ht : P.underlying t = some (.array n e)) (h : Value.okWide P W r b0 t v) : ∃ cs, v = .agg cs ∧ cs.size = P.cellsOf t := by
  simp only [Value.okWide, ht] at h
  cases v <;> simp_all
theorem open_ar2 {t e : TypeId} {k : IntKind} {v : Value} {d : DataW H} {p : List MemPlace} (ht : P.underlying t = some (.array 2 e)) (he : P.underlying e = some (.int k)) (ce : P.cellsOf e = 1) (ct : P.cellsOf t = 2)
    (hv : Value.okWide P W .any base t v) (h : DataW.Trod enc P W 0 (fun _ => true) true t v d p) :
    ∃ (x y : Int), v = .agg #[.int k x, .int k y] ∧ (Lit.int k x).wf = true ∧ (Lit.int k y).wf = true := by
  obtain ⟨cs, rfl, hsz⟩ := okWide_ar ht hv
  obtain ⟨c0, c1, rfl⟩ := Go.Joins.array2 (hsz.trans ct)
  obtain ⟨fuel, hf⟩ := h
  obtain ⟨xs, m, _, _, _, hl, hx⟩ := DataW.trod_array ht hf
  have h0 := hx 0 (by omega)
  have h1 := hx 1 (by omega)
  rw [ce] at h0 h1
  simp only [Value.cells] at h0 h1
  rw [List.getElem?_eq_getElem (by omega)] at h0 h1
  obtain ⟨x, e0, _, wx⟩ := DataW.trod_int he h0
  obtain ⟨y, e1, _, wy⟩ := DataW.trod_int he h1
  simp at e0 e1
  subst e0 e1
  exact ⟨x, y, rfl, wx, wy⟩
end
end Go.Proofs.Ytagdbadljcongaa.X
end
