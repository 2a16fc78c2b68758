/- Texts behind ThreadArches, part 23: contracts of the program's functions and the plain words for them. -/
import Derived.Test.YtagdbadljcongaaTpas
import Derived.Test.YtagdbadljcongaaTpau
import Derived.Test.YtagdbadljcongaaTpav
section
/- tickingref03.Parted at any number of letters. -/
set_option linter.unusedVariables false
set_option linter.unusedSimpArgs false
namespace Go.Proofs.Ytagdbadljcongaa.X
open Go Go.RowKit Go.Proofs Go.Proofs.YtagdbadljcongaaW.PrintWords Go.Proofs.YtagdbadljcongaaW.PrintLast Go.Proofs.YtagdbadljcongaaW.PrintMore
theorem next_any2 (s : ByteArray) (i c : Nat) (w : World) (hs : s.size ≤ 244) (hi : i ≤ s.size) (z : Int) (hz : nxP (bl s) i (97 + c) = z) : Calls Try.prog 55 #[.string s, .int .i64 (i : Int), .int .u8 (97 + (c : Int))] w fun e w' => e = .returned (.int .i64 z) ∧ Drawn0 w w' := by
  have h := next_f s (by omega) (97 + c) i (s.size + 1) hi (by omega)
  have e : ((97 + c : Nat) : Int) = 97 + (c : Int) := by simp
  rw [e] at h
  exact tickingref03_Next.calls _ s _ _ z w (by rw [h, ← hz]; rfl)
theorem dropR {n k : Nat} (h : k < n) : (List.range n).drop k = k :: (List.range n).drop (k + 1) := by
  have hl : k < (List.range n).length := by simpa using h
  rw [List.drop_eq_getElem_cons hl]; simp
set_option maxHeartbeats 8000000 in
set_option maxRecDepth 1000000 in
theorem partK_any (u s : ByteArray) (kk mm : Nat) (w : World) (hk1 : 1 ≤ kk) (hkk4 : kk ≤ 4) (hmm : mm ≤ 61) (hu60 : u.size ≤ 60) (hs60 : s.size ≤ 244) (r : Option (List Nat)) (hr : partK (bl u) (bl s) kk mm 20000 0 [⟨0, 0, []⟩] = r) : Calls Try.prog 30 #[.string u, .string s, .int .i64 (kk : Int), .int .i64 (mm : Int)] w (PtPost r w) := by
  have HU60 := Aside0.mk hu60
  have HS60 := Aside0.mk hs60
  have HRR := Aside0.mk hr
  have HKK := Aside0.mk (show kk ≤ 4 from hkk4)
  have HMM := Aside0.mk hmm
  have hmmI : (mm : Int) ≤ 61 := by omega
  have hkkI : (kk : Int) ≤ 4 := by omega
  clear hmm hkk4 hk1
  clear hu60 hs60 hr
  go_enter Try.func30, Try.ntmps30
  go_wp2
  have H0 := Aside0.mk (PtAt.start w)
  obtain ⟨W0, hW0⟩ : ∃ W0, (w.alloc (.cells #[.string ⟨#[]⟩] 9)).alloc (.cells #[.int .i64 0, .int .i64 0] 88) = W0 := ⟨_, rfl⟩
  rw [hW0] at H0
  rw [hW0]
  clear hW0
  go_loopw [10, 11, 12] (fun v10 v11 v12 wr => ∃ (q : Nat) (R : List Rn) (A : Option Addr) (c : Nat) (B : Option Addr) (d : Nat) (ws : List ByteArray), v12 = .int .i64 q ∧ v10 = .slice B R.length d ∧ v11 = .slice A R.length c ∧ q ≤ R.length ∧ Aside0 (RkOk (bl u) (bl s) mm R) ∧ Aside0 (PtAt w R A c B d ws wr) ∧ Aside0 (partK (bl u) (bl s) kk mm (20000 - q) q R = r)) (fun _ _ v12 _ => 20000 - (intOf v12).toNat)
  case atStart => exact ⟨0, [⟨0, 0, []⟩], _, _, _, _, [⟨#[]⟩], rfl, rfl, rfl, by simp, ⟨RkOk.start _ _ _⟩, H0, HRR⟩
  case round =>
    clear H0 HRR
    obtain ⟨q, R, A, c, B, d, ws, rfl, rfl, rfl, hq, HO, HP, HE⟩ := hrel
    have hRl : R.length ≤ 15252 := HO.out.size (by rw [bl_length]; exact HU60.out) (by rw [bl_length]; exact HS60.out)
    have HRL := Aside0.mk hRl
    have hqb : (q : Int) ≤ 15252 := by omega
    by_cases hlt : q < R.length
    · have hltI : (q : Int) < (R.length : Int) := by omega
      have hq0 : (0 : Int) ≤ (q : Int) := by omega
      obtain ⟨g, rfl, p1, p2⟩ := HP.out.places q hlt
      obtain ⟨gw, o, rfl, p3, hwd⟩ := HP.out.word q hlt
      obtain ⟨pa, hpa⟩ : ∃ a, (R[q]).a = a := ⟨_, rfl⟩
      obtain ⟨pb, hpb⟩ : ∃ a, (R[q]).b = a := ⟨_, rfl⟩
      rw [hpa] at p1
      rw [hpb] at p2
      have HR := Aside0.mk (show ∀ h : q < R.length, (R[q]).a = pa ∧ (R[q]).b = pb ∧ (R[q]).wd = bl o from fun _ => ⟨hpa, hpb, hwd.symm⟩)
      have hrng := HO.out.rng _ (List.getElem_mem hlt)
      rw [hpa, hpb, ← hwd, bl_length, bl_length, bl_length] at hrng
      have HRG := Aside0.mk hrng
      have hst : partK (bl u) (bl s) kk mm (20000 - q) q R = if dif R[q] then some (bl o) else if mm ≤ o.size ∨ pa < 0 then partK (bl u) (bl s) kk mm (20000 - (q + 1)) (q + 1) R else partK (bl u) (bl s) kk mm (20000 - (q + 1)) (q + 1) (kids (bl u) (bl s) ⟨pa.toNat, pb.toNat, bl o⟩ (List.range kk) R) := by
        rw [show 20000 - q = (20000 - (q + 1)) + 1 by omega]
        conv => lhs; unfold partK
        rw [List.getElem?_eq_getElem hlt]
        dsimp only
        rw [← hwd, hpa, hpb, bl_length]
      have hdf : dif R[q] = (decide (pa < 0) != decide (pb < 0)) := by unfold dif; rw [hpa, hpb]
      rw [hdf] at hst
      have HST := Aside0.mk (hst.symm.trans HE.out)
      have HLT := Aside0.mk hlt
      clear hRl hlt hwd hpa hpb hrng hst hdf HE
      by_cases ha : pa < 0 <;> by_cases hb : pb < 0
      · have HR1 := HST.out
        rw [decide_eq_true ha, decide_eq_true hb, if_neg (by decide), if_pos (.inr ha)] at HR1
        have HR2 := Aside0.mk HR1
        have d1 := decide_eq_true ha
        have d2 := decide_eq_true hb
        clear HR1 HST
        go_upto_region 6 with (fail)
        go_quiet (fail)
        go_wp2
        all_goals
          go_roundw
          case rel => exact ⟨q + 1, R, _, c, _, d, ws, by go_num, rfl, rfl, by have := HLT.out; omega, HO, ⟨HP.out.below (pw_below_drewN (Below.refl _ _) _)⟩, HR2⟩
          case measure => simp [intOf]; have := HLT.out; have := HRL.out; omega
      · have HR1 := HST.out
        rw [decide_eq_true ha, decide_eq_false hb, if_pos (by decide)] at HR1
        subst HR1
        have d1 := decide_eq_true ha
        have d2 := decide_eq_false hb
        clear HST
        go_upto_region 6 with (fail)
        go_quiet (fail)
        go_wp2
        go_ret2
        exact ⟨o, rfl, rfl, below_step HP.out.bel (pw_below_drewN (Below.refl _ _) _)⟩
      · have HR1 := HST.out
        rw [decide_eq_false ha, decide_eq_true hb, if_pos (by decide)] at HR1
        subst HR1
        have d1 := decide_eq_false ha
        have d2 := decide_eq_true hb
        clear HST
        go_upto_region 6 with (fail)
        go_quiet (fail)
        go_wp2
        go_ret2
        exact ⟨o, rfl, rfl, below_step HP.out.bel (pw_below_drewN (Below.refl _ _) _)⟩
      · have d1 := decide_eq_false ha
        have d2 := decide_eq_false hb
        have HR1 := HST.out
        rw [d1, d2, if_neg (by decide)] at HR1
        clear HST
        by_cases ho : mm ≤ o.size
        · rw [if_pos (.inl ho)] at HR1
          have HR2 := Aside0.mk HR1
          have d3 : (mm : Int) ≤ (o.size : Int) := by omega
          clear HR1
          go_upto_region 6 with (fail)
          go_quiet (fail)
          go_wp2
          go_roundw
          case rel => exact ⟨q + 1, R, _, c, _, d, ws, by go_num, rfl, rfl, by have := HLT.out; omega, HO, ⟨HP.out.below (pw_below_drewN (Below.refl _ _) _)⟩, HR2⟩
          case measure => simp [intOf]; have := HLT.out; have := HRL.out; omega
        · rw [if_neg (by omega)] at HR1
          have HR2 := Aside0.mk HR1
          have d3 : ¬ ((mm : Int) ≤ (o.size : Int)) := by omega
          clear HR1
          obtain ⟨pi, rfl⟩ := Int.eq_ofNat_of_zero_le (show 0 ≤ pa by omega)
          obtain ⟨pj, rfl⟩ := Int.eq_ofNat_of_zero_le (show 0 ≤ pb by omega)
          go_upto_region 6 with (fail)
          go_quiet (fail)
          go_wp2
          obtain ⟨W1, hW1⟩ : ∃ W1, wr.drewN nq = W1 := ⟨_, rfl⟩
          have HP1 := Aside0.mk (HP.out.below (pw_below_drewN (Below.refl _ _) nq))
          rw [hW1] at HP1 ⊢
          clear hW1
          obtain ⟨P, hP⟩ : ∃ P : Ent, P = ⟨pi, pj, bl o⟩ := ⟨_, rfl⟩
          have HPE := Aside0.mk hP
          have HPL := Aside0.mk (show pi ≤ u.size ∧ pj ≤ s.size by have := HRG.out; omega)
          obtain ⟨K, hK⟩ : ∃ K, kids (bl u) (bl s) P (List.range kk) R = K := ⟨_, rfl⟩
          have HK := Aside0.mk (show partK (bl u) (bl s) kk mm (20000 - (q + 1)) (q + 1) K = r by
            have h := HR2.out
            rw [← hK, hP]
            exact h)
          have HK0 := Aside0.mk (show kids (bl u) (bl s) P ((List.range kk).drop 0) R = K from hK)
          have HO60 := Aside0.mk (show o.size + 1 ≤ mm ∧ o.size ≤ 60 by have := HMM.out; omega)
          have HROW := Aside0.mk (show ∀ h : q < R.length, (R[q]).a = (pi : Int) ∧ (R[q]).b = (pj : Int) ∧ (R[q]).wd = bl o from HR.out)
          clear hP hK HR2 HR d1 d2 d3 ha hb ho p1 p2 p3 HRG
          go_loopw [10, 11, 13] (fun v10 v11 v13 wz => ∃ (k : Nat) (R' : List Rn) (A : Option Addr) (c : Nat) (B : Option Addr) (d : Nat) (ws : List ByteArray), v13 = .int .i64 k ∧ v10 = .slice B R'.length d ∧ v11 = .slice A R'.length c ∧ k ≤ kk ∧ Aside0 (∃ S, R' = R ++ S) ∧ Aside0 (RkOk (bl u) (bl s) mm R') ∧ Aside0 (PtAt w R' A c B d ws wz) ∧ Aside0 (kids (bl u) (bl s) P ((List.range kk).drop k) R' = K)) (fun _ _ v13 _ => kk - (intOf v13).toNat)
          case atStart => exact ⟨0, R, _, c, _, d, ws, rfl, rfl, rfl, Nat.zero_le _, ⟨[], by simp⟩, HO, HP1, HK0⟩
          case round =>
            clear HK0 HP1 HO HP
            obtain ⟨k, R', A', c', B', d', ws', rfl, rfl, rfl, hk, HS, HO, HP, HKD⟩ := hrel
            by_cases hk4 : k < kk
            · have hk4I : (k : Int) < (kk : Int) := by omega
              have hk44 : (k : Int) < 4 := by omega
              have hRl : R'.length ≤ 15252 := HO.out.size (by rw [bl_length]; exact HU60.out) (by rw [bl_length]; exact HS60.out)
              have HRL' := Aside0.mk hRl
              have hqr : q < R'.length := by obtain ⟨S, hS⟩ := HS.out; rw [hS, List.length_append]; have := HLT.out; omega
              have hqe : R'[q] = R[q]'HLT.out := by obtain ⟨S, hS⟩ := HS.out; subst hS; exact List.getElem_append_left HLT.out
              have hqI : (q : Int) < (R'.length : Int) := by omega
              obtain ⟨g, rfl, p1, p2⟩ := HP.out.places q hqr
              obtain ⟨gw, o2, rfl, p3, hwd⟩ := HP.out.word q hqr
              rw [hqe, (HROW.out HLT.out).1] at p1
              rw [hqe, (HROW.out HLT.out).2.1] at p2
              rw [hqe, (HROW.out HLT.out).2.2] at hwd
              have ho2 : o2 = o := bl_inj hwd
              subst ho2
              have hcv : IntKind.u8.wrap (97 + (k : Int)) = 97 + (k : Int) := by
                show (97 + (k : Int)) % 256 = 97 + (k : Int)
                omega
              obtain ⟨z1, hz1⟩ : ∃ z, nxP (bl u) pi (97 + k) = z := ⟨_, rfl⟩
              obtain ⟨z2, hz2⟩ : ∃ z, nxP (bl s) pj (97 + k) = z := ⟨_, rfl⟩
              have HZ1 := Aside0.mk hz1
              have HZ2 := Aside0.mk hz2
              have HK4 := Aside0.mk hk4
              clear hqr hqe hwd hz1 hz2 hk4 hRl hk
              go_upto_region 13 with (fail)
              have HSW := Aside0.mk (fun (w' : World) (hb : Below wr.heap.size wr w') => show w'.cell? ⟨g, q * 2, none⟩ = some (.int .i64 (pi : Int)) ∧ w'.cell? ⟨g, q * 2 + 1, none⟩ = some (.int .i64 (pj : Int)) from ⟨pw_cell_below hb p1, pw_cell_below hb p2⟩)
              have HB0 := Aside0.mk (show Below wr.heap.size wr wr.drew from below_drew (Below.refl _ _))
              refine start_ (n := 19) (S := fun w' => w'.cell? ⟨g, q * 2, none⟩ = some (.int .i64 (pi : Int)) ∧ w'.cell? ⟨g, q * 2 + 1, none⟩ = some (.int .i64 (pj : Int))) (ds := [18]) #[false, false, false, false, false, false, false, false, false, false, false, false, false, false, false, false, false, false, false] (by kernel_rfl) rfl rfl (HSW.out _ HB0.out) (fun hHeld => ?_)
              refine pure_ (i := 0) (N := (some 65)) (v := ?_) (a' := ?_) #[true, false, false, false, false, false, false, false, false, false, false, false, false, false, false, false, false, false, false] rfl rfl (by kernel_rfl) (fun _ _ _ h => h) (Or.inl ⟨by rfl, ?_⟩) ?_ ?_
              rotate_left
              · intro w'
                go_simp
                with_reducible rfl
              rotate_left
              · simp only [Act.put, List.setIfInBounds_toArray, List.set_cons_zero, List.set_cons_succ, i64_w, i32_w]
                rfl
              refine pure_ (i := 1) (N := (some 66)) (v := ?_) (a' := ?_) #[true, true, false, false, false, false, false, false, false, false, false, false, false, false, false, false, false, false, false] rfl rfl (by kernel_rfl) (fun _ _ _ h => h) (Or.inl ⟨by rfl, ?_⟩) ?_ ?_
              rotate_left
              · intro w'
                go_simp
                with_reducible rfl
              rotate_left
              · simp only [Act.put, List.setIfInBounds_toArray, List.set_cons_zero, List.set_cons_succ, i64_w, i32_w]
                rfl
              refine pure_ (i := 2) (N := (some 67)) (v := ?_) (a' := ?_) #[true, true, true, false, false, false, false, false, false, false, false, false, false, false, false, false, false, false, false] rfl rfl (by kernel_rfl) (fun _ _ _ h => h) (Or.inl ⟨by rfl, ?_⟩) ?_ ?_
              rotate_left
              · intro w'
                go_simp
                with_reducible rfl
              rotate_left
              · simp only [Act.put, List.setIfInBounds_toArray, List.set_cons_zero, List.set_cons_succ, i64_w, i32_w]
                rfl
              refine pure_ (i := 3) (N := (some 68)) (v := ?_) (a' := ?_) #[true, true, true, true, false, false, false, false, false, false, false, false, false, false, false, false, false, false, false] rfl rfl (by kernel_rfl) (fun _ _ _ h => h) (Or.inl ⟨by rfl, ?_⟩) ?_ ?_
              rotate_left
              · intro w'
                go_simp
                with_reducible rfl
              rotate_left
              · simp only [Act.put, List.setIfInBounds_toArray, List.set_cons_zero, List.set_cons_succ, i64_w, i32_w]
                rfl
              refine pure_ (i := 4) (N := (some 69)) (v := ?_) (a' := ?_) #[true, true, true, true, true, false, false, false, false, false, false, false, false, false, false, false, false, false, false] rfl rfl (by kernel_rfl) (fun _ _ _ h => h) (Or.inl ⟨by rfl, ?_⟩) ?_ ?_
              rotate_left
              · intro w'
                go_simp
                with_reducible rfl
              rotate_left
              · simp only [Act.put, List.setIfInBounds_toArray, List.set_cons_zero, List.set_cons_succ, i64_w, i32_w]
                rfl
              refine take_ (i := 5) (N := (some 70)) (v := ?_) (a' := ?_) #[true, true, true, true, true, true, false, false, false, false, false, false, false, false, false, false, false, false, false] rfl rfl (by kernel_rfl) (fun _ _ _ h => h) (Or.inl ⟨by rfl, ?_⟩) hHeld ?_ ?_
              rotate_left
              · rintro w' ⟨s0, s1⟩
                go_simp
                with_reducible rfl
              rotate_left
              · simp only [Act.put, List.setIfInBounds_toArray, List.set_cons_zero, List.set_cons_succ, i64_w, i32_w]
                rfl
              refine pure_ (i := 6) (N := (some 71)) (v := ?_) (a' := ?_) #[true, true, true, true, true, true, true, false, false, false, false, false, false, false, false, false, false, false, false] rfl rfl (by kernel_rfl) (fun _ _ _ h => h) (Or.inl ⟨by rfl, ?_⟩) ?_ ?_
              rotate_left
              · intro w'
                go_simp
                with_reducible rfl
              rotate_left
              · simp only [Act.put, List.setIfInBounds_toArray, List.set_cons_zero, List.set_cons_succ, i64_w, i32_w]
                rfl
              refine pure_ (i := 8) (N := (some 73)) (v := ?_) (a' := ?_) #[true, true, true, true, true, true, true, false, true, false, false, false, false, false, false, false, false, false, false] rfl rfl (by kernel_rfl) (fun _ _ _ h => h) (Or.inl ⟨by rfl, ?_⟩) ?_ ?_
              rotate_left
              · intro w'
                go_simp
                with_reducible rfl
              rotate_left
              · simp only [Act.put, List.setIfInBounds_toArray, List.set_cons_zero, List.set_cons_succ, i64_w, i32_w]
                rfl
              refine pure_ (i := 9) (N := (some 74)) (v := ?_) (a' := ?_) #[true, true, true, true, true, true, true, false, true, true, false, false, false, false, false, false, false, false, false] rfl rfl (by kernel_rfl) (fun _ _ _ h => h) (Or.inl ⟨by rfl, ?_⟩) ?_ ?_
              rotate_left
              · intro w'
                go_simp
                with_reducible rfl
              rotate_left
              · simp only [Act.put, List.setIfInBounds_toArray, List.set_cons_zero, List.set_cons_succ, i64_w, i32_w]
                rfl
              refine pure_ (i := 10) (N := (some 75)) (v := ?_) (a' := ?_) #[true, true, true, true, true, true, true, false, true, true, true, false, false, false, false, false, false, false, false] rfl rfl (by kernel_rfl) (fun _ _ _ h => h) (Or.inl ⟨by rfl, ?_⟩) ?_ ?_
              rotate_left
              · intro w'
                go_simp
                with_reducible rfl
              rotate_left
              · simp only [Act.put, List.setIfInBounds_toArray, List.set_cons_zero, List.set_cons_succ, i64_w, i32_w]
                rfl
              refine pure_ (i := 11) (N := (some 76)) (v := ?_) (a' := ?_) #[true, true, true, true, true, true, true, false, true, true, true, true, false, false, false, false, false, false, false] rfl rfl (by kernel_rfl) (fun _ _ _ h => h) (Or.inl ⟨by rfl, ?_⟩) ?_ ?_
              rotate_left
              · intro w'
                go_simp
                with_reducible rfl
              rotate_left
              · simp only [Act.put, List.setIfInBounds_toArray, List.set_cons_zero, List.set_cons_succ, i64_w, i32_w]
                rfl
              refine pure_ (i := 12) (N := (some 77)) (v := ?_) (a' := ?_) #[true, true, true, true, true, true, true, false, true, true, true, true, true, false, false, false, false, false, false] rfl rfl (by kernel_rfl) (fun _ _ _ h => h) (Or.inl ⟨by rfl, ?_⟩) ?_ ?_
              rotate_left
              · intro w'
                go_simp
                with_reducible rfl
              rotate_left
              · simp only [Act.put, List.setIfInBounds_toArray, List.set_cons_zero, List.set_cons_succ, i64_w, i32_w]
                rfl
              refine take_ (i := 13) (N := (some 78)) (v := ?_) (a' := ?_) #[true, true, true, true, true, true, true, false, true, true, true, true, true, true, false, false, false, false, false] rfl rfl (by kernel_rfl) (fun _ _ _ h => h) (Or.inl ⟨by rfl, ?_⟩) hHeld ?_ ?_
              rotate_left
              · rintro w' ⟨s0, s1⟩
                go_simp
                with_reducible rfl
              rotate_left
              · simp only [Act.put, List.setIfInBounds_toArray, List.set_cons_zero, List.set_cons_succ, i64_w, i32_w]
                rfl
              refine pure_ (i := 14) (N := (some 79)) (v := ?_) (a' := ?_) #[true, true, true, true, true, true, true, false, true, true, true, true, true, true, true, false, false, false, false] rfl rfl (by kernel_rfl) (fun _ _ _ h => h) (Or.inl ⟨by rfl, ?_⟩) ?_ ?_
              rotate_left
              · intro w'
                go_simp
                with_reducible rfl
              rotate_left
              · simp only [Act.put, List.setIfInBounds_toArray, List.set_cons_zero, List.set_cons_succ, i64_w, i32_w]
                rfl
              refine join_ (σ := Nat) 1 #[true, true, true, true, true, true, true, true, true, true, true, true, true, true, true, true, true, true, false] (fun s_ => [(72, .int .i64 z1), (80, .int .i64 z2), (81, .agg #[.int .i64 z1, .int .i64 z2]), (15, .pointer (some ⟨s_, 0, none⟩))]) (fun s_ w' => w'.heap[s_]? = some (.cells #[.int .i64 0, .int .i64 0] 88 (0, 0)) ∧ Below wr.heap.size wr w' ∧ wr.heap.size ≤ s_) ?_ ?_
              rotate_left
              · intro hCont
                refine two_ (i := 7) (j := 17) (Ni := (some 72)) (Nj := (some 15)) #[true, true, true, true, true, true, true, true, true, true, true, true, true, true, true, false, false, false, false] #[true, true, true, true, true, true, true, false, true, true, true, true, true, true, true, false, false, true, false] rfl rfl rfl rfl (by kernel_rfl) (by decide) (by decide) (fun K hK => ?_) (fun K hK => ?_)
                · skip
                  refine goes_ Try.func55 (by kernel_rfl) rfl #[.string u, .int .i64 (pi : Int), .int .u8 (97 + (k : Int))] (by rfl) rfl rfl (by (try simp only [List.map_toArray, List.map_cons, List.map_nil]); first | done | rfl) ?_
                  refine (next_any2 u pi k _ (by have := HU60.out; omega) HPL.out.1 z1 HZ1.out).mono ?_
                  rintro e w' ⟨rfl, ⟨nd1, rfl⟩⟩
                  refine ⟨_, rfl, ?_⟩
                  have HBn := Aside0.mk (below_step HB0.out (pw_below_drewN (Below.refl _ _) nd1))
                  clear HB0
                  have HB0 := HBn
                  clear HBn
                  refine hK.out _ _ (HSW.out _ HB0.out) (fun hHeld => ?_)
                  clear hK K
                  refine norm_ (a' := ?_) ?_ ?_
                  rotate_left
                  · show Act.put _ (some 72) _ = _
                    simp only [Act.put, List.setIfInBounds_toArray, List.set_cons_zero, List.set_cons_succ, i64_w, i32_w]
                    rfl
                  refine two_ (i := 15) (j := 17) (Ni := (some 80)) (Nj := (some 15)) #[true, true, true, true, true, true, true, true, true, true, true, true, true, true, true, true, false, false, false] #[true, true, true, true, true, true, true, true, true, true, true, true, true, true, true, false, false, true, false] rfl rfl rfl rfl (by kernel_rfl) (by decide) (by decide) (fun K hK => ?_) (fun K hK => ?_)
                  · skip
                    refine goes_ Try.func55 (by kernel_rfl) rfl #[.string s, .int .i64 (pj : Int), .int .u8 (97 + (k : Int))] (by rfl) rfl rfl (by (try simp only [List.map_toArray, List.map_cons, List.map_nil]); first | done | rfl) ?_
                    refine (next_any2 s pj k _ HS60.out HPL.out.2 z2 HZ2.out).mono ?_
                    rintro e w' ⟨rfl, ⟨nd2, rfl⟩⟩
                    refine ⟨_, rfl, ?_⟩
                    have HBn := Aside0.mk (below_step HB0.out (pw_below_drewN (Below.refl _ _) nd2))
                    clear HB0
                    have HB0 := HBn
                    clear HBn
                    refine hK.out _ _ (HSW.out _ HB0.out) (fun hHeld => ?_)
                    clear hK K
                    refine norm_ (a' := ?_) ?_ ?_
                    rotate_left
                    · show Act.put _ (some 80) _ = _
                      simp only [Act.put, List.setIfInBounds_toArray, List.set_cons_zero, List.set_cons_succ, i64_w, i32_w]
                      rfl
                    refine pure_ (i := 16) (N := (some 81)) (v := ?_) (a' := ?_) #[true, true, true, true, true, true, true, true, true, true, true, true, true, true, true, true, true, false, false] rfl rfl (by kernel_rfl) (fun _ _ _ h => h) (Or.inl ⟨by rfl, ?_⟩) ?_ ?_
                    rotate_left
                    · intro w'
                      go_simp
                      with_reducible rfl
                    rotate_left
                    · simp only [Act.put, List.setIfInBounds_toArray, List.set_cons_zero, List.set_cons_succ, i64_w, i32_w]
                      rfl
                    refine one_ (i := 17) (N := (some 15)) #[true, true, true, true, true, true, true, true, true, true, true, true, true, true, true, true, true, true, false] rfl rfl (by kernel_rfl) (by decide) (fun K hK => ?_)
                    refine box_step ?hg (N := 15) ?hd (cs := #[.int .i64 0, .int .i64 0]) (t := 88) ?hr ?_; (case hd => rfl); (case hg => rfl); (case hr => first | (go_simp; done) | (go_simp; rfl))
                    intro gA hg w8 hbox hb
                    have HGA := Aside0.mk (show wr.heap.size ≤ gA by rw [hg]; exact HB0.out.size)
                    have HX := Aside0.mk hbox
                    have HBn := Aside0.mk (below_step HB0.out hb)
                    clear HB0
                    have HB0 := HBn
                    clear HBn hbox hb hg
                    refine hK.out _ _ (HSW.out _ HB0.out) (fun hHeld => ?_)
                    clear hK K
                    refine norm_ (a' := ?_) ?_ ?_
                    rotate_left
                    · show Act.put _ (some 15) _ = _
                      simp only [Act.put, List.setIfInBounds_toArray, List.set_cons_zero, List.set_cons_succ, i64_w, i32_w]
                      rfl
                    exact norm_ (by simp only [putAll, Act.put, List.setIfInBounds_toArray, List.set_cons_zero, List.set_cons_succ]) (hCont (gA) _ ⟨HX.out, HB0.out, HGA.out⟩)
                  · skip
                    refine box_step ?hg (N := 15) ?hd (cs := #[.int .i64 0, .int .i64 0]) (t := 88) ?hr ?_; (case hd => rfl); (case hg => rfl); (case hr => first | (go_simp; done) | (go_simp; rfl))
                    intro gA hg w8 hbox hb
                    have HGA := Aside0.mk (show wr.heap.size ≤ gA by rw [hg]; exact HB0.out.size)
                    have HX := Aside0.mk hbox
                    have HBn := Aside0.mk (below_step HB0.out hb)
                    clear HB0
                    have HB0 := HBn
                    clear HBn hbox hb hg
                    refine hK.out _ _ (HSW.out _ HB0.out) (fun hHeld => ?_)
                    clear hK K
                    refine norm_ (a' := ?_) ?_ ?_
                    rotate_left
                    · show Act.put _ (some 15) _ = _
                      simp only [Act.put, List.setIfInBounds_toArray, List.set_cons_zero, List.set_cons_succ, i64_w, i32_w]
                      rfl
                    refine one_ (i := 15) (N := (some 80)) #[true, true, true, true, true, true, true, true, true, true, true, true, true, true, true, true, false, true, false] rfl rfl (by kernel_rfl) (by decide) (fun K hK => ?_)
                    refine goes_ Try.func55 (by kernel_rfl) rfl #[.string s, .int .i64 (pj : Int), .int .u8 (97 + (k : Int))] (by rfl) rfl rfl (by (try simp only [List.map_toArray, List.map_cons, List.map_nil]); first | done | rfl) ?_
                    refine (next_any2 s pj k _ HS60.out HPL.out.2 z2 HZ2.out).mono ?_
                    rintro e w' ⟨rfl, ⟨nd2, rfl⟩⟩
                    refine ⟨_, rfl, ?_⟩
                    have HBn := Aside0.mk (below_step HB0.out (pw_below_drewN (Below.refl _ _) nd2))
                    clear HB0
                    have HB0 := HBn
                    clear HBn
                    have HXn := Aside0.mk (blk_drewN HX.out nd2)
                    clear HX
                    have HX := HXn
                    clear HXn
                    refine hK.out _ _ (HSW.out _ HB0.out) (fun hHeld => ?_)
                    clear hK K
                    refine norm_ (a' := ?_) ?_ ?_
                    rotate_left
                    · show Act.put _ (some 80) _ = _
                      simp only [Act.put, List.setIfInBounds_toArray, List.set_cons_zero, List.set_cons_succ, i64_w, i32_w]
                      rfl
                    refine pure_ (i := 16) (N := (some 81)) (v := ?_) (a' := ?_) #[true, true, true, true, true, true, true, true, true, true, true, true, true, true, true, true, true, true, false] rfl rfl (by kernel_rfl) (fun _ _ _ h => h) (Or.inl ⟨by rfl, ?_⟩) ?_ ?_
                    rotate_left
                    · intro w'
                      go_simp
                      with_reducible rfl
                    rotate_left
                    · simp only [Act.put, List.setIfInBounds_toArray, List.set_cons_zero, List.set_cons_succ, i64_w, i32_w]
                      rfl
                    exact norm_ (by simp only [putAll, Act.put, List.setIfInBounds_toArray, List.set_cons_zero, List.set_cons_succ]) (hCont (gA) _ ⟨HX.out, HB0.out, HGA.out⟩)
                · skip
                  refine box_step ?hg (N := 15) ?hd (cs := #[.int .i64 0, .int .i64 0]) (t := 88) ?hr ?_; (case hd => rfl); (case hg => rfl); (case hr => first | (go_simp; done) | (go_simp; rfl))
                  intro gA hg w8 hbox hb
                  have HGA := Aside0.mk (show wr.heap.size ≤ gA by rw [hg]; exact HB0.out.size)
                  have HX := Aside0.mk hbox
                  have HBn := Aside0.mk (below_step HB0.out hb)
                  clear HB0
                  have HB0 := HBn
                  clear HBn hbox hb hg
                  refine hK.out _ _ (HSW.out _ HB0.out) (fun hHeld => ?_)
                  clear hK K
                  refine norm_ (a' := ?_) ?_ ?_
                  rotate_left
                  · show Act.put _ (some 15) _ = _
                    simp only [Act.put, List.setIfInBounds_toArray, List.set_cons_zero, List.set_cons_succ, i64_w, i32_w]
                    rfl
                  refine one_ (i := 7) (N := (some 72)) #[true, true, true, true, true, true, true, true, true, true, true, true, true, true, true, false, false, true, false] rfl rfl (by kernel_rfl) (by decide) (fun K hK => ?_)
                  refine goes_ Try.func55 (by kernel_rfl) rfl #[.string u, .int .i64 (pi : Int), .int .u8 (97 + (k : Int))] (by rfl) rfl rfl (by (try simp only [List.map_toArray, List.map_cons, List.map_nil]); first | done | rfl) ?_
                  refine (next_any2 u pi k _ (by have := HU60.out; omega) HPL.out.1 z1 HZ1.out).mono ?_
                  rintro e w' ⟨rfl, ⟨nd1, rfl⟩⟩
                  refine ⟨_, rfl, ?_⟩
                  have HBn := Aside0.mk (below_step HB0.out (pw_below_drewN (Below.refl _ _) nd1))
                  clear HB0
                  have HB0 := HBn
                  clear HBn
                  have HXn := Aside0.mk (blk_drewN HX.out nd1)
                  clear HX
                  have HX := HXn
                  clear HXn
                  refine hK.out _ _ (HSW.out _ HB0.out) (fun hHeld => ?_)
                  clear hK K
                  refine norm_ (a' := ?_) ?_ ?_
                  rotate_left
                  · show Act.put _ (some 72) _ = _
                    simp only [Act.put, List.setIfInBounds_toArray, List.set_cons_zero, List.set_cons_succ, i64_w, i32_w]
                    rfl
                  refine one_ (i := 15) (N := (some 80)) #[true, true, true, true, true, true, true, true, true, true, true, true, true, true, true, true, false, true, false] rfl rfl (by kernel_rfl) (by decide) (fun K hK => ?_)
                  refine goes_ Try.func55 (by kernel_rfl) rfl #[.string s, .int .i64 (pj : Int), .int .u8 (97 + (k : Int))] (by rfl) rfl rfl (by (try simp only [List.map_toArray, List.map_cons, List.map_nil]); first | done | rfl) ?_
                  refine (next_any2 s pj k _ HS60.out HPL.out.2 z2 HZ2.out).mono ?_
                  rintro e w' ⟨rfl, ⟨nd2, rfl⟩⟩
                  refine ⟨_, rfl, ?_⟩
                  have HBn := Aside0.mk (below_step HB0.out (pw_below_drewN (Below.refl _ _) nd2))
                  clear HB0
                  have HB0 := HBn
                  clear HBn
                  have HXn := Aside0.mk (blk_drewN HX.out nd2)
                  clear HX
                  have HX := HXn
                  clear HXn
                  refine hK.out _ _ (HSW.out _ HB0.out) (fun hHeld => ?_)
                  clear hK K
                  refine norm_ (a' := ?_) ?_ ?_
                  rotate_left
                  · show Act.put _ (some 80) _ = _
                    simp only [Act.put, List.setIfInBounds_toArray, List.set_cons_zero, List.set_cons_succ, i64_w, i32_w]
                    rfl
                  refine pure_ (i := 16) (N := (some 81)) (v := ?_) (a' := ?_) #[true, true, true, true, true, true, true, true, true, true, true, true, true, true, true, true, true, true, false] rfl rfl (by kernel_rfl) (fun _ _ _ h => h) (Or.inl ⟨by rfl, ?_⟩) ?_ ?_
                  rotate_left
                  · intro w'
                    go_simp
                    with_reducible rfl
                  rotate_left
                  · simp only [Act.put, List.setIfInBounds_toArray, List.set_cons_zero, List.set_cons_succ, i64_w, i32_w]
                    rfl
                  exact norm_ (by simp only [putAll, Act.put, List.setIfInBounds_toArray, List.set_cons_zero, List.set_cons_succ]) (hCont (gA) _ ⟨HX.out, HB0.out, HGA.out⟩)
              rintro gA wJ ⟨hx, hb, hg⟩
              have HXJ := Aside0.mk hx
              have HBJ := Aside0.mk hb
              have HGJ := Aside0.mk hg
              clear hx hb hg HB0
              refine norm_ (a' := ?_) ?_ ?_
              rotate_left
              · simp only [putAll, Act.put, List.setIfInBounds_toArray, List.set_cons_zero, List.set_cons_succ]
                rfl
              refine last_ (i := 18) (N := none) #[true, true, true, true, true, true, true, true, true, true, true, true, true, true, true, true, true, true, true] rfl rfl (by kernel_rfl) (by decide) (fun K hK => ?_)
              have hs0 : wJ.cell? ⟨gA, 0, none⟩ = some (.int .i64 0) := (blk_cell HXJ.out 0).trans rfl
              have hs1 : wJ.cell? ⟨gA, 1, none⟩ = some (.int .i64 0) := (blk_cell HXJ.out 1).trans rfl
              have hf0 := blk_frozen HXJ.out 0
              have hf1 := blk_frozen HXJ.out 1
              refine skip_ (w1 := ?_) (by rfl) rfl ?_ ?_
              rotate_left
              · go_simp
                rfl
              refine hK.out _ _ ?_
              clear hK K
              clear hs0 hs1 hf0 hf1
              refine done_ (by kernel_rfl) ?_
              have HXV := Aside0.mk (show ((wJ.setCell ⟨gA, 0, none⟩ (.int .i64 z1)).setCell ⟨gA, 1, none⟩ (.int .i64 z2)).heap[gA]? = some (.cells #[.int .i64 z1, .int .i64 z2] 88 (0, 0)) from (blk_set ((blk_set HXJ.out 0 _).trans rfl) 1 _).trans rfl)
              have HBV := Aside0.mk (show Below wr.heap.size wr ((wJ.setCell ⟨gA, 0, none⟩ (.int .i64 z1)).setCell ⟨gA, 1, none⟩ (.int .i64 z2)) from (HBJ.out.setCell HGJ.out _).setCell HGJ.out _)
              obtain ⟨V, hV⟩ : ∃ V, (wJ.setCell ⟨gA, 0, none⟩ (.int .i64 z1)).setCell ⟨gA, 1, none⟩ (.int .i64 z2) = V := ⟨_, rfl⟩
              rw [hV] at HXV HBV ⊢
              clear hV HXJ HBJ HGJ HSW
              have HPV := Aside0.mk (HP.out.below HBV.out)
              have x1 : V.cell? ⟨gA, 0, none⟩ = some (.int .i64 z1) := (blk_cell HXV.out 0).trans rfl
              have x2 : V.cell? ⟨gA, 1, none⟩ = some (.int .i64 z2) := (blk_cell HXV.out 1).trans rfl
              have x3 : V.cell? ⟨gw, q, none⟩ = some (.string o2) := pw_cell_below HBV.out p3
              obtain ⟨hn, hhn⟩ : ∃ hn, hasP R' z1 z2 = hn := ⟨_, rfl⟩
              have HHN := Aside0.mk hhn
              have HKI := Aside0.mk (show kid (bl u) (bl s) P k = ⟨z1, z2, bl o2 ++ [97 + k]⟩ by rw [HPE.out]; unfold kid; rw [← HZ1.out, ← HZ2.out])
              have HKS := Aside0.mk (show kids (bl u) (bl s) P ((List.range kk).drop (k + 1)) (addK R' (kid (bl u) (bl s) P k)) = K by
                have h := HKD.out
                rw [dropR HK4.out] at h
                exact h)
              have HCV := Aside0.mk (show Kd.C k88 V (some ⟨g, 0, none⟩) R'.length (R'.map rnP) ∧ R'.length ≤ c' by
                have h := Kd.R_reads' HPV.out.row
                rw [List.length_map] at h
                exact h.2.symm)
              clear hhn p1 p2 p3 HP
              cases hn with
              | true =>
                go_wp2_with (go_at_call 56; (with_reducible refine (has_any R' z1 z2 _ _ _ (by have := HRL'.out; omega) HCV.out.1 HCV.out.2 true HHN.out).mono ?_); rintro e w5 ⟨rfl, hb⟩; have HB5 := Aside0.mk hb; clear hb)
                go_roundw
                case rel => exact ⟨k + 1, R', _, c', _, d', ws', by go_num, rfl, rfl, by have := HK4.out; omega, HS, HO, ⟨HPV.out.below HB5.out⟩, ⟨by
                  have h := HKS.out
                  unfold addK at h
                  rw [HKI.out, if_pos HHN.out] at h
                  exact h⟩⟩
                case measure => simp [intOf]; have := HK4.out; omega
              | false =>
                go_upto_region 15 with (go_at_call 56; (with_reducible refine (has_any R' z1 z2 _ _ _ (by have := HRL'.out; omega) HCV.out.1 HCV.out.2 false HHN.out).mono ?_); rintro e w5 ⟨rfl, hb⟩; have HB5 := Aside0.mk hb; clear hb)
                have HP5 := Aside0.mk (HPV.out.below HB5.out)
                have y1 : w5.cell? ⟨gA, 0, none⟩ = some (.int .i64 z1) := pw_cell_below HB5.out x1
                have y2 : w5.cell? ⟨gA, 1, none⟩ = some (.int .i64 z2) := pw_cell_below HB5.out x2
                have y3 : w5.cell? ⟨gw, q, none⟩ = some (.string o2) := pw_cell_below HB5.out x3
                clear x1 x2 x3
                have KEY := Aside0.mk (app_p88 (x := ⟨z1, z2⟩) (xs := R'.map rnP) (n := R'.length) (by simp) HP5.out.row HP5.out.bel HP5.out.bel.size (fun _ _ => trivial) (by simp; have := HRL'.out; omega) 86 88)
                go_upto_region 16 with (at_builtin; refine KEY.out _ _ _ _ _ rfl rfl rfl rfl ?_; intro A6 c6 w6 h1 h2 h3; have HR6 := Aside0.mk h1; have HB6 := Aside0.mk h2; have HG6 := Aside0.mk h3; clear h1 h2 h3)
                have HW6 := Aside0.mk (show Kd.R Kd.string 9 w6 w.heap.size (fun _ => True) (.slice (some ⟨gw, 0, none⟩) R'.length d') ws' from by
                  refine Kd.R_mono (Kd.R_move (Kd.R_bound HP5.out.wds) (fun k hkk => ?_)) (fun k hkk => hkk.1)
                  obtain ⟨_, _, _, t, ht, cells, hc⟩ := hkk
                  have ht9 : t = 9 := by have hE : Kd.string.E = [] := rfl; simpa [hE] using ht
                  subst ht9
                  rw [hc, blk_grown hc HG6.out (Kd.R_ne HP5.out.row hc (by decide))])
                have z3 : w6.cell? ⟨gw, q, none⟩ = some (.string o2) := by
                  have hC := (Kd.R_reads' HW6.out).2.2
                  obtain ⟨ad, e, h1⟩ := Kd.at_string hC (q : Int) (by omega) (by rw [HP5.out.len]; omega)
                  injection e with e
                  subst e
                  rw [Int.toNat_natCast, add_plain gw q] at h1
                  obtain ⟨cells, hc⟩ : ∃ cells, w5.heap[gw]? = some (.cells cells 9 (0, 0)) := Kd.R_typed HP5.out.wds gw rfl
                  have := blk_grown hc HG6.out (Kd.R_ne HP5.out.row hc (by decide))
                  exact (blk_cell this q).trans ((blk_cell hc q).symm.trans y3)
                clear y1 y2 y3
                have HB0 := Aside0.mk (show Below w6.heap.size w6 w6.drew from below_drew (Below.refl _ _))
                have cv : (convert 36 9 (.slice (some ⟨w6.heap.size, 0, none⟩) 1 1)).run Try.prog (w6.alloc (.cells #[.int .u8 (97 + (k : Int))] 5)).drew = .ok (.string (strOfNums [97 + (k : Int)])) (w6.alloc (.cells #[.int .u8 (97 + (k : Int))] 5)).drew := conv_lit (97 + (k : Int)) w6.drew
                have hsz : o2.size + (strOfNums [97 + (k : Int)]).size ≤ 9223372036854775807 := by rw [strOfNums_size]; have := HO60.out.2; simp; omega
                have hsz2 : ¬ (9223372036854775807 < o2.size + (strOfNums [97 + (k : Int)]).size) := by omega
                have HWL := Aside0.mk (show ws'.length = R'.length from HP5.out.len)
                have HBL := Aside0.mk (show bl (o2 ++ strOfNums [97 + (k : Int)]) = bl o2 ++ [97 + k] by rw [bl_append, show bl (strOfNums [97 + (k : Int)]) = [97 + k] from bl_one (y := 97 + k) (by omega)])
                refine start_ (n := 12) (S := fun w' => w'.cell? ⟨gw, q, none⟩ = some (.string o2)) (ds := [10, 11]) #[false, false, false, false, false, false, false, false, false, false, false, false] (by kernel_rfl) rfl rfl (pw_cell_below HB0.out z3) (fun hHeld => ?_)
                refine pure_ (i := 0) (N := (some 90)) (v := ?_) (a' := ?_) #[true, false, false, false, false, false, false, false, false, false, false, false] rfl rfl (by kernel_rfl) (fun _ _ _ h => h) (Or.inl ⟨by rfl, ?_⟩) ?_ ?_
                rotate_left
                · intro w'
                  go_simp
                  with_reducible rfl
                rotate_left
                · simp only [Act.put, List.setIfInBounds_toArray, List.set_cons_zero, List.set_cons_succ, i64_w, i32_w]
                  rfl
                refine pure_ (i := 1) (N := (some 91)) (v := ?_) (a' := ?_) #[true, true, false, false, false, false, false, false, false, false, false, false] rfl rfl (by kernel_rfl) (fun _ _ _ h => h) (Or.inl ⟨by rfl, ?_⟩) ?_ ?_
                rotate_left
                · intro w'
                  go_simp
                  with_reducible rfl
                rotate_left
                · simp only [Act.put, List.setIfInBounds_toArray, List.set_cons_zero, List.set_cons_succ, i64_w, i32_w]
                  rfl
                refine pure_ (i := 2) (N := (some 92)) (v := ?_) (a' := ?_) #[true, true, true, false, false, false, false, false, false, false, false, false] rfl rfl (by kernel_rfl) (fun _ _ _ h => h) (Or.inl ⟨by rfl, ?_⟩) ?_ ?_
                rotate_left
                · intro w'
                  go_simp
                  with_reducible rfl
                rotate_left
                · simp only [Act.put, List.setIfInBounds_toArray, List.set_cons_zero, List.set_cons_succ, i64_w, i32_w]
                  rfl
                refine pure_ (i := 3) (N := (some 93)) (v := ?_) (a' := ?_) #[true, true, true, true, false, false, false, false, false, false, false, false] rfl rfl (by kernel_rfl) (fun _ _ _ h => h) (Or.inl ⟨by rfl, ?_⟩) ?_ ?_
                rotate_left
                · intro w'
                  go_simp
                  with_reducible rfl
                rotate_left
                · simp only [Act.put, List.setIfInBounds_toArray, List.set_cons_zero, List.set_cons_succ, i64_w, i32_w]
                  rfl
                refine take_ (i := 4) (N := (some 94)) (v := ?_) (a' := ?_) #[true, true, true, true, true, false, false, false, false, false, false, false] rfl rfl (by kernel_rfl) (fun _ _ _ h => h) (Or.inl ⟨by rfl, ?_⟩) hHeld ?_ ?_
                rotate_left
                · rintro w' s0
                  go_simp
                  with_reducible rfl
                rotate_left
                · simp only [Act.put, List.setIfInBounds_toArray, List.set_cons_zero, List.set_cons_succ, i64_w, i32_w]
                  rfl
                refine pure_ (i := 5) (N := (some 95)) (v := ?_) (a' := ?_) #[true, true, true, true, true, true, false, false, false, false, false, false] rfl rfl (by kernel_rfl) (fun _ _ _ h => h) (Or.inl ⟨by rfl, ?_⟩) ?_ ?_
                rotate_left
                · intro w'
                  go_simp
                  with_reducible rfl
                rotate_left
                · simp only [Act.put, List.setIfInBounds_toArray, List.set_cons_zero, List.set_cons_succ, i64_w, i32_w]
                  rfl
                refine one_ (i := 6) (N := (some 96)) #[true, true, true, true, true, true, true, false, false, false, false, false] rfl rfl (by kernel_rfl) (by decide) (fun K hK => ?_)
                refine value_ (w1 := ?_) (v := ?_) (by rfl) rfl ?_ ?_
                rotate_left 2
                · go_simp
                  constructor
                  · rfl
                  · rfl
                refine hK.out _ _ (pw_cell_below (below_alloc HB0.out _) z3) (fun hHeld => ?_)
                clear hK K
                refine norm_ (a' := ?_) ?_ ?_
                rotate_left
                · show Act.put _ (some 96) _ = _
                  simp only [Act.put, List.setIfInBounds_toArray, List.set_cons_zero, List.set_cons_succ, i64_w, i32_w]
                  rfl
                refine one_ (i := 7) (N := (some 97)) #[true, true, true, true, true, true, true, true, false, false, false, false] rfl rfl (by kernel_rfl) (by decide) (fun K hK => ?_)
                refine value_ (w1 := ?_) (v := ?_) (by rfl) rfl ?_ ?_
                rotate_left 2
                · go_simp
                  constructor
                  · rfl
                  · rfl
                refine hK.out _ _ (pw_cell_below (below_alloc HB0.out _) z3) (fun hHeld => ?_)
                clear hK K
                refine norm_ (a' := ?_) ?_ ?_
                rotate_left
                · show Act.put _ (some 97) _ = _
                  simp only [Act.put, List.setIfInBounds_toArray, List.set_cons_zero, List.set_cons_succ, i64_w, i32_w]
                  rfl
                refine pure_ (i := 8) (N := (some 98)) (v := ?_) (a' := ?_) #[true, true, true, true, true, true, true, true, true, false, false, false] rfl rfl (by kernel_rfl) (fun _ _ _ h => h) (Or.inl ⟨by rfl, ?_⟩) ?_ ?_
                rotate_left
                · intro w'
                  go_simp
                  with_reducible rfl
                rotate_left
                · simp only [Act.put, List.setIfInBounds_toArray, List.set_cons_zero, List.set_cons_succ, i64_w, i32_w]
                  rfl
                refine one_ (i := 9) (N := (some 99)) #[true, true, true, true, true, true, true, true, true, true, false, false] rfl rfl (by kernel_rfl) (by decide) (fun K hK => ?_)
                refine value_ (w1 := ?_) (v := ?_) (by rfl) rfl ?_ ?_
                rotate_left 2
                · go_simp
                  constructor
                  · rfl
                  · rfl
                refine hK.out _ _ (pw_cell_below (below_alloc (below_alloc HB0.out _) _) z3) (fun hHeld => ?_)
                clear hK K
                refine norm_ (a' := ?_) ?_ ?_
                rotate_left
                · show Act.put _ (some 99) _ = _
                  simp only [Act.put, List.setIfInBounds_toArray, List.set_cons_zero, List.set_cons_succ, i64_w, i32_w]
                  rfl
                refine last_ (i := 10) (N := (some 100)) #[true, true, true, true, true, true, true, true, true, true, true, false] rfl rfl (by kernel_rfl) (by decide) (fun K hK => ?_)
                refine Kd.R_append_step Kd.string (w0 := w) (W := (w6.alloc (.cells #[.int .u8 (97 + (k : Int))] 5)).drew) w.heap.size (by rfl) (.tmp 90) (.tmp 99) 53 9 (.string ByteArray.empty) 16 rfl Try.underlying53 info9w rfl (by decide) (by omega) (.slice (some ⟨gw, 0, none⟩) R'.length d') ws' (o2 ++ strOfNums [97 + (k : Int)]) [.string (o2 ++ strOfNums [97 + (k : Int)])] (fun _ => True) (fun _ => False) rfl (show Value.slice (some ⟨w6.heap.size + 1, 0, none⟩) 1 1 = .slice (some ⟨(w6.alloc (.cells #[.int .u8 (97 + (k : Int))] 5)).heap.size, 0, none⟩) 1 1 by rw [World.size_alloc]) rfl (fun _ hk => hk.elim) (fun _ _ => trivial) (Kd.R_below HW6.out (below_alloc HB0.out _)) (below_step HB6.out (below_alloc HB0.out _)) (Nat.le_trans HB6.out.size (below_alloc HB0.out _).size) (by have := HWL.out; have := HRL'.out; omega) ?_
                intro v7 w7 h1 h2 h3 h4
                obtain ⟨B7, d7, rfl⟩ := Kd.R_slice h1
                have HR7 := Aside0.mk h1
                have HB7 := Aside0.mk h2
                have HG7 := Aside0.mk h3
                clear h1 h2 h3 h4
                refine hK.out _ _ ?_
                clear hK K
                refine norm_ (a' := ?_) ?_ ?_
                rotate_left
                · show Act.put _ (some 100) _ = _
                  simp only [Act.put, List.setIfInBounds_toArray, List.set_cons_zero, List.set_cons_succ, i64_w, i32_w]
                  rfl
                refine pure_ (i := 11) (N := (some 10)) (v := ?_) (a' := ?_) #[true, true, true, true, true, true, true, true, true, true, true, true] rfl rfl (by kernel_rfl) (fun _ _ _ h => h) (Or.inl ⟨by rfl, ?_⟩) ?_ ?_
                rotate_left
                · intro w'
                  go_simp
                  with_reducible rfl
                rotate_left
                · simp only [Act.put, List.setIfInBounds_toArray, List.set_cons_zero, List.set_cons_succ, i64_w, i32_w]
                  rfl
                refine done_ (by kernel_rfl) ?_
                have HADD := Aside0.mk (show addK R' (kid (bl u) (bl s) P k) = R' ++ [⟨z1, z2, bl o2 ++ [97 + k]⟩] by unfold addK; rw [HKI.out, if_neg (by show ¬ hasP R' z1 z2 = true; rw [HHN.out]; decide)])
                have HRN := Aside0.mk (show RkOk (bl u) (bl s) mm (R' ++ [⟨z1, z2, bl o2 ++ [97 + k]⟩]) by
                  have h := HO.out.add (p := P) (c := k) (by rw [HPE.out]; exact ⟨by rw [bl_length]; exact HPL.out.1, by rw [bl_length]; exact HPL.out.2, by rw [bl_length]; exact HO60.out.1⟩)
                  rw [HADD.out] at h
                  exact h)
                have HRW := Aside0.mk (show Kd.R k88 88 w7 w.heap.size (fun _ => True) (.slice A6 (R'.length + 1) c6) (R'.map rnP ++ [⟨z1, z2⟩]) from by
                  have h6 := Kd.R_below HR6.out (below_alloc HB0.out (.cells #[.int .u8 (97 + (k : Int))] 5))
                  refine Kd.R_mono (Kd.R_move (Kd.R_bound h6) (fun x hxx => ?_)) (fun x hxx => hxx.1)
                  obtain ⟨_, _, _, t, ht, cells, hc⟩ := hxx
                  have ht9 : t = 88 := by have hE : k88.E = [] := rfl; simpa [hE] using ht
                  subst ht9
                  rw [hc, blk_grown (show ((w6.alloc (.cells #[.int .u8 (97 + (k : Int))] 5)).drew).heap[x]? = _ from hc) HG7.out (Kd.R_ne (Kd.R_below HW6.out (below_alloc HB0.out (.cells #[.int .u8 (97 + (k : Int))] 5))) hc (by decide))])
                have HPT := Aside0.mk (show PtAt w (R' ++ [⟨z1, z2, bl o2 ++ [97 + k]⟩]) A6 c6 B7 d7 (ws' ++ [o2 ++ strOfNums [97 + (k : Int)]]) w7 from ⟨by rw [List.length_append, List.map_append]; exact HRW.out, by
                  have h := HR7.out
                  rw [List.length_append, HWL.out] at h
                  rw [List.length_append]; exact h, by rw [List.map_append, List.map_append, HPV.out.same]; simp [HBL.out], HB7.out⟩)
                have e8 : (ws' ++ [o2 ++ strOfNums [97 + (k : Int)]]).length = R'.length + 1 := by rw [List.length_append, HWL.out]; rfl
                go_wp2
                go_roundw
                case rel => exact ⟨k + 1, R' ++ [⟨z1, z2, bl o2 ++ [97 + k]⟩], A6, c6, B7, d7, ws' ++ [o2 ++ strOfNums [97 + (k : Int)]], by go_num, by simp [HWL.out], by simp, by have := HK4.out; omega, ⟨by obtain ⟨S, hS⟩ := HS.out; exact ⟨S ++ [_], by rw [hS, List.append_assoc]⟩⟩, HRN, HPT, ⟨by
                  have h := HKS.out
                  rw [HADD.out] at h
                  exact h⟩⟩
                case measure => simp [intOf]; have := HK4.out; omega
            · have hk4I : ¬ ((k : Int) < (kk : Int)) := by omega
              have hke : k = kk := by omega
              subst hke
              have HKE := Aside0.mk (show R' = K by
                have h := HKD.out
                rw [List.drop_eq_nil_of_le (by simp)] at h
                exact h)
              have hq2 : q < R'.length := by obtain ⟨S, hS⟩ := HS.out; rw [hS, List.length_append]; have := HLT.out; omega
              have HQ2 := Aside0.mk hq2
              clear hk4 hk hq2
              go_wp2
              go_roundw
              case rel => exact ⟨q + 1, R', A', c', B', d', ws', by go_num, rfl, rfl, by have := HQ2.out; omega, HO, HP, ⟨by rw [HKE.out]; exact HK.out⟩⟩
              case measure => simp [intOf]; have := HLT.out; have := HRL.out; omega
    · have hltI : ¬ ((q : Int) < (R.length : Int)) := by omega
      have hR := HE.out
      have hn : partK (bl u) (bl s) kk mm (20000 - q) q R = none := by
        rw [show 20000 - q = (20000 - (q + 1)) + 1 by omega]
        unfold partK
        rw [List.getElem?_eq_none (by omega)]
      rw [hn] at hR
      subst hR
      clear hlt hn
      go_wp2
      go_ret2
      exact ⟨⟨#[]⟩, rfl, rfl, HP.out.bel⟩
end Go.Proofs.Ytagdbadljcongaa.X
end

section
/- What the word that tells two words apart is, and words about them. -/
set_option linter.unusedVariables false
set_option linter.unusedSimpArgs false
namespace Go.Proofs.Ytagdbadljcongaa.X
open Go.RowKit Go.Proofs.YtagdbadljcongaaW.PrintWords
theorem wth_sub0 (l u : List Nat) : (wth l 0 u).isSome = true ↔ u.Sublist l := by
  have h := wth_sub l u 0 (Nat.zero_le _)
  rwa [List.drop_zero] at h
theorem dst_iff (u w x : List Nat) : dst u w x = false ↔ (x.Sublist u ↔ x.Sublist w) := by
  rw [← wth_sub0, ← wth_sub0]
  unfold dst
  cases (wth u 0 x).isSome <;> cases (wth w 0 x).isSome <;> simp
theorem First.less {u w r x : List Nat} {k most : Nat} (h : First u w k most r) (hk4 : k ≤ 4) (hx : Ltr k x) (hm : x.length ≤ most) (hl : x.length < r.length) : X.dst u w x = false := by
  cases e : X.dst u w x with
  | false => rfl
  | true =>
    have := key_len (h.ltr.four hk4) (hx.four hk4) (h.fst x hx hm e)
    omega
theorem dst_ex {u w : List Nat} (hu : Ltr 4 u) (hw : Ltr 4 w) (hne : u ≠ w) : ∃ x, Ltr 4 x ∧ x.length ≤ 1 + min u.length w.length ∧ dst u w x = true := by
  have key : ∀ u w : List Nat, Ltr 4 u → Ltr 4 w → u ≠ w → u.length ≤ w.length → ∃ x, Ltr 4 x ∧ x.length ≤ 1 + u.length ∧ ¬ (x.Sublist u ↔ x.Sublist w) := by
    intro u w hu hw hne hl
    by_cases hs : u.Sublist w
    · refine ⟨w.take (u.length + 1), fun b hb => hw b (List.mem_of_mem_take hb), by rw [List.length_take]; omega, fun h => ?_⟩
      have h1 := (h.2 (List.take_sublist _ _)).length_le
      rw [List.length_take] at h1
      exact hne (hs.eq_of_length (by omega))
    · exact ⟨u, hu, by omega, fun h => hs (h.1 (List.Sublist.refl _))⟩
  rcases Nat.le_total u.length w.length with h | h
  · obtain ⟨x, h1, h2, h3⟩ := key u w hu hw hne h
    refine ⟨x, h1, by omega, ?_⟩
    rw [← Bool.not_eq_false, dst_iff]; exact h3
  · obtain ⟨x, h1, h2, h3⟩ := key w u hw hu hne.symm h
    refine ⟨x, h1, by omega, ?_⟩
    rw [← Bool.not_eq_false, dst_iff]; exact fun h => h3 h.symm
theorem First.len {u w r : List Nat} (h : First u w 4 61 r) (hu : Ltr 4 u) (hw : Ltr 4 w) (hl : min u.length w.length ≤ 60) (hne : u ≠ w) : r.length ≤ 1 + min u.length w.length := by
  obtain ⟨x, h1, h2, h3⟩ := dst_ex hu hw hne
  have := key_len h.ltr h1 (h.fst x h1 (by omega) h3)
  omega
end Go.Proofs.Ytagdbadljcongaa.X
end

section
/- The reference's Arches and Absent in plain Lean. -/
set_option linter.unusedVariables false
set_option linter.unusedSimpArgs false
namespace Go.Proofs.Ytagdbadljcongaa.X
open Go.RowKit Go.Proofs.YtagdbadljcongaaW.PrintWords
theorem nxl_is (c : Nat) : ∀ x : List Nat, nxl x c < x.length → x[nxl x c]? = some c
  | [], h => absurd h (by simp)
  | b :: x, h => by
    rw [nxl_cons] at h ⊢
    by_cases e : b = c
    · rw [if_pos e]; simp [e]
    · rw [if_neg e] at h ⊢
      rw [List.getElem?_cons_succ]
      exact nxl_is c x (by simpa using h)
theorem nxl_first (c : Nat) : ∀ (x : List Nat) (p : Nat), x[p]? = some c → nxl x c ≤ p
  | [], p, h => by simp at h
  | b :: x, 0, h => by
    simp at h
    rw [nxl_cons, if_pos h]; omega
  | b :: x, p + 1, h => by
    rw [nxl_cons]
    split
    · omega
    · have := nxl_first c x p (by simpa using h)
      omega
theorem nx_is {l : List Nat} {i c : Nat} (hi : i ≤ l.length) (h : nx l i c < l.length) : l[nx l i c]? = some c := by
  have := nxl_is c (l.drop i) (by unfold nx at h; rw [List.length_drop]; omega)
  rwa [List.getElem?_drop] at this
theorem nx_first {l : List Nat} {i c p : Nat} (hip : i ≤ p) (he : l[p]? = some c) : nx l i c ≤ p := by
  have := nxl_first c (l.drop i) (p - i) (by rw [List.getElem?_drop, show i + (p - i) = p by omega]; exact he)
  unfold nx; omega
/-- How many of the first K letters stand between two places. -/
def cN (l : List Nat) (j i : Nat) : Nat → Nat
  | 0 => 0
  | K + 1 => cN l j i K + if nx l j (97 + K) < i then 1 else 0
theorem cN_le (l : List Nat) (j i : Nat) : ∀ K, cN l j i K ≤ K
  | 0 => Nat.le_refl _
  | K + 1 => by
    have := cN_le l j i K
    unfold cN
    split <;> omega
theorem cN_full (l : List Nat) (j i : Nat) : ∀ K, cN l j i K = K ↔ ∀ c, c < K → nx l j (97 + c) < i
  | 0 => by simp [cN]
  | K + 1 => by
    have h1 := cN_full l j i K
    have h2 := cN_le l j i K
    unfold cN
    constructor
    · intro h c hc
      split at h
      · rename_i h3
        by_cases e : c = K
        · subst e; exact h3
        · exact h1.1 (by omega) c (by omega)
      · omega
    · intro h
      rw [if_pos (h K (by omega)), h1.2 fun c hc => h c (by omega)]
theorem cN_same (l : List Nat) (i : Nat) : ∀ K, i ≤ l.length → cN l i i K = 0
  | 0, _ => rfl
  | K + 1, h => by
    unfold cN
    rw [cN_same l i K h, if_neg (by have := (nx_le l i (97 + K) h).1; omega)]
theorem nx_step1 {l : List Nat} {j i d : Nat} (hj : j ≤ i) (hi : i < l.length) (hd : l[i]? = some (97 + d)) (c : Nat) : nx l j (97 + c) < i + 1 ↔ nx l j (97 + c) < i ∨ c = d := by
  constructor
  · intro h
    by_cases e : c = d
    · exact .inr e
    · left
      rcases Nat.lt_or_ge (nx l j (97 + c)) i with h1 | h1
      · exact h1
      · exfalso
        have e2 : nx l j (97 + c) = i := by omega
        have := nx_is (l := l) (i := j) (c := 97 + c) (by omega) (by omega)
        rw [e2, hd] at this
        injection this with this
        omega
  · rintro (h | rfl)
    · omega
    · have := nx_first hj hd
      omega
theorem cN_step {l : List Nat} {j i d : Nat} (hj : j ≤ i) (hi : i < l.length) (hd : l[i]? = some (97 + d)) : ∀ K, cN l j (i + 1) K = cN l j i K + if d < K ∧ ¬ nx l j (97 + d) < i then 1 else 0
  | 0 => by simp [cN]
  | K + 1 => by
    unfold cN
    rw [cN_step hj hi hd K]
    by_cases e : K = d
    · subst e
      rw [if_pos ((nx_step1 hj hi hd K).2 (.inr rfl)), if_neg (by omega)]
      by_cases h : nx l j (97 + K) < i
      · rw [if_pos h, if_neg (by omega)]
      · rw [if_neg h, if_pos ⟨by omega, h⟩]
    · have h1 : (nx l j (97 + K) < i + 1) = (nx l j (97 + K) < i) := propext ((nx_step1 hj hi hd K).trans ⟨fun h => h.elim id (fun h => absurd h e), .inl⟩)
      have h2 : (d < K + 1 ∧ ¬ nx l j (97 + d) < i) = (d < K ∧ ¬ nx l j (97 + d) < i) := propext ⟨fun h => ⟨by omega, h.2⟩, fun h => ⟨by omega, h.2⟩⟩
      simp only [h1, h2]
      omega
theorem all_amx {l : List Nat} {k j i : Nat} (hk : 1 ≤ k) : (∀ c, c < k → nx l j (97 + c) < i) ↔ amx l k j < i := by
  constructor
  · intro h
    obtain ⟨c, h1, h2⟩ := maxF_mem (fun c => nx l j (97 + c)) (k - 1)
    have := h c (by omega)
    unfold amx
    omega
  · intro h c hc
    have := nx_amx (l := l) (i := j) hc
    omega
/-- A letter that ends an arch. -/
theorem arch_ends {l : List Nat} {k j i d : Nat} (hk : 1 ≤ k) (hj : j ≤ i) (hi : i < l.length) (hd : l[i]? = some (97 + d)) (h0 : cN l j i k < k) (h1 : cN l j (i + 1) k = k) : arch l k j = i :: arch l k (i + 1) := by
  have a1 := (all_amx hk).1 ((cN_full l j (i + 1) k).1 h1)
  have a2 : ¬ amx l k j < i := fun h => by have := (cN_full l j i k).2 ((all_amx hk).2 h); omega
  have e : amx l k j = i := by omega
  rw [arch_eq (by omega), e, if_pos hi]
theorem arch_stop {l : List Nat} {k j : Nat} (hk : 1 ≤ k) (hj : j ≤ l.length) (h0 : cN l j l.length k < k) : arch l k j = [] := by
  have a2 : ¬ amx l k j < l.length := fun h => by have := (cN_full l j l.length k).2 ((all_amx hk).2 h); omega
  rw [arch_eq hj, if_neg a2]
/-- The first k letters. -/
def abcd (k : Nat) : List Nat := (List.range k).map (97 + ·)
theorem sub_abcd {k b : Nat} (h : 97 ≤ b ∧ b < 97 + k) : [b].Sublist (abcd k) := by
  rw [List.singleton_sublist]
  exact List.mem_map.2 ⟨b - 97, List.mem_range.2 (by omega), by omega⟩
/-- The letters, n times over. -/
def alls (k : Nat) : Nat → List Nat
  | 0 => []
  | n + 1 => alls k n ++ abcd k
theorem alls_len (k : Nat) : ∀ n, (alls k n).length = n * k
  | 0 => by simp [alls]
  | n + 1 => by
    unfold alls
    rw [List.length_append, alls_len k n, Nat.add_mul, Nat.one_mul]
    simp [abcd]
theorem alls_sub (k : Nat) : ∀ (n : Nat) (x : List Nat), Ltr k x → x.length ≤ n → x.Sublist (alls k n)
  | 0, x, hx, h => by rw [List.length_eq_zero_iff.1 (show x.length = 0 by omega)]; exact List.nil_sublist _
  | n + 1, x, hx, h => by
    unfold alls
    rcases List.eq_nil_or_concat x with rfl | ⟨y, c, rfl⟩
    · exact List.nil_sublist _
    · rw [List.concat_eq_append] at hx h ⊢
      exact (alls_sub k n y (fun b hb => hx b (by simp [hb])) (by simp at h; omega)).append (sub_abcd (hx c (by simp)))
/-- The search against the letters, repeated, finds the first word that is no subsequence. -/
theorem part_abs {l : List Nat} {k : Nat} (hk : 1 ≤ k) (hk4 : k ≤ 4) (hl : l.length ≤ 60) : partK l (alls k ((arch l k 0).length + 1)) k (l.length + 1) 20000 0 [⟨0, 0, []⟩] = some (abs_ l k 0) := by
  obtain ⟨D, hD⟩ : ∃ D, (arch l k 0).length + 1 = D := ⟨_, rfl⟩
  have hlst : lst l k 0 = D := by rw [lst_arch, hD]
  have hD1 : D ≤ l.length + 1 := by rw [← hlst]; exact lst_le l k 0
  rw [hD]
  have hal : (alls k D).length ≤ 244 := by
    rw [alls_len]
    have : D * k ≤ 61 * 4 := Nat.mul_le_mul (by omega) hk4
    omega
  have hz := abs_len (l := l) (k := k) hk _ 0 rfl
  rw [hlst] at hz
  have hzl : Ltr k (abs_ l k 0) := abs_ltr hk _ 0 rfl
  have hzn := abs_not (l := l) (k := k) hk _ 0 rfl (Nat.zero_le _)
  have inall : ∀ x, Ltr k x → x.length ≤ D → (wth (alls k D) 0 x).isSome = true := fun x hx h => (wth_sub0 _ _).2 (alls_sub k D x hx h)
  have hzd : dst l (alls k D) (abs_ l k 0) = true := by
    unfold dst
    rw [hzn, inall _ hzl (by omega)]; rfl
  rcases part_spec (u := l) (w := alls k D) (k := k) (most := l.length + 1) hk4 hl hal 20000 0 _ (PI.start _ _ _ _) (RkOk.start _ _ _) (Nat.zero_le _) (by omega) with ⟨r, e, hF⟩ | ⟨_, hno⟩
  · rw [e]
    congr 1
    have h1 := hF.fst _ hzl (by omega) hzd
    have hr4 := hF.ltr.four hk4
    have hz4 := hzl.four hk4
    have h2 := key_len hr4 hz4 h1
    have hrd := hF.dst
    unfold dst at hrd
    rw [inall r hF.ltr (by omega)] at hrd
    have hrn : wth l 0 r = none := by
      cases h : wth l 0 r with
      | none => rfl
      | some y => rw [h] at hrd; simp at hrd
    have h3 : ¬ r.length < D := fun h => by
      have := sub_short (l := l) (k := k) r 0 (Nat.zero_le _) hF.ltr (by omega)
      rw [hrn] at this
      cases this
    have h4 := abs_min hk hk4 _ 0 rfl (Nat.zero_le _) r hF.ltr (by omega) hrn
    exact key_inj _ r _ rfl hr4 hz4 (by omega)
  · have := hno _ hzl (by omega)
    rw [hzd] at this
    cases this
end Go.Proofs.Ytagdbadljcongaa.X
end

section
/- thread.Arches and Absent at what they do not take. -/
set_option linter.unusedVariables false
set_option linter.unusedSimpArgs false
namespace Go.Proofs.Ytagdbadljcongaa.X
open Go Go.RowKit Go.Proofs.YtagdbadljcongaaW.PrintWords Go.Proofs.YtagdbadljcongaaW.PrintLast Go.Proofs.YtagdbadljcongaaW.PrintMore
/-- What Arches and Absent take. -/
def okK (s : ByteArray) (k : Int) : Prop := isW (bl s) = true ∧ 1 ≤ k ∧ k ≤ 4 ∧ ovr (bl s) k.toNat = true
set_option maxHeartbeats 4000000 in
set_option maxRecDepth 100000 in
theorem arches_bad (s : ByteArray) (k : Int) (w : World) (h : ¬ okK s k) : Calls Try.prog 18 #[.string s, .int .i64 k] w fun e w' => e = .returned (.tuple #[.slice none 0 0, .int .i64 2]) ∧ Below w.heap.size w w' := by
  cases hs : isW (bl s) with
  | false =>
    have H := Aside0.mk hs
    clear hs h
    go_enter Try.func18, Try.ntmps18
    go_wp2_with (go_at_call 48; (with_reducible refine (newWord_no s _ H.out).mono ?_); rintro e w1 ⟨rfl, hb⟩; have HB := Aside0.mk hb; clear hb)
    go_ret2
    exact ⟨rfl, HB.out⟩
  | true =>
    have HS := Aside0.mk hs
    by_cases hk : 1 ≤ k ∧ k ≤ 4
    · obtain ⟨k, rfl⟩ := Int.eq_ofNat_of_zero_le (show 0 ≤ k by omega)
      have ho : ovr (bl s) k = false := by
        rw [Bool.eq_false_iff]; intro ho
        exact h ⟨hs, hk.1, hk.2, by simpa using ho⟩
      have HO := Aside0.mk ho
      have HK := Aside0.mk (show 1 ≤ k by omega)
      have HK4 := Aside0.mk (show k ≤ 4 by omega)
      have kI1 : (1 : Int) ≤ (k : Int) := by omega
      have kI4 : (k : Int) ≤ 4 := by omega
      clear hs h ho hk
      go_enter Try.func18, Try.ntmps18
      go_wp2_with (first | (go_at_call 48; (with_reducible refine (newWord_b s true _ HS.out).mono ?_); rintro e w1 ⟨p, rfl, hb⟩; have HB := Aside0.mk hb; clear hb) | (go_at_call 49; (with_reducible refine (within_y _ _ _ _ (by omega) (by omega)).mono ?_); rintro e w2 ⟨rfl, HDR⟩; have HB2 := Aside0.mk HDR.below; clear HDR) | (go_at_call 50; (with_reducible refine (over_any s k _ HS.out HK.out HK4.out false HO.out).mono ?_); rintro e w3 ⟨rfl, hb⟩; have HB3 := Aside0.mk hb; clear hb))
      go_ret2
      exact ⟨rfl, below_step (below_step HB.out HB2.out) HB3.out⟩
    · have HK := Aside0.mk hk
      clear hs h hk
      go_enter Try.func18, Try.ntmps18
      go_wp2_with (first | (go_at_call 48; (with_reducible refine (newWord_b s true _ HS.out).mono ?_); rintro e w1 ⟨p, rfl, hb⟩; have HB := Aside0.mk hb; clear hb) | (go_at_call 49; (with_reducible refine (within_n _ _ _ _ HK.out).mono ?_); rintro e w2 ⟨rfl, HDR⟩; have HB2 := Aside0.mk HDR.below; clear HDR))
      go_ret2
      exact ⟨rfl, below_step HB.out HB2.out⟩
set_option maxHeartbeats 4000000 in
set_option maxRecDepth 100000 in
theorem absent_bad (s : ByteArray) (k : Int) (w : World) (h : ¬ okK s k) : Calls Try.prog 19 #[.string s, .int .i64 k] w fun e w' => e = .returned (.tuple #[.string ⟨#[]⟩, .int .i64 2]) ∧ Below w.heap.size w w' := by
  cases hs : isW (bl s) with
  | false =>
    have H := Aside0.mk hs
    clear hs h
    go_enter Try.func19, Try.ntmps19
    go_wp2_with (go_at_call 48; (with_reducible refine (newWord_no s _ H.out).mono ?_); rintro e w1 ⟨rfl, hb⟩; have HB := Aside0.mk hb; clear hb)
    go_ret2
    exact ⟨rfl, below_alloc HB.out _⟩
  | true =>
    have HS := Aside0.mk hs
    by_cases hk : 1 ≤ k ∧ k ≤ 4
    · obtain ⟨k, rfl⟩ := Int.eq_ofNat_of_zero_le (show 0 ≤ k by omega)
      have ho : ovr (bl s) k = false := by
        rw [Bool.eq_false_iff]; intro ho
        exact h ⟨hs, hk.1, hk.2, by simpa using ho⟩
      have HO := Aside0.mk ho
      have HK := Aside0.mk (show 1 ≤ k by omega)
      have HK4 := Aside0.mk (show k ≤ 4 by omega)
      have kI1 : (1 : Int) ≤ (k : Int) := by omega
      have kI4 : (k : Int) ≤ 4 := by omega
      clear hs h ho hk
      go_enter Try.func19, Try.ntmps19
      go_wp2_with (first | (go_at_call 48; (with_reducible refine (newWord_b s true _ HS.out).mono ?_); rintro e w1 ⟨p, rfl, hb⟩; have HB := Aside0.mk hb; clear hb) | (go_at_call 49; (with_reducible refine (within_y _ _ _ _ (by omega) (by omega)).mono ?_); rintro e w2 ⟨rfl, HDR⟩; have HB2 := Aside0.mk HDR.below; clear HDR) | (go_at_call 50; (with_reducible refine (over_any s k _ HS.out HK.out HK4.out false HO.out).mono ?_); rintro e w3 ⟨rfl, hb⟩; have HB3 := Aside0.mk hb; clear hb))
      go_ret2
      exact ⟨rfl, below_step (below_step (below_alloc HB.out _) HB2.out) HB3.out⟩
    · have HK := Aside0.mk hk
      clear hs h hk
      go_enter Try.func19, Try.ntmps19
      go_wp2_with (first | (go_at_call 48; (with_reducible refine (newWord_b s true _ HS.out).mono ?_); rintro e w1 ⟨p, rfl, hb⟩; have HB := Aside0.mk hb; clear hb) | (go_at_call 49; (with_reducible refine (within_n _ _ _ _ HK.out).mono ?_); rintro e w2 ⟨rfl, HDR⟩; have HB2 := Aside0.mk HDR.below; clear HDR))
      go_ret2
      exact ⟨rfl, below_step (below_alloc HB.out _) HB2.out⟩
end Go.Proofs.Ytagdbadljcongaa.X
end

section
/- tickingref03.Letters, Arches, Absent. -/
set_option linter.unusedVariables false
set_option linter.unusedSimpArgs false
namespace Go.Proofs.Ytagdbadljcongaa.X
open Go Go.RowKit Go.Proofs Go.Proofs.YtagdbadljcongaaW.PrintWords Go.Proofs.YtagdbadljcongaaW.PrintLast Go.Proofs.YtagdbadljcongaaW.PrintMore
theorem lettersK_ev (s : ByteArray) (hs : isW (bl s) = true) (q : Nat) (hq : q ≤ 4) : ∀ d i k, i + d = s.size → d < k → tickingref03_Letters.l0 k s (q : Int) (i : Int) = some (ovr ((bl s).drop i) q)
  | 0, i, 0, h, hk => absurd hk (by omega)
  | 0, i, k + 1, h, hk => by
    unfold tickingref03_Letters.l0
    rw [if_neg (by omega), List.drop_eq_nil_of_le (by rw [bl_length]; omega)]
    rfl
  | d + 1, i, 0, h, hk => absurd hk (by omega)
  | d + 1, i, k + 1, h, hk => by
    have hi : i < s.size := by omega
    have hw := (isW_iff _).1 hs
    rw [bl_length] at hw
    have hb := hw.2 _ (List.getElem_mem (show i < (bl s).length by rw [bl_length]; exact hi))
    have e : ovr ((bl s).drop i) q = (decide ((bl s)[i]'(by rw [bl_length]; exact hi) < 97 + q) && ovr ((bl s).drop (i + 1)) q) := by
      unfold ovr
      rw [List.drop_eq_getElem_cons (by rw [bl_length]; exact hi), List.all_cons]
    unfold tickingref03_Letters.l0
    rw [if_pos (by omega), if_pos (by omega), bt_bl2 s i hi, e]
    generalize (bl s)[i]'(by rw [bl_length]; exact hi) = b at hb
    rw [if_neg (by omega)]
    by_cases h2 : 97 + q ≤ b
    · rw [if_pos (by omega), decide_eq_false (by omega)]
      rfl
    · rw [if_neg (by omega), wr1 (by omega), lettersK_ev s hs q hq d (i + 1) k (by omega) (by omega), decide_eq_true (by omega)]
      rfl
theorem lettersK_any (s : ByteArray) (q : Nat) (w : World) (hs : isW (bl s) = true) (hq : q ≤ 4) (r : Bool) (hr : ovr (bl s) q = r) : Calls Try.prog 21 #[.string s, .int .i64 (q : Int)] w fun e w' => e = .returned (.bool r) ∧ Drawn0 w w' := by
  have h := lettersK_ev s hs q hq s.size 0 (s.size + 1) (by omega) (by omega)
  rw [List.drop_zero, hr] at h
  exact tickingref03_Letters.calls _ s _ r w h
/-- The box of what has been seen. -/
def b4 (f : Nat → Bool) : Array Value := #[.bool (f 0), .bool (f 1), .bool (f 2), .bool (f 3)]
theorem b4_at (f : Nat → Bool) (d : Nat) (h : d < 4) : (b4 f)[d]? = some (.bool (f d)) := by
  have : d = 0 ∨ d = 1 ∨ d = 2 ∨ d = 3 := by omega
  rcases this with rfl | rfl | rfl | rfl <;> rfl
theorem b4_set (f : Nat → Bool) (d : Nat) (h : d < 4) (v : Bool) : (b4 f).setIfInBounds d (.bool v) = b4 (fun x => if x = d then v else f x) := by
  have : d = 0 ∨ d = 1 ∨ d = 2 ∨ d = 3 := by omega
  rcases this with rfl | rfl | rfl | rfl <;> rfl
structure RaAt (w : World) (g : Nat) (f : Nat → Bool) (A : Option Addr) (c : Nat) (xs : List Int) (W : World) : Prop where
  box : W.heap[g]? = some (.cells (b4 f) 83 (0, 0))
  row : Kd.R (Kd.int .i64) 3 W w.heap.size (fun _ => True) (.slice A xs.length c) xs
  bel : Below w.heap.size w W
theorem RaAt.below {w : World} {g : Nat} {f : Nat → Bool} {A : Option Addr} {c : Nat} {xs : List Int} {W W' : World} (h : RaAt w g f A c xs W) (hb : Below W.heap.size W W') : RaAt w g f A c xs W' :=
  ⟨blk_below h.box hb, Kd.R_below h.row hb, below_step h.bel hb⟩
theorem RaAt.put {w : World} {g : Nat} {f f' : Nat → Bool} {A : Option Addr} {c : Nat} {xs : List Int} {W W' : World} (h : RaAt w g f A c xs W) (hother : ∀ k, k ≠ g → W'.heap[k]? = W.heap[k]?) (hbox : W'.heap[g]? = some (.cells (b4 f') 83 (0, 0))) (hbel : Below w.heap.size w W') : RaAt w g f' A c xs W' := by
  refine ⟨hbox, ?_, hbel⟩
  refine Kd.R_mono (Kd.R_move (Kd.R_bound h.row) (fun k hkk => ?_)) (fun k hkk => hkk.1)
  obtain ⟨_, _, _, t, ht, cells, hc⟩ := hkk
  have ht9 : t = 3 := by have hE : (Kd.int .i64).E = [] := rfl; simpa [hE] using ht
  subst ht9
  exact hother k (blk_ne hc h.box (by decide))
theorem RaAt.set {w : World} {g : Nat} {f : Nat → Bool} {A : Option Addr} {c : Nat} {xs : List Int} {W : World} (h : RaAt w g f A c xs W) (hg : w.heap.size ≤ g) (d : Nat) (hd : d < 4) (v : Bool) : RaAt w g (fun x => if x = d then v else f x) A c xs (W.setCell ⟨g, d, none⟩ (.bool v)) :=
  h.put (fun k hk => Below.heap_setCell W _ _ k hk) (by rw [blk_set h.box, b4_set f d hd]) (h.bel.setCell hg _)
theorem RaAt.zero {w : World} {g : Nat} {f : Nat → Bool} {A : Option Addr} {c : Nat} {xs : List Int} {W : World} (h : RaAt w g f A c xs W) (hg : w.heap.size ≤ g) : RaAt w g (fun _ => false) A c xs ((((W.setCell ⟨g, 0, none⟩ (.bool false)).setCell ⟨g, 1, none⟩ (.bool false)).setCell ⟨g, 2, none⟩ (.bool false)).setCell ⟨g, 3, none⟩ (.bool false)) := by
  have h4 := (((h.set hg 0 (by omega) false).set hg 1 (by omega) false).set hg 2 (by omega) false).set hg 3 (by omega) false
  exact ⟨h4.box.trans rfl, h4.row, h4.bel⟩
theorem RaAt.there {w : World} {g : Nat} {f : Nat → Bool} {A : Option Addr} {c : Nat} {xs : List Int} {W : World} (h : RaAt w g f A c xs W) (d : Nat) (hd : d < 4) : W.cell? ⟨g, d, none⟩ = some (.bool (f d)) ∧ W.frozen? ⟨g, d, none⟩ = false :=
  ⟨(blk_cell h.box d).trans (b4_at f d hd), blk_frozen h.box d⟩
/-- What the letter's places say. -/
def seenF (l : List Nat) (j i : Nat) (c : Nat) : Bool := decide (nx l j (97 + c) < i)
theorem seenF_same (l : List Nat) (i : Nat) (hi : i ≤ l.length) : (fun _ => false) = seenF l i i := by
  funext c
  unfold seenF
  rw [decide_eq_false]
  have := (nx_le l i (97 + c) hi).1
  omega
theorem seenF_step {l : List Nat} {j i d : Nat} (hj : j ≤ i) (hi : i < l.length) (hd : l[i]? = some (97 + d)) : (fun x => if x = d then true else seenF l j i x) = seenF l j (i + 1) := by
  funext c
  unfold seenF
  have h := nx_step1 hj hi hd c
  by_cases e : c = d
  · rw [if_pos e, decide_eq_true (h.2 (.inr e))]
  · rw [if_neg e]
    by_cases h2 : nx l j (97 + c) < i
    · rw [decide_eq_true h2, decide_eq_true (h.2 (.inl h2))]
    · rw [decide_eq_false h2, decide_eq_false (fun h3 => (h.1 h3).elim h2 e)]
theorem seenF_keep {l : List Nat} {j i d : Nat} (hj : j ≤ i) (hi : i < l.length) (hd : l[i]? = some (97 + d)) (hs : seenF l j i d = true) : seenF l j i = seenF l j (i + 1) := by
  rw [← seenF_step hj hi hd]
  funext c
  split
  · rename_i e; rw [e, hs]
  · rfl
/-- A round's invariant. -/
structure RaL (l : List Nat) (k : Nat) (R : List Nat) (i j m : Nat) (xs : List Int) : Prop where
  ji : j ≤ i
  il : i ≤ l.length
  cn : cN l j i k = m
  mlt : m < k
  res : ∃ pre : List Nat, xs = pre.map (fun (n : Nat) => (n : Int)) ∧ pre ++ arch l k j = R
  xl : xs.length ≤ i
set_option maxHeartbeats 8000000 in
set_option maxRecDepth 1000000 in
theorem rarches_any (s : ByteArray) (k : Nat) (w : World) (hs : Tame s 60 k) (hk : 1 ≤ k) (hk4 : k ≤ 4) (R : List Nat) (hR : arch (bl s) k 0 = R) : Calls Try.prog 24 #[.string s, .int .i64 (k : Int)] w fun e w' => ∃ A c, e = .returned (.slice A R.length c) ∧ Aside0 (R.length ≤ c ∧ Kd.C (Kd.int .i64) w' A R.length (R.map fun (n : Nat) => (n : Int))) ∧ Below w.heap.size w w' := by
  have HS := Aside0.mk hs
  have HK := Aside0.mk hk
  have HK4 := Aside0.mk hk4
  have HRR := Aside0.mk hR
  have hs60 : (s.size : Int) ≤ 60 := by have := hs.size; omega
  have hkI : (k : Int) ≤ 4 := by omega
  clear hs hk hk4 hR
  go_enter Try.func24, Try.ntmps24
  go_wp2
  have hbx : (w.alloc (.cells #[.bool false, .bool false, .bool false, .bool false] 83)).heap[w.heap.size]? = some (.cells #[.bool false, .bool false, .bool false, .bool false] 83 (0, 0)) := blk_new w _
  have H0 := Aside0.mk (show RaAt w w.heap.size (seenF (bl s) 0 0) none 0 [] (w.alloc (.cells #[.bool false, .bool false, .bool false, .bool false] 83)) from by
    rw [← seenF_same (bl s) 0 (Nat.zero_le _)]
    exact ⟨hbx, Kd.R_nil _ _ _ _ _, below_alloc (Below.refl _ _) _⟩)
  clear hbx
  obtain ⟨g, hg⟩ : ∃ g, w.heap.size = g := ⟨_, rfl⟩
  have HG := Aside0.mk (show w.heap.size ≤ g by omega)
  obtain ⟨W0, hW0⟩ : ∃ W0, w.alloc (.cells #[.bool false, .bool false, .bool false, .bool false] 83) = W0 := ⟨_, rfl⟩
  rw [hW0] at H0 ⊢
  replace H0 := Aside0.mk (show RaAt w g (seenF (bl s) 0 0) none 0 [] W0 by rw [← hg]; exact H0.out)
  rw [hg]
  clear hW0 hg
  go_loopw [5, 7, 8, 9] (fun v5 v7 v8 v9 wr => ∃ (i j m : Nat) (A : Option Addr) (c : Nat) (xs : List Int), v5 = .slice A xs.length c ∧ v7 = .int .i64 m ∧ v8 = .int .i64 i ∧ i ≤ s.size ∧ Aside0 (RaL (bl s) k R i j m xs) ∧ Aside0 (RaAt w g (seenF (bl s) j i) A c xs wr)) (fun _ _ v8 _ _ => s.size - (intOf v8).toNat)
  case atStart => exact ⟨0, 0, 0, none, 0, [], rfl, rfl, rfl, Nat.zero_le _, ⟨⟨Nat.le_refl _, Nat.zero_le _, cN_same _ _ _ (Nat.zero_le _), HK.out, ⟨[], rfl, HRR.out⟩, by simp⟩⟩, H0⟩
  case round =>
    clear H0 HRR
    obtain ⟨i, j, m, A, c, xs, rfl, rfl, rfl, hi, HL, HA⟩ := hrel
    have hmk : (m : Int) < (k : Int) := by have := HL.out.mlt; omega
    by_cases hlt : i < s.size
    · have hltI : (i : Int) < (s.size : Int) := by omega
      have hi0 : (0 : Int) ≤ (i : Int) := by omega
      have hil : i < (bl s).length := by rw [bl_length]; exact hlt
      obtain ⟨d, hd, hdk⟩ : ∃ d, (bl s)[i] = 97 + d ∧ d < k := by
        have := HS.out.let_ _ (List.getElem_mem hil)
        exact ⟨(bl s)[i] - 97, by omega, by omega⟩
      have hd? : (bl s)[i]? = some (97 + d) := by rw [List.getElem?_eq_getElem hil, hd]
      have hx : ∀ h : i < s.size, ((s[i]'h).toNat : Int) = 97 + (d : Int) := fun h => by rw [← bl_get s i h]; rw [hd]; omega
      have c1 : (97 : Int) + (d : Int) - 97 = (d : Int) := by omega
      have c2 : (d : Int) < 4 := by omega
      have c3 : (0 : Int) ≤ (d : Int) := by omega
      have hd4 : d < 4 := by have := HK4.out; omega
      obtain ⟨t0, f0⟩ := HA.out.there d hd4
      have HD := Aside0.mk hd?
      have HIL := Aside0.mk hil
      have HLT := Aside0.mk hlt
      have HD4 := Aside0.mk hd4
      have HDK := Aside0.mk hdk
      have hst := cN_step HL.out.ji hil hd? k
      cases hb : seenF (bl s) j i d with
      | true =>
        rw [hb] at t0
        have hn : nx (bl s) j (97 + d) < i := of_decide_eq_true hb
        rw [if_neg (fun h => h.2 hn), Nat.add_zero, HL.out.cn] at hst
        have HST := Aside0.mk hst
        have HSB := Aside0.mk (seenF_keep HL.out.ji hil hd? hb)
        have hne : ((m : Int) == (k : Int)) = false := beq_eq_false_iff_ne.mpr (by omega)
        have hne2 : (m == k) = false := beq_eq_false_iff_ne.mpr (by omega)
        clear hd hd? hil hlt hd4 hdk hst hb hn hi
        go_wp2
        go_roundw
        case rel => exact ⟨i + 1, j, m, A, c, xs, rfl, rfl, by go_num, by have := HLT.out; omega, ⟨⟨by have := HL.out.ji; omega, by have := HIL.out; omega, HST.out, HL.out.mlt, HL.out.res, by have := HL.out.xl; omega⟩⟩, ⟨by rw [← HSB.out]; exact HA.out⟩⟩
        case measure => simp [intOf]; have := HLT.out; omega
      | false =>
        rw [hb] at t0
        have hn : ¬ nx (bl s) j (97 + d) < i := of_decide_eq_false hb
        rw [if_pos ⟨hdk, hn⟩, HL.out.cn] at hst
        have HST := Aside0.mk hst
        have HSF := Aside0.mk (seenF_step HL.out.ji hil hd?)
        by_cases hfull : m + 1 = k
        · have HFU := Aside0.mk hfull
          have hne : ((m : Int) + 1 == (k : Int)) = true := beq_iff_eq.mpr (by omega)
          have hne2 : (m + 1 == k) = true := beq_iff_eq.mpr (by omega)
          have HW3 := Aside0.mk (HA.out.set HG.out d HD4.out true)
          obtain ⟨W3, hW3⟩ : ∃ W3, wr.setCell ⟨g, d, none⟩ (.bool true) = W3 := ⟨_, rfl⟩
          have HE := Aside0.mk (arch_ends HK.out HL.out.ji hil hd? (by rw [HL.out.cn]; exact HL.out.mlt) (by rw [HST.out]; exact hfull))
          clear hd hd? hil hlt hd4 hdk hst hb hn hi hfull
          go_upto_region 12 with (fail)
          rw [hW3] at HW3
          clear hW3 t0 f0
          have KEY := Aside0.mk (app_int (x := (i : Int)) HW3.out.row HW3.out.bel HW3.out.bel.size (fun _ _ => trivial) (by have := HL.out.xl; have := HLT.out; have := HS.out.size; omega) 31 33)
          go_upto_region 13 with (at_builtin; refine KEY.out _ _ _ _ _ rfl rfl rfl rfl ?_; intro A2 c2 w4 hr3 hb3 hg3 hat3; have HR3 := Aside0.mk hr3; have HB3 := Aside0.mk hb3; have HX3 := Aside0.mk (blk_grown HW3.out.box hg3 (Kd.R_ne HW3.out.row HW3.out.box (by decide))); clear hr3 hb3 hg3 hat3)
          obtain ⟨F, hF⟩ : ∃ F : Nat → Bool, (fun x => if x = d then true else seenF (bl s) j i x) = F := ⟨_, rfl⟩
          have HA4 := Aside0.mk (show RaAt w g F A2 c2 (xs ++ [(i : Int)]) w4 from ⟨by rw [← hF]; exact HX3.out, by rw [List.length_append]; exact HR3.out, HB3.out⟩)
          clear hF
          have u0 := HA4.out.there 0 (by omega)
          have u1 := HA4.out.there 1 (by omega)
          have u2 := HA4.out.there 2 (by omega)
          have u3 := HA4.out.there 3 (by omega)
          obtain ⟨t0, f0⟩ := u0
          obtain ⟨t1, f1⟩ := u1
          obtain ⟨t2, f2⟩ := u2
          obtain ⟨t3, f3⟩ := u3
          clear HR3 HB3 HX3 HW3 KEY
          have HA5 := Aside0.mk (HA4.out.zero HG.out)
          go_wp2
          go_roundw
          case rel => exact ⟨i + 1, i + 1, 0, A2, c2, xs ++ [(i : Int)], by rw [List.length_append]; rfl, rfl, by go_num, by have := HLT.out; omega, ⟨⟨Nat.le_refl _, by have := HIL.out; omega, cN_same _ _ _ (by have := HIL.out; omega), HK.out, by
            obtain ⟨pre, h1, h2⟩ := HL.out.res
            exact ⟨pre ++ [i], by rw [h1]; simp, by rw [← h2, HE.out]; simp⟩, by have := HL.out.xl; simp; omega⟩⟩, ⟨by rw [← seenF_same (bl s) (i + 1) (by have := HIL.out; omega)]; exact HA5.out⟩⟩
          case measure => simp [intOf]; have := HLT.out; omega
        · have HNF := Aside0.mk hfull
          have hne : ((m : Int) + 1 == (k : Int)) = false := beq_eq_false_iff_ne.mpr (by omega)
          have hne2 : (m + 1 == k) = false := beq_eq_false_iff_ne.mpr (by omega)
          have HW3 := Aside0.mk (HA.out.set HG.out d HD4.out true)
          clear hd hd? hil hlt hd4 hdk hst hb hn hi hfull
          go_wp2
          go_roundw
          case rel => exact ⟨i + 1, j, m + 1, A, c, xs, rfl, by go_num, by go_num, by have := HLT.out; omega, ⟨⟨by have := HL.out.ji; omega, by have := HIL.out; omega, HST.out, by have := HL.out.mlt; have := HNF.out; omega, HL.out.res, by have := HL.out.xl; omega⟩⟩, ⟨by rw [← HSF.out]; exact HW3.out⟩⟩
          case measure => simp [intOf]; have := HLT.out; omega
    · have hltI : ¬ ((i : Int) < (s.size : Int)) := by omega
      have hie : i = s.size := by omega
      have HIE := Aside0.mk hie
      clear hlt hie hi
      go_wp2
      go_ret
      obtain ⟨pre, h1, h2⟩ := HL.out.res
      have h3 := HL.out.cn
      have h4 := HL.out.mlt
      rw [HIE.out, ← bl_length] at h3
      rw [arch_stop HK.out (by have := HL.out.ji; have := HL.out.il; omega) (by rw [h3]; exact h4), List.append_nil] at h2
      subst h2
      have hl : xs.length = pre.length := by rw [h1, List.length_map]
      refine ⟨A, c, by rw [hl]; rfl, ?_, HA.out.bel⟩
      constructor
      have hC := (Kd.R_reads' HA.out.row).2
      rw [hl, h1] at hC
      exact hC
theorem abcd_ext {k : Nat} (h : k ≤ 4) : bl ((⟨#[97, 98, 99, 100]⟩ : ByteArray).extract 0 k) = abcd k := by
  have : k = 0 ∨ k = 1 ∨ k = 2 ∨ k = 3 ∨ k = 4 := by omega
  rcases this with rfl | rfl | rfl | rfl | rfl <;> decide
set_option maxHeartbeats 8000000 in
set_option maxRecDepth 1000000 in
theorem rabsent_any (s : ByteArray) (k : Nat) (w : World) (hs : Tame s 60 k) (hk : 1 ≤ k) (hk4 : k ≤ 4) (o : ByteArray) (ho : bl o = abs_ (bl s) k 0) : Calls Try.prog 25 #[.string s, .int .i64 (k : Int)] w fun e w' => e = .returned (.string o) ∧ Below w.heap.size w w' := by
  have HS := Aside0.mk hs
  have HK := Aside0.mk hk
  have HK4 := Aside0.mk hk4
  have HO := Aside0.mk ho
  have hs60 : (s.size : Int) ≤ 60 := by have := hs.size; omega
  have hkI : (k : Int) ≤ 4 := by omega
  have hk0 : (0 : Int) ≤ (k : Int) := by omega
  have HSW := Aside0.mk (show isW (bl s) = true from hs.isW (by decide) hk4)
  obtain ⟨R, hR⟩ : ∃ R, arch (bl s) k 0 = R := ⟨_, rfl⟩
  have HR := Aside0.mk hR
  have hRl : R.length ≤ 60 := by
    have h1 := lst_arch (bl s) k
    have h2 := lst_le (bl s) k 0
    rw [hR] at h1
    have h3 := hs.size
    rw [bl_length] at h2
    omega
  have HRL := Aside0.mk hRl
  have hRI : (R.length : Int) ≤ 60 := by omega
  obtain ⟨t, ht⟩ : ∃ t, (⟨#[97, 98, 99, 100]⟩ : ByteArray).extract 0 k = t := ⟨_, rfl⟩
  have HT := Aside0.mk (show bl t = abcd k by rw [← ht]; exact abcd_ext hk4)
  have hts : t.size = k := by rw [← bl_length, HT.out]; simp [abcd]
  have HTS := Aside0.mk hts
  clear hs hk hk4 ho hR hRl hts
  go_enter Try.func25, Try.ntmps25
  go_wp2
  go_loopw [5, 6] (fun v5 v6 wr => ∃ (i : Nat) (x : ByteArray), v6 = .int .i64 i ∧ v5 = .string x ∧ i ≤ R.length + 1 ∧ Aside0 (bl x = alls k i) ∧ Aside0 (Below w.heap.size w wr)) (fun _ v6 _ => R.length + 1 - (intOf v6).toNat)
  case atStart => exact ⟨0, ⟨#[]⟩, rfl, rfl, by omega, ⟨rfl⟩, ⟨Below.refl _ _⟩⟩
  case round =>
    obtain ⟨i, x, rfl, rfl, hi, HX, HB⟩ := hrel
    have hxs : x.size = i * k := by rw [← bl_length, HX.out, alls_len]
    have hxb : x.size ≤ 244 := by
      rw [hxs]
      have : i * k ≤ 61 * 4 := Nat.mul_le_mul (by have := HRL.out; omega) HK4.out
      omega
    have HXB := Aside0.mk hxb
    clear hxs
    by_cases hlt : i ≤ R.length
    · have hltI : (i : Int) ≤ (R.length : Int) := by omega
      have HLT := Aside0.mk hlt
      have hz : x.size + t.size ≤ 9223372036854775807 := by rw [HTS.out]; have := HK4.out; omega
      clear hlt hi
      go_wp2_with (go_at_call 24; (with_reducible refine (rarches_any s k _ HS.out HK.out HK4.out R HR.out).mono ?_); rintro e w1 ⟨A, c, rfl, hC, hb⟩; have HB1 := Aside0.mk (below_step HB.out hb); clear hb hC)
      go_roundw
      case rel => exact ⟨i + 1, x ++ t, by go_num, rfl, by have := HLT.out; omega, ⟨by rw [bl_append, HX.out, HT.out]; rfl⟩, HB1⟩
      case measure => simp [intOf]; have := HLT.out; omega
    · have hltI : ¬ ((i : Int) ≤ (R.length : Int)) := by omega
      have hie : i = R.length + 1 := by omega
      have HIE := Aside0.mk hie
      have PK := Aside0.mk (fun W => show Calls Try.prog 30 #[.string s, .string x, .int .i64 (k : Int), .int .i64 ((s.size : Int) + 1)] W fun e w' => e = .returned (.tuple #[.string o, .bool true]) ∧ Below W.heap.size W w' by
        have h := part_abs (l := bl s) HK.out HK4.out (by rw [bl_length]; exact HS.out.size)
        rw [HR.out, ← HIE.out, ← HX.out, bl_length] at h
        have h2 := partK_any s x k (s.size + 1) W HK.out HK4.out (by have := HS.out.size; omega) HS.out.size HXB.out _ h
        refine h2.mono ?_
        rintro e w' ⟨o2, h3, rfl, hb⟩
        have : o2 = o := bl_inj (h3.trans HO.out.symm)
        subst this
        exact ⟨rfl, hb⟩)
      clear hlt hie hi
      go_wp2_with (first | (go_at_call 24; (with_reducible refine (rarches_any s k _ HS.out HK.out HK4.out R HR.out).mono ?_); rintro e w1 ⟨A, c, rfl, hC, hb⟩; have HB1 := Aside0.mk (below_step HB.out hb); clear hb hC) | (go_at_call 30; (with_reducible refine (PK.out _).mono ?_); rintro e w2 ⟨rfl, hb⟩; have HB2 := Aside0.mk (below_step HB1.out hb); clear hb))
      go_ret
      exact ⟨rfl, HB2.out⟩
end Go.Proofs.Ytagdbadljcongaa.X
end
