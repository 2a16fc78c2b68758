/- Texts behind ThreadWithin, part 24: contracts of the program's functions and the plain words for them. -/
import Derived.Test.YtagdbadljcongaaTpaw
section
/- thread.Longest. -/
set_option linter.unusedVariables false
set_option linter.unusedSimpArgs false
namespace Go.Proofs.Ytagdbadljcongaa.X
open Go Go.RowKit Go.Proofs.YtagdbadljcongaaW.PrintWords Go.Proofs.YtagdbadljcongaaW.PrintLast Go.Proofs.YtagdbadljcongaaW.PrintMore
attribute [local go_sem] Oper.semAt_some
def LgPost (R : List Nat) (w : World) (e : Ending) (w' : World) : Prop := ∃ o, bl o = R ∧ e = .returned (.tuple #[.string o, .int .i64 0]) ∧ Below w.heap.size w w'
set_option maxHeartbeats 8000000 in
set_option maxRecDepth 100000 in
theorem longest_ok (u s : ByteArray) (w : World) (hu : isW (bl u) = true) (hs : isW (bl s) = true) (R : List Nat) (hR : lgW (bl u) (bl s) = R) : Calls Try.prog 39 #[.string u, .string s] w (LgPost R w) := by
  have HU := Aside0.mk hu
  have HS := Aside0.mk hs
  have HU60 := Aside0.mk (show u.size ≤ 60 by rw [← bl_length]; exact ((isW_iff _).1 hu).1)
  have HS60 := Aside0.mk (show s.size ≤ 60 by rw [← bl_length]; exact ((isW_iff _).1 hs).1)
  have HRR := Aside0.mk hR
  clear hu hs hR
  refine (callsIn_wide (n := 3)).1 (callsIn_of_wp_marks Try.func39 rfl trivial (wpIn_wide.2 ?_))
  simp only [Try.ntmps39, List.size_toArray, List.length_cons, List.length_nil, Nat.reduceAdd, Nat.reduceSub, Array.replicate_succ, Array.replicate_zero, List.push_toArray, List.append_toArray, List.nil_append, List.cons_append]
  go_upto_region 6 with (first | (go_at_call 48; (with_reducible refine (newWord_yes u _ HU.out).mono ?_); rintro e w1 ⟨rfl, hwd, hb⟩; have HWX := Aside0.mk hwd; have HB := Aside0.mk hb; clear hwd hb) | (go_at_call 48; (with_reducible refine (newWord_yes s _ HS.out).mono ?_); rintro e w2 ⟨rfl, hwd, hb⟩; rw [World.size_alloc] at hwd; have HWY := Aside0.mk hwd; have HB2 := Aside0.mk hb; clear hwd hb))
  rw [zeros3721]
  obtain ⟨b1, hb1⟩ : ∃ b, w.heap.size = b := ⟨_, rfl⟩
  obtain ⟨gx, hgx⟩ : ∃ gx, w1.heap.size = gx := ⟨_, rfl⟩
  obtain ⟨gy, hgy⟩ : ∃ g, w2.heap.size = g := ⟨_, rfl⟩
  have HORD := Aside0.mk (show w.heap.size ≤ b1 ∧ b1 < gx ∧ gx + 1 < gy by
    obtain ⟨_, e1, _⟩ := HWX.out.ex
    have h1 := blk_lt e1
    obtain ⟨_, e2, _⟩ := HWY.out.ex
    have h2 := blk_lt e2
    omega)
  have HST := Aside0.mk (show LgPre u s b1 gx (gx + 1) gy (gy + 1) (fun _ => 0) w ((w2.alloc (.cells #[.pointer (some ⟨gx + 1, 0, none⟩)] 70)).alloc (.cells (lcells fun _ => 0) 95)) by
    have hb3 := below_alloc (below_alloc (Below.refl w2.heap.size w2) (.cells #[.pointer (some ⟨gx + 1, 0, none⟩)] 70)) (.cells (lcells fun _ => 0) 95)
    have hb1' := below_step HB2.out hb3
    have hb0 := below_step (below_alloc (Below.refl w1.heap.size w1) (.cells #[.pointer (some ⟨w.heap.size, 0, none⟩)] 70)) hb1'
    subst hb1 hgx hgy
    refine ⟨blk_below (blk_new _ _) hb1', blk_alloc (blk_new _ _) _, ?_, HWX.out.below hb0, HWY.out.below hb3, below_step HB.out hb0⟩
    have := blk_new (w2.alloc (.cells #[.pointer (some ⟨w1.heap.size + 1, 0, none⟩)] 70)) (.cells (lcells fun _ => 0) 95)
    rwa [World.size_alloc] at this)
  simp only [hb1, hgx, hgy]
  obtain ⟨W0, hW0⟩ : ∃ W0, (w2.alloc (.cells #[.pointer (some ⟨gx + 1, 0, none⟩)] 70)).alloc (.cells (lcells fun _ => 0) 95) = W0 := ⟨_, rfl⟩
  rw [hW0] at HST ⊢
  have hu61 : (u.size : Int) ≤ 60 := by have := HU60.out; omega
  have hs61 : (s.size : Int) ≤ 60 := by have := HS60.out; omega
  clear hb1 hgx hgy hW0 HWX HWY HB HB2
  go_wp2
  go_loopw [11] (fun v11 wr => ∃ (i : Int) (f : Nat → Int), v11 = .int .i64 i ∧ -1 ≤ i ∧ i < (u.size : Int) ∧ Aside0 (LgPre u s b1 gx (gx + 1) gy (gy + 1) f w wr) ∧ Aside0 (FillOk (bl u) (bl s) i ((s.size : Int) - 1) f)) (fun v11 _ => (intOf v11 + 1).toNat)
  case atStart => exact ⟨(u.size : Int) - 1, _, rfl, by omega, by omega, HST, ⟨by have := FillOk.start (bl u) (bl s); rwa [bl_length, bl_length] at this⟩⟩
  case round =>
    clear HST
    obtain ⟨i, f, rfl, hi1, hi2, HP, HF⟩ := hrel
    by_cases hp : 0 ≤ i
    --A(
    · obtain ⟨i, rfl⟩ := Int.eq_ofNat_of_zero_le hp
      have HI := Aside0.mk (show i < u.size by omega)
      have iI : (i : Int) < 60 := by omega
      clear hp hi1
      go_upto_region 10 with (fail)
      go_loopw [12] (fun v12 wz => ∃ (j : Int) (f : Nat → Int), v12 = .int .i64 j ∧ -1 ≤ j ∧ j < (s.size : Int) ∧ Aside0 (LgPre u s b1 gx (gx + 1) gy (gy + 1) f w wz) ∧ Aside0 (FillOk (bl u) (bl s) (i : Int) j f)) (fun v12 _ => (intOf v12 + 1).toNat)
      case atStart => exact ⟨(s.size : Int) - 1, f, rfl, by omega, by omega, HP, HF⟩
      case round =>
        clear HP HF
        obtain ⟨j, f, rfl, hj1, hj2, HP, HF⟩ := hrel
        by_cases hp : 0 ≤ j
        · obtain ⟨j, rfl⟩ := Int.eq_ofNat_of_zero_le hp
          have HJ := Aside0.mk (show j < s.size by omega)
          have jI : (j : Int) < 60 := by omega
          have hiu : i < (bl u).length := by rw [bl_length]; exact HI.out
          have hjs : j < (bl s).length := by rw [bl_length]; exact HJ.out
          have hi60 : i < 60 := by omega
          have hj60 : j < 60 := by omega
          obtain ⟨p, hpv⟩ : ∃ p, lcA (bl u) (bl s) (i + 1) j = p := ⟨_, rfl⟩
          obtain ⟨q, hqv⟩ : ∃ q, lcA (bl u) (bl s) i (j + 1) = q := ⟨_, rfl⟩
          obtain ⟨r, hrv⟩ : ∃ r, lcA (bl u) (bl s) (i + 1) (j + 1) = r := ⟨_, rfl⟩
          have p60 : (p : Int) ≤ 60 := by have := lcA_le (bl u) (bl s) (i + 1) j; rw [bl_length] at this; have := HU60.out; omega
          have q60 : (q : Int) ≤ 60 := by have := lcA_le (bl u) (bl s) i (j + 1); rw [bl_length] at this; have := HU60.out; omega
          have r60 : (r : Int) ≤ 60 := by have := lcA_le (bl u) (bl s) (i + 1) (j + 1); rw [bl_length] at this; have := HU60.out; omega
          have t1 : wr.cell? ⟨gy + 1, (i + 1) * 61 + j, none⟩ = some (.int .i64 (p : Int)) := by rw [← hpv, ← HF.out.don (i + 1) j (by omega) (by omega) (.inl (by omega))]; exact HP.out.at_ _ (by omega)
          have t2 : wr.cell? ⟨gy + 1, i * 61 + (j + 1), none⟩ = some (.int .i64 (q : Int)) := by rw [← hqv, ← HF.out.don i (j + 1) (by omega) (by omega) (.inr ⟨rfl, by omega⟩)]; exact HP.out.at_ _ (by omega)
          have t3 : wr.cell? ⟨gy + 1, (i + 1) * 61 + (j + 1), none⟩ = some (.int .i64 (r : Int)) := by rw [← hrv, ← HF.out.don (i + 1) (j + 1) (by omega) (by omega) (.inl (by omega))]; exact HP.out.at_ _ (by omega)
          have t4 : wr.cell? ⟨gy + 1, i * 61 + j, none⟩ = some (.int .i64 (f (i * 61 + j))) := HP.out.at_ _ (by omega)
          have f4 : wr.frozen? ⟨gy + 1, i * 61 + j, none⟩ = false := blk_frozen HP.out.cm _
          have HLC := Aside0.mk (lcA_in hiu hjs)
          have HPV := Aside0.mk (show lcA (bl u) (bl s) (i + 1) j = p ∧ lcA (bl u) (bl s) i (j + 1) = q ∧ lcA (bl u) (bl s) (i + 1) (j + 1) = r from ⟨hpv, hqv, hrv⟩)
          obtain ⟨ua, hua⟩ : ∃ a, (bl u)[i] = a := ⟨_, rfl⟩
          obtain ⟨sb, hsb⟩ : ∃ a, (bl s)[j] = a := ⟨_, rfl⟩
          have hx1 : ∀ h : i < u.size, ((u[i]'h).toNat : Int) = (ua : Int) := fun h => by rw [← bl_get u i h, hua]
          have hx2 : ∀ h : j < s.size, ((s[j]'h).toNat : Int) = (sb : Int) := fun h => by rw [← bl_get s j h, hsb]
          have i0 : (0 : Int) ≤ (i : Int) := by omega
          have j0 : (0 : Int) ≤ (j : Int) := by omega
          have i1 : ((i : Int) + 1).toNat = i + 1 := by omega
          have j1 : ((j : Int) + 1).toNat = j + 1 := by omega
          have i2 : (i : Int) + 1 < 61 := by omega
          have j2 : (j : Int) + 1 < 61 := by omega
          have i3 : (i : Int) < 61 := by omega
          have j3 : (j : Int) < 61 := by omega
          have i4 : (0 : Int) ≤ (i : Int) + 1 := by omega
          have j4 : (0 : Int) ≤ (j : Int) + 1 := by omega
          have Wi6 := Aside0.mk (show wrap64 ((i : Int) + 1) = (i : Int) + 1 by unfold wrap64; omega)
          have Wj6 := Aside0.mk (show wrap64 ((j : Int) + 1) = (j : Int) + 1 by unfold wrap64; omega)
          have Wjm := Aside0.mk (show wrap64 ((j : Int) - 1) = (j : Int) - 1 by unfold wrap64; omega)
          have Wr1 := Aside0.mk (show wrap64 (1 + (r : Int)) = 1 + (r : Int) by unfold wrap64; omega)
          have HLT1 := Aside0.mk (show (i + 1) * 61 + (j + 1) < 3721 by omega)
          have HLT2 := Aside0.mk (show i * 61 + j < 3721 by omega)
          have HNE := Aside0.mk (show (i + 1) * 61 + (j + 1) ≠ i * 61 + j by omega)
          have HDON := Aside0.mk (show f ((i + 1) * 61 + (j + 1)) = (r : Int) by rw [← hrv, ← HF.out.don (i + 1) (j + 1) (by omega) (by omega) (.inl (by omega))])
          have HSET := Aside0.mk (fun (g : Nat → Int) (v : Int) (W : World) (h : LgPre u s b1 gx (gx + 1) gy (gy + 1) g w W) => show LgPre u s b1 gx (gx + 1) gy (gy + 1) (upd g (i * 61 + j) v) w (W.setCell ⟨gy + 1, i * 61 + j, none⟩ (.int .i64 v)) from
            h.set HORD.out.1 HORD.out.2.1 (Nat.lt_succ_self _) HORD.out.2.2 (Nat.lt_succ_self _) (i * 61 + j) HLT2.out v)
          have m60 : max (p : Int) (q : Int) ≤ 60 := by omega
          have hj0' : (-1 : Int) ≤ (j : Int) - 1 := by omega
          have hj1' : (j : Int) - 1 < (s.size : Int) := by omega
          have HJS := Aside0.mk (show ((j : Int) - 1 + 1).toNat < ((j : Int) + 1).toNat by omega)
          obtain ⟨eb, heb⟩ : ∃ b, ((ua : Int) == (sb : Int)) = b := ⟨_, rfl⟩
          have HVAL := Aside0.mk (show (eb = true → max (p : Int) (max (q : Int) (1 + (r : Int))) = (lcA (bl u) (bl s) i j : Int)) ∧ (eb = false → max (p : Int) (q : Int) = (lcA (bl u) (bl s) i j : Int)) by
            have h := HLC.out
            rw [hua, hsb, hpv, hqv, hrv] at h
            constructor
            · intro e
              rw [e] at heb
              have : ua = sb := by have := beq_iff_eq.mp heb; omega
              rw [if_pos this] at h
              rw [h]; omega
            · intro e
              rw [e] at heb
              have : ¬ ua = sb := by have := beq_eq_false_iff_ne.mp heb; omega
              rw [if_neg this] at h
              rw [h]; omega)
          have HPUT := Aside0.mk (fun (v : Int) (hv : v = (lcA (bl u) (bl s) i j : Int)) => HF.out.put (by rw [bl_length]; exact HJ.out) (by omega) hv)
          have i6 := Wi6.out
          have j6 := Wj6.out
          have jm := Wjm.out
          have r1 := Wr1.out
          clear hp hj1 hpv hqv hrv HLC hua hsb hiu hjs hi60 hj60 HPV
          go_upto_region 12 with (fail)
          refine wp_only ?_
          refine start_ (n := 18) (S := fun w' => w'.cell? ⟨gy + 1, (i + 1) * 61 + j, none⟩ = some (.int .i64 (p : Int)) ∧ w'.cell? ⟨gy + 1, i * 61 + (j + 1), none⟩ = some (.int .i64 (q : Int))) (ds := [17]) #[false, false, false, false, false, false, false, false, false, false, false, false, false, false, false, false, false, false] (by kernel_rfl) rfl rfl ⟨t1, t2⟩ (fun hHeld => ?_)
          refine pure_ (i := 0) (N := (some 52)) (v := ?_) (a' := ?_) #[true, false, false, false, false, false, false, false, false, false, false, false, false, false, false, false, false, false] rfl rfl (by kernel_rfl) (fun _ _ _ h => h) (Or.inl ⟨by rfl, ?_⟩) ?_ ?_
          rotate_left
          · intro w'
            go_simp
            with_reducible rfl
          rotate_left
          · simp only [Act.put, List.setIfInBounds_toArray, List.set_cons_zero, List.set_cons_succ, i64_w, i32_w]
            rfl
          refine pure_ (i := 1) (N := (some 53)) (v := ?_) (a' := ?_) #[true, true, false, false, false, false, false, false, false, false, false, false, false, false, false, false, false, false] rfl rfl (by kernel_rfl) (fun _ _ _ h => h) (Or.inl ⟨by rfl, ?_⟩) ?_ ?_
          rotate_left
          · intro w'
            go_simp
            with_reducible rfl
          rotate_left
          · simp only [Act.put, List.setIfInBounds_toArray, List.set_cons_zero, List.set_cons_succ, i64_w, i32_w]
            rfl
          refine pure_ (i := 2) (N := (some 54)) (v := ?_) (a' := ?_) #[true, true, true, false, false, false, false, false, false, false, false, false, false, false, false, false, false, false] rfl rfl (by kernel_rfl) (fun _ _ _ h => h) (Or.inl ⟨by rfl, ?_⟩) ?_ ?_
          rotate_left
          · intro w'
            go_simp
            with_reducible rfl
          rotate_left
          · simp only [Act.put, List.setIfInBounds_toArray, List.set_cons_zero, List.set_cons_succ, i64_w, i32_w]
            rfl
          refine pure_ (i := 3) (N := (some 55)) (v := ?_) (a' := ?_) #[true, true, true, true, false, false, false, false, false, false, false, false, false, false, false, false, false, false] rfl rfl (by kernel_rfl) (fun _ _ _ h => h) (Or.inl ⟨by rfl, ?_⟩) ?_ ?_
          rotate_left
          · intro w'
            go_simp
            with_reducible rfl
          rotate_left
          · simp only [Act.put, List.setIfInBounds_toArray, List.set_cons_zero, List.set_cons_succ, i64_w, i32_w]
            rfl
          refine pure_ (i := 4) (N := (some 56)) (v := ?_) (a' := ?_) #[true, true, true, true, true, false, false, false, false, false, false, false, false, false, false, false, false, false] rfl rfl (by kernel_rfl) (fun _ _ _ h => h) (Or.inl ⟨by rfl, ?_⟩) ?_ ?_
          rotate_left
          · intro w'
            go_simp
            with_reducible rfl
          rotate_left
          · simp only [Act.put, List.setIfInBounds_toArray, List.set_cons_zero, List.set_cons_succ, i64_w, i32_w]
            rfl
          refine pure_ (i := 5) (N := (some 57)) (v := ?_) (a' := ?_) #[true, true, true, true, true, true, false, false, false, false, false, false, false, false, false, false, false, false] rfl rfl (by kernel_rfl) (fun _ _ _ h => h) (Or.inl ⟨by rfl, ?_⟩) ?_ ?_
          rotate_left
          · intro w'
            go_simp
            with_reducible rfl
          rotate_left
          · simp only [Act.put, List.setIfInBounds_toArray, List.set_cons_zero, List.set_cons_succ, i64_w, i32_w]
            rfl
          refine pure_ (i := 6) (N := (some 58)) (v := ?_) (a' := ?_) #[true, true, true, true, true, true, true, false, false, false, false, false, false, false, false, false, false, false] rfl rfl (by kernel_rfl) (fun _ _ _ h => h) (Or.inl ⟨by rfl, ?_⟩) ?_ ?_
          rotate_left
          · intro w'
            go_simp
            with_reducible rfl
          rotate_left
          · simp only [Act.put, List.setIfInBounds_toArray, List.set_cons_zero, List.set_cons_succ, i64_w, i32_w]
            rfl
          refine take_ (i := 7) (N := (some 59)) (v := ?_) (a' := ?_) #[true, true, true, true, true, true, true, true, false, false, false, false, false, false, false, false, false, false] rfl rfl (by kernel_rfl) (fun _ _ _ h => h) (Or.inl ⟨by rfl, ?_⟩) hHeld ?_ ?_
          rotate_left
          · rintro w' ⟨s0, s1⟩
            go_simp
            with_reducible rfl
          rotate_left
          · simp only [Act.put, List.setIfInBounds_toArray, List.set_cons_zero, List.set_cons_succ, i64_w, i32_w]
            rfl
          refine pure_ (i := 8) (N := (some 60)) (v := ?_) (a' := ?_) #[true, true, true, true, true, true, true, true, true, false, false, false, false, false, false, false, false, false] rfl rfl (by kernel_rfl) (fun _ _ _ h => h) (Or.inl ⟨by rfl, ?_⟩) ?_ ?_
          rotate_left
          · intro w'
            go_simp
            with_reducible rfl
          rotate_left
          · simp only [Act.put, List.setIfInBounds_toArray, List.set_cons_zero, List.set_cons_succ, i64_w, i32_w]
            rfl
          refine pure_ (i := 9) (N := (some 61)) (v := ?_) (a' := ?_) #[true, true, true, true, true, true, true, true, true, true, false, false, false, false, false, false, false, false] rfl rfl (by kernel_rfl) (fun _ _ _ h => h) (Or.inl ⟨by rfl, ?_⟩) ?_ ?_
          rotate_left
          · intro w'
            go_simp
            with_reducible rfl
          rotate_left
          · simp only [Act.put, List.setIfInBounds_toArray, List.set_cons_zero, List.set_cons_succ, i64_w, i32_w]
            rfl
          refine pure_ (i := 10) (N := (some 62)) (v := ?_) (a' := ?_) #[true, true, true, true, true, true, true, true, true, true, true, false, false, false, false, false, false, false] rfl rfl (by kernel_rfl) (fun _ _ _ h => h) (Or.inl ⟨by rfl, ?_⟩) ?_ ?_
          rotate_left
          · intro w'
            go_simp
            with_reducible rfl
          rotate_left
          · simp only [Act.put, List.setIfInBounds_toArray, List.set_cons_zero, List.set_cons_succ, i64_w, i32_w]
            rfl
          refine pure_ (i := 11) (N := (some 63)) (v := ?_) (a' := ?_) #[true, true, true, true, true, true, true, true, true, true, true, true, false, false, false, false, false, false] rfl rfl (by kernel_rfl) (fun _ _ _ h => h) (Or.inl ⟨by rfl, ?_⟩) ?_ ?_
          rotate_left
          · intro w'
            go_simp
            with_reducible rfl
          rotate_left
          · simp only [Act.put, List.setIfInBounds_toArray, List.set_cons_zero, List.set_cons_succ, i64_w, i32_w]
            rfl
          refine pure_ (i := 12) (N := (some 64)) (v := ?_) (a' := ?_) #[true, true, true, true, true, true, true, true, true, true, true, true, true, false, false, false, false, false] rfl rfl (by kernel_rfl) (fun _ _ _ h => h) (Or.inl ⟨by rfl, ?_⟩) ?_ ?_
          rotate_left
          · intro w'
            go_simp
            with_reducible rfl
          rotate_left
          · simp only [Act.put, List.setIfInBounds_toArray, List.set_cons_zero, List.set_cons_succ, i64_w, i32_w]
            rfl
          refine take_ (i := 13) (N := (some 65)) (v := ?_) (a' := ?_) #[true, true, true, true, true, true, true, true, true, true, true, true, true, true, false, false, false, false] rfl rfl (by kernel_rfl) (fun _ _ _ h => h) (Or.inl ⟨by rfl, ?_⟩) hHeld ?_ ?_
          rotate_left
          · rintro w' ⟨s0, s1⟩
            go_simp
            with_reducible rfl
          rotate_left
          · simp only [Act.put, List.setIfInBounds_toArray, List.set_cons_zero, List.set_cons_succ, i64_w, i32_w]
            rfl
          refine pure_ (i := 14) (N := (some 66)) (v := ?_) (a' := ?_) #[true, true, true, true, true, true, true, true, true, true, true, true, true, true, true, false, false, false] rfl rfl (by kernel_rfl) (fun _ _ _ h => h) (Or.inl ⟨by rfl, ?_⟩) ?_ ?_
          rotate_left
          · intro w'
            go_simp
            with_reducible rfl
          rotate_left
          · simp only [Act.put, List.setIfInBounds_toArray, List.set_cons_zero, List.set_cons_succ, i64_w, i32_w]
            rfl
          refine pure_ (i := 15) (N := (some 67)) (v := ?_) (a' := ?_) #[true, true, true, true, true, true, true, true, true, true, true, true, true, true, true, true, false, false] rfl rfl (by kernel_rfl) (fun _ _ _ h => h) (Or.inl ⟨by rfl, ?_⟩) ?_ ?_
          rotate_left
          · intro w'
            go_simp
            with_reducible rfl
          rotate_left
          · simp only [Act.put, List.setIfInBounds_toArray, List.set_cons_zero, List.set_cons_succ, i64_w, i32_w]
            rfl
          refine pure_ (i := 16) (N := (some 68)) (v := ?_) (a' := ?_) #[true, true, true, true, true, true, true, true, true, true, true, true, true, true, true, true, true, false] rfl rfl (by kernel_rfl) (fun _ _ _ h => h) (Or.inl ⟨by rfl, ?_⟩) ?_ ?_
          rotate_left
          · intro w'
            go_simp
            with_reducible rfl
          rotate_left
          · simp only [Act.put, List.setIfInBounds_toArray, List.set_cons_zero, List.set_cons_succ, i64_w, i32_w]
            rfl
          refine last_ (i := 17) (N := none) #[true, true, true, true, true, true, true, true, true, true, true, true, true, true, true, true, true, true] rfl rfl (by kernel_rfl) (by decide) (fun K hK => ?_)
          refine skip_ (w1 := ?_) (by rfl) rfl ?_ ?_
          rotate_left
          · go_simp
            rfl
          refine hK.out _ _ ?_
          clear hK K
          refine done_ (by kernel_rfl) ?_
          refine only_n ?_
          have HP1 := Aside0.mk ((HSET.out f (max (p : Int) (q : Int)) wr HP.out).below (below_drew (Below.refl _ _)))
          obtain ⟨W1, hW1⟩ : ∃ W1, (wr.setCell ⟨gy + 1, i * 61 + j, none⟩ (.int .i64 (max (p : Int) (q : Int)))).drew = W1 := ⟨_, rfl⟩
          rw [hW1] at HP1 ⊢
          clear hW1 t1 t2 t4 f4
          have v3 : W1.cell? ⟨gy + 1, (i + 1) * 61 + (j + 1), none⟩ = some (.int .i64 (r : Int)) := by
            have := HP1.out.at_ ((i + 1) * 61 + (j + 1)) HLT1.out
            unfold upd at this
            rw [if_neg HNE.out, HDON.out] at this
            exact this
          have v4 : W1.cell? ⟨gy + 1, i * 61 + j, none⟩ = some (.int .i64 (max (p : Int) (q : Int))) := by
            have := HP1.out.at_ (i * 61 + j) HLT2.out
            unfold upd at this
            rw [if_pos rfl] at this
            exact this
          have g4 : W1.frozen? ⟨gy + 1, i * 61 + j, none⟩ = false := blk_frozen HP1.out.cm _
          clear t3
          cases eb with
          | true =>
            have HV1 := Aside0.mk (HVAL.out.1 rfl)
            go_upto_region 13 with (fail)
            go_quiet (fail)
            have HP2 := Aside0.mk (HP1.out.below (pw_below_drewN (Below.refl _ _) nq))
            have x3 : (W1.drewN nq).cell? ⟨gy + 1, (i + 1) * 61 + (j + 1), none⟩ = some (.int .i64 (r : Int)) := v3
            have x4 : (W1.drewN nq).cell? ⟨gy + 1, i * 61 + j, none⟩ = some (.int .i64 (max (p : Int) (q : Int))) := v4
            have y4 : (W1.drewN nq).frozen? ⟨gy + 1, i * 61 + j, none⟩ = false := g4
            obtain ⟨W2, hW2⟩ : ∃ W2, W1.drewN nq = W2 := ⟨_, rfl⟩
            rw [hW2] at HP2 x3 x4 y4 ⊢
            clear hW2 v3 v4 g4 HP1
            have HP3 := Aside0.mk (HSET.out _ (max (p : Int) (max (q : Int) (1 + (r : Int)))) W2 HP2.out)
            go_upto_region 14 with (fail)
            refine wp_only ?_
            refine start_ (n := 19) (S := fun w' => w'.cell? ⟨gy + 1, (i + 1) * 61 + (j + 1), none⟩ = some (.int .i64 (r : Int)) ∧ w'.cell? ⟨gy + 1, i * 61 + j, none⟩ = some (.int .i64 (max (p : Int) (q : Int)))) (ds := [18]) #[false, false, false, false, false, false, false, false, false, false, false, false, false, false, false, false, false, false, false] (by kernel_rfl) rfl rfl ⟨x3, x4⟩ (fun hHeld => ?_)
            refine pure_ (i := 0) (N := (some 76)) (v := ?_) (a' := ?_) #[true, false, false, false, false, false, false, false, false, false, false, false, false, false, false, false, false, false, false] rfl rfl (by kernel_rfl) (fun _ _ _ h => h) (Or.inl ⟨by rfl, ?_⟩) ?_ ?_
            rotate_left
            · intro w'
              go_simp
              with_reducible rfl
            rotate_left
            · simp only [Act.put, List.setIfInBounds_toArray, List.set_cons_zero, List.set_cons_succ, i64_w, i32_w]
              rfl
            refine pure_ (i := 1) (N := (some 77)) (v := ?_) (a' := ?_) #[true, true, false, false, false, false, false, false, false, false, false, false, false, false, false, false, false, false, false] rfl rfl (by kernel_rfl) (fun _ _ _ h => h) (Or.inl ⟨by rfl, ?_⟩) ?_ ?_
            rotate_left
            · intro w'
              go_simp
              with_reducible rfl
            rotate_left
            · simp only [Act.put, List.setIfInBounds_toArray, List.set_cons_zero, List.set_cons_succ, i64_w, i32_w]
              rfl
            refine pure_ (i := 2) (N := (some 78)) (v := ?_) (a' := ?_) #[true, true, true, false, false, false, false, false, false, false, false, false, false, false, false, false, false, false, false] rfl rfl (by kernel_rfl) (fun _ _ _ h => h) (Or.inl ⟨by rfl, ?_⟩) ?_ ?_
            rotate_left
            · intro w'
              go_simp
              with_reducible rfl
            rotate_left
            · simp only [Act.put, List.setIfInBounds_toArray, List.set_cons_zero, List.set_cons_succ, i64_w, i32_w]
              rfl
            refine pure_ (i := 3) (N := (some 79)) (v := ?_) (a' := ?_) #[true, true, true, true, false, false, false, false, false, false, false, false, false, false, false, false, false, false, false] rfl rfl (by kernel_rfl) (fun _ _ _ h => h) (Or.inl ⟨by rfl, ?_⟩) ?_ ?_
            rotate_left
            · intro w'
              go_simp
              with_reducible rfl
            rotate_left
            · simp only [Act.put, List.setIfInBounds_toArray, List.set_cons_zero, List.set_cons_succ, i64_w, i32_w]
              rfl
            refine pure_ (i := 4) (N := (some 80)) (v := ?_) (a' := ?_) #[true, true, true, true, true, false, false, false, false, false, false, false, false, false, false, false, false, false, false] rfl rfl (by kernel_rfl) (fun _ _ _ h => h) (Or.inl ⟨by rfl, ?_⟩) ?_ ?_
            rotate_left
            · intro w'
              go_simp
              with_reducible rfl
            rotate_left
            · simp only [Act.put, List.setIfInBounds_toArray, List.set_cons_zero, List.set_cons_succ, i64_w, i32_w]
              rfl
            refine pure_ (i := 5) (N := (some 81)) (v := ?_) (a' := ?_) #[true, true, true, true, true, true, false, false, false, false, false, false, false, false, false, false, false, false, false] rfl rfl (by kernel_rfl) (fun _ _ _ h => h) (Or.inl ⟨by rfl, ?_⟩) ?_ ?_
            rotate_left
            · intro w'
              go_simp
              with_reducible rfl
            rotate_left
            · simp only [Act.put, List.setIfInBounds_toArray, List.set_cons_zero, List.set_cons_succ, i64_w, i32_w]
              rfl
            refine take_ (i := 6) (N := (some 82)) (v := ?_) (a' := ?_) #[true, true, true, true, true, true, true, false, false, false, false, false, false, false, false, false, false, false, false] rfl rfl (by kernel_rfl) (fun _ _ _ h => h) (Or.inl ⟨by rfl, ?_⟩) hHeld ?_ ?_
            rotate_left
            · rintro w' ⟨s0, s1⟩
              go_simp
              with_reducible rfl
            rotate_left
            · simp only [Act.put, List.setIfInBounds_toArray, List.set_cons_zero, List.set_cons_succ, i64_w, i32_w]
              rfl
            refine pure_ (i := 7) (N := (some 83)) (v := ?_) (a' := ?_) #[true, true, true, true, true, true, true, true, false, false, false, false, false, false, false, false, false, false, false] rfl rfl (by kernel_rfl) (fun _ _ _ h => h) (Or.inl ⟨by rfl, ?_⟩) ?_ ?_
            rotate_left
            · intro w'
              go_simp
              with_reducible rfl
            rotate_left
            · simp only [Act.put, List.setIfInBounds_toArray, List.set_cons_zero, List.set_cons_succ, i64_w, i32_w]
              rfl
            refine pure_ (i := 8) (N := (some 84)) (v := ?_) (a' := ?_) #[true, true, true, true, true, true, true, true, true, false, false, false, false, false, false, false, false, false, false] rfl rfl (by kernel_rfl) (fun _ _ _ h => h) (Or.inl ⟨by rfl, ?_⟩) ?_ ?_
            rotate_left
            · intro w'
              go_simp
              with_reducible rfl
            rotate_left
            · simp only [Act.put, List.setIfInBounds_toArray, List.set_cons_zero, List.set_cons_succ, i64_w, i32_w]
              rfl
            refine pure_ (i := 9) (N := (some 85)) (v := ?_) (a' := ?_) #[true, true, true, true, true, true, true, true, true, true, false, false, false, false, false, false, false, false, false] rfl rfl (by kernel_rfl) (fun _ _ _ h => h) (Or.inl ⟨by rfl, ?_⟩) ?_ ?_
            rotate_left
            · intro w'
              go_simp
              with_reducible rfl
            rotate_left
            · simp only [Act.put, List.setIfInBounds_toArray, List.set_cons_zero, List.set_cons_succ, i64_w, i32_w]
              rfl
            refine pure_ (i := 10) (N := (some 86)) (v := ?_) (a' := ?_) #[true, true, true, true, true, true, true, true, true, true, true, false, false, false, false, false, false, false, false] rfl rfl (by kernel_rfl) (fun _ _ _ h => h) (Or.inl ⟨by rfl, ?_⟩) ?_ ?_
            rotate_left
            · intro w'
              go_simp
              with_reducible rfl
            rotate_left
            · simp only [Act.put, List.setIfInBounds_toArray, List.set_cons_zero, List.set_cons_succ, i64_w, i32_w]
              rfl
            refine pure_ (i := 11) (N := (some 87)) (v := ?_) (a' := ?_) #[true, true, true, true, true, true, true, true, true, true, true, true, false, false, false, false, false, false, false] rfl rfl (by kernel_rfl) (fun _ _ _ h => h) (Or.inl ⟨by rfl, ?_⟩) ?_ ?_
            rotate_left
            · intro w'
              go_simp
              with_reducible rfl
            rotate_left
            · simp only [Act.put, List.setIfInBounds_toArray, List.set_cons_zero, List.set_cons_succ, i64_w, i32_w]
              rfl
            refine pure_ (i := 12) (N := (some 88)) (v := ?_) (a' := ?_) #[true, true, true, true, true, true, true, true, true, true, true, true, true, false, false, false, false, false, false] rfl rfl (by kernel_rfl) (fun _ _ _ h => h) (Or.inl ⟨by rfl, ?_⟩) ?_ ?_
            rotate_left
            · intro w'
              go_simp
              with_reducible rfl
            rotate_left
            · simp only [Act.put, List.setIfInBounds_toArray, List.set_cons_zero, List.set_cons_succ, i64_w, i32_w]
              rfl
            refine take_ (i := 13) (N := (some 89)) (v := ?_) (a' := ?_) #[true, true, true, true, true, true, true, true, true, true, true, true, true, true, false, false, false, false, false] rfl rfl (by kernel_rfl) (fun _ _ _ h => h) (Or.inl ⟨by rfl, ?_⟩) hHeld ?_ ?_
            rotate_left
            · rintro w' ⟨s0, s1⟩
              go_simp
              with_reducible rfl
            rotate_left
            · simp only [Act.put, List.setIfInBounds_toArray, List.set_cons_zero, List.set_cons_succ, i64_w, i32_w]
              rfl
            refine pure_ (i := 14) (N := (some 90)) (v := ?_) (a' := ?_) #[true, true, true, true, true, true, true, true, true, true, true, true, true, true, true, false, false, false, false] rfl rfl (by kernel_rfl) (fun _ _ _ h => h) (Or.inl ⟨by rfl, ?_⟩) ?_ ?_
            rotate_left
            · intro w'
              go_simp
              with_reducible rfl
            rotate_left
            · simp only [Act.put, List.setIfInBounds_toArray, List.set_cons_zero, List.set_cons_succ, i64_w, i32_w]
              rfl
            refine pure_ (i := 15) (N := (some 91)) (v := ?_) (a' := ?_) #[true, true, true, true, true, true, true, true, true, true, true, true, true, true, true, true, false, false, false] rfl rfl (by kernel_rfl) (fun _ _ _ h => h) (Or.inl ⟨by rfl, ?_⟩) ?_ ?_
            rotate_left
            · intro w'
              go_simp
              with_reducible rfl
            rotate_left
            · simp only [Act.put, List.setIfInBounds_toArray, List.set_cons_zero, List.set_cons_succ, i64_w, i32_w]
              rfl
            refine pure_ (i := 16) (N := (some 92)) (v := ?_) (a' := ?_) #[true, true, true, true, true, true, true, true, true, true, true, true, true, true, true, true, true, false, false] rfl rfl (by kernel_rfl) (fun _ _ _ h => h) (Or.inl ⟨by rfl, ?_⟩) ?_ ?_
            rotate_left
            · intro w'
              go_simp
              with_reducible rfl
            rotate_left
            · simp only [Act.put, List.setIfInBounds_toArray, List.set_cons_zero, List.set_cons_succ, i64_w, i32_w]
              rfl
            refine pure_ (i := 17) (N := (some 93)) (v := ?_) (a' := ?_) #[true, true, true, true, true, true, true, true, true, true, true, true, true, true, true, true, true, true, false] rfl rfl (by kernel_rfl) (fun _ _ _ h => h) (Or.inl ⟨by rfl, ?_⟩) ?_ ?_
            rotate_left
            · intro w'
              go_simp
              with_reducible rfl
            rotate_left
            · simp only [Act.put, List.setIfInBounds_toArray, List.set_cons_zero, List.set_cons_succ, i64_w, i32_w]
              rfl
            refine last_ (i := 18) (N := none) #[true, true, true, true, true, true, true, true, true, true, true, true, true, true, true, true, true, true, true] rfl rfl (by kernel_rfl) (by decide) (fun K hK => ?_)
            refine skip_ (w1 := ?_) (by rfl) rfl ?_ ?_
            rotate_left
            · go_simp
              rfl
            refine hK.out _ _ ?_
            clear hK K
            refine done_ (by kernel_rfl) ?_
            refine only_n ?_
            clear x3 x4 y4
            go_wp2
            go_roundw
            case rel => exact ⟨(j : Int) - 1, _, by rw [jm], hj0', hj1', ⟨HP3.out.below (below_drew (Below.refl _ _))⟩, ⟨by
              rw [upd_upd]
              exact HPUT.out _ HV1.out⟩⟩
            case measure =>
              show (wrap64 ((j : Int) - 1) + 1).toNat < ((j : Int) + 1).toNat
              rw [jm]
              exact HJS.out
          | false =>
            have HV1 := Aside0.mk (HVAL.out.2 rfl)
            go_upto_region 13 with (fail)
            go_quiet (fail)
            have HP2 := Aside0.mk (HP1.out.below (pw_below_drewN (Below.refl _ _) nq))
            clear v3 v4 g4 HP1
            go_wp2
            go_roundw
            case rel => exact ⟨(j : Int) - 1, _, by rw [jm], hj0', hj1', HP2, ⟨HPUT.out _ HV1.out⟩⟩
            case measure =>
              show (wrap64 ((j : Int) - 1) + 1).toNat < ((j : Int) + 1).toNat
              rw [jm]
              exact HJS.out
        · obtain rfl : j = -1 := by omega
          have HUP := Aside0.mk (show FillOk (bl u) (bl s) ((i : Int) - 1) ((s.size : Int) - 1) f by have := HF.out.up; rwa [bl_length] at this)
          have HIB := Aside0.mk (show -1 ≤ (i : Int) - 1 ∧ (i : Int) - 1 < (u.size : Int) ∧ ((i : Int) - 1 + 1).toNat < ((i : Int) + 1).toNat by omega)
          have im : wrap64 ((i : Int) - 1) = (i : Int) - 1 := by unfold wrap64; omega
          clear hp hj1 hj2
          go_wp2
          go_roundw
          case rel => exact ⟨(i : Int) - 1, f, by first | rfl | rw [im], HIB.out.1, HIB.out.2.1, HP, HUP⟩
          case measure =>
            first
              | exact HIB.out.2.2
              | (show (wrap64 ((i : Int) - 1) + 1).toNat < ((i : Int) + 1).toNat; rw [im]; exact HIB.out.2.2)
    --A)
    · obtain rfl : i = -1 := by omega
      clear hp hi1 hi2
      go_wp2
      obtain ⟨E, hE⟩ : ∃ E : LgG, E = ⟨b1, gx, gx + 1, gy, gy + 1, wr.heap.size, wr.heap.size + 1, wr.heap.size + 1 + 1, wr.heap.size + 1 + 1 + 1⟩ := ⟨_, rfl⟩
      have HEO := Aside0.mk (show E.Ok w.heap.size by
        have h1 := HORD.out
        have h2 := blk_lt HP.out.cm
        subst hE; unfold LgG.Ok; dsimp only; omega)
      obtain ⟨n0, hn0⟩ : ∃ n, lcA (bl u) (bl s) 0 0 = n := ⟨_, rfl⟩
      have HST := Aside0.mk (show LgLoop u s E w R n0 0 0 ⟨#[]⟩ [] (((wr.alloc (.cells #[.string ⟨#[]⟩] 9)).alloc (.cells #[.int .i64 0] 3)).alloc (.cells #[.int .i64 0] 3)) by
        have hb := below_alloc (below_alloc (below_alloc (Below.refl wr.heap.size wr) (.cells #[.string ⟨#[]⟩] 9)) (.cells #[.int .i64 0] 3)) (.cells #[.int .i64 0] 3)
        subst hE
        refine ⟨⟨blk_below HP.out.cx hb, blk_below HP.out.cy hb, ⟨f, blk_below HP.out.cm hb, fun a b ha hb => HF.out.don a b ha hb (.inl (by omega))⟩, blk_alloc (blk_alloc (blk_new _ _) _) _, ?_, ?_, HP.out.wx.below hb, HP.out.wy.below hb⟩, below_step HP.out.bel hb, trivial, Nat.zero_le _, Nat.zero_le _, hn0, by simp [ByteArray.size], by rw [← HRR.out, ← hn0]; simp [bl, lgW]⟩
        · have := blk_new (wr.alloc (.cells #[.string ⟨#[]⟩] 9)) (.cells #[.int .i64 0] 3)
          rw [World.size_alloc] at this
          exact blk_alloc this _
        · have := blk_new ((wr.alloc (.cells #[.string ⟨#[]⟩] 9)).alloc (.cells #[.int .i64 0] 3)) (.cells #[.int .i64 0] 3)
          rwa [World.size_alloc, World.size_alloc] at this)
      have hg : E.gx = gx ∧ E.gy = gy ∧ E.gm = gy + 1 ∧ E.go = wr.heap.size ∧ E.gi = wr.heap.size + 1 ∧ E.gj = wr.heap.size + 1 + 1 := by rw [hE]; exact ⟨rfl, rfl, rfl, rfl, rfl, rfl⟩
      obtain ⟨g1, g2, g3, g4, g5, g6⟩ := hg
      obtain ⟨W0, hW0⟩ : ∃ W0, ((wr.alloc (.cells #[.string ⟨#[]⟩] 9)).alloc (.cells #[.int .i64 0] 3)).alloc (.cells #[.int .i64 0] 3) = W0 := ⟨_, rfl⟩
      rw [hW0] at HST ⊢
      clear hW0 hE HF HP HRR HORD hn0
      refine act_named (fun A hA => ?_)
      refine wp_loop_ghost_k (fun n a wr => ∃ (i j : Nat) (o : ByteArray) (ds : List Deferred), ∃ U : Array Value, Aside0 (LgLoop u s E w R n i j o ds wr) ∧ a = { tmps := #[.string u, .string s, sl U 2, sl U 3, sl U 4, sl U 5, .pointer (some ⟨E.gx, 0, none⟩), sl U 7, .pointer (some ⟨E.gy, 0, none⟩), sl U 9, .pointer (some ⟨E.gm, 0, none⟩), sl U 11, sl U 12, .pointer (some ⟨E.go, 0, none⟩), .pointer (some ⟨E.gi, 0, none⟩), .pointer (some ⟨E.gj, 0, none⟩), sl U 16, sl U 17, sl U 18, sl U 19, sl U 20, sl U 21, sl U 22, sl U 23, sl U 24, sl U 25, sl U 26, sl U 27, sl U 28, sl U 29, sl U 30, sl U 31, sl U 32, sl U 33, sl U 34, sl U 35, sl U 36, sl U 37, sl U 38, sl U 39, sl U 40, sl U 41, sl U 42, sl U 43, sl U 44, sl U 45, sl U 46, sl U 47, sl U 48, sl U 49, sl U 50, sl U 51, sl U 52, sl U 53, sl U 54, sl U 55, sl U 56, sl U 57, sl U 58, sl U 59, sl U 60, sl U 61, sl U 62, sl U 63, sl U 64, sl U 65, sl U 66, sl U 67, sl U 68, sl U 69, sl U 70, sl U 71, sl U 72, sl U 73, sl U 74, sl U 75, sl U 76, sl U 77, sl U 78, sl U 79, sl U 80, sl U 81, sl U 82, sl U 83, sl U 84, sl U 85, sl U 86, sl U 87, sl U 88, sl U 89, sl U 90, sl U 91, sl U 92, sl U 93, sl U 94, sl U 95, sl U 96, sl U 97, sl U 98, sl U 99, sl U 100, sl U 101, sl U 102, sl U 103, sl U 104, sl U 105, sl U 106, sl U 107, sl U 108, sl U 109, sl U 110, sl U 111, sl U 112, sl U 113, sl U 114, sl U 115, sl U 116, sl U 117, sl U 118, sl U 119, sl U 120, sl U 121, sl U 122, sl U 123, sl U 124, sl U 125, sl U 126, sl U 127, sl U 128, sl U 129, sl U 130, sl U 131, sl U 132, sl U 133, sl U 134, sl U 135, sl U 136, sl U 137, sl U 138, sl U 139, sl U 140], defers := ds }) n0 ?_ ?_
      · refine ⟨0, 0, ⟨#[]⟩, [], ex_act HST ?_⟩
        rw [hA, g1, g2, g3, g4, g5, g6]
        rfl
      clear HST g1 g2 g3 g4 g5 g6 hA A n0 W0 wr
      intro n a wq hI J K hJ hK
      obtain ⟨i, j, o, ds, U, HI, rfl⟩ := hI
      dsimp only
      have HIU := Aside0.mk (show i ≤ u.size from HI.out.hi)
      have HJS := Aside0.mk (show j ≤ s.size from HI.out.hj)
      have iI : (i : Int) < 61 := by have := HU60.out; have := HIU.out; omega
      have jI : (j : Int) < 61 := by have := HS60.out; have := HJS.out; omega
      have iN : i < 61 := by omega
      have jN : j < 61 := by omega
      have a1 : wq.cell? ⟨E.gi, 0, none⟩ = some (.int .i64 i) := (blk_cell HI.out.at_.ci 0).trans rfl
      have a2 : wq.cell? ⟨E.gj, 0, none⟩ = some (.int .i64 j) := (blk_cell HI.out.at_.cj 0).trans rfl
      have a3 : wq.cell? ⟨E.gm, i * 61 + j, none⟩ = some (.int .i64 (n : Int)) := by rw [← HI.out.hn]; exact HI.out.at_.tab i j iN jN
      have c2 : wq.cell? ⟨E.go, 0, none⟩ = some (.string o) := (blk_cell HI.out.at_.co 0).trans rfl
      have i0 : (0 : Int) ≤ (i : Int) := by omega
      have j0 : (0 : Int) ≤ (j : Int) := by omega
      cases n with
      | zero =>
        go_upto_region 17 with (fail)
        go_quiet (fail)
        go_wp2
        refine leaves_marks ds _ (HI.out.mks.below (pw_below_drewN (Below.refl _ _) _)) (fun W' hs hc hb => ⟨.tuple #[.string o, .int .i64 0], by simp [results, Try.results39, go_sem], o, ?_, rfl, (below_step HI.out.bel (pw_below_drewN (Below.refl _ _) _)).trans hb⟩) (below_step HI.out.bel (pw_below_drewN (Below.refl _ _) _)).size
        have := HI.out.eq
        rwa [show lgN (bl u) (bl s) 0 i j = [] from rfl, List.append_nil] at this
      | succ n =>
        go_upto_region 17 with (fail)
        go_quiet (fail)
        go_wp2_with (go_at_call 52; (with_reducible refine (alphabet_calls 4 _).mono ?_); rintro e w7 ⟨rfl, rfl⟩)
        have HAQ := Aside0.mk (HI.out.at_.below (pw_below_drewN (Below.refl wq.heap.size wq) nq))
        have HBQ := Aside0.mk (below_step HI.out.bel (pw_below_drewN (Below.refl wq.heap.size wq) nq))
        have HMQ := Aside0.mk (HI.out.mks.below (pw_below_drewN (Below.refl wq.heap.size wq) nq))
        obtain ⟨wv, hwv⟩ : ∃ wv, wq.drewN nq = wv := ⟨_, rfl⟩
        have hsz : wq.heap.size = wv.heap.size := by rw [← hwv]; rfl
        rw [hwv] at HAQ HBQ HMQ ⊢
        simp only [hsz]
        clear a1 a2 a3 c2 hwv hsz
        obtain ⟨Ws, hWs⟩ : ∃ Ws, wv.alloc (.cells #[.int .i64 4] 3) = Ws := ⟨_, rfl⟩
        have hRI : LgR u s E w Ws.heap.size i j o ds 0 Ws := by
          subst hWs
          have hb := below_alloc (Below.refl wv.heap.size wv) (.cells #[.int .i64 4] 3)
          exact ⟨HAQ.out.below hb, by omega, below_step HBQ.out hb, HMQ.out.below hb, fun D hD => by have := blk_lt (HMQ.out.lt hD); simp; omega⟩
        have hbx : Ws.heap[wv.heap.size]? = some (.cells #[.int .i64 4] 3 (0, 0)) := by rw [← hWs]; exact blk_new _ _
        rw [hWs]
        have HRI := Aside0.mk hRI
        have HBX := Aside0.mk hbx
        have HT := Aside0.mk (show w.heap.size ≤ Ws.heap.size from hRI.bel.size)
        clear hWs hRI hbx
        refine (wpIn_wide (n := 3)).1 ?_
        refine wpIn_rangeFunc_J (F := Fence.wide) rfl (by decide) (gf := 70) (lb := #[.pointer (some ⟨wv.heap.size, 0, none⟩)]) rfl trivial (enters_of Try.func70 (by kernel_rfl) rfl) (alphabet_seq 4 wv.heap.size Ws (by omega) HBX.out) (fun _ => rfl)
          (fun c W => LgR u s E w Ws.heap.size i j o ds c W) (fun e c W => e = .exit 6 ∧ LgX u s E w Ws.heap.size i j o ds c W) (fun c W l ob ob' hl ho hc h => h.put HT.out hl ho hc ob') (fun e c W l ob ob' hl ho hc h => ⟨h.1, h.2.put HT.out hl ho hc ob'⟩) ?h0 ?a1 ?assign ?body ?done ?stop
        case h0 => exact fun ob ob' => HRI.out.below (below_alloc (below_alloc (Below.refl _ _) _) _)
        case assign =>
          intro l x W K hK
          gi_wp2
          exact hK
        case body =>
          intro l c W hl hc hI
          have hat := hI.at_
          have HIR := Aside0.mk hI
          have HAT := Aside0.mk hat
          have HC := Aside0.mk hc
          have t1 : W.cell? ⟨E.gx, 0, none⟩ = some (.pointer (some ⟨E.b1, 0, none⟩)) := (blk_cell hat.cx 0).trans rfl
          have t2 : W.cell? ⟨E.gi, 0, none⟩ = some (.int .i64 i) := (blk_cell hat.ci 0).trans rfl
          obtain ⟨p, hp⟩ : ∃ q, nx (bl u) i (97 + c) = q := ⟨_, rfl⟩
          obtain ⟨q, hq⟩ : ∃ q, nx (bl s) j (97 + c) = q := ⟨_, rfl⟩
          obtain ⟨pb, hpb⟩ : ∃ b, decide (p < u.size) = b := ⟨_, rfl⟩
          obtain ⟨qb, hqb⟩ : ∃ b, decide (q < s.size) = b := ⟨_, rfl⟩
          obtain ⟨z, hz⟩ : ∃ z, lcA (bl u) (bl s) (p + 1) (q + 1) = z := ⟨_, rfl⟩
          obtain ⟨eb, heb⟩ : ∃ b, ((1 + (z : Int)) == ((n : Int) + 1)) = b := ⟨_, rfl⟩
          have zI : (z : Int) ≤ 60 := by have := lcA_le (bl u) (bl s) (p + 1) (q + 1); rw [hz, bl_length] at this; have := HU60.out; omega
          have zI0 : (0 : Int) ≤ (z : Int) := by omega
          have HGD := Aside0.mk (show gd (bl u) (bl s) i j c = (pb && qb && eb) by
            unfold gd
            rw [hp, hq, bl_length, bl_length, hpb, hqb, hz, HI.out.hn, ← heb]
            congr 1
            rw [Bool.eq_iff_iff, decide_eq_true_iff, beq_iff_eq]
            omega)
          have HPQ := Aside0.mk (show nx (bl u) i (97 + c) = p ∧ nx (bl s) j (97 + c) = q from ⟨hp, hq⟩)
          have AF1 := Aside0.mk (fun (m' : Nat) => after_in l m' W E.b1 u hat.wx HU60.out i c p pb HIU.out hc hp hpb)
          have AF2 := Aside0.mk (fun (m' : Nat) (W' : World) (hb : Below W.heap.size W W') => after_in l m' W' E.b2 s (hat.wy.below hb) HS60.out j c q qb HJS.out hc hq hqb)
          have HTAB := Aside0.mk (show pb = true → qb = true → ((p : Int) + 1 < 61 ∧ (q : Int) + 1 < 61) ∧ p + 1 < 61 ∧ q + 1 < 61 from fun h1 h2 => by
            have e1 : p < u.size := of_decide_eq_true (hpb.trans h1)
            have e2 : q < s.size := of_decide_eq_true (hqb.trans h2)
            have := HU60.out
            have := HS60.out
            omega)
          have HZ := Aside0.mk hz
          have hc4 : (c : Int) < 4 := by omega
          have hc0 : (0 : Int) ≤ (c : Int) := by omega
          clear hI hat hc hl hp hq hpb hqb hz
          gi_wp2_with (first | (refine ⟨trivial, ?_⟩; gi_at_call 57; (with_reducible refine (AF1.out _).mono ?_); rintro e wa ⟨rfl, HDR⟩; have HBA := Aside0.mk HDR.below; have t3 : wa.cell? ⟨E.gy, 0, none⟩ = some (.pointer (some ⟨E.b2, 0, none⟩)) := (blk_cell (blk_below HAT.out.cy HDR.below) 0).trans rfl; have t4 : wa.cell? ⟨E.gj, 0, none⟩ = some (.int .i64 j) := (blk_cell (blk_below HAT.out.cj HDR.below) 0).trans rfl; clear HDR) | (refine ⟨trivial, ?_⟩; gi_at_call 57; (with_reducible refine (AF2.out _ _ HBA.out).mono ?_); rintro e wb ⟨rfl, HDR⟩; have HBB := Aside0.mk (below_step HBA.out HDR.below); clear HDR))
          have HBW := Aside0.mk (HAT.out.below HBB.out)
          have x2 : wb.cell? ⟨E.gi, 0, none⟩ = some (.int .i64 i) := (blk_cell HBW.out.ci 0).trans rfl
          have x3 : wb.cell? ⟨E.gj, 0, none⟩ = some (.int .i64 j) := (blk_cell HBW.out.cj 0).trans rfl
          have x5 : wb.cell? ⟨E.gm, i * 61 + j, none⟩ = some (.int .i64 ((n : Int) + 1)) := by
            have := HBW.out.tab i j iN jN
            rw [HI.out.hn] at this
            exact this
          clear t1 t2 t3 t4
          cases pb with
          | false =>
            refine start_in (m := 18) (S := fun w' => w'.cell? ⟨E.gi, 0, none⟩ = some (.int .i64 i) ∧ w'.cell? ⟨E.gj, 0, none⟩ = some (.int .i64 j) ∧ w'.cell? ⟨E.gm, i * 61 + j, none⟩ = some (.int .i64 ((n : Int) + 1))) (ds := []) #[false, false, false, false, false, false, false, false, false, false, false, false, false, false, false, false, false, false] (by kernel_rfl) rfl rfl ⟨x2, x3, x5⟩ (by kernel_rfl) (by rintro ⟨a_, w_, h_⟩; exact h_) (fun hHeld => ?_)
            refine pure_ (i := 0) (N := (some 117)) (v := ?_) (a' := ?_) #[true, false, false, false, false, false, false, false, false, false, false, false, false, false, false, false, false, false] rfl rfl (by kernel_rfl) (fun _ _ _ h => h) (Or.inl ⟨by rfl, ?_⟩) ?_ ?_
            rotate_left
            · intro w'
              go_simp
              with_reducible rfl
            rotate_left
            · simp only [Act.put, List.setIfInBounds_toArray, List.set_cons_zero, List.set_cons_succ, i64_w, i32_w]
              rfl
            refine pure_ (i := 1) (N := (some 118)) (v := ?_) (a' := ?_) #[true, true, false, false, false, false, false, false, false, false, false, false, false, false, false, false, false, false] rfl rfl (by kernel_rfl) (fun _ _ _ h => h) (Or.inl ⟨by rfl, ?_⟩) ?_ ?_
            rotate_left
            · intro w'
              go_simp
              with_reducible rfl
            rotate_left
            · simp only [Act.put, List.setIfInBounds_toArray, List.set_cons_zero, List.set_cons_succ, i64_w, i32_w]
              rfl
            refine pure_ (i := 2) (N := (some 119)) (v := undef) (a' := ?_) #[true, true, true, false, false, false, false, false, false, false, false, false, false, false, false, false, false, false] rfl rfl (by kernel_rfl) (fun _ _ _ h => h) (Or.inr ⟨by rfl, rfl⟩) ?_ ?_
            rotate_left
            · simp only [Act.put, List.setIfInBounds_toArray, List.set_cons_zero, List.set_cons_succ, i64_w, i32_w]
              rfl
            refine pure_ (i := 3) (N := (some 120)) (v := ?_) (a' := ?_) #[true, true, true, true, false, false, false, false, false, false, false, false, false, false, false, false, false, false] rfl rfl (by kernel_rfl) (fun _ _ _ h => h) (Or.inl ⟨by rfl, ?_⟩) ?_ ?_
            rotate_left
            · intro w'
              go_simp
              with_reducible rfl
            rotate_left
            · simp only [Act.put, List.setIfInBounds_toArray, List.set_cons_zero, List.set_cons_succ, i64_w, i32_w]
              rfl
            refine pure_ (i := 4) (N := (some 121)) (v := ?_) (a' := ?_) #[true, true, true, true, true, false, false, false, false, false, false, false, false, false, false, false, false, false] rfl rfl (by kernel_rfl) (fun _ _ _ h => h) (Or.inl ⟨by rfl, ?_⟩) ?_ ?_
            rotate_left
            · intro w'
              go_simp
              with_reducible rfl
            rotate_left
            · simp only [Act.put, List.setIfInBounds_toArray, List.set_cons_zero, List.set_cons_succ, i64_w, i32_w]
              rfl
            refine pure_ (i := 5) (N := (some 122)) (v := undef) (a' := ?_) #[true, true, true, true, true, true, false, false, false, false, false, false, false, false, false, false, false, false] rfl rfl (by kernel_rfl) (fun _ _ _ h => h) (Or.inr ⟨by rfl, rfl⟩) ?_ ?_
            rotate_left
            · simp only [Act.put, List.setIfInBounds_toArray, List.set_cons_zero, List.set_cons_succ, i64_w, i32_w]
              rfl
            refine pure_ (i := 6) (N := (some 123)) (v := undef) (a' := ?_) #[true, true, true, true, true, true, true, false, false, false, false, false, false, false, false, false, false, false] rfl rfl (by kernel_rfl) (fun _ _ _ h => h) (Or.inr ⟨by rfl, rfl⟩) ?_ ?_
            rotate_left
            · simp only [Act.put, List.setIfInBounds_toArray, List.set_cons_zero, List.set_cons_succ, i64_w, i32_w]
              rfl
            refine pure_ (i := 7) (N := (some 124)) (v := undef) (a' := ?_) #[true, true, true, true, true, true, true, true, false, false, false, false, false, false, false, false, false, false] rfl rfl (by kernel_rfl) (fun _ _ _ h => h) (Or.inr ⟨by rfl, rfl⟩) ?_ ?_
            rotate_left
            · simp only [Act.put, List.setIfInBounds_toArray, List.set_cons_zero, List.set_cons_succ, i64_w, i32_w]
              rfl
            refine pure_ (i := 8) (N := (some 125)) (v := undef) (a' := ?_) #[true, true, true, true, true, true, true, true, true, false, false, false, false, false, false, false, false, false] rfl rfl (by kernel_rfl) (fun _ _ _ h => h) (Or.inr ⟨by rfl, rfl⟩) ?_ ?_
            rotate_left
            · simp only [Act.put, List.setIfInBounds_toArray, List.set_cons_zero, List.set_cons_succ, i64_w, i32_w]
              rfl
            refine pure_ (i := 9) (N := (some 126)) (v := undef) (a' := ?_) #[true, true, true, true, true, true, true, true, true, true, false, false, false, false, false, false, false, false] rfl rfl (by kernel_rfl) (fun _ _ _ h => h) (Or.inr ⟨by rfl, rfl⟩) ?_ ?_
            rotate_left
            · simp only [Act.put, List.setIfInBounds_toArray, List.set_cons_zero, List.set_cons_succ, i64_w, i32_w]
              rfl
            refine pure_ (i := 10) (N := (some 127)) (v := undef) (a' := ?_) #[true, true, true, true, true, true, true, true, true, true, true, false, false, false, false, false, false, false] rfl rfl (by kernel_rfl) (fun _ _ _ h => h) (Or.inr ⟨by rfl, rfl⟩) ?_ ?_
            rotate_left
            · simp only [Act.put, List.setIfInBounds_toArray, List.set_cons_zero, List.set_cons_succ, i64_w, i32_w]
              rfl
            refine pure_ (i := 11) (N := (some 128)) (v := undef) (a' := ?_) #[true, true, true, true, true, true, true, true, true, true, true, true, false, false, false, false, false, false] rfl rfl (by kernel_rfl) (fun _ _ _ h => h) (Or.inr ⟨by rfl, rfl⟩) ?_ ?_
            rotate_left
            · simp only [Act.put, List.setIfInBounds_toArray, List.set_cons_zero, List.set_cons_succ, i64_w, i32_w]
              rfl
            refine pure_ (i := 12) (N := (some 129)) (v := undef) (a' := ?_) #[true, true, true, true, true, true, true, true, true, true, true, true, true, false, false, false, false, false] rfl rfl (by kernel_rfl) (fun _ _ _ h => h) (Or.inr ⟨by rfl, rfl⟩) ?_ ?_
            rotate_left
            · simp only [Act.put, List.setIfInBounds_toArray, List.set_cons_zero, List.set_cons_succ, i64_w, i32_w]
              rfl
            refine pure_ (i := 13) (N := (some 130)) (v := undef) (a' := ?_) #[true, true, true, true, true, true, true, true, true, true, true, true, true, true, false, false, false, false] rfl rfl (by kernel_rfl) (fun _ _ _ h => h) (Or.inr ⟨by rfl, rfl⟩) ?_ ?_
            rotate_left
            · simp only [Act.put, List.setIfInBounds_toArray, List.set_cons_zero, List.set_cons_succ, i64_w, i32_w]
              rfl
            refine pure_ (i := 14) (N := (some 131)) (v := undef) (a' := ?_) #[true, true, true, true, true, true, true, true, true, true, true, true, true, true, true, false, false, false] rfl rfl (by kernel_rfl) (fun _ _ _ h => h) (Or.inr ⟨by rfl, rfl⟩) ?_ ?_
            rotate_left
            · simp only [Act.put, List.setIfInBounds_toArray, List.set_cons_zero, List.set_cons_succ, i64_w, i32_w]
              rfl
            refine pure_ (i := 15) (N := (some 132)) (v := undef) (a' := ?_) #[true, true, true, true, true, true, true, true, true, true, true, true, true, true, true, true, false, false] rfl rfl (by kernel_rfl) (fun _ _ _ h => h) (Or.inr ⟨by rfl, rfl⟩) ?_ ?_
            rotate_left
            · simp only [Act.put, List.setIfInBounds_toArray, List.set_cons_zero, List.set_cons_succ, i64_w, i32_w]
              rfl
            refine pure_ (i := 16) (N := (some 133)) (v := undef) (a' := ?_) #[true, true, true, true, true, true, true, true, true, true, true, true, true, true, true, true, true, false] rfl rfl (by kernel_rfl) (fun _ _ _ h => h) (Or.inr ⟨by rfl, rfl⟩) ?_ ?_
            rotate_left
            · simp only [Act.put, List.setIfInBounds_toArray, List.set_cons_zero, List.set_cons_succ, i64_w, i32_w]
              rfl
            refine pure_ (i := 17) (N := (some 134)) (v := ?_) (a' := ?_) #[true, true, true, true, true, true, true, true, true, true, true, true, true, true, true, true, true, true] rfl rfl (by kernel_rfl) (fun _ _ _ h => h) (Or.inl ⟨by rfl, ?_⟩) ?_ ?_
            rotate_left
            · intro w'
              go_simp
              with_reducible rfl
            rotate_left
            · simp only [Act.put, List.setIfInBounds_toArray, List.set_cons_zero, List.set_cons_succ, i64_w, i32_w]
              rfl
            refine done_ (by kernel_rfl) ?_
            have HBC := Aside0.mk (below_step HBB.out (below_drew (Below.refl wb.heap.size wb)))
            gi_wp2
            have hr := HIR.out.below HBC.out
            exact ⟨keepsOf HBC.out, hr.at_, fun d hd => by
              by_cases e : d = c
              · subst e; rw [HGD.out]; rfl
              · exact hr.no d (by omega), hr.bel, hr.mks, hr.dl⟩
          | true =>
            cases qb with
            | false =>
              refine start_in (m := 18) (S := fun w' => w'.cell? ⟨E.gi, 0, none⟩ = some (.int .i64 i) ∧ w'.cell? ⟨E.gj, 0, none⟩ = some (.int .i64 j) ∧ w'.cell? ⟨E.gm, i * 61 + j, none⟩ = some (.int .i64 ((n : Int) + 1))) (ds := []) #[false, false, false, false, false, false, false, false, false, false, false, false, false, false, false, false, false, false] (by kernel_rfl) rfl rfl ⟨x2, x3, x5⟩ (by kernel_rfl) (by rintro ⟨a_, w_, h_⟩; exact h_) (fun hHeld => ?_)
              refine pure_ (i := 0) (N := (some 117)) (v := ?_) (a' := ?_) #[true, false, false, false, false, false, false, false, false, false, false, false, false, false, false, false, false, false] rfl rfl (by kernel_rfl) (fun _ _ _ h => h) (Or.inl ⟨by rfl, ?_⟩) ?_ ?_
              rotate_left
              · intro w'
                go_simp
                with_reducible rfl
              rotate_left
              · simp only [Act.put, List.setIfInBounds_toArray, List.set_cons_zero, List.set_cons_succ, i64_w, i32_w]
                rfl
              refine pure_ (i := 1) (N := (some 118)) (v := ?_) (a' := ?_) #[true, true, false, false, false, false, false, false, false, false, false, false, false, false, false, false, false, false] rfl rfl (by kernel_rfl) (fun _ _ _ h => h) (Or.inl ⟨by rfl, ?_⟩) ?_ ?_
              rotate_left
              · intro w'
                go_simp
                with_reducible rfl
              rotate_left
              · simp only [Act.put, List.setIfInBounds_toArray, List.set_cons_zero, List.set_cons_succ, i64_w, i32_w]
                rfl
              refine pure_ (i := 2) (N := (some 119)) (v := ?_) (a' := ?_) #[true, true, true, false, false, false, false, false, false, false, false, false, false, false, false, false, false, false] rfl rfl (by kernel_rfl) (fun _ _ _ h => h) (Or.inl ⟨by rfl, ?_⟩) ?_ ?_
              rotate_left
              · intro w'
                go_simp
                with_reducible rfl
              rotate_left
              · simp only [Act.put, List.setIfInBounds_toArray, List.set_cons_zero, List.set_cons_succ, i64_w, i32_w]
                rfl
              refine pure_ (i := 3) (N := (some 120)) (v := ?_) (a' := ?_) #[true, true, true, true, false, false, false, false, false, false, false, false, false, false, false, false, false, false] rfl rfl (by kernel_rfl) (fun _ _ _ h => h) (Or.inl ⟨by rfl, ?_⟩) ?_ ?_
              rotate_left
              · intro w'
                go_simp
                with_reducible rfl
              rotate_left
              · simp only [Act.put, List.setIfInBounds_toArray, List.set_cons_zero, List.set_cons_succ, i64_w, i32_w]
                rfl
              refine pure_ (i := 4) (N := (some 121)) (v := ?_) (a' := ?_) #[true, true, true, true, true, false, false, false, false, false, false, false, false, false, false, false, false, false] rfl rfl (by kernel_rfl) (fun _ _ _ h => h) (Or.inl ⟨by rfl, ?_⟩) ?_ ?_
              rotate_left
              · intro w'
                go_simp
                with_reducible rfl
              rotate_left
              · simp only [Act.put, List.setIfInBounds_toArray, List.set_cons_zero, List.set_cons_succ, i64_w, i32_w]
                rfl
              refine pure_ (i := 5) (N := (some 122)) (v := undef) (a' := ?_) #[true, true, true, true, true, true, false, false, false, false, false, false, false, false, false, false, false, false] rfl rfl (by kernel_rfl) (fun _ _ _ h => h) (Or.inr ⟨by rfl, rfl⟩) ?_ ?_
              rotate_left
              · simp only [Act.put, List.setIfInBounds_toArray, List.set_cons_zero, List.set_cons_succ, i64_w, i32_w]
                rfl
              refine pure_ (i := 6) (N := (some 123)) (v := undef) (a' := ?_) #[true, true, true, true, true, true, true, false, false, false, false, false, false, false, false, false, false, false] rfl rfl (by kernel_rfl) (fun _ _ _ h => h) (Or.inr ⟨by rfl, rfl⟩) ?_ ?_
              rotate_left
              · simp only [Act.put, List.setIfInBounds_toArray, List.set_cons_zero, List.set_cons_succ, i64_w, i32_w]
                rfl
              refine pure_ (i := 7) (N := (some 124)) (v := undef) (a' := ?_) #[true, true, true, true, true, true, true, true, false, false, false, false, false, false, false, false, false, false] rfl rfl (by kernel_rfl) (fun _ _ _ h => h) (Or.inr ⟨by rfl, rfl⟩) ?_ ?_
              rotate_left
              · simp only [Act.put, List.setIfInBounds_toArray, List.set_cons_zero, List.set_cons_succ, i64_w, i32_w]
                rfl
              refine pure_ (i := 8) (N := (some 125)) (v := undef) (a' := ?_) #[true, true, true, true, true, true, true, true, true, false, false, false, false, false, false, false, false, false] rfl rfl (by kernel_rfl) (fun _ _ _ h => h) (Or.inr ⟨by rfl, rfl⟩) ?_ ?_
              rotate_left
              · simp only [Act.put, List.setIfInBounds_toArray, List.set_cons_zero, List.set_cons_succ, i64_w, i32_w]
                rfl
              refine pure_ (i := 9) (N := (some 126)) (v := undef) (a' := ?_) #[true, true, true, true, true, true, true, true, true, true, false, false, false, false, false, false, false, false] rfl rfl (by kernel_rfl) (fun _ _ _ h => h) (Or.inr ⟨by rfl, rfl⟩) ?_ ?_
              rotate_left
              · simp only [Act.put, List.setIfInBounds_toArray, List.set_cons_zero, List.set_cons_succ, i64_w, i32_w]
                rfl
              refine pure_ (i := 10) (N := (some 127)) (v := undef) (a' := ?_) #[true, true, true, true, true, true, true, true, true, true, true, false, false, false, false, false, false, false] rfl rfl (by kernel_rfl) (fun _ _ _ h => h) (Or.inr ⟨by rfl, rfl⟩) ?_ ?_
              rotate_left
              · simp only [Act.put, List.setIfInBounds_toArray, List.set_cons_zero, List.set_cons_succ, i64_w, i32_w]
                rfl
              refine pure_ (i := 11) (N := (some 128)) (v := undef) (a' := ?_) #[true, true, true, true, true, true, true, true, true, true, true, true, false, false, false, false, false, false] rfl rfl (by kernel_rfl) (fun _ _ _ h => h) (Or.inr ⟨by rfl, rfl⟩) ?_ ?_
              rotate_left
              · simp only [Act.put, List.setIfInBounds_toArray, List.set_cons_zero, List.set_cons_succ, i64_w, i32_w]
                rfl
              refine pure_ (i := 12) (N := (some 129)) (v := undef) (a' := ?_) #[true, true, true, true, true, true, true, true, true, true, true, true, true, false, false, false, false, false] rfl rfl (by kernel_rfl) (fun _ _ _ h => h) (Or.inr ⟨by rfl, rfl⟩) ?_ ?_
              rotate_left
              · simp only [Act.put, List.setIfInBounds_toArray, List.set_cons_zero, List.set_cons_succ, i64_w, i32_w]
                rfl
              refine pure_ (i := 13) (N := (some 130)) (v := undef) (a' := ?_) #[true, true, true, true, true, true, true, true, true, true, true, true, true, true, false, false, false, false] rfl rfl (by kernel_rfl) (fun _ _ _ h => h) (Or.inr ⟨by rfl, rfl⟩) ?_ ?_
              rotate_left
              · simp only [Act.put, List.setIfInBounds_toArray, List.set_cons_zero, List.set_cons_succ, i64_w, i32_w]
                rfl
              refine pure_ (i := 14) (N := (some 131)) (v := undef) (a' := ?_) #[true, true, true, true, true, true, true, true, true, true, true, true, true, true, true, false, false, false] rfl rfl (by kernel_rfl) (fun _ _ _ h => h) (Or.inr ⟨by rfl, rfl⟩) ?_ ?_
              rotate_left
              · simp only [Act.put, List.setIfInBounds_toArray, List.set_cons_zero, List.set_cons_succ, i64_w, i32_w]
                rfl
              refine pure_ (i := 15) (N := (some 132)) (v := undef) (a' := ?_) #[true, true, true, true, true, true, true, true, true, true, true, true, true, true, true, true, false, false] rfl rfl (by kernel_rfl) (fun _ _ _ h => h) (Or.inr ⟨by rfl, rfl⟩) ?_ ?_
              rotate_left
              · simp only [Act.put, List.setIfInBounds_toArray, List.set_cons_zero, List.set_cons_succ, i64_w, i32_w]
                rfl
              refine pure_ (i := 16) (N := (some 133)) (v := undef) (a' := ?_) #[true, true, true, true, true, true, true, true, true, true, true, true, true, true, true, true, true, false] rfl rfl (by kernel_rfl) (fun _ _ _ h => h) (Or.inr ⟨by rfl, rfl⟩) ?_ ?_
              rotate_left
              · simp only [Act.put, List.setIfInBounds_toArray, List.set_cons_zero, List.set_cons_succ, i64_w, i32_w]
                rfl
              refine pure_ (i := 17) (N := (some 134)) (v := ?_) (a' := ?_) #[true, true, true, true, true, true, true, true, true, true, true, true, true, true, true, true, true, true] rfl rfl (by kernel_rfl) (fun _ _ _ h => h) (Or.inl ⟨by rfl, ?_⟩) ?_ ?_
              rotate_left
              · intro w'
                go_simp
                with_reducible rfl
              rotate_left
              · simp only [Act.put, List.setIfInBounds_toArray, List.set_cons_zero, List.set_cons_succ, i64_w, i32_w]
                rfl
              refine done_ (by kernel_rfl) ?_
              have HBC := Aside0.mk (below_step HBB.out (below_drew (Below.refl wb.heap.size wb)))
              gi_wp2
              have hr := HIR.out.below HBC.out
              exact ⟨keepsOf HBC.out, hr.at_, fun d hd => by
                by_cases e : d = c
                · subst e; rw [HGD.out]; rfl
                · exact hr.no d (by omega), hr.bel, hr.mks, hr.dl⟩
            | true =>
              obtain ⟨⟨p61, q61⟩, pN, qN⟩ := HTAB.out rfl rfl
              have p0 : (0 : Int) ≤ (p : Int) + 1 := by omega
              have q0 : (0 : Int) ≤ (q : Int) + 1 := by omega
              have p8 : ((p : Int) + 1).toNat = p + 1 := by omega
              have q8 : ((q : Int) + 1).toNat = q + 1 := by omega
              have x4 : wb.cell? ⟨E.gm, (p + 1) * 61 + (q + 1), none⟩ = some (.int .i64 (z : Int)) := by rw [← HZ.out]; exact HBW.out.tab (p + 1) (q + 1) pN qN
              have WZ := Aside0.mk (show wrap64 (1 + (z : Int)) = 1 + (z : Int) by unfold wrap64; omega)
              have w2 := WZ.out
              clear pN qN
              cases eb with
              | false =>
                refine start_in (m := 18) (S := fun w' => w'.cell? ⟨E.gi, 0, none⟩ = some (.int .i64 i) ∧ w'.cell? ⟨E.gj, 0, none⟩ = some (.int .i64 j) ∧ w'.cell? ⟨E.gm, i * 61 + j, none⟩ = some (.int .i64 ((n : Int) + 1)) ∧ w'.cell? ⟨E.gm, (p + 1) * 61 + (q + 1), none⟩ = some (.int .i64 (z : Int))) (ds := []) #[false, false, false, false, false, false, false, false, false, false, false, false, false, false, false, false, false, false] (by kernel_rfl) rfl rfl ⟨x2, x3, x5, x4⟩ (by kernel_rfl) (by rintro ⟨a_, w_, h_⟩; exact h_) (fun hHeld => ?_)
                refine pure_ (i := 0) (N := (some 117)) (v := ?_) (a' := ?_) #[true, false, false, false, false, false, false, false, false, false, false, false, false, false, false, false, false, false] rfl rfl (by kernel_rfl) (fun _ _ _ h => h) (Or.inl ⟨by rfl, ?_⟩) ?_ ?_
                rotate_left
                · intro w'
                  go_simp
                  with_reducible rfl
                rotate_left
                · simp only [Act.put, List.setIfInBounds_toArray, List.set_cons_zero, List.set_cons_succ, i64_w, i32_w]
                  rfl
                refine pure_ (i := 1) (N := (some 118)) (v := ?_) (a' := ?_) #[true, true, false, false, false, false, false, false, false, false, false, false, false, false, false, false, false, false] rfl rfl (by kernel_rfl) (fun _ _ _ h => h) (Or.inl ⟨by rfl, ?_⟩) ?_ ?_
                rotate_left
                · intro w'
                  go_simp
                  with_reducible rfl
                rotate_left
                · simp only [Act.put, List.setIfInBounds_toArray, List.set_cons_zero, List.set_cons_succ, i64_w, i32_w]
                  rfl
                refine pure_ (i := 2) (N := (some 119)) (v := ?_) (a' := ?_) #[true, true, true, false, false, false, false, false, false, false, false, false, false, false, false, false, false, false] rfl rfl (by kernel_rfl) (fun _ _ _ h => h) (Or.inl ⟨by rfl, ?_⟩) ?_ ?_
                rotate_left
                · intro w'
                  go_simp
                  with_reducible rfl
                rotate_left
                · simp only [Act.put, List.setIfInBounds_toArray, List.set_cons_zero, List.set_cons_succ, i64_w, i32_w]
                  rfl
                refine pure_ (i := 3) (N := (some 120)) (v := ?_) (a' := ?_) #[true, true, true, true, false, false, false, false, false, false, false, false, false, false, false, false, false, false] rfl rfl (by kernel_rfl) (fun _ _ _ h => h) (Or.inl ⟨by rfl, ?_⟩) ?_ ?_
                rotate_left
                · intro w'
                  go_simp
                  with_reducible rfl
                rotate_left
                · simp only [Act.put, List.setIfInBounds_toArray, List.set_cons_zero, List.set_cons_succ, i64_w, i32_w]
                  rfl
                refine pure_ (i := 4) (N := (some 121)) (v := ?_) (a' := ?_) #[true, true, true, true, true, false, false, false, false, false, false, false, false, false, false, false, false, false] rfl rfl (by kernel_rfl) (fun _ _ _ h => h) (Or.inl ⟨by rfl, ?_⟩) ?_ ?_
                rotate_left
                · intro w'
                  go_simp
                  with_reducible rfl
                rotate_left
                · simp only [Act.put, List.setIfInBounds_toArray, List.set_cons_zero, List.set_cons_succ, i64_w, i32_w]
                  rfl
                refine pure_ (i := 5) (N := (some 122)) (v := ?_) (a' := ?_) #[true, true, true, true, true, true, false, false, false, false, false, false, false, false, false, false, false, false] rfl rfl (by kernel_rfl) (fun _ _ _ h => h) (Or.inl ⟨by rfl, ?_⟩) ?_ ?_
                rotate_left
                · intro w'
                  go_simp
                  with_reducible rfl
                rotate_left
                · simp only [Act.put, List.setIfInBounds_toArray, List.set_cons_zero, List.set_cons_succ, i64_w, i32_w]
                  rfl
                refine pure_ (i := 6) (N := (some 123)) (v := ?_) (a' := ?_) #[true, true, true, true, true, true, true, false, false, false, false, false, false, false, false, false, false, false] rfl rfl (by kernel_rfl) (fun _ _ _ h => h) (Or.inl ⟨by rfl, ?_⟩) ?_ ?_
                rotate_left
                · intro w'
                  go_simp
                  with_reducible rfl
                rotate_left
                · simp only [Act.put, List.setIfInBounds_toArray, List.set_cons_zero, List.set_cons_succ, i64_w, i32_w]
                  rfl
                refine pure_ (i := 7) (N := (some 124)) (v := ?_) (a' := ?_) #[true, true, true, true, true, true, true, true, false, false, false, false, false, false, false, false, false, false] rfl rfl (by kernel_rfl) (fun _ _ _ h => h) (Or.inl ⟨by rfl, ?_⟩) ?_ ?_
                rotate_left
                · intro w'
                  go_simp
                  with_reducible rfl
                rotate_left
                · simp only [Act.put, List.setIfInBounds_toArray, List.set_cons_zero, List.set_cons_succ, i64_w, i32_w]
                  rfl
                refine pure_ (i := 8) (N := (some 125)) (v := ?_) (a' := ?_) #[true, true, true, true, true, true, true, true, true, false, false, false, false, false, false, false, false, false] rfl rfl (by kernel_rfl) (fun _ _ _ h => h) (Or.inl ⟨by rfl, ?_⟩) ?_ ?_
                rotate_left
                · intro w'
                  go_simp
                  with_reducible rfl
                rotate_left
                · simp only [Act.put, List.setIfInBounds_toArray, List.set_cons_zero, List.set_cons_succ, i64_w, i32_w]
                  rfl
                refine take_ (i := 9) (N := (some 126)) (v := ?_) (a' := ?_) #[true, true, true, true, true, true, true, true, true, true, false, false, false, false, false, false, false, false] rfl rfl (by kernel_rfl) (fun _ _ _ h => h) (Or.inl ⟨by rfl, ?_⟩) hHeld ?_ ?_
                rotate_left
                · rintro w' ⟨s0, s1, s2, s3⟩
                  go_simp
                  with_reducible rfl
                rotate_left
                · simp only [Act.put, List.setIfInBounds_toArray, List.set_cons_zero, List.set_cons_succ, i64_w, i32_w]
                  rfl
                refine pure_ (i := 10) (N := (some 127)) (v := ?_) (a' := ?_) #[true, true, true, true, true, true, true, true, true, true, true, false, false, false, false, false, false, false] rfl rfl (by kernel_rfl) (fun _ _ _ h => h) (Or.inl ⟨by rfl, ?_⟩) ?_ ?_
                rotate_left
                · intro w'
                  go_simp
                  with_reducible rfl
                rotate_left
                · simp only [Act.put, List.setIfInBounds_toArray, List.set_cons_zero, List.set_cons_succ, i64_w, i32_w]
                  rfl
                refine take_ (i := 11) (N := (some 128)) (v := ?_) (a' := ?_) #[true, true, true, true, true, true, true, true, true, true, true, true, false, false, false, false, false, false] rfl rfl (by kernel_rfl) (fun _ _ _ h => h) (Or.inl ⟨by rfl, ?_⟩) hHeld ?_ ?_
                rotate_left
                · rintro w' ⟨s0, s1, s2, s3⟩
                  go_simp
                  with_reducible rfl
                rotate_left
                · simp only [Act.put, List.setIfInBounds_toArray, List.set_cons_zero, List.set_cons_succ, i64_w, i32_w]
                  rfl
                refine take_ (i := 12) (N := (some 129)) (v := ?_) (a' := ?_) #[true, true, true, true, true, true, true, true, true, true, true, true, true, false, false, false, false, false] rfl rfl (by kernel_rfl) (fun _ _ _ h => h) (Or.inl ⟨by rfl, ?_⟩) hHeld ?_ ?_
                rotate_left
                · rintro w' ⟨s0, s1, s2, s3⟩
                  go_simp
                  with_reducible rfl
                rotate_left
                · simp only [Act.put, List.setIfInBounds_toArray, List.set_cons_zero, List.set_cons_succ, i64_w, i32_w]
                  rfl
                refine pure_ (i := 13) (N := (some 130)) (v := ?_) (a' := ?_) #[true, true, true, true, true, true, true, true, true, true, true, true, true, true, false, false, false, false] rfl rfl (by kernel_rfl) (fun _ _ _ h => h) (Or.inl ⟨by rfl, ?_⟩) ?_ ?_
                rotate_left
                · intro w'
                  go_simp
                  with_reducible rfl
                rotate_left
                · simp only [Act.put, List.setIfInBounds_toArray, List.set_cons_zero, List.set_cons_succ, i64_w, i32_w]
                  rfl
                refine pure_ (i := 14) (N := (some 131)) (v := ?_) (a' := ?_) #[true, true, true, true, true, true, true, true, true, true, true, true, true, true, true, false, false, false] rfl rfl (by kernel_rfl) (fun _ _ _ h => h) (Or.inl ⟨by rfl, ?_⟩) ?_ ?_
                rotate_left
                · intro w'
                  go_simp
                  with_reducible rfl
                rotate_left
                · simp only [Act.put, List.setIfInBounds_toArray, List.set_cons_zero, List.set_cons_succ, i64_w, i32_w]
                  rfl
                refine take_ (i := 15) (N := (some 132)) (v := ?_) (a' := ?_) #[true, true, true, true, true, true, true, true, true, true, true, true, true, true, true, true, false, false] rfl rfl (by kernel_rfl) (fun _ _ _ h => h) (Or.inl ⟨by rfl, ?_⟩) hHeld ?_ ?_
                rotate_left
                · rintro w' ⟨s0, s1, s2, s3⟩
                  go_simp
                  with_reducible rfl
                rotate_left
                · simp only [Act.put, List.setIfInBounds_toArray, List.set_cons_zero, List.set_cons_succ, i64_w, i32_w]
                  rfl
                refine pure_ (i := 16) (N := (some 133)) (v := ?_) (a' := ?_) #[true, true, true, true, true, true, true, true, true, true, true, true, true, true, true, true, true, false] rfl rfl (by kernel_rfl) (fun _ _ _ h => h) (Or.inl ⟨by rfl, ?_⟩) ?_ ?_
                rotate_left
                · intro w'
                  go_simp
                  with_reducible rfl
                rotate_left
                · simp only [Act.put, List.setIfInBounds_toArray, List.set_cons_zero, List.set_cons_succ, i64_w, i32_w]
                  rfl
                refine pure_ (i := 17) (N := (some 134)) (v := ?_) (a' := ?_) #[true, true, true, true, true, true, true, true, true, true, true, true, true, true, true, true, true, true] rfl rfl (by kernel_rfl) (fun _ _ _ h => h) (Or.inl ⟨by rfl, ?_⟩) ?_ ?_
                rotate_left
                · intro w'
                  go_simp
                  with_reducible rfl
                rotate_left
                · simp only [Act.put, List.setIfInBounds_toArray, List.set_cons_zero, List.set_cons_succ, i64_w, i32_w]
                  rfl
                refine done_ (by kernel_rfl) ?_
                have HBC := Aside0.mk (below_step HBB.out (below_drew (Below.refl wb.heap.size wb)))
                gi_wp2
                have hr := HIR.out.below HBC.out
                exact ⟨keepsOf HBC.out, hr.at_, fun d hd => by
                  by_cases e : d = c
                  · subst e; rw [HGD.out]; rfl
                  · exact hr.no d (by omega), hr.bel, hr.mks, hr.dl⟩
              | true =>
                refine start_in (m := 18) (S := fun w' => w'.cell? ⟨E.gi, 0, none⟩ = some (.int .i64 i) ∧ w'.cell? ⟨E.gj, 0, none⟩ = some (.int .i64 j) ∧ w'.cell? ⟨E.gm, i * 61 + j, none⟩ = some (.int .i64 ((n : Int) + 1)) ∧ w'.cell? ⟨E.gm, (p + 1) * 61 + (q + 1), none⟩ = some (.int .i64 (z : Int))) (ds := []) #[false, false, false, false, false, false, false, false, false, false, false, false, false, false, false, false, false, false] (by kernel_rfl) rfl rfl ⟨x2, x3, x5, x4⟩ (by kernel_rfl) (by rintro ⟨a_, w_, h_⟩; exact h_) (fun hHeld => ?_)
                refine pure_ (i := 0) (N := (some 117)) (v := ?_) (a' := ?_) #[true, false, false, false, false, false, false, false, false, false, false, false, false, false, false, false, false, false] rfl rfl (by kernel_rfl) (fun _ _ _ h => h) (Or.inl ⟨by rfl, ?_⟩) ?_ ?_
                rotate_left
                · intro w'
                  go_simp
                  with_reducible rfl
                rotate_left
                · simp only [Act.put, List.setIfInBounds_toArray, List.set_cons_zero, List.set_cons_succ, i64_w, i32_w]
                  rfl
                refine pure_ (i := 1) (N := (some 118)) (v := ?_) (a' := ?_) #[true, true, false, false, false, false, false, false, false, false, false, false, false, false, false, false, false, false] rfl rfl (by kernel_rfl) (fun _ _ _ h => h) (Or.inl ⟨by rfl, ?_⟩) ?_ ?_
                rotate_left
                · intro w'
                  go_simp
                  with_reducible rfl
                rotate_left
                · simp only [Act.put, List.setIfInBounds_toArray, List.set_cons_zero, List.set_cons_succ, i64_w, i32_w]
                  rfl
                refine pure_ (i := 2) (N := (some 119)) (v := ?_) (a' := ?_) #[true, true, true, false, false, false, false, false, false, false, false, false, false, false, false, false, false, false] rfl rfl (by kernel_rfl) (fun _ _ _ h => h) (Or.inl ⟨by rfl, ?_⟩) ?_ ?_
                rotate_left
                · intro w'
                  go_simp
                  with_reducible rfl
                rotate_left
                · simp only [Act.put, List.setIfInBounds_toArray, List.set_cons_zero, List.set_cons_succ, i64_w, i32_w]
                  rfl
                refine pure_ (i := 3) (N := (some 120)) (v := ?_) (a' := ?_) #[true, true, true, true, false, false, false, false, false, false, false, false, false, false, false, false, false, false] rfl rfl (by kernel_rfl) (fun _ _ _ h => h) (Or.inl ⟨by rfl, ?_⟩) ?_ ?_
                rotate_left
                · intro w'
                  go_simp
                  with_reducible rfl
                rotate_left
                · simp only [Act.put, List.setIfInBounds_toArray, List.set_cons_zero, List.set_cons_succ, i64_w, i32_w]
                  rfl
                refine pure_ (i := 4) (N := (some 121)) (v := ?_) (a' := ?_) #[true, true, true, true, true, false, false, false, false, false, false, false, false, false, false, false, false, false] rfl rfl (by kernel_rfl) (fun _ _ _ h => h) (Or.inl ⟨by rfl, ?_⟩) ?_ ?_
                rotate_left
                · intro w'
                  go_simp
                  with_reducible rfl
                rotate_left
                · simp only [Act.put, List.setIfInBounds_toArray, List.set_cons_zero, List.set_cons_succ, i64_w, i32_w]
                  rfl
                refine pure_ (i := 5) (N := (some 122)) (v := ?_) (a' := ?_) #[true, true, true, true, true, true, false, false, false, false, false, false, false, false, false, false, false, false] rfl rfl (by kernel_rfl) (fun _ _ _ h => h) (Or.inl ⟨by rfl, ?_⟩) ?_ ?_
                rotate_left
                · intro w'
                  go_simp
                  with_reducible rfl
                rotate_left
                · simp only [Act.put, List.setIfInBounds_toArray, List.set_cons_zero, List.set_cons_succ, i64_w, i32_w]
                  rfl
                refine pure_ (i := 6) (N := (some 123)) (v := ?_) (a' := ?_) #[true, true, true, true, true, true, true, false, false, false, false, false, false, false, false, false, false, false] rfl rfl (by kernel_rfl) (fun _ _ _ h => h) (Or.inl ⟨by rfl, ?_⟩) ?_ ?_
                rotate_left
                · intro w'
                  go_simp
                  with_reducible rfl
                rotate_left
                · simp only [Act.put, List.setIfInBounds_toArray, List.set_cons_zero, List.set_cons_succ, i64_w, i32_w]
                  rfl
                refine pure_ (i := 7) (N := (some 124)) (v := ?_) (a' := ?_) #[true, true, true, true, true, true, true, true, false, false, false, false, false, false, false, false, false, false] rfl rfl (by kernel_rfl) (fun _ _ _ h => h) (Or.inl ⟨by rfl, ?_⟩) ?_ ?_
                rotate_left
                · intro w'
                  go_simp
                  with_reducible rfl
                rotate_left
                · simp only [Act.put, List.setIfInBounds_toArray, List.set_cons_zero, List.set_cons_succ, i64_w, i32_w]
                  rfl
                refine pure_ (i := 8) (N := (some 125)) (v := ?_) (a' := ?_) #[true, true, true, true, true, true, true, true, true, false, false, false, false, false, false, false, false, false] rfl rfl (by kernel_rfl) (fun _ _ _ h => h) (Or.inl ⟨by rfl, ?_⟩) ?_ ?_
                rotate_left
                · intro w'
                  go_simp
                  with_reducible rfl
                rotate_left
                · simp only [Act.put, List.setIfInBounds_toArray, List.set_cons_zero, List.set_cons_succ, i64_w, i32_w]
                  rfl
                refine take_ (i := 9) (N := (some 126)) (v := ?_) (a' := ?_) #[true, true, true, true, true, true, true, true, true, true, false, false, false, false, false, false, false, false] rfl rfl (by kernel_rfl) (fun _ _ _ h => h) (Or.inl ⟨by rfl, ?_⟩) hHeld ?_ ?_
                rotate_left
                · rintro w' ⟨s0, s1, s2, s3⟩
                  go_simp
                  with_reducible rfl
                rotate_left
                · simp only [Act.put, List.setIfInBounds_toArray, List.set_cons_zero, List.set_cons_succ, i64_w, i32_w]
                  rfl
                refine pure_ (i := 10) (N := (some 127)) (v := ?_) (a' := ?_) #[true, true, true, true, true, true, true, true, true, true, true, false, false, false, false, false, false, false] rfl rfl (by kernel_rfl) (fun _ _ _ h => h) (Or.inl ⟨by rfl, ?_⟩) ?_ ?_
                rotate_left
                · intro w'
                  go_simp
                  with_reducible rfl
                rotate_left
                · simp only [Act.put, List.setIfInBounds_toArray, List.set_cons_zero, List.set_cons_succ, i64_w, i32_w]
                  rfl
                refine take_ (i := 11) (N := (some 128)) (v := ?_) (a' := ?_) #[true, true, true, true, true, true, true, true, true, true, true, true, false, false, false, false, false, false] rfl rfl (by kernel_rfl) (fun _ _ _ h => h) (Or.inl ⟨by rfl, ?_⟩) hHeld ?_ ?_
                rotate_left
                · rintro w' ⟨s0, s1, s2, s3⟩
                  go_simp
                  with_reducible rfl
                rotate_left
                · simp only [Act.put, List.setIfInBounds_toArray, List.set_cons_zero, List.set_cons_succ, i64_w, i32_w]
                  rfl
                refine take_ (i := 12) (N := (some 129)) (v := ?_) (a' := ?_) #[true, true, true, true, true, true, true, true, true, true, true, true, true, false, false, false, false, false] rfl rfl (by kernel_rfl) (fun _ _ _ h => h) (Or.inl ⟨by rfl, ?_⟩) hHeld ?_ ?_
                rotate_left
                · rintro w' ⟨s0, s1, s2, s3⟩
                  go_simp
                  with_reducible rfl
                rotate_left
                · simp only [Act.put, List.setIfInBounds_toArray, List.set_cons_zero, List.set_cons_succ, i64_w, i32_w]
                  rfl
                refine pure_ (i := 13) (N := (some 130)) (v := ?_) (a' := ?_) #[true, true, true, true, true, true, true, true, true, true, true, true, true, true, false, false, false, false] rfl rfl (by kernel_rfl) (fun _ _ _ h => h) (Or.inl ⟨by rfl, ?_⟩) ?_ ?_
                rotate_left
                · intro w'
                  go_simp
                  with_reducible rfl
                rotate_left
                · simp only [Act.put, List.setIfInBounds_toArray, List.set_cons_zero, List.set_cons_succ, i64_w, i32_w]
                  rfl
                refine pure_ (i := 14) (N := (some 131)) (v := ?_) (a' := ?_) #[true, true, true, true, true, true, true, true, true, true, true, true, true, true, true, false, false, false] rfl rfl (by kernel_rfl) (fun _ _ _ h => h) (Or.inl ⟨by rfl, ?_⟩) ?_ ?_
                rotate_left
                · intro w'
                  go_simp
                  with_reducible rfl
                rotate_left
                · simp only [Act.put, List.setIfInBounds_toArray, List.set_cons_zero, List.set_cons_succ, i64_w, i32_w]
                  rfl
                refine take_ (i := 15) (N := (some 132)) (v := ?_) (a' := ?_) #[true, true, true, true, true, true, true, true, true, true, true, true, true, true, true, true, false, false] rfl rfl (by kernel_rfl) (fun _ _ _ h => h) (Or.inl ⟨by rfl, ?_⟩) hHeld ?_ ?_
                rotate_left
                · rintro w' ⟨s0, s1, s2, s3⟩
                  go_simp
                  with_reducible rfl
                rotate_left
                · simp only [Act.put, List.setIfInBounds_toArray, List.set_cons_zero, List.set_cons_succ, i64_w, i32_w]
                  rfl
                refine pure_ (i := 16) (N := (some 133)) (v := ?_) (a' := ?_) #[true, true, true, true, true, true, true, true, true, true, true, true, true, true, true, true, true, false] rfl rfl (by kernel_rfl) (fun _ _ _ h => h) (Or.inl ⟨by rfl, ?_⟩) ?_ ?_
                rotate_left
                · intro w'
                  go_simp
                  with_reducible rfl
                rotate_left
                · simp only [Act.put, List.setIfInBounds_toArray, List.set_cons_zero, List.set_cons_succ, i64_w, i32_w]
                  rfl
                refine pure_ (i := 17) (N := (some 134)) (v := ?_) (a' := ?_) #[true, true, true, true, true, true, true, true, true, true, true, true, true, true, true, true, true, true] rfl rfl (by kernel_rfl) (fun _ _ _ h => h) (Or.inl ⟨by rfl, ?_⟩) ?_ ?_
                rotate_left
                · intro w'
                  go_simp
                  with_reducible rfl
                rotate_left
                · simp only [Act.put, List.setIfInBounds_toArray, List.set_cons_zero, List.set_cons_succ, i64_w, i32_w]
                  rfl
                refine done_ (by kernel_rfl) ?_
                have HBC := Aside0.mk (below_step HBB.out (below_drew (Below.refl wb.heap.size wb)))
                have HBV := Aside0.mk (HAT.out.below HBC.out)
                obtain ⟨V, hV⟩ : ∃ V, wb.drew = V := ⟨_, rfl⟩
                rw [hV] at HBC HBV ⊢
                clear x2 x3 x4 x5 w2 hV
                have o1 : V.cell? ⟨E.go, 0, none⟩ = some (.string o) := (blk_cell HBV.out.co 0).trans rfl
                have o2 := blk_frozen HBV.out.co 0
                have HA2 := HBV.out.setO HEO.out (o ++ ltr c)
                have a3 : (V.setCell ⟨E.go, 0, none⟩ (.string (o ++ ltr c))).cell? ⟨E.gi, 0, none⟩ = some (.int .i64 i) := (blk_cell HA2.ci 0).trans rfl
                have a4 := blk_frozen HA2.ci 0
                have HA3 := HA2.setI HEO.out ((p : Int) + 1)
                have a5 : ((V.setCell ⟨E.go, 0, none⟩ (.string (o ++ ltr c))).setCell ⟨E.gi, 0, none⟩ (.int .i64 ((p : Int) + 1))).cell? ⟨E.gj, 0, none⟩ = some (.int .i64 j) := (blk_cell HA3.cj 0).trans rfl
                have a6 := blk_frozen HA3.cj 0
                have hsz : o.size + (ltr c).size ≤ 9223372036854775807 := by have := HI.out.ho; have := HU60.out; have := HIU.out; show o.size + 1 ≤ _; omega
                have HX := Aside0.mk (show LgX u s E w Ws.heap.size i j o ds c (((V.setCell ⟨E.go, 0, none⟩ (.string (o ++ ltr c))).setCell ⟨E.gi, 0, none⟩ (.int .i64 ((p : Int) + 1))).setCell ⟨E.gj, 0, none⟩ (.int .i64 ((q : Int) + 1))) from
                  ⟨⟨p, q, HPQ.out.1, HPQ.out.2, HA3.setJ HEO.out _⟩, HIR.out.no, by rw [HGD.out]; rfl, by
                    have h1 := HEO.out
                    unfold LgG.Ok at h1
                    exact (((below_step HIR.out.bel HBC.out).setCell (by show w.heap.size ≤ E.go; omega) _).setCell (by show w.heap.size ≤ E.gi; omega) _).setCell (by show w.heap.size ≤ E.gj; omega) _, by
                    exact (((HIR.out.mks.below HBC.out).keepsOthers (KeepsOthers.setCell _ _ _)).keepsOthers (KeepsOthers.setCell _ _ _)).keepsOthers (KeepsOthers.setCell _ _ _), HIR.out.dl⟩)
                have HKO := Aside0.mk ((((keepsOf HBC.out).trans (KeepsOthers.setCell V ⟨E.go, 0, none⟩ (.string (o ++ ltr c)))).trans (KeepsOthers.setCell _ ⟨E.gi, 0, none⟩ (.int .i64 ((p : Int) + 1)))).trans (KeepsOthers.setCell _ ⟨E.gj, 0, none⟩ (.int .i64 ((q : Int) + 1))))
                clear HA2 HA3
                gi_wp2
                exact ⟨HKO.out, rfl, HX.out⟩
        case done =>
          intro D W hD hI hKd
          exfalso
          obtain ⟨c, h1, h2⟩ := gd_ex (u := bl u) (w := bl s) (i := i) (j := j) (ltr4 ((isW_iff _).1 HU.out).2) (by rw [bl_length]; exact HIU.out) (by rw [bl_length]; exact HJS.out) (by rw [HI.out.hn]; omega)
          rw [hI.no c h1] at h2
          cases h2
        case stop =>
          rintro D e c W hD hc ⟨rfl, hX⟩ hKd
          obtain ⟨p, q, hL⟩ := hX.next hc HI.out.hi HI.out.hj HI.out.hn HI.out.ho HI.out.eq HT.out hD hKd
          have HL := Aside0.mk hL
          clear hX hL hKd hD hc
          gi_wp2
          refine Handed.intro n (Nat.lt_succ_self _) ?_
          go_step
          refine ⟨p + 1, q + 1, o ++ ltr c, { target := .collected D, args := #[] } :: ds, ?_⟩
          exact ex_act HL rfl
end Go.Proofs.Ytagdbadljcongaa.X
end
