-- Written by a program of this session (wip/tools/xprint.py) over the kit's print, for this claim.
import Derived.Test.YtdkncfmlehcjmaaTX0
import Derived.Test.YtdkncfmlehcjmaaTX18
import Derived.Test.YtdkncfmlehcjmaaTX19
import Derived.Test.YtdkncfmlehcjmaaTX20
import Derived.Test.YtdkncfmlehcjmaaTX31
import Derived.Test.YtdkncfmlehcjmaaTX32
namespace Go.Proofs.Ytdkncfmlehcjmaa.X
open Go.RowKit Go.Proofs.YtdkncfmlehcjmaaW.PrintWords Go.Proofs.YtdkncfmlehcjmaaW.PrintLast Go.Proofs.YtdkncfmlehcjmaaW.PrintMore
attribute [local go_sem] max2_int min2_int max_two min_two max_three min_three max_four min_four   -- for this text's walks alone
set_option linter.unusedVariables false
set_option linter.unusedSimpArgs false

/-! ### tickinglaw11_SerialPass: function 6 -/
mutual
def tickinglaw11_SerialPass.j0 : Nat → Int → Int → List Int → List Int → List Int → Bool → Option (Bool)
  | 0, _, _, _, _, _, _ => none
  | k + 1, x1, x2, x7, x8, x10, x41 => if x41 = true then (some false) else (tickinglaw11_SerialPass.l0 k x1 x2 x7 x8 x10 0 0)
def tickinglaw11_SerialPass.l0 : Nat → Int → Int → List Int → List Int → List Int → Int → Int → Option (Bool)
  | 0, _, _, _, _, _, _, _ => none
  | k + 1, x1, x2, x7, x8, x10, x12, x13 => if x13 < (x7.length : Int) then (if 0 ≤ x13 then ((tickingref11_Gcd.f k (rd x7 x13) x1).bind fun t444 => (if t444 > 1 then (if x12 ≥ (x8.length : Int) then (some false) else (if 0 ≤ x12 then (if x12 < (x8.length : Int) then (if (rd x8 x12) = x13 then (tickinglaw11_SerialPass.l0 k x1 x2 x7 x8 x10 (wrap64 (x12 + 1)) (wrap64 (x13 + 1))) else (some false)) else (none)) else (none))) else (tickinglaw11_SerialPass.l0 k x1 x2 x7 x8 x10 x12 (wrap64 (x13 + 1))))) else (none)) else (if x12 = (x8.length : Int) then (tickinglaw11_SerialPass.l1 k x1 x2 x7 x10 0) else (some false))
def tickinglaw11_SerialPass.l1 : Nat → Int → Int → List Int → List Int → Int → Option (Bool)
  | 0, _, _, _, _, _ => none
  | k + 1, x1, x2, x7, x10, x14 => if x14 < (x10.length : Int) then (if 0 ≤ x14 then (if (rd x10 x14) < 0 then (some false) else (if (rd x10 x14) ≥ (x7.length : Int) then (some false) else ((tickinglaw11_passes.f k x7 x1 x2 (rd x10 x14)).bind fun t449 => (if t449 = true then (tickinglaw11_SerialPass.l1 k x1 x2 x7 x10 (wrap64 (x14 + 1))) else (some false))))) else (none)) else ((tickinglaw11_awake.f k).bind fun t450 => (some t450))
end
def tickinglaw11_SerialPass.f (k : Nat) (l0 : List Int) (a1 : Int) (a2 : Int) : Option (Bool) := (tickinglaw11_mod.f a1 96).bind fun t430 => ((tickinglaw11_mod.f a2 4).bind fun t431 => ((tickinglaw11_digits.f k l0 12 (wrap64 (2 + t430))).bind fun t432 => ((serial_Lets.f k t432 (wrap64 (2 + t430)) 0).bind fun bt435 => ((serial_Lets.f k t432 (wrap64 (2 + t430)) t431).bind fun bt439 => (if bt435.2 = 0 then (tickinglaw11_SerialPass.j0 k (wrap64 (2 + t430)) t431 t432 bt435.1 bt439.1 (bt439.2 != 0)) else (tickinglaw11_SerialPass.j0 k (wrap64 (2 + t430)) t431 t432 bt435.1 bt439.1 true))))))
theorem tickinglaw11_SerialPass.mono_l : ∀ k, (∀ y0 y1 y2 y3 y4 y5, LeO (tickinglaw11_SerialPass.j0 k y0 y1 y2 y3 y4 y5) (tickinglaw11_SerialPass.j0 (k + 1) y0 y1 y2 y3 y4 y5)) ∧ (∀ y0 y1 y2 y3 y4 y5 y6, LeO (tickinglaw11_SerialPass.l0 k y0 y1 y2 y3 y4 y5 y6) (tickinglaw11_SerialPass.l0 (k + 1) y0 y1 y2 y3 y4 y5 y6)) ∧ (∀ y0 y1 y2 y3 y4, LeO (tickinglaw11_SerialPass.l1 k y0 y1 y2 y3 y4) (tickinglaw11_SerialPass.l1 (k + 1) y0 y1 y2 y3 y4))
  | 0 => ⟨fun _ _ _ _ _ _ r h => by simp [tickinglaw11_SerialPass.j0] at h, fun _ _ _ _ _ _ _ r h => by simp [tickinglaw11_SerialPass.l0] at h, fun _ _ _ _ _ r h => by simp [tickinglaw11_SerialPass.l1] at h⟩
  | k + 1 => by
    obtain ⟨ih0, ih1, ih2⟩ := tickinglaw11_SerialPass.mono_l k
    refine ⟨?_, ?_, ?_⟩
    · intro y0 y1 y2 y3 y4 y5
      unfold tickinglaw11_SerialPass.j0
      repeat' first
      | (with_reducible exact ih0 _ _ _ _ _ _)
      | (with_reducible exact ih1 _ _ _ _ _ _ _)
      | (with_reducible exact ih2 _ _ _ _ _)
      | (with_reducible exact serial_Lets.mono _ _ _ _)
      | (with_reducible exact tickinglaw11_awake.mono _)
      | (with_reducible exact tickinglaw11_digits.mono _ _ _ _)
      | (with_reducible exact tickinglaw11_passes.mono _ _ _ _ _)
      | (with_reducible exact tickingref11_Gcd.mono _ _ _)
      | (with_reducible exact LeO.refl _)
      | (with_reducible exact LeO.none _)
      | (with_reducible refine LeO.ite ?_ ?_)
      | (with_reducible refine LeO.bind ?_ (fun _ => ?_))
      | exact ih0 _ _ _ _ _ _
      | exact ih1 _ _ _ _ _ _ _
      | exact ih2 _ _ _ _ _
      | exact serial_Lets.mono _ _ _ _
      | exact tickinglaw11_awake.mono _
      | exact tickinglaw11_digits.mono _ _ _ _
      | exact tickinglaw11_passes.mono _ _ _ _ _
      | exact tickingref11_Gcd.mono _ _ _
      | exact LeO.none _
      | refine LeO.ite ?_ ?_
      | refine LeO.bind ?_ (fun _ => ?_)
    · intro y0 y1 y2 y3 y4 y5 y6
      unfold tickinglaw11_SerialPass.l0
      repeat' first
      | (with_reducible exact ih0 _ _ _ _ _ _)
      | (with_reducible exact ih1 _ _ _ _ _ _ _)
      | (with_reducible exact ih2 _ _ _ _ _)
      | (with_reducible exact serial_Lets.mono _ _ _ _)
      | (with_reducible exact tickinglaw11_awake.mono _)
      | (with_reducible exact tickinglaw11_digits.mono _ _ _ _)
      | (with_reducible exact tickinglaw11_passes.mono _ _ _ _ _)
      | (with_reducible exact tickingref11_Gcd.mono _ _ _)
      | (with_reducible exact LeO.refl _)
      | (with_reducible exact LeO.none _)
      | (with_reducible refine LeO.ite ?_ ?_)
      | (with_reducible refine LeO.bind ?_ (fun _ => ?_))
      | exact ih0 _ _ _ _ _ _
      | exact ih1 _ _ _ _ _ _ _
      | exact ih2 _ _ _ _ _
      | exact serial_Lets.mono _ _ _ _
      | exact tickinglaw11_awake.mono _
      | exact tickinglaw11_digits.mono _ _ _ _
      | exact tickinglaw11_passes.mono _ _ _ _ _
      | exact tickingref11_Gcd.mono _ _ _
      | exact LeO.none _
      | refine LeO.ite ?_ ?_
      | refine LeO.bind ?_ (fun _ => ?_)
    · intro y0 y1 y2 y3 y4
      unfold tickinglaw11_SerialPass.l1
      repeat' first
      | (with_reducible exact ih0 _ _ _ _ _ _)
      | (with_reducible exact ih1 _ _ _ _ _ _ _)
      | (with_reducible exact ih2 _ _ _ _ _)
      | (with_reducible exact serial_Lets.mono _ _ _ _)
      | (with_reducible exact tickinglaw11_awake.mono _)
      | (with_reducible exact tickinglaw11_digits.mono _ _ _ _)
      | (with_reducible exact tickinglaw11_passes.mono _ _ _ _ _)
      | (with_reducible exact tickingref11_Gcd.mono _ _ _)
      | (with_reducible exact LeO.refl _)
      | (with_reducible exact LeO.none _)
      | (with_reducible refine LeO.ite ?_ ?_)
      | (with_reducible refine LeO.bind ?_ (fun _ => ?_))
      | exact ih0 _ _ _ _ _ _
      | exact ih1 _ _ _ _ _ _ _
      | exact ih2 _ _ _ _ _
      | exact serial_Lets.mono _ _ _ _
      | exact tickinglaw11_awake.mono _
      | exact tickinglaw11_digits.mono _ _ _ _
      | exact tickinglaw11_passes.mono _ _ _ _ _
      | exact tickingref11_Gcd.mono _ _ _
      | exact LeO.none _
      | refine LeO.ite ?_ ?_
      | refine LeO.bind ?_ (fun _ => ?_)
theorem tickinglaw11_SerialPass.mono : ∀ a0 a1 a2 k, LeO (tickinglaw11_SerialPass.f k a0 a1 a2) (tickinglaw11_SerialPass.f (k + 1) a0 a1 a2) := by
  intro a0 a1 a2 k
  obtain ⟨ih0, ih1, ih2⟩ := tickinglaw11_SerialPass.mono_l k
  unfold tickinglaw11_SerialPass.f
  repeat' first
      | (with_reducible exact ih0 _ _ _ _ _ _)
      | (with_reducible exact ih1 _ _ _ _ _ _ _)
      | (with_reducible exact ih2 _ _ _ _ _)
      | (with_reducible exact serial_Lets.mono _ _ _ _)
      | (with_reducible exact tickinglaw11_awake.mono _)
      | (with_reducible exact tickinglaw11_digits.mono _ _ _ _)
      | (with_reducible exact tickinglaw11_passes.mono _ _ _ _ _)
      | (with_reducible exact tickingref11_Gcd.mono _ _ _)
      | (with_reducible exact LeO.refl _)
      | (with_reducible exact LeO.none _)
      | (with_reducible refine LeO.ite ?_ ?_)
      | (with_reducible refine LeO.bind ?_ (fun _ => ?_))
      | exact ih0 _ _ _ _ _ _
      | exact ih1 _ _ _ _ _ _ _
      | exact ih2 _ _ _ _ _
      | exact serial_Lets.mono _ _ _ _
      | exact tickinglaw11_awake.mono _
      | exact tickinglaw11_digits.mono _ _ _ _
      | exact tickinglaw11_passes.mono _ _ _ _ _
      | exact tickingref11_Gcd.mono _ _ _
      | exact LeO.none _
      | refine LeO.ite ?_ ?_
      | refine LeO.bind ?_ (fun _ => ?_)
set_option maxHeartbeats 8000000 in
set_option maxRecDepth 100000 in
theorem tickinglaw11_SerialPass.calls (k : Nat) (A0 : Option Addr) (c0 : Nat) (l0 : List Int) (a1 : Int) (a2 : Int) (r : Bool) (w : World) (hr0 : Kd.C (Kd.int .i64) w A0 l0.length l0) (hc0 : l0.length ≤ c0) (h : tickinglaw11_SerialPass.f k l0 a1 a2 = some r) :
    Calls Try.prog 6 #[.slice A0 l0.length c0, .int .i64 a1, .int .i64 a2] w fun e w' => e = .returned (.bool r) ∧ Below w.heap.size w w' := by
  have HR0 := Aside0.mk hr0
  have HC0 := Aside0.mk hc0
  clear hr0 hc0
  have HB := Aside0.mk (Below.refl w.heap.size w)
  have H : ((tickinglaw11_mod.f a1 96).bind fun t430 => ((tickinglaw11_mod.f a2 4).bind fun t431 => ((tickinglaw11_digits.f k l0 12 (wrap64 (2 + t430))).bind fun t432 => ((serial_Lets.f k t432 (wrap64 (2 + t430)) 0).bind fun bt435 => ((serial_Lets.f k t432 (wrap64 (2 + t430)) t431).bind fun bt439 => (if bt435.2 = 0 then (tickinglaw11_SerialPass.j0 k (wrap64 (2 + t430)) t431 t432 bt435.1 bt439.1 (bt439.2 != 0)) else (tickinglaw11_SerialPass.j0 k (wrap64 (2 + t430)) t431 t432 bt435.1 bt439.1 true))))))) = some r := h
  clear h
  replace H := Option.bind_eq_some_iff.mp H
  obtain ⟨t430, A40, H⟩ := H
  replace H : ((tickinglaw11_mod.f a2 4).bind fun t431 => ((tickinglaw11_digits.f k l0 12 (wrap64 (2 + t430))).bind fun t432 => ((serial_Lets.f k t432 (wrap64 (2 + t430)) 0).bind fun bt435 => ((serial_Lets.f k t432 (wrap64 (2 + t430)) t431).bind fun bt439 => (if bt435.2 = 0 then (tickinglaw11_SerialPass.j0 k (wrap64 (2 + t430)) t431 t432 bt435.1 bt439.1 (bt439.2 != 0)) else (tickinglaw11_SerialPass.j0 k (wrap64 (2 + t430)) t431 t432 bt435.1 bt439.1 true)))))) = some r := H
  have A4 := Aside0.mk A40
  clear A40
  replace H := Option.bind_eq_some_iff.mp H
  obtain ⟨t431, A50, H⟩ := H
  replace H : ((tickinglaw11_digits.f k l0 12 (wrap64 (2 + t430))).bind fun t432 => ((serial_Lets.f k t432 (wrap64 (2 + t430)) 0).bind fun bt435 => ((serial_Lets.f k t432 (wrap64 (2 + t430)) t431).bind fun bt439 => (if bt435.2 = 0 then (tickinglaw11_SerialPass.j0 k (wrap64 (2 + t430)) t431 t432 bt435.1 bt439.1 (bt439.2 != 0)) else (tickinglaw11_SerialPass.j0 k (wrap64 (2 + t430)) t431 t432 bt435.1 bt439.1 true))))) = some r := H
  have A5 := Aside0.mk A50
  clear A50
  replace H := Option.bind_eq_some_iff.mp H
  obtain ⟨t432, A60, H⟩ := H
  replace H : ((serial_Lets.f k t432 (wrap64 (2 + t430)) 0).bind fun bt435 => ((serial_Lets.f k t432 (wrap64 (2 + t430)) t431).bind fun bt439 => (if bt435.2 = 0 then (tickinglaw11_SerialPass.j0 k (wrap64 (2 + t430)) t431 t432 bt435.1 bt439.1 (bt439.2 != 0)) else (tickinglaw11_SerialPass.j0 k (wrap64 (2 + t430)) t431 t432 bt435.1 bt439.1 true)))) = some r := H
  have A6 := Aside0.mk A60
  clear A60
  replace H := Option.bind_eq_some_iff.mp H
  obtain ⟨⟨t435, t436⟩, A70, H⟩ := H
  replace H : ((serial_Lets.f k t432 (wrap64 (2 + t430)) t431).bind fun bt439 => (if t436 = 0 then (tickinglaw11_SerialPass.j0 k (wrap64 (2 + t430)) t431 t432 t435 bt439.1 (bt439.2 != 0)) else (tickinglaw11_SerialPass.j0 k (wrap64 (2 + t430)) t431 t432 t435 bt439.1 true))) = some r := H
  have A7 := Aside0.mk A70
  clear A70
  replace H := Option.bind_eq_some_iff.mp H
  obtain ⟨⟨t439, t440⟩, A80, H⟩ := H
  replace H : (if t436 = 0 then (tickinglaw11_SerialPass.j0 k (wrap64 (2 + t430)) t431 t432 t435 t439 (t440 != 0)) else (tickinglaw11_SerialPass.j0 k (wrap64 (2 + t430)) t431 t432 t435 t439 true)) = some r := H
  have A8 := Aside0.mk A80
  clear A80
  have HC9 := Aside0.mk H
  clear H
  go_enter Try.func6, Try.ntmps6
  go_upto_region 6 with (first | ((with_reducible refine gate_callee (f := 19) rfl ?_); refine goesL_ (some 16) rfl rfl Try.func19 (by kernel_rfl) rfl #[.int .i64 a1, .int .i64 96] rfl (by (try simp only [List.map_toArray, List.map_cons, List.map_nil]); first | done | rfl | (simp only [List.length_drop, List.length_take]; rfl)) ?_; (with_reducible refine (tickinglaw11_mod.calls a1 96 t430 _ A4.out).mono ?_); rintro e w' ⟨rfl, ⟨nd, rfl⟩⟩; refine ⟨_, rfl, ?_⟩) | ((with_reducible refine gate_callee (f := 19) rfl ?_); refine goesL_ (some 19) rfl rfl Try.func19 (by kernel_rfl) rfl #[.int .i64 a2, .int .i64 4] rfl (by (try simp only [List.map_toArray, List.map_cons, List.map_nil]); first | done | rfl | (simp only [List.length_drop, List.length_take]; rfl)) ?_; (with_reducible refine (tickinglaw11_mod.calls a2 4 t431 _ A5.out).mono ?_); rintro e w' ⟨rfl, ⟨nd, rfl⟩⟩; refine ⟨_, rfl, ?_⟩) | ((with_reducible refine gate_callee (f := 18) rfl ?_); refine goesL_ (some 22) rfl rfl Try.func18 (by kernel_rfl) rfl #[.slice A0 l0.length c0, .int .i64 12, .int .i64 (wrap64 (2 + t430))] rfl (by (try simp only [List.map_toArray, List.map_cons, List.map_nil]); first | done | rfl | (simp only [List.length_drop, List.length_take]; rfl)) ?_; (with_reducible refine (tickinglaw11_digits.calls k _ _ l0 12 (wrap64 (2 + t430)) t432 _ ?side1 ?side2 A6.out).mono ?_); (case side1 => repeat (first | exact HR0.out | (with_reducible refine Kd.C_alloc ?_ _) | (with_reducible refine Kd.C_drewN ?_ _) | (with_reducible refine Kd.C_drew ?_))); (case side2 => exact HC0.out); rintro e w10 ⟨v433, rfl, ho0, hb⟩; refine ⟨_, rfl, ?_⟩; have n0_ := Aside0.mk (Kd.R_lower ho0 (below_size (by repeat (first | (with_reducible first | exact HB.out | apply below_alloc | apply pw_below_drewN | apply below_drew1) | exact HB.out)))); have n1_ := Aside0.mk (below_step (by repeat (first | (with_reducible first | exact HB.out | apply below_alloc | apply pw_below_drewN | apply below_drew1) | exact HB.out)) hb); clear HB; have HO434 := n0_; have HB := n1_; clear n0_ n1_; (try clear hb); (try clear hb2); (try clear hk); (try clear hi); (try clear ho0); obtain ⟨Ao11, co11, eo11⟩ := Kd.R_slice HO434.out; subst eo11) | ((with_reducible refine gate_callee (f := 30) rfl ?_); refine goesL_ (some 26) rfl rfl Try.func30 (by kernel_rfl) rfl #[.slice Ao11 t432.length co11, .int .i64 (wrap64 (2 + t430)), .int .i64 0] rfl (by (try simp only [List.map_toArray, List.map_cons, List.map_nil]); first | done | rfl | (simp only [List.length_drop, List.length_take]; rfl)) ?_; (with_reducible refine (serial_Lets.calls k _ _ t432 (wrap64 (2 + t430)) 0 t435 t436 _ ?side1 ?side2 A7.out).mono ?_); (case side1 => repeat (first | exact (Kd.R_reads' HO434.out).2.2 | (with_reducible refine Kd.C_alloc ?_ _) | (with_reducible refine Kd.C_drewN ?_ _) | (with_reducible refine Kd.C_drew ?_))); (case side2 => exact (Kd.R_reads' HO434.out).2.1); rintro e w12 ⟨v437, rfl, ho0, hb⟩; refine ⟨_, rfl, ?_⟩; have n0_ := Aside0.mk (Kd.R_elder' (by (with_reducible repeat (first | apply Kd.R_alloc | apply Kd.R_drewN | apply Kd.R_drew)); exact HO434.out) (Kd.R_base ho0) hb); have n1_ := Aside0.mk (Kd.R_lower (Kd.R_new' ho0 (Kd.R_lt (by (with_reducible repeat (first | apply Kd.R_alloc | apply Kd.R_drewN | apply Kd.R_drew)); exact HO434.out))) (below_size (by repeat (first | (with_reducible first | exact HB.out | apply below_alloc | apply pw_below_drewN | apply below_drew1) | exact HB.out)))); have n2_ := Aside0.mk (below_step (by repeat (first | (with_reducible first | exact HB.out | apply below_alloc | apply pw_below_drewN | apply below_drew1) | exact HB.out)) hb); clear HO434; clear HB; have HO434 := n0_; have HO438 := n1_; have HB := n2_; clear n0_ n1_ n2_; (try clear hb); (try clear hb2); (try clear hk); (try clear hi); (try clear ho0)) | ((with_reducible refine gate_callee (f := 30) rfl ?_); refine goesL_ (some 33) rfl rfl Try.func30 (by kernel_rfl) rfl #[.slice Ao11 t432.length co11, .int .i64 (wrap64 (2 + t430)), .int .i64 t431] rfl (by (try simp only [List.map_toArray, List.map_cons, List.map_nil]); first | done | rfl | (simp only [List.length_drop, List.length_take]; rfl)) ?_; (with_reducible refine (serial_Lets.calls k _ _ t432 (wrap64 (2 + t430)) t431 t439 t440 _ ?side1 ?side2 A8.out).mono ?_); (case side1 => repeat (first | exact (Kd.R_reads' HO434.out).2.2 | (with_reducible refine Kd.C_alloc ?_ _) | (with_reducible refine Kd.C_drewN ?_ _) | (with_reducible refine Kd.C_drew ?_))); (case side2 => exact (Kd.R_reads' HO434.out).2.1); rintro e w13 ⟨v441, rfl, ho0, hb⟩; refine ⟨_, rfl, ?_⟩; have n0_ := Aside0.mk (Kd.R_elder' (by (with_reducible repeat (first | apply Kd.R_alloc | apply Kd.R_drewN | apply Kd.R_drew)); exact HO434.out) (Kd.R_base ho0) hb); have n1_ := Aside0.mk (Kd.R_elder' (by (with_reducible repeat (first | apply Kd.R_alloc | apply Kd.R_drewN | apply Kd.R_drew)); exact HO438.out) (Kd.R_base ho0) hb); have n2_ := Aside0.mk (Kd.R_lower (Kd.R_new' (Kd.R_new' ho0 (Kd.R_lt (by (with_reducible repeat (first | apply Kd.R_alloc | apply Kd.R_drewN | apply Kd.R_drew)); exact HO434.out))) (Kd.R_lt (by (with_reducible repeat (first | apply Kd.R_alloc | apply Kd.R_drewN | apply Kd.R_drew)); exact HO438.out))) (below_size (by repeat (first | (with_reducible first | exact HB.out | apply below_alloc | apply pw_below_drewN | apply below_drew1) | exact HB.out)))); have n3_ := Aside0.mk (below_step (by repeat (first | (with_reducible first | exact HB.out | apply below_alloc | apply pw_below_drewN | apply below_drew1) | exact HB.out)) hb); clear HO434; clear HO438; clear HB; have HO434 := n0_; have HO438 := n1_; have HO442 := n2_; have HB := n3_; clear n0_ n1_ n2_ n3_; (try clear hb); (try clear hb2); (try clear hk); (try clear hi); (try clear ho0)))
  (try simp only [Act.put, List.setIfInBounds_toArray, List.set_cons_zero, List.set_cons_succ])
  go_cut [41] (fun v41 wc => ∃ (kq : Nat) (x41_8 : Bool), v41 = .bool x41_8 ∧ Aside0 (tickinglaw11_SerialPass.j0 kq (wrap64 (2 + t430)) t431 t432 t435 t439 x41_8 = some r) ∧ Aside0 (kq ≤ k) ∧ Aside0 (Kd.R (Kd.int .i64) 3 wc w.heap.size (fun k_ => some k_ ≠ (v437 : Value).ownBlock ∧ some k_ ≠ (v441 : Value).ownBlock) (.slice Ao11 t432.length co11) t432) ∧ Aside0 (Kd.R (Kd.int .i64) 3 wc w.heap.size (fun k_ => some k_ ≠ ((.slice Ao11 t432.length co11) : Value).ownBlock ∧ some k_ ≠ (v441 : Value).ownBlock) v437 t435) ∧ Aside0 (Kd.R (Kd.int .i64) 3 wc w.heap.size (fun k_ => some k_ ≠ ((.slice Ao11 t432.length co11) : Value).ownBlock ∧ some k_ ≠ (v437 : Value).ownBlock) v441 t439) ∧ Aside0 (Below w.heap.size w wc))
  case first =>
    have H := HC9.out
    clear HC9
    by_cases c14 : t436 = 0
    · rw [if_pos c14] at H
      have c14b0 : (t436 == 0) = true := beq_iff_eq.mpr c14
      have c14b1 : (t436 != 0) = false := bne_eq_false_iff_eq.mpr c14
      clear c14
      (first | rw [c14b0] | (simp only [i64_w, i32_w]; rw [c14b0]) | skip)
      have H' := Aside0.mk H
      clear H
      go_wp2
      go_meet
      case rel => exact ⟨_, ((t440 != 0)), (by first | rfl | (simp; done) | (simp [*]; done)), H', ⟨by first | omega | exact Nat.le_refl _⟩, ⟨by (with_reducible repeat (first | apply Kd.R_alloc | apply Kd.R_drewN | apply Kd.R_drew)); exact Kd.R_mono HO434.out (fun _ hk => ⟨hk.1.2, hk.2⟩)⟩, ⟨by (with_reducible repeat (first | apply Kd.R_alloc | apply Kd.R_drewN | apply Kd.R_drew)); exact Kd.R_mono HO438.out (fun _ hk => ⟨hk.1.2, hk.2⟩)⟩, ⟨by (with_reducible repeat (first | apply Kd.R_alloc | apply Kd.R_drewN | apply Kd.R_drew)); exact Kd.R_mono HO442.out (fun _ hk => ⟨hk.1.2, hk.2⟩)⟩, ⟨by repeat (first | (with_reducible first | exact HB.out | apply below_alloc | apply pw_below_drewN | apply below_drew1) | exact HB.out)⟩⟩
    · rw [if_neg c14] at H
      have c14b0 : (t436 == 0) = false := beq_eq_false_iff_ne.mpr c14
      have c14b1 : (t436 != 0) = true := bne_iff_ne.mpr c14
      (first | rw [c14b0] | (simp only [i64_w, i32_w]; rw [c14b0]) | skip)
      have H' := Aside0.mk H
      clear H
      go_wp2
      go_meet
      case rel => exact ⟨_, (true), (by first | rfl | (simp; done) | (simp [*]; done)), H', ⟨by first | omega | exact Nat.le_refl _⟩, ⟨by (with_reducible repeat (first | apply Kd.R_alloc | apply Kd.R_drewN | apply Kd.R_drew)); exact Kd.R_mono HO434.out (fun _ hk => ⟨hk.1.2, hk.2⟩)⟩, ⟨by (with_reducible repeat (first | apply Kd.R_alloc | apply Kd.R_drewN | apply Kd.R_drew)); exact Kd.R_mono HO438.out (fun _ hk => ⟨hk.1.2, hk.2⟩)⟩, ⟨by (with_reducible repeat (first | apply Kd.R_alloc | apply Kd.R_drewN | apply Kd.R_drew)); exact Kd.R_mono HO442.out (fun _ hk => ⟨hk.1.2, hk.2⟩)⟩, ⟨by repeat (first | (with_reducible first | exact HB.out | apply below_alloc | apply pw_below_drewN | apply below_drew1) | exact HB.out)⟩⟩
  case rest =>
    clear HC9
    try clear c1
    try clear p2
    try clear c3
    try clear c6
    try clear p6
    try clear c14
    try clear c14b0
    try clear c14b1
    obtain ⟨kq, x41_8, rfl, HA, HJ8, HO_7, HO_8, HO_10, HB⟩ := hcut
    cases kq with
    | zero => exact absurd HA.out (by simp [tickinglaw11_SerialPass.j0])
    | succ kj8 =>
      have H := HA.out
      clear HA
      simp only [tickinglaw11_SerialPass.j0] at H
      by_cases c15 : x41_8 = true
      · subst c15
        have H1 : (some false) = some r := by rw [if_pos rfl] at H; exact H
        clear H
        have H := H1
        clear H1
        obtain rfl := Option.some.inj H
        go_wp2
        go_ret
        exact ⟨by first | rfl | (simp [errW_none, errW_some] <;> rfl) | (simp [*, errW_none, errW_some] <;> rfl), by repeat (first | (with_reducible first | exact HB.out | apply below_alloc | apply pw_below_drewN | apply below_drew1) | exact HB.out)⟩
      · replace c15 := Bool.eq_false_iff.mpr c15
        subst c15
        have H1 : (tickinglaw11_SerialPass.l0 kj8 (wrap64 (2 + t430)) t431 t432 t435 t439 0 0) = some r := by rw [if_neg (show ¬ (false = true) by decide)] at H; exact H
        clear H
        have H := H1
        clear H1
        have H' := Aside0.mk H
        clear H
        go_wp2
        go_loopg [12, 13] kj8 (fun kq v12 v13 w' => ∃ (x12_2 : Int) (x13_2 : Int), v12 = .int .i64 x12_2 ∧ v13 = .int .i64 x13_2 ∧ Aside0 (tickinglaw11_SerialPass.l0 kq (wrap64 (2 + t430)) t431 t432 t435 t439 x12_2 x13_2 = some r) ∧ Aside0 (kq ≤ kj8) ∧ Aside0 (Kd.R (Kd.int .i64) 3 w' w.heap.size (fun k_ => some k_ ≠ (v437 : Value).ownBlock ∧ some k_ ≠ (v441 : Value).ownBlock) (.slice Ao11 t432.length co11) t432) ∧ Aside0 (Kd.R (Kd.int .i64) 3 w' w.heap.size (fun k_ => some k_ ≠ ((.slice Ao11 t432.length co11) : Value).ownBlock ∧ some k_ ≠ (v441 : Value).ownBlock) v437 t435) ∧ Aside0 (Kd.R (Kd.int .i64) 3 w' w.heap.size (fun k_ => some k_ ≠ ((.slice Ao11 t432.length co11) : Value).ownBlock ∧ some k_ ≠ (v437 : Value).ownBlock) v441 t439) ∧ Aside0 (Below w.heap.size w w'))
        case atStart => exact ⟨(0), (0), (by first | rfl | (simp; done) | (simp [*]; done)), (by first | rfl | (simp; done) | (simp [*]; done)), H', ⟨Nat.le_refl _⟩, ⟨by (with_reducible repeat (first | apply Kd.R_alloc | apply Kd.R_drewN | apply Kd.R_drew)); exact HO_7.out⟩, ⟨by (with_reducible repeat (first | apply Kd.R_alloc | apply Kd.R_drewN | apply Kd.R_drew)); exact HO_8.out⟩, ⟨by (with_reducible repeat (first | apply Kd.R_alloc | apply Kd.R_drewN | apply Kd.R_drew)); exact HO_10.out⟩, ⟨by repeat (first | (with_reducible first | exact HB.out | apply below_alloc | apply pw_below_drewN | apply below_drew1) | exact HB.out)⟩⟩
        case round =>
          clear H'
          try clear c1
          try clear p2
          try clear c3
          try clear c6
          try clear p6
          try clear c14
          try clear c14b0
          try clear c14b1
          try clear c15
          try clear p2
          try clear p6
          obtain ⟨x12_2, x13_2, rfl, rfl, HA, HK2, HO_7, HO_8, HO_10, HB⟩ := hrel
          cases gk with
          | zero => exact absurd HA.out (by simp [tickinglaw11_SerialPass.l0])
          | succ k2 =>
            have H := HA.out
            clear HA
            simp only [tickinglaw11_SerialPass.l0] at H
            by_cases c16 : x13_2 < (t432.length : Int)
            · rw [if_pos c16] at H
              have c16b0 : decide (x13_2 < (t432.length : Int)) = true := decide_eq_true c16
              clear c16
              by_cases c17 : 0 ≤ x13_2
              · rw [if_pos c17] at H
                have c17b0 : decide (0 ≤ x13_2) = true := decide_eq_true c17
                clear c17
                replace H := Option.bind_eq_some_iff.mp H
                obtain ⟨t444, A180, H⟩ := H
                replace H : (if t444 > 1 then (if x12_2 ≥ (t435.length : Int) then (some false) else (if 0 ≤ x12_2 then (if x12_2 < (t435.length : Int) then (if (rd t435 x12_2) = x13_2 then (tickinglaw11_SerialPass.l0 k2 (wrap64 (2 + t430)) t431 t432 t435 t439 (wrap64 (x12_2 + 1)) (wrap64 (x13_2 + 1))) else (some false)) else (none)) else (none))) else (tickinglaw11_SerialPass.l0 k2 (wrap64 (2 + t430)) t431 t432 t435 t439 x12_2 (wrap64 (x13_2 + 1)))) = some r := H
                have A18 := Aside0.mk A180
                clear A180
                by_cases c19 : t444 > 1
                · rw [if_pos c19] at H
                  have c19b0 : decide (1 < t444) = true := decide_eq_true c19
                  clear c19
                  by_cases c20 : x12_2 ≥ (t435.length : Int)
                  · rw [if_pos c20] at H
                    have c20b0 : decide ((t435.length : Int) ≤ x12_2) = true := decide_eq_true c20
                    clear c20
                    obtain rfl := Option.some.inj H
                    have p443 : 0 ≤ (x13_2 : Int) := of_decide_eq_true (by first | (with_reducible assumption) | assumption)
                    have q443 : x13_2 < (t432.length : Int) := of_decide_eq_true (by first | (with_reducible assumption) | assumption)
                    obtain ⟨ad443, e443, hx443_0⟩ := Kd.at_int (Kd.R_reads' HO_7.out).2.2 x13_2 p443 q443
                    cases e443
                    replace p443 := eq_true p443
                    replace q443 := eq_true q443
                    go_wp2_with (first | ((with_reducible refine gate_callee (f := 31) rfl ?_); refine goesL_ (some 53) rfl rfl Try.func31 (by kernel_rfl) rfl #[.int .i64 (rd t432 x13_2), .int .i64 (wrap64 (2 + t430))] rfl (by (try simp only [List.map_toArray, List.map_cons, List.map_nil]); first | done | rfl | (simp only [List.length_drop, List.length_take]; rfl)) ?_; (with_reducible refine (tickingref11_Gcd.calls k2 (rd t432 x13_2) (wrap64 (2 + t430)) t444 _ A18.out).mono ?_); rintro e w' ⟨rfl, ⟨nd, rfl⟩⟩; refine ⟨_, rfl, ?_⟩; obtain ⟨Ao21, co21, eo21⟩ := Kd.R_slice HO_8.out; subst eo21))
                    go_ret
                    exact ⟨by first | rfl | (simp [errW_none, errW_some] <;> rfl) | (simp [*, errW_none, errW_some] <;> rfl), by repeat (first | (with_reducible first | exact HB.out | apply below_alloc | apply pw_below_drewN | apply below_drew1) | exact HB.out)⟩
                  · rw [if_neg c20] at H
                    have c20b0 : decide ((t435.length : Int) ≤ x12_2) = false := decide_eq_false c20
                    clear c20
                    by_cases c22 : 0 ≤ x12_2
                    · rw [if_pos c22] at H
                      have c22b0 : decide (0 ≤ x12_2) = true := decide_eq_true c22
                      clear c22
                      by_cases c23 : x12_2 < (t435.length : Int)
                      · rw [if_pos c23] at H
                        have c23b0 : decide (x12_2 < (t435.length : Int)) = true := decide_eq_true c23
                        clear c23
                        by_cases c24 : (rd t435 x12_2) = x13_2
                        · rw [if_pos c24] at H
                          have c24b0 : ((rd t435 x12_2) == x13_2) = true := beq_iff_eq.mpr c24
                          have c24b1 : ((rd t435 x12_2) != x13_2) = false := bne_eq_false_iff_eq.mpr c24
                          clear c24
                          have H' := Aside0.mk H
                          clear H
                          have p443 : 0 ≤ (x13_2 : Int) := of_decide_eq_true (by first | (with_reducible assumption) | assumption)
                          have q443 : x13_2 < (t432.length : Int) := of_decide_eq_true (by first | (with_reducible assumption) | assumption)
                          obtain ⟨ad443, e443, hx443_0⟩ := Kd.at_int (Kd.R_reads' HO_7.out).2.2 x13_2 p443 q443
                          cases e443
                          replace p443 := eq_true p443
                          replace q443 := eq_true q443
                          go_wp2_with (first | ((with_reducible refine gate_callee (f := 31) rfl ?_); refine goesL_ (some 53) rfl rfl Try.func31 (by kernel_rfl) rfl #[.int .i64 (rd t432 x13_2), .int .i64 (wrap64 (2 + t430))] rfl (by (try simp only [List.map_toArray, List.map_cons, List.map_nil]); first | done | rfl | (simp only [List.length_drop, List.length_take]; rfl)) ?_; (with_reducible refine (tickingref11_Gcd.calls k2 (rd t432 x13_2) (wrap64 (2 + t430)) t444 _ A18.out).mono ?_); rintro e w' ⟨rfl, ⟨nd, rfl⟩⟩; refine ⟨_, rfl, ?_⟩; obtain ⟨Ao25, co25, eo25⟩ := Kd.R_slice HO_8.out; subst eo25; have p445 : 0 ≤ (x12_2 : Int) := of_decide_eq_true (by first | (with_reducible assumption) | assumption); have q445 : x12_2 < (t435.length : Int) := of_decide_eq_true (by first | (with_reducible assumption) | assumption); obtain ⟨ad445, e445, hx445_0⟩ := Kd.at_int (Kd.R_reads' HO_8.out).2.2 x12_2 p445 q445; cases e445; replace p445 := eq_true p445; replace q445 := eq_true q445))
                          go_roundg k2
                          case measure => have := HJ8.out; have := HK2.out; omega
                          case rel => exact ⟨(wrap64 (x12_2 + 1)), (wrap64 (x13_2 + 1)), (by first | rfl | (simp; done) | (simp [*]; done)), (by first | rfl | (simp; done) | (simp [*]; done)), H', ⟨by have := HJ8.out; have := HK2.out; omega⟩, ⟨by (with_reducible repeat (first | apply Kd.R_alloc | apply Kd.R_drewN | apply Kd.R_drew)); exact HO_7.out⟩, ⟨by (with_reducible repeat (first | apply Kd.R_alloc | apply Kd.R_drewN | apply Kd.R_drew)); exact HO_8.out⟩, ⟨by (with_reducible repeat (first | apply Kd.R_alloc | apply Kd.R_drewN | apply Kd.R_drew)); exact HO_10.out⟩, ⟨by repeat (first | (with_reducible first | exact HB.out | apply below_alloc | apply pw_below_drewN | apply below_drew1) | exact HB.out)⟩⟩
                        · rw [if_neg c24] at H
                          have c24b0 : ((rd t435 x12_2) == x13_2) = false := beq_eq_false_iff_ne.mpr c24
                          have c24b1 : ((rd t435 x12_2) != x13_2) = true := bne_iff_ne.mpr c24
                          obtain rfl := Option.some.inj H
                          have p443 : 0 ≤ (x13_2 : Int) := of_decide_eq_true (by first | (with_reducible assumption) | assumption)
                          have q443 : x13_2 < (t432.length : Int) := of_decide_eq_true (by first | (with_reducible assumption) | assumption)
                          obtain ⟨ad443, e443, hx443_0⟩ := Kd.at_int (Kd.R_reads' HO_7.out).2.2 x13_2 p443 q443
                          cases e443
                          replace p443 := eq_true p443
                          replace q443 := eq_true q443
                          go_wp2_with (first | ((with_reducible refine gate_callee (f := 31) rfl ?_); refine goesL_ (some 53) rfl rfl Try.func31 (by kernel_rfl) rfl #[.int .i64 (rd t432 x13_2), .int .i64 (wrap64 (2 + t430))] rfl (by (try simp only [List.map_toArray, List.map_cons, List.map_nil]); first | done | rfl | (simp only [List.length_drop, List.length_take]; rfl)) ?_; (with_reducible refine (tickingref11_Gcd.calls k2 (rd t432 x13_2) (wrap64 (2 + t430)) t444 _ A18.out).mono ?_); rintro e w' ⟨rfl, ⟨nd, rfl⟩⟩; refine ⟨_, rfl, ?_⟩; obtain ⟨Ao26, co26, eo26⟩ := Kd.R_slice HO_8.out; subst eo26; have p445 : 0 ≤ (x12_2 : Int) := of_decide_eq_true (by first | (with_reducible assumption) | assumption); have q445 : x12_2 < (t435.length : Int) := of_decide_eq_true (by first | (with_reducible assumption) | assumption); obtain ⟨ad445, e445, hx445_0⟩ := Kd.at_int (Kd.R_reads' HO_8.out).2.2 x12_2 p445 q445; cases e445; replace p445 := eq_true p445; replace q445 := eq_true q445))
                          go_ret
                          exact ⟨by first | rfl | (simp [errW_none, errW_some] <;> rfl) | (simp [*, errW_none, errW_some] <;> rfl), by repeat (first | (with_reducible first | exact HB.out | apply below_alloc | apply pw_below_drewN | apply below_drew1) | exact HB.out)⟩
                      · rw [if_neg c23] at H
                        exact absurd H (by simp)
                    · rw [if_neg c22] at H
                      exact absurd H (by simp)
                · rw [if_neg c19] at H
                  have c19b0 : decide (1 < t444) = false := decide_eq_false c19
                  clear c19
                  have H' := Aside0.mk H
                  clear H
                  have p443 : 0 ≤ (x13_2 : Int) := of_decide_eq_true (by first | (with_reducible assumption) | assumption)
                  have q443 : x13_2 < (t432.length : Int) := of_decide_eq_true (by first | (with_reducible assumption) | assumption)
                  obtain ⟨ad443, e443, hx443_0⟩ := Kd.at_int (Kd.R_reads' HO_7.out).2.2 x13_2 p443 q443
                  cases e443
                  replace p443 := eq_true p443
                  replace q443 := eq_true q443
                  go_wp2_with (first | ((with_reducible refine gate_callee (f := 31) rfl ?_); refine goesL_ (some 53) rfl rfl Try.func31 (by kernel_rfl) rfl #[.int .i64 (rd t432 x13_2), .int .i64 (wrap64 (2 + t430))] rfl (by (try simp only [List.map_toArray, List.map_cons, List.map_nil]); first | done | rfl | (simp only [List.length_drop, List.length_take]; rfl)) ?_; (with_reducible refine (tickingref11_Gcd.calls k2 (rd t432 x13_2) (wrap64 (2 + t430)) t444 _ A18.out).mono ?_); rintro e w' ⟨rfl, ⟨nd, rfl⟩⟩; refine ⟨_, rfl, ?_⟩))
                  go_roundg k2
                  case measure => have := HJ8.out; have := HK2.out; omega
                  case rel => exact ⟨(x12_2), (wrap64 (x13_2 + 1)), (by first | rfl | (simp; done) | (simp [*]; done)), (by first | rfl | (simp; done) | (simp [*]; done)), H', ⟨by have := HJ8.out; have := HK2.out; omega⟩, ⟨by (with_reducible repeat (first | apply Kd.R_alloc | apply Kd.R_drewN | apply Kd.R_drew)); exact HO_7.out⟩, ⟨by (with_reducible repeat (first | apply Kd.R_alloc | apply Kd.R_drewN | apply Kd.R_drew)); exact HO_8.out⟩, ⟨by (with_reducible repeat (first | apply Kd.R_alloc | apply Kd.R_drewN | apply Kd.R_drew)); exact HO_10.out⟩, ⟨by repeat (first | (with_reducible first | exact HB.out | apply below_alloc | apply pw_below_drewN | apply below_drew1) | exact HB.out)⟩⟩
              · rw [if_neg c17] at H
                exact absurd H (by simp)
            · rw [if_neg c16] at H
              have c16b0 : decide (x13_2 < (t432.length : Int)) = false := decide_eq_false c16
              clear c16
              by_cases c27 : x12_2 = (t435.length : Int)
              · rw [if_pos c27] at H
                have c27b0 : (x12_2 == (t435.length : Int)) = true := beq_iff_eq.mpr c27
                have c27b1 : (x12_2 != (t435.length : Int)) = false := bne_eq_false_iff_eq.mpr c27
                clear c27
                have H' := Aside0.mk H
                clear H
                obtain ⟨Ao28, co28, eo28⟩ := Kd.R_slice HO_8.out
                subst eo28
                go_wp2
                go_loopg [14] k2 (fun kq v14 w' => ∃ (x14_3 : Int), v14 = .int .i64 x14_3 ∧ Aside0 (tickinglaw11_SerialPass.l1 kq (wrap64 (2 + t430)) t431 t432 t439 x14_3 = some r) ∧ Aside0 (kq ≤ k2) ∧ Aside0 (Kd.R (Kd.int .i64) 3 w' w.heap.size (fun k_ => some k_ ≠ (v441 : Value).ownBlock) (.slice Ao11 t432.length co11) t432) ∧ Aside0 (Kd.R (Kd.int .i64) 3 w' w.heap.size (fun k_ => some k_ ≠ ((.slice Ao11 t432.length co11) : Value).ownBlock) v441 t439) ∧ Aside0 (Below w.heap.size w w'))
                case atStart => exact ⟨(0), (by first | rfl | (simp; done) | (simp [*]; done)), H', ⟨Nat.le_refl _⟩, ⟨by (with_reducible repeat (first | apply Kd.R_alloc | apply Kd.R_drewN | apply Kd.R_drew)); exact Kd.R_mono HO_7.out (fun _ hk => hk.2)⟩, ⟨by (with_reducible repeat (first | apply Kd.R_alloc | apply Kd.R_drewN | apply Kd.R_drew)); exact Kd.R_mono HO_10.out (fun _ hk => hk.1)⟩, ⟨by repeat (first | (with_reducible first | exact HB.out | apply below_alloc | apply pw_below_drewN | apply below_drew1) | exact HB.out)⟩⟩
                case round =>
                  clear H'
                  try clear c1
                  try clear c2
                  try clear p2
                  try clear c3
                  try clear p4
                  try clear q4
                  try clear hx4
                  try clear c6
                  try clear p6
                  try clear c14
                  try clear c14b0
                  try clear c14b1
                  try clear c15
                  try clear c16
                  try clear c16b0
                  try clear c17
                  try clear c17b0
                  try clear c18
                  try clear c19
                  try clear c19b0
                  try clear c20
                  try clear c20b0
                  try clear c22
                  try clear c22b0
                  try clear c23
                  try clear c23b0
                  try clear c24
                  try clear c24b0
                  try clear c24b1
                  try clear c27
                  try clear c27b0
                  try clear c27b1
                  try clear hx443_0
                  try clear hx445_0
                  try clear p2
                  try clear p443
                  try clear p445
                  try clear p6
                  try clear q443
                  try clear q445
                  obtain ⟨x14_3, rfl, HA, HK3, HO_7, HO_10, HB⟩ := hrel
                  cases gk with
                  | zero => exact absurd HA.out (by simp [tickinglaw11_SerialPass.l1])
                  | succ k3 =>
                    have H := HA.out
                    clear HA
                    simp only [tickinglaw11_SerialPass.l1] at H
                    by_cases c29 : x14_3 < (t439.length : Int)
                    · rw [if_pos c29] at H
                      have c29b0 : decide (x14_3 < (t439.length : Int)) = true := decide_eq_true c29
                      clear c29
                      by_cases c30 : 0 ≤ x14_3
                      · rw [if_pos c30] at H
                        have c30b0 : decide (0 ≤ x14_3) = true := decide_eq_true c30
                        clear c30
                        by_cases c31 : (rd t439 x14_3) < 0
                        · rw [if_pos c31] at H
                          have c31b0 : decide ((rd t439 x14_3) < 0) = true := decide_eq_true c31
                          clear c31
                          obtain rfl := Option.some.inj H
                          obtain ⟨Ao32, co32, eo32⟩ := Kd.R_slice HO_10.out
                          subst eo32
                          have p446 : 0 ≤ (x14_3 : Int) := of_decide_eq_true (by first | (with_reducible assumption) | assumption)
                          have q446 : x14_3 < (t439.length : Int) := of_decide_eq_true (by first | (with_reducible assumption) | assumption)
                          obtain ⟨ad446, e446, hx446_0⟩ := Kd.at_int (Kd.R_reads' HO_10.out).2.2 x14_3 p446 q446
                          cases e446
                          replace p446 := eq_true p446
                          replace q446 := eq_true q446
                          go_wp2
                          go_ret
                          exact ⟨by first | rfl | (simp [errW_none, errW_some] <;> rfl) | (simp [*, errW_none, errW_some] <;> rfl), by repeat (first | (with_reducible first | exact HB.out | apply below_alloc | apply pw_below_drewN | apply below_drew1) | exact HB.out)⟩
                        · rw [if_neg c31] at H
                          have c31b0 : decide ((rd t439 x14_3) < 0) = false := decide_eq_false c31
                          clear c31
                          by_cases c33 : (rd t439 x14_3) ≥ (t432.length : Int)
                          · rw [if_pos c33] at H
                            have c33b0 : decide ((t432.length : Int) ≤ (rd t439 x14_3)) = true := decide_eq_true c33
                            clear c33
                            obtain rfl := Option.some.inj H
                            obtain ⟨Ao34, co34, eo34⟩ := Kd.R_slice HO_10.out
                            subst eo34
                            have p446 : 0 ≤ (x14_3 : Int) := of_decide_eq_true (by first | (with_reducible assumption) | assumption)
                            have q446 : x14_3 < (t439.length : Int) := of_decide_eq_true (by first | (with_reducible assumption) | assumption)
                            obtain ⟨ad446, e446, hx446_0⟩ := Kd.at_int (Kd.R_reads' HO_10.out).2.2 x14_3 p446 q446
                            cases e446
                            replace p446 := eq_true p446
                            replace q446 := eq_true q446
                            have p447 : 0 ≤ (x14_3 : Int) := of_decide_eq_true (by first | (with_reducible assumption) | assumption)
                            have q447 : x14_3 < (t439.length : Int) := of_decide_eq_true (by first | (with_reducible assumption) | assumption)
                            obtain ⟨ad447, e447, hx447_0⟩ := Kd.at_int (Kd.R_reads' HO_10.out).2.2 x14_3 p447 q447
                            obtain rfl : ad446 = ad447 := (by injection e447)
                            replace p447 := eq_true p447
                            replace q447 := eq_true q447
                            go_wp2
                            go_ret
                            exact ⟨by first | rfl | (simp [errW_none, errW_some] <;> rfl) | (simp [*, errW_none, errW_some] <;> rfl), by repeat (first | (with_reducible first | exact HB.out | apply below_alloc | apply pw_below_drewN | apply below_drew1) | exact HB.out)⟩
                          · rw [if_neg c33] at H
                            have c33b0 : decide ((t432.length : Int) ≤ (rd t439 x14_3)) = false := decide_eq_false c33
                            clear c33
                            replace H := Option.bind_eq_some_iff.mp H
                            obtain ⟨t449, A350, H⟩ := H
                            replace H : (if t449 = true then (tickinglaw11_SerialPass.l1 k3 (wrap64 (2 + t430)) t431 t432 t439 (wrap64 (x14_3 + 1))) else (some false)) = some r := H
                            have A35 := Aside0.mk A350
                            clear A350
                            by_cases c36 : t449 = true
                            · subst c36
                              have H1 : (tickinglaw11_SerialPass.l1 k3 (wrap64 (2 + t430)) t431 t432 t439 (wrap64 (x14_3 + 1))) = some r := by rw [if_pos rfl] at H; exact H
                              clear H
                              have H := H1
                              clear H1
                              have H' := Aside0.mk H
                              clear H
                              obtain ⟨Ao37, co37, eo37⟩ := Kd.R_slice HO_10.out
                              subst eo37
                              have p446 : 0 ≤ (x14_3 : Int) := of_decide_eq_true (by first | (with_reducible assumption) | assumption)
                              have q446 : x14_3 < (t439.length : Int) := of_decide_eq_true (by first | (with_reducible assumption) | assumption)
                              obtain ⟨ad446, e446, hx446_0⟩ := Kd.at_int (Kd.R_reads' HO_10.out).2.2 x14_3 p446 q446
                              cases e446
                              replace p446 := eq_true p446
                              replace q446 := eq_true q446
                              have p447 : 0 ≤ (x14_3 : Int) := of_decide_eq_true (by first | (with_reducible assumption) | assumption)
                              have q447 : x14_3 < (t439.length : Int) := of_decide_eq_true (by first | (with_reducible assumption) | assumption)
                              obtain ⟨ad447, e447, hx447_0⟩ := Kd.at_int (Kd.R_reads' HO_10.out).2.2 x14_3 p447 q447
                              obtain rfl : ad446 = ad447 := (by injection e447)
                              replace p447 := eq_true p447
                              replace q447 := eq_true q447
                              have p448 : 0 ≤ (x14_3 : Int) := of_decide_eq_true (by first | (with_reducible assumption) | assumption)
                              have q448 : x14_3 < (t439.length : Int) := of_decide_eq_true (by first | (with_reducible assumption) | assumption)
                              obtain ⟨ad448, e448, hx448_0⟩ := Kd.at_int (Kd.R_reads' HO_10.out).2.2 x14_3 p448 q448
                              obtain rfl : ad446 = ad448 := (by injection e448)
                              replace p448 := eq_true p448
                              replace q448 := eq_true q448
                              go_wp2_with (first | (go_at_call 32; (with_reducible refine (tickinglaw11_passes.calls k3 _ _ t432 (wrap64 (2 + t430)) t431 (rd t439 x14_3) true _ ?side1 ?side2 A35.out).mono ?_); (case side1 => repeat (first | exact (Kd.R_reads' HO_7.out).2.2 | (with_reducible refine Kd.C_alloc ?_ _) | (with_reducible refine Kd.C_drewN ?_ _) | (with_reducible refine Kd.C_drew ?_))); (case side2 => exact (Kd.R_reads' HO_7.out).2.1); rintro e w38 ⟨rfl, hb⟩; have n0_ := Aside0.mk (Kd.R_below (by (with_reducible repeat (first | apply Kd.R_alloc | apply Kd.R_drewN | apply Kd.R_drew)); exact HO_7.out) hb); have n1_ := Aside0.mk (Kd.R_below (by (with_reducible repeat (first | apply Kd.R_alloc | apply Kd.R_drewN | apply Kd.R_drew)); exact HO_10.out) hb); have n2_ := Aside0.mk (below_step (by repeat (first | (with_reducible first | exact HB.out | apply below_alloc | apply pw_below_drewN | apply below_drew1) | exact HB.out)) hb); clear HO_7; clear HO_10; clear HB; have HO_7 := n0_; have HO_10 := n1_; have HB := n2_; clear n0_ n1_ n2_; (try clear hb); (try clear hb2); (try clear hk); (try clear hi)))
                              go_roundg k3
                              case measure => have := HJ8.out; have := HK2.out; have := HK3.out; omega
                              case rel => exact ⟨(wrap64 (x14_3 + 1)), (by first | rfl | (simp; done) | (simp [*]; done)), H', ⟨by have := HJ8.out; have := HK2.out; have := HK3.out; omega⟩, ⟨by (with_reducible repeat (first | apply Kd.R_alloc | apply Kd.R_drewN | apply Kd.R_drew)); exact HO_7.out⟩, ⟨by (with_reducible repeat (first | apply Kd.R_alloc | apply Kd.R_drewN | apply Kd.R_drew)); exact HO_10.out⟩, ⟨by repeat (first | (with_reducible first | exact HB.out | apply below_alloc | apply pw_below_drewN | apply below_drew1) | exact HB.out)⟩⟩
                            · replace c36 := Bool.eq_false_iff.mpr c36
                              subst c36
                              have H1 : (some false) = some r := by rw [if_neg (show ¬ (false = true) by decide)] at H; exact H
                              clear H
                              have H := H1
                              clear H1
                              obtain rfl := Option.some.inj H
                              obtain ⟨Ao39, co39, eo39⟩ := Kd.R_slice HO_10.out
                              subst eo39
                              have p446 : 0 ≤ (x14_3 : Int) := of_decide_eq_true (by first | (with_reducible assumption) | assumption)
                              have q446 : x14_3 < (t439.length : Int) := of_decide_eq_true (by first | (with_reducible assumption) | assumption)
                              obtain ⟨ad446, e446, hx446_0⟩ := Kd.at_int (Kd.R_reads' HO_10.out).2.2 x14_3 p446 q446
                              cases e446
                              replace p446 := eq_true p446
                              replace q446 := eq_true q446
                              have p447 : 0 ≤ (x14_3 : Int) := of_decide_eq_true (by first | (with_reducible assumption) | assumption)
                              have q447 : x14_3 < (t439.length : Int) := of_decide_eq_true (by first | (with_reducible assumption) | assumption)
                              obtain ⟨ad447, e447, hx447_0⟩ := Kd.at_int (Kd.R_reads' HO_10.out).2.2 x14_3 p447 q447
                              obtain rfl : ad446 = ad447 := (by injection e447)
                              replace p447 := eq_true p447
                              replace q447 := eq_true q447
                              have p448 : 0 ≤ (x14_3 : Int) := of_decide_eq_true (by first | (with_reducible assumption) | assumption)
                              have q448 : x14_3 < (t439.length : Int) := of_decide_eq_true (by first | (with_reducible assumption) | assumption)
                              obtain ⟨ad448, e448, hx448_0⟩ := Kd.at_int (Kd.R_reads' HO_10.out).2.2 x14_3 p448 q448
                              obtain rfl : ad446 = ad448 := (by injection e448)
                              replace p448 := eq_true p448
                              replace q448 := eq_true q448
                              go_wp2_with (first | (go_at_call 32; (with_reducible refine (tickinglaw11_passes.calls k3 _ _ t432 (wrap64 (2 + t430)) t431 (rd t439 x14_3) false _ ?side1 ?side2 A35.out).mono ?_); (case side1 => repeat (first | exact (Kd.R_reads' HO_7.out).2.2 | (with_reducible refine Kd.C_alloc ?_ _) | (with_reducible refine Kd.C_drewN ?_ _) | (with_reducible refine Kd.C_drew ?_))); (case side2 => exact (Kd.R_reads' HO_7.out).2.1); rintro e w40 ⟨rfl, hb⟩; have n0_ := Aside0.mk (Kd.R_below (by (with_reducible repeat (first | apply Kd.R_alloc | apply Kd.R_drewN | apply Kd.R_drew)); exact HO_7.out) hb); have n1_ := Aside0.mk (Kd.R_below (by (with_reducible repeat (first | apply Kd.R_alloc | apply Kd.R_drewN | apply Kd.R_drew)); exact HO_10.out) hb); have n2_ := Aside0.mk (below_step (by repeat (first | (with_reducible first | exact HB.out | apply below_alloc | apply pw_below_drewN | apply below_drew1) | exact HB.out)) hb); clear HO_7; clear HO_10; clear HB; have HO_7 := n0_; have HO_10 := n1_; have HB := n2_; clear n0_ n1_ n2_; (try clear hb); (try clear hb2); (try clear hk); (try clear hi)))
                              go_ret
                              exact ⟨by first | rfl | (simp [errW_none, errW_some] <;> rfl) | (simp [*, errW_none, errW_some] <;> rfl), by repeat (first | (with_reducible first | exact HB.out | apply below_alloc | apply pw_below_drewN | apply below_drew1) | exact HB.out)⟩
                      · rw [if_neg c30] at H
                        exact absurd H (by simp)
                    · rw [if_neg c29] at H
                      have c29b0 : decide (x14_3 < (t439.length : Int)) = false := decide_eq_false c29
                      clear c29
                      replace H := Option.bind_eq_some_iff.mp H
                      obtain ⟨t450, A410, H⟩ := H
                      replace H : (some t450) = some r := H
                      have A41 := Aside0.mk A410
                      clear A410
                      obtain rfl := Option.some.inj H
                      obtain ⟨Ao42, co42, eo42⟩ := Kd.R_slice HO_10.out
                      subst eo42
                      go_wp2_with (first | ((with_reducible refine gate_callee (f := 22) rfl ?_); refine goesL_ (some 104) rfl rfl Try.func22 (by kernel_rfl) rfl #[] rfl (by (try simp only [List.map_toArray, List.map_cons, List.map_nil]); first | done | rfl | (simp only [List.length_drop, List.length_take]; rfl)) ?_; (with_reducible refine (tickinglaw11_awake.calls k3  t450 _ A41.out).mono ?_); rintro e w43 ⟨rfl, hb⟩; refine ⟨_, rfl, ?_⟩; have n0_ := Aside0.mk (Kd.R_below (by (with_reducible repeat (first | apply Kd.R_alloc | apply Kd.R_drewN | apply Kd.R_drew)); exact HO_7.out) hb); have n1_ := Aside0.mk (Kd.R_below (by (with_reducible repeat (first | apply Kd.R_alloc | apply Kd.R_drewN | apply Kd.R_drew)); exact HO_10.out) hb); have n2_ := Aside0.mk (below_step (by repeat (first | (with_reducible first | exact HB.out | apply below_alloc | apply pw_below_drewN | apply below_drew1) | exact HB.out)) hb); clear HO_7; clear HO_10; clear HB; have HO_7 := n0_; have HO_10 := n1_; have HB := n2_; clear n0_ n1_ n2_; (try clear hb); (try clear hb2); (try clear hk); (try clear hi)))
                      go_ret
                      exact ⟨by first | rfl | (simp [errW_none, errW_some] <;> rfl) | (simp [*, errW_none, errW_some] <;> rfl), by repeat (first | (with_reducible first | exact HB.out | apply below_alloc | apply pw_below_drewN | apply below_drew1) | exact HB.out)⟩
              · rw [if_neg c27] at H
                have c27b0 : (x12_2 == (t435.length : Int)) = false := beq_eq_false_iff_ne.mpr c27
                have c27b1 : (x12_2 != (t435.length : Int)) = true := bne_iff_ne.mpr c27
                obtain rfl := Option.some.inj H
                obtain ⟨Ao44, co44, eo44⟩ := Kd.R_slice HO_8.out
                subst eo44
                go_wp2
                go_ret
                exact ⟨by first | rfl | (simp [errW_none, errW_some] <;> rfl) | (simp [*, errW_none, errW_some] <;> rfl), by repeat (first | (with_reducible first | exact HB.out | apply below_alloc | apply pw_below_drewN | apply below_drew1) | exact HB.out)⟩

/-- THE ONE PURE STATEMENT of tickinglaw11_SerialPass: yours. -/
def tickinglaw11_SerialPass.Pure : Prop := ∀ (l0 : List Int) (a1 : Int) (a2 : Int), l0.length ≤ maxLen → l0.length * 8 ≤ 140737488351232 → (∀ x ∈ l0, (Lit.int .i64 x).wf = true) → (Lit.int .i64 a1).wf = true → (Lit.int .i64 a2).wf = true → ∃ k, tickinglaw11_SerialPass.f k l0 a1 a2 = some true
theorem tickinglaw11_SerialPass.walk (P : tickinglaw11_SerialPass.Pure) (a0 : Option Addr) (len0 cap0 : Nat) (z0 : List Int) (a1 : Int) (a2 : Int) (w : World) (w0 : (a0 = none ∧ len0 = 0 ∧ cap0 = 0 ∧ z0 = []) ∨ ∃ x, a0 = some x ∧ len0 ≤ cap0 ∧ cap0 ≤ maxLen ∧ z0.length = cap0 ∧ (∀ i, i < z0.length → w.cell? (x.add i) = some (.int .i64 (z0.getD i 0))) ∧ ∀ n ∈ z0, (Lit.int .i64 n).wf = true) (y0 : len0 * 8 ≤ 140737488351232) (w1 : (Lit.int .i64 a1).wf = true) (w2 : (Lit.int .i64 a2).wf = true) :
    Calls Try.prog 6 #[.slice a0 len0 cap0, .int .i64 a1, .int .i64 a2] w fun e w' => e = .returned (.bool true) ∧ Below w.heap.size w w' := by
  obtain ⟨l0, rfl, hr0, hm0, hw0, hc0⟩ := ReadsInt.ofRowC w0
  obtain ⟨k, h⟩ := P l0 a1 a2 hm0 y0 hw0 w1 w2
  refine (tickinglaw11_SerialPass.calls k _ _ l0 a1 a2 true w (Kd.C_of_reads (d := (0 : Int)) (h1 := fun _ => rfl) hr0) hc0 h).mono ?_
  rintro e w' ⟨rfl, hd⟩
  exact ⟨rfl, hd⟩

end Go.Proofs.Ytdkncfmlehcjmaa.X
