-- Written by a program of this session (wip/tools/xprint.py) over the kit's print, for this claim.
import Derived.Test.YtdkncfmlehcjmaaX0
import Derived.Test.YtdkncfmlehcjmaaHList
import Derived.Test.YtdkncfmlehcjmaaX20
import Derived.Test.YtdkncfmlehcjmaaX36
import Derived.Test.YtdkncfmlehcjmaaX39
import Derived.Test.YtdkncfmlehcjmaaX40
import Derived.Test.YtdkncfmlehcjmaaX41
import Derived.Test.YtdkncfmlehcjmaaX42
import Derived.Test.YtdkncfmlehcjmaaX43
namespace Go.Proofs.Ytdkncfmlehcjmaa.X
open Go.RowKit Go.Proofs.YtdkncfmlehcjmaaW.PrintWords Go.Proofs.YtdkncfmlehcjmaaW.PrintLast Go.Proofs.YtdkncfmlehcjmaaW.PrintMore
attribute [local go_sem] max2_int min2_int max_two min_two max_three min_three max_four min_four   -- for this text's walks alone
set_option linter.unusedVariables false
set_option linter.unusedSimpArgs false

/-! ### tickinglaw11_SerialSums: function 9 -/
mutual
def tickinglaw11_SerialSums.j0 : Nat → Int → List Int → List Int → Int → Int → Int → Int → Bool → Option (Bool)
  | 0, _, _, _, _, _, _, _, _ => none
  | k + 1, x1, x7, x8, x9, x10, x11, x12, x42 => if x42 = true then (if x9 = 0 then (if x10 = 2 then (if x11 = 0 then (if x12 = 2 then ((tickinglaw11_awake.f k).bind fun t534 => (some t534)) else (some false)) else (some false)) else (some false)) else (some false)) else (if (x8.length : Int) = (x7.length : Int) then ((tickingref11_Sum.f k x7 x1 x8).bind fun t535 => (if x9 = t535 then (if x10 = 0 then (tickinglaw11_SerialSums.j1 k x1 x7 x8 x11 x12) else (some false)) else (some false))) else (if x9 = 0 then (if x10 = 2 then (tickinglaw11_SerialSums.j1 k x1 x7 x8 x11 x12) else (some false)) else (some false)))
def tickinglaw11_SerialSums.j1 : Nat → Int → List Int → List Int → Int → Int → Option (Bool)
  | 0, _, _, _, _, _ => none
  | k + 1, x1, x7, x8, x11, x12 => if (wrap64 ((x8.length : Int) + 1)) = (x7.length : Int) then ((tickingref11_Last.f k x7 x1 x8).bind fun bt537 => (if bt537.2 = true then (if x11 = bt537.1 then (if x12 = 0 then ((tickinglaw11_awake.f k).bind fun t539 => (some t539)) else (some false)) else (some false)) else (if x11 = 0 then (if x12 = 6 then ((tickinglaw11_awake.f k).bind fun t540 => (some t540)) else (some false)) else (some false)))) else (if x11 = 0 then (if x12 = 2 then ((tickinglaw11_awake.f k).bind fun t536 => (some t536)) else (some false)) else (some false))
end
def tickinglaw11_SerialSums.f (k : Nat) (l0 : List Int) (a1 : Int) (l2 : List Int) : Option (Bool) := (tickinglaw11_list.f l0).bind fun t522 => ((tickinglaw11_list.f l2).bind fun t525 => ((serial_Sum.f k t522 a1 t525).bind fun bt528 => ((serial_Last.f k t522 a1 t525).bind fun bt530 => ((tickingref11_Weighted.f k t522 a1).bind fun t532 => (if t532 = true then ((tickingref11_Digits.f k t525 24 a1).bind fun t533 => (tickinglaw11_SerialSums.j0 k a1 t522 t525 bt528.1 bt528.2 bt530.1 bt530.2 (!t533))) else (tickinglaw11_SerialSums.j0 k a1 t522 t525 bt528.1 bt528.2 bt530.1 bt530.2 true))))))
theorem tickinglaw11_SerialSums.mono_l : ∀ k, (∀ y0 y1 y2 y3 y4 y5 y6 y7, LeO (tickinglaw11_SerialSums.j0 k y0 y1 y2 y3 y4 y5 y6 y7) (tickinglaw11_SerialSums.j0 (k + 1) y0 y1 y2 y3 y4 y5 y6 y7)) ∧ (∀ y0 y1 y2 y3 y4, LeO (tickinglaw11_SerialSums.j1 k y0 y1 y2 y3 y4) (tickinglaw11_SerialSums.j1 (k + 1) y0 y1 y2 y3 y4))
  | 0 => ⟨fun _ _ _ _ _ _ _ _ r h => by simp [tickinglaw11_SerialSums.j0] at h, fun _ _ _ _ _ r h => by simp [tickinglaw11_SerialSums.j1] at h⟩
  | k + 1 => by
    obtain ⟨ih0, ih1⟩ := tickinglaw11_SerialSums.mono_l k
    refine ⟨?_, ?_⟩
    · intro y0 y1 y2 y3 y4 y5 y6 y7
      unfold tickinglaw11_SerialSums.j0
      repeat' first
      | (with_reducible exact ih0 _ _ _ _ _ _ _ _)
      | (with_reducible exact ih1 _ _ _ _ _)
      | (with_reducible exact serial_Last.mono _ _ _ _)
      | (with_reducible exact serial_Sum.mono _ _ _ _)
      | (with_reducible exact tickinglaw11_awake.mono _)
      | (with_reducible exact tickingref11_Digits.mono _ _ _ _)
      | (with_reducible exact tickingref11_Last.mono _ _ _ _)
      | (with_reducible exact tickingref11_Sum.mono _ _ _ _)
      | (with_reducible exact tickingref11_Weighted.mono _ _ _)
      | (with_reducible exact LeO.refl _)
      | (with_reducible exact LeO.none _)
      | (with_reducible refine LeO.ite ?_ ?_)
      | (with_reducible refine LeO.bind ?_ (fun _ => ?_))
      | exact ih0 _ _ _ _ _ _ _ _
      | exact ih1 _ _ _ _ _
      | exact serial_Last.mono _ _ _ _
      | exact serial_Sum.mono _ _ _ _
      | exact tickinglaw11_awake.mono _
      | exact tickingref11_Digits.mono _ _ _ _
      | exact tickingref11_Last.mono _ _ _ _
      | exact tickingref11_Sum.mono _ _ _ _
      | exact tickingref11_Weighted.mono _ _ _
      | exact LeO.none _
      | refine LeO.ite ?_ ?_
      | refine LeO.bind ?_ (fun _ => ?_)
    · intro y0 y1 y2 y3 y4
      unfold tickinglaw11_SerialSums.j1
      repeat' first
      | (with_reducible exact ih0 _ _ _ _ _ _ _ _)
      | (with_reducible exact ih1 _ _ _ _ _)
      | (with_reducible exact serial_Last.mono _ _ _ _)
      | (with_reducible exact serial_Sum.mono _ _ _ _)
      | (with_reducible exact tickinglaw11_awake.mono _)
      | (with_reducible exact tickingref11_Digits.mono _ _ _ _)
      | (with_reducible exact tickingref11_Last.mono _ _ _ _)
      | (with_reducible exact tickingref11_Sum.mono _ _ _ _)
      | (with_reducible exact tickingref11_Weighted.mono _ _ _)
      | (with_reducible exact LeO.refl _)
      | (with_reducible exact LeO.none _)
      | (with_reducible refine LeO.ite ?_ ?_)
      | (with_reducible refine LeO.bind ?_ (fun _ => ?_))
      | exact ih0 _ _ _ _ _ _ _ _
      | exact ih1 _ _ _ _ _
      | exact serial_Last.mono _ _ _ _
      | exact serial_Sum.mono _ _ _ _
      | exact tickinglaw11_awake.mono _
      | exact tickingref11_Digits.mono _ _ _ _
      | exact tickingref11_Last.mono _ _ _ _
      | exact tickingref11_Sum.mono _ _ _ _
      | exact tickingref11_Weighted.mono _ _ _
      | exact LeO.none _
      | refine LeO.ite ?_ ?_
      | refine LeO.bind ?_ (fun _ => ?_)
theorem tickinglaw11_SerialSums.mono : ∀ a0 a1 a2 k, LeO (tickinglaw11_SerialSums.f k a0 a1 a2) (tickinglaw11_SerialSums.f (k + 1) a0 a1 a2) := by
  intro a0 a1 a2 k
  obtain ⟨ih0, ih1⟩ := tickinglaw11_SerialSums.mono_l k
  unfold tickinglaw11_SerialSums.f
  repeat' first
      | (with_reducible exact ih0 _ _ _ _ _ _ _ _)
      | (with_reducible exact ih1 _ _ _ _ _)
      | (with_reducible exact serial_Last.mono _ _ _ _)
      | (with_reducible exact serial_Sum.mono _ _ _ _)
      | (with_reducible exact tickinglaw11_awake.mono _)
      | (with_reducible exact tickingref11_Digits.mono _ _ _ _)
      | (with_reducible exact tickingref11_Last.mono _ _ _ _)
      | (with_reducible exact tickingref11_Sum.mono _ _ _ _)
      | (with_reducible exact tickingref11_Weighted.mono _ _ _)
      | (with_reducible exact LeO.refl _)
      | (with_reducible exact LeO.none _)
      | (with_reducible refine LeO.ite ?_ ?_)
      | (with_reducible refine LeO.bind ?_ (fun _ => ?_))
      | exact ih0 _ _ _ _ _ _ _ _
      | exact ih1 _ _ _ _ _
      | exact serial_Last.mono _ _ _ _
      | exact serial_Sum.mono _ _ _ _
      | exact tickinglaw11_awake.mono _
      | exact tickingref11_Digits.mono _ _ _ _
      | exact tickingref11_Last.mono _ _ _ _
      | exact tickingref11_Sum.mono _ _ _ _
      | exact tickingref11_Weighted.mono _ _ _
      | exact LeO.none _
      | refine LeO.ite ?_ ?_
      | refine LeO.bind ?_ (fun _ => ?_)
set_option maxHeartbeats 8000000 in
set_option maxRecDepth 100000 in
theorem tickinglaw11_SerialSums.calls (k : Nat) (A0 : Option Addr) (c0 : Nat) (l0 : List Int) (a1 : Int) (A2 : Option Addr) (c2 : Nat) (l2 : List Int) (r : Bool) (w : World) (hr0 : Kd.C (Kd.int .i64) w A0 l0.length l0) (hc0 : l0.length ≤ c0) (hr2 : Kd.C (Kd.int .i64) w A2 l2.length l2) (hc2 : l2.length ≤ c2) (h : tickinglaw11_SerialSums.f k l0 a1 l2 = some r) :
    Calls Try.prog 9 #[.slice A0 l0.length c0, .int .i64 a1, .slice A2 l2.length c2] w fun e w' => e = .returned (.bool r) ∧ Below w.heap.size w w' := by
  have HR0 := Aside0.mk hr0
  have HC0 := Aside0.mk hc0
  clear hr0 hc0
  have HR2 := Aside0.mk hr2
  have HC2 := Aside0.mk hc2
  clear hr2 hc2
  have HB := Aside0.mk (Below.refl w.heap.size w)
  have H : ((tickinglaw11_list.f l0).bind fun t522 => ((tickinglaw11_list.f l2).bind fun t525 => ((serial_Sum.f k t522 a1 t525).bind fun bt528 => ((serial_Last.f k t522 a1 t525).bind fun bt530 => ((tickingref11_Weighted.f k t522 a1).bind fun t532 => (if t532 = true then ((tickingref11_Digits.f k t525 24 a1).bind fun t533 => (tickinglaw11_SerialSums.j0 k a1 t522 t525 bt528.1 bt528.2 bt530.1 bt530.2 (!t533))) else (tickinglaw11_SerialSums.j0 k a1 t522 t525 bt528.1 bt528.2 bt530.1 bt530.2 true))))))) = some r := h
  clear h
  replace H := Option.bind_eq_some_iff.mp H
  obtain ⟨t522, A40, H⟩ := H
  replace H : ((tickinglaw11_list.f l2).bind fun t525 => ((serial_Sum.f k t522 a1 t525).bind fun bt528 => ((serial_Last.f k t522 a1 t525).bind fun bt530 => ((tickingref11_Weighted.f k t522 a1).bind fun t532 => (if t532 = true then ((tickingref11_Digits.f k t525 24 a1).bind fun t533 => (tickinglaw11_SerialSums.j0 k a1 t522 t525 bt528.1 bt528.2 bt530.1 bt530.2 (!t533))) else (tickinglaw11_SerialSums.j0 k a1 t522 t525 bt528.1 bt528.2 bt530.1 bt530.2 true)))))) = some r := H
  have A4 := Aside0.mk A40
  clear A40
  replace H := Option.bind_eq_some_iff.mp H
  obtain ⟨t525, A50, H⟩ := H
  replace H : ((serial_Sum.f k t522 a1 t525).bind fun bt528 => ((serial_Last.f k t522 a1 t525).bind fun bt530 => ((tickingref11_Weighted.f k t522 a1).bind fun t532 => (if t532 = true then ((tickingref11_Digits.f k t525 24 a1).bind fun t533 => (tickinglaw11_SerialSums.j0 k a1 t522 t525 bt528.1 bt528.2 bt530.1 bt530.2 (!t533))) else (tickinglaw11_SerialSums.j0 k a1 t522 t525 bt528.1 bt528.2 bt530.1 bt530.2 true))))) = some r := H
  have A5 := Aside0.mk A50
  clear A50
  replace H := Option.bind_eq_some_iff.mp H
  obtain ⟨⟨t528, t529⟩, A60, H⟩ := H
  replace H : ((serial_Last.f k t522 a1 t525).bind fun bt530 => ((tickingref11_Weighted.f k t522 a1).bind fun t532 => (if t532 = true then ((tickingref11_Digits.f k t525 24 a1).bind fun t533 => (tickinglaw11_SerialSums.j0 k a1 t522 t525 t528 t529 bt530.1 bt530.2 (!t533))) else (tickinglaw11_SerialSums.j0 k a1 t522 t525 t528 t529 bt530.1 bt530.2 true)))) = some r := H
  have A6 := Aside0.mk A60
  clear A60
  replace H := Option.bind_eq_some_iff.mp H
  obtain ⟨⟨t530, t531⟩, A70, H⟩ := H
  replace H : ((tickingref11_Weighted.f k t522 a1).bind fun t532 => (if t532 = true then ((tickingref11_Digits.f k t525 24 a1).bind fun t533 => (tickinglaw11_SerialSums.j0 k a1 t522 t525 t528 t529 t530 t531 (!t533))) else (tickinglaw11_SerialSums.j0 k a1 t522 t525 t528 t529 t530 t531 true))) = some r := H
  have A7 := Aside0.mk A70
  clear A70
  have HC8 := Aside0.mk H
  clear H
  go_enter Try.func9, Try.ntmps9
  go_upto_region 4 with (first | ((with_reducible refine gate_callee (f := 21) rfl ?_); refine goesL_ (some 16) rfl rfl Try.func21 (by kernel_rfl) rfl #[.slice A0 l0.length c0] rfl (by (try simp only [List.map_toArray, List.map_cons, List.map_nil]); first | done | rfl | (simp only [List.length_drop, List.length_take]; rfl)) ?_; (with_reducible refine (tickinglaw11_list.calls _ _ l0 t522 _ ?side1 ?side2 A4.out).mono ?_); (case side1 => repeat (first | exact HR0.out | (with_reducible refine Kd.C_alloc ?_ _) | (with_reducible refine Kd.C_drewN ?_ _) | (with_reducible refine Kd.C_drew ?_))); (case side2 => exact HC0.out); rintro e w9 ⟨v523, rfl, ho0, hb⟩; refine ⟨_, rfl, ?_⟩; have n0_ := Aside0.mk (Kd.R_lower ho0 (below_size (by repeat (first | (with_reducible first | exact HB.out | apply below_alloc | apply pw_below_drewN | apply below_drew1) | exact HB.out)))); have n1_ := Aside0.mk (below_step (by repeat (first | (with_reducible first | exact HB.out | apply below_alloc | apply pw_below_drewN | apply below_drew1) | exact HB.out)) hb); clear HB; have HO524 := n0_; have HB := n1_; clear n0_ n1_; (try clear hb); (try clear hb2); (try clear hk); (try clear hi); (try clear ho0)) | ((with_reducible refine gate_callee (f := 21) rfl ?_); refine goesL_ (some 18) rfl rfl Try.func21 (by kernel_rfl) rfl #[.slice A2 l2.length c2] rfl (by (try simp only [List.map_toArray, List.map_cons, List.map_nil]); first | done | rfl | (simp only [List.length_drop, List.length_take]; rfl)) ?_; (with_reducible refine (tickinglaw11_list.calls _ _ l2 t525 _ ?side1 ?side2 A5.out).mono ?_); (case side1 => repeat (first | exact (Kd.C_below HR2.out HB.out) | (with_reducible refine Kd.C_alloc ?_ _) | (with_reducible refine Kd.C_drewN ?_ _) | (with_reducible refine Kd.C_drew ?_))); (case side2 => exact HC2.out); rintro e w10 ⟨v526, rfl, ho0, hb⟩; refine ⟨_, rfl, ?_⟩; have n0_ := Aside0.mk (Kd.R_elder' (by (with_reducible repeat (first | apply Kd.R_alloc | apply Kd.R_drewN | apply Kd.R_drew)); exact HO524.out) (Kd.R_base ho0) hb); have n1_ := Aside0.mk (Kd.R_lower (Kd.R_new' ho0 (Kd.R_lt (by (with_reducible repeat (first | apply Kd.R_alloc | apply Kd.R_drewN | apply Kd.R_drew)); exact HO524.out))) (below_size (by repeat (first | (with_reducible first | exact HB.out | apply below_alloc | apply pw_below_drewN | apply below_drew1) | exact HB.out)))); have n2_ := Aside0.mk (below_step (by repeat (first | (with_reducible first | exact HB.out | apply below_alloc | apply pw_below_drewN | apply below_drew1) | exact HB.out)) hb); clear HO524; clear HB; have HO524 := n0_; have HO527 := n1_; have HB := n2_; clear n0_ n1_ n2_; (try clear hb); (try clear hb2); (try clear hk); (try clear hi); (try clear ho0); obtain ⟨Ao11, co11, eo11⟩ := Kd.R_slice HO524.out; subst eo11; obtain ⟨Ao12, co12, eo12⟩ := Kd.R_slice HO527.out; subst eo12) | ((with_reducible refine gate_callee (f := 39) rfl ?_); refine goesL_ (some 23) rfl rfl Try.func39 (by kernel_rfl) rfl #[.slice Ao11 t522.length co11, .int .i64 a1, .slice Ao12 t525.length co12] rfl (by (try simp only [List.map_toArray, List.map_cons, List.map_nil]); first | done | rfl | (simp only [List.length_drop, List.length_take]; rfl)) ?_; (with_reducible refine (serial_Sum.calls k _ _ t522 a1 _ _ t525 t528 t529 _ ?side1 ?side2 ?side3 ?side4 A6.out).mono ?_); (case side1 => repeat (first | exact (Kd.R_reads' HO524.out).2.2 | (with_reducible refine Kd.C_alloc ?_ _) | (with_reducible refine Kd.C_drewN ?_ _) | (with_reducible refine Kd.C_drew ?_))); (case side2 => exact (Kd.R_reads' HO524.out).2.1); (case side3 => repeat (first | exact (Kd.R_reads' HO527.out).2.2 | (with_reducible refine Kd.C_alloc ?_ _) | (with_reducible refine Kd.C_drewN ?_ _) | (with_reducible refine Kd.C_drew ?_))); (case side4 => exact (Kd.R_reads' HO527.out).2.1); rintro e w13 ⟨rfl, hb⟩; refine ⟨_, rfl, ?_⟩; have n0_ := Aside0.mk (Kd.R_below (by (with_reducible repeat (first | apply Kd.R_alloc | apply Kd.R_drewN | apply Kd.R_drew)); exact HO524.out) hb); have n1_ := Aside0.mk (Kd.R_below (by (with_reducible repeat (first | apply Kd.R_alloc | apply Kd.R_drewN | apply Kd.R_drew)); exact HO527.out) hb); have n2_ := Aside0.mk (below_step (by repeat (first | (with_reducible first | exact HB.out | apply below_alloc | apply pw_below_drewN | apply below_drew1) | exact HB.out)) hb); clear HO524; clear HO527; clear HB; have HO524 := n0_; have HO527 := n1_; have HB := n2_; clear n0_ n1_ n2_; (try clear hb); (try clear hb2); (try clear hk); (try clear hi)) | ((with_reducible refine gate_callee (f := 40) rfl ?_); refine goesL_ (some 30) rfl rfl Try.func40 (by kernel_rfl) rfl #[.slice Ao11 t522.length co11, .int .i64 a1, .slice Ao12 t525.length co12] rfl (by (try simp only [List.map_toArray, List.map_cons, List.map_nil]); first | done | rfl | (simp only [List.length_drop, List.length_take]; rfl)) ?_; (with_reducible refine (serial_Last.calls k _ _ t522 a1 _ _ t525 t530 t531 _ ?side1 ?side2 ?side3 ?side4 A7.out).mono ?_); (case side1 => repeat (first | exact (Kd.R_reads' HO524.out).2.2 | (with_reducible refine Kd.C_alloc ?_ _) | (with_reducible refine Kd.C_drewN ?_ _) | (with_reducible refine Kd.C_drew ?_))); (case side2 => exact (Kd.R_reads' HO524.out).2.1); (case side3 => repeat (first | exact (Kd.R_reads' HO527.out).2.2 | (with_reducible refine Kd.C_alloc ?_ _) | (with_reducible refine Kd.C_drewN ?_ _) | (with_reducible refine Kd.C_drew ?_))); (case side4 => exact (Kd.R_reads' HO527.out).2.1); rintro e w14 ⟨rfl, hb⟩; refine ⟨_, rfl, ?_⟩; have n0_ := Aside0.mk (Kd.R_below (by (with_reducible repeat (first | apply Kd.R_alloc | apply Kd.R_drewN | apply Kd.R_drew)); exact HO524.out) hb); have n1_ := Aside0.mk (Kd.R_below (by (with_reducible repeat (first | apply Kd.R_alloc | apply Kd.R_drewN | apply Kd.R_drew)); exact HO527.out) hb); have n2_ := Aside0.mk (below_step (by repeat (first | (with_reducible first | exact HB.out | apply below_alloc | apply pw_below_drewN | apply below_drew1) | exact HB.out)) hb); clear HO524; clear HO527; clear HB; have HO524 := n0_; have HO527 := n1_; have HB := n2_; clear n0_ n1_ n2_; (try clear hb); (try clear hb2); (try clear hk); (try clear hi)))
  (try simp only [Act.put, List.setIfInBounds_toArray, List.set_cons_zero, List.set_cons_succ])
  go_cut [42] (fun v42 wc => ∃ (kq : Nat) (x42_7 : Bool), v42 = .bool x42_7 ∧ Aside0 (tickinglaw11_SerialSums.j0 kq a1 t522 t525 t528 t529 t530 t531 x42_7 = some r) ∧ Aside0 (kq ≤ k) ∧ Aside0 (Kd.R (Kd.int .i64) 3 wc w.heap.size (fun k_ => some k_ ≠ ((.slice Ao12 t525.length co12) : Value).ownBlock) (.slice Ao11 t522.length co11) t522) ∧ Aside0 (Kd.R (Kd.int .i64) 3 wc w.heap.size (fun k_ => some k_ ≠ ((.slice Ao11 t522.length co11) : Value).ownBlock) (.slice Ao12 t525.length co12) t525) ∧ Aside0 (Below w.heap.size w wc))
  case first =>
    have H := HC8.out
    clear HC8
    replace H := Option.bind_eq_some_iff.mp H
    obtain ⟨t532, A150, H⟩ := H
    replace H : (if t532 = true then ((tickingref11_Digits.f k t525 24 a1).bind fun t533 => (tickinglaw11_SerialSums.j0 k a1 t522 t525 t528 t529 t530 t531 (!t533))) else (tickinglaw11_SerialSums.j0 k a1 t522 t525 t528 t529 t530 t531 true)) = some r := H
    have A15 := Aside0.mk A150
    clear A150
    by_cases c16 : t532 = true
    · subst c16
      have H1 : ((tickingref11_Digits.f k t525 24 a1).bind fun t533 => (tickinglaw11_SerialSums.j0 k a1 t522 t525 t528 t529 t530 t531 (!t533))) = some r := by rw [if_pos rfl] at H; exact H
      clear H
      have H := H1
      clear H1
      replace H := Option.bind_eq_some_iff.mp H
      obtain ⟨t533, A170, H⟩ := H
      replace H : (tickinglaw11_SerialSums.j0 k a1 t522 t525 t528 t529 t530 t531 (!t533)) = some r := H
      have A17 := Aside0.mk A170
      clear A170
      have H' := Aside0.mk H
      clear H
      go_wp2_with (first | ((with_reducible refine gate_callee (f := 41) rfl ?_); refine goesL_ (some 35) rfl rfl Try.func41 (by kernel_rfl) rfl #[.slice Ao11 t522.length co11, .int .i64 a1] rfl (by (try simp only [List.map_toArray, List.map_cons, List.map_nil]); first | done | rfl | (simp only [List.length_drop, List.length_take]; rfl)) ?_; (with_reducible refine (tickingref11_Weighted.calls k _ _ t522 a1 true _ ?side1 ?side2 A15.out).mono ?_); (case side1 => repeat (first | exact (Kd.R_reads' HO524.out).2.2 | (with_reducible refine Kd.C_alloc ?_ _) | (with_reducible refine Kd.C_drewN ?_ _) | (with_reducible refine Kd.C_drew ?_))); (case side2 => exact (Kd.R_reads' HO524.out).2.1); rintro e w' ⟨rfl, ⟨nd, rfl⟩⟩; refine ⟨_, rfl, ?_⟩) | (go_at_call 36; (with_reducible refine (tickingref11_Digits.calls k _ _ t525 24 a1 t533 _ ?side1 ?side2 A17.out).mono ?_); (case side1 => repeat (first | exact (Kd.R_reads' HO527.out).2.2 | (with_reducible refine Kd.C_alloc ?_ _) | (with_reducible refine Kd.C_drewN ?_ _) | (with_reducible refine Kd.C_drew ?_))); (case side2 => exact (Kd.R_reads' HO527.out).2.1); rintro e w' ⟨rfl, ⟨nd, rfl⟩⟩))
      go_meet
      case rel => exact ⟨_, (!t533), (by first | rfl | (simp; done) | (simp [*]; done)), H', ⟨by first | omega | exact Nat.le_refl _⟩, ⟨by (with_reducible repeat (first | apply Kd.R_alloc | apply Kd.R_drewN | apply Kd.R_drew)); exact Kd.R_mono HO524.out (fun _ hk => hk.2)⟩, ⟨by (with_reducible repeat (first | apply Kd.R_alloc | apply Kd.R_drewN | apply Kd.R_drew)); exact Kd.R_mono HO527.out (fun _ hk => hk.2)⟩, ⟨by repeat (first | (with_reducible first | exact HB.out | apply below_alloc | apply pw_below_drewN | apply below_drew1) | exact HB.out)⟩⟩
    · replace c16 := Bool.eq_false_iff.mpr c16
      subst c16
      have H1 : (tickinglaw11_SerialSums.j0 k a1 t522 t525 t528 t529 t530 t531 true) = some r := by rw [if_neg (show ¬ (false = true) by decide)] at H; exact H
      clear H
      have H := H1
      clear H1
      have H' := Aside0.mk H
      clear H
      go_wp2_with (first | ((with_reducible refine gate_callee (f := 41) rfl ?_); refine goesL_ (some 35) rfl rfl Try.func41 (by kernel_rfl) rfl #[.slice Ao11 t522.length co11, .int .i64 a1] rfl (by (try simp only [List.map_toArray, List.map_cons, List.map_nil]); first | done | rfl | (simp only [List.length_drop, List.length_take]; rfl)) ?_; (with_reducible refine (tickingref11_Weighted.calls k _ _ t522 a1 false _ ?side1 ?side2 A15.out).mono ?_); (case side1 => repeat (first | exact (Kd.R_reads' HO524.out).2.2 | (with_reducible refine Kd.C_alloc ?_ _) | (with_reducible refine Kd.C_drewN ?_ _) | (with_reducible refine Kd.C_drew ?_))); (case side2 => exact (Kd.R_reads' HO524.out).2.1); rintro e w' ⟨rfl, ⟨nd, rfl⟩⟩; refine ⟨_, rfl, ?_⟩))
      go_meet
      case rel => exact ⟨_, (true), (by first | rfl | (simp; done) | (simp [*]; done)), H', ⟨by first | omega | exact Nat.le_refl _⟩, ⟨by (with_reducible repeat (first | apply Kd.R_alloc | apply Kd.R_drewN | apply Kd.R_drew)); exact Kd.R_mono HO524.out (fun _ hk => hk.2)⟩, ⟨by (with_reducible repeat (first | apply Kd.R_alloc | apply Kd.R_drewN | apply Kd.R_drew)); exact Kd.R_mono HO527.out (fun _ hk => hk.2)⟩, ⟨by repeat (first | (with_reducible first | exact HB.out | apply below_alloc | apply pw_below_drewN | apply below_drew1) | exact HB.out)⟩⟩
  case rest =>
    clear HC8
    try clear c1
    try clear c2
    try clear p2
    try clear c3
    try clear c4
    try clear c9
    try clear c16
    obtain ⟨kq, x42_7, rfl, HA, HJ7, HO_7, HO_8, HB⟩ := hcut
    cases kq with
    | zero => exact absurd HA.out (by simp [tickinglaw11_SerialSums.j0])
    | succ kj7 =>
      have H := HA.out
      clear HA
      simp only [tickinglaw11_SerialSums.j0] at H
      by_cases c18 : x42_7 = true
      · subst c18
        have H1 : (if t528 = 0 then (if t529 = 2 then (if t530 = 0 then (if t531 = 2 then ((tickinglaw11_awake.f kj7).bind fun t534 => (some t534)) else (some false)) else (some false)) else (some false)) else (some false)) = some r := by rw [if_pos rfl] at H; exact H
        clear H
        have H := H1
        clear H1
        by_cases c19 : t528 = 0
        · rw [if_pos c19] at H
          have c19b0 : (t528 == 0) = true := beq_iff_eq.mpr c19
          have c19b1 : (t528 != 0) = false := bne_eq_false_iff_eq.mpr c19
          clear c19
          by_cases c20 : t529 = 2
          · rw [if_pos c20] at H
            have c20b0 : (t529 == 2) = true := beq_iff_eq.mpr c20
            have c20b1 : (t529 != 2) = false := bne_eq_false_iff_eq.mpr c20
            clear c20
            by_cases c21 : t530 = 0
            · rw [if_pos c21] at H
              have c21b0 : (t530 == 0) = true := beq_iff_eq.mpr c21
              have c21b1 : (t530 != 0) = false := bne_eq_false_iff_eq.mpr c21
              clear c21
              by_cases c22 : t531 = 2
              · rw [if_pos c22] at H
                have c22b0 : (t531 == 2) = true := beq_iff_eq.mpr c22
                have c22b1 : (t531 != 2) = false := bne_eq_false_iff_eq.mpr c22
                clear c22
                replace H := Option.bind_eq_some_iff.mp H
                obtain ⟨t534, A230, H⟩ := H
                replace H : (some t534) = some r := H
                have A23 := Aside0.mk A230
                clear A230
                obtain rfl := Option.some.inj H
                go_wp2_with (first | (go_at_call 22; (with_reducible refine (tickinglaw11_awake.calls kj7  t534 _ A23.out).mono ?_); rintro e w24 ⟨rfl, hb⟩; have n0_ := Aside0.mk (Kd.R_below (by (with_reducible repeat (first | apply Kd.R_alloc | apply Kd.R_drewN | apply Kd.R_drew)); exact HO_7.out) hb); have n1_ := Aside0.mk (Kd.R_below (by (with_reducible repeat (first | apply Kd.R_alloc | apply Kd.R_drewN | apply Kd.R_drew)); exact HO_8.out) hb); have n2_ := Aside0.mk (below_step (by repeat (first | (with_reducible first | exact HB.out | apply below_alloc | apply pw_below_drewN | apply below_drew1) | exact HB.out)) hb); clear HO_7; clear HO_8; clear HB; have HO_7 := n0_; have HO_8 := n1_; have HB := n2_; clear n0_ n1_ n2_; (try clear hb); (try clear hb2); (try clear hk); (try clear hi)))
                go_ret
                exact ⟨by first | rfl | (simp [errW_none, errW_some] <;> rfl) | (simp [*, errW_none, errW_some] <;> rfl), by repeat (first | (with_reducible first | exact HB.out | apply below_alloc | apply pw_below_drewN | apply below_drew1) | exact HB.out)⟩
              · rw [if_neg c22] at H
                have c22b0 : (t531 == 2) = false := beq_eq_false_iff_ne.mpr c22
                have c22b1 : (t531 != 2) = true := bne_iff_ne.mpr c22
                obtain rfl := Option.some.inj H
                go_wp2
                go_ret
                exact ⟨by first | rfl | (simp [errW_none, errW_some] <;> rfl) | (simp [*, errW_none, errW_some] <;> rfl), by repeat (first | (with_reducible first | exact HB.out | apply below_alloc | apply pw_below_drewN | apply below_drew1) | exact HB.out)⟩
            · rw [if_neg c21] at H
              have c21b0 : (t530 == 0) = false := beq_eq_false_iff_ne.mpr c21
              have c21b1 : (t530 != 0) = true := bne_iff_ne.mpr c21
              obtain rfl := Option.some.inj H
              go_wp2
              go_ret
              exact ⟨by first | rfl | (simp [errW_none, errW_some] <;> rfl) | (simp [*, errW_none, errW_some] <;> rfl), by repeat (first | (with_reducible first | exact HB.out | apply below_alloc | apply pw_below_drewN | apply below_drew1) | exact HB.out)⟩
          · rw [if_neg c20] at H
            have c20b0 : (t529 == 2) = false := beq_eq_false_iff_ne.mpr c20
            have c20b1 : (t529 != 2) = true := bne_iff_ne.mpr c20
            obtain rfl := Option.some.inj H
            go_wp2
            go_ret
            exact ⟨by first | rfl | (simp [errW_none, errW_some] <;> rfl) | (simp [*, errW_none, errW_some] <;> rfl), by repeat (first | (with_reducible first | exact HB.out | apply below_alloc | apply pw_below_drewN | apply below_drew1) | exact HB.out)⟩
        · rw [if_neg c19] at H
          have c19b0 : (t528 == 0) = false := beq_eq_false_iff_ne.mpr c19
          have c19b1 : (t528 != 0) = true := bne_iff_ne.mpr c19
          obtain rfl := Option.some.inj H
          go_wp2
          go_ret
          exact ⟨by first | rfl | (simp [errW_none, errW_some] <;> rfl) | (simp [*, errW_none, errW_some] <;> rfl), by repeat (first | (with_reducible first | exact HB.out | apply below_alloc | apply pw_below_drewN | apply below_drew1) | exact HB.out)⟩
      · replace c18 := Bool.eq_false_iff.mpr c18
        subst c18
        have H1 : (if (t525.length : Int) = (t522.length : Int) then ((tickingref11_Sum.f kj7 t522 a1 t525).bind fun t535 => (if t528 = t535 then (if t529 = 0 then (tickinglaw11_SerialSums.j1 kj7 a1 t522 t525 t530 t531) else (some false)) else (some false))) else (if t528 = 0 then (if t529 = 2 then (tickinglaw11_SerialSums.j1 kj7 a1 t522 t525 t530 t531) else (some false)) else (some false))) = some r := by rw [if_neg (show ¬ (false = true) by decide)] at H; exact H
        clear H
        have H := H1
        clear H1
        have HC25 := Aside0.mk H
        clear H
        go_upto_if 64 with (fail)
        go_cut [] (fun wc => ∃ (kq : Nat), Aside0 (tickinglaw11_SerialSums.j1 kq a1 t522 t525 t530 t531 = some r) ∧ Aside0 (kq ≤ kj7) ∧ Aside0 (Kd.R (Kd.int .i64) 3 wc w.heap.size (fun k_ => some k_ ≠ ((.slice Ao12 t525.length co12) : Value).ownBlock) (.slice Ao11 t522.length co11) t522) ∧ Aside0 (Kd.R (Kd.int .i64) 3 wc w.heap.size (fun k_ => some k_ ≠ ((.slice Ao11 t522.length co11) : Value).ownBlock) (.slice Ao12 t525.length co12) t525) ∧ Aside0 (Below w.heap.size w wc))
        case first =>
          have H := HC25.out
          clear HC25
          by_cases c26 : (t525.length : Int) = (t522.length : Int)
          · rw [if_pos c26] at H
            have c26b0 : ((t525.length : Int) == (t522.length : Int)) = true := beq_iff_eq.mpr c26
            have c26b1 : ((t525.length : Int) != (t522.length : Int)) = false := bne_eq_false_iff_eq.mpr c26
            have c26b2 : (t525.length == t522.length) = true := by first | simpa using c26 | (simp at c26 ⊢; omega)
            clear c26
            (first | rw [c26b0] | (simp only [i64_w, i32_w]; rw [c26b0]) | skip)
            replace H := Option.bind_eq_some_iff.mp H
            obtain ⟨t535, A270, H⟩ := H
            replace H : (if t528 = t535 then (if t529 = 0 then (tickinglaw11_SerialSums.j1 kj7 a1 t522 t525 t530 t531) else (some false)) else (some false)) = some r := H
            have A27 := Aside0.mk A270
            clear A270
            by_cases c28 : t528 = t535
            · rw [if_pos c28] at H
              have c28b0 : (t528 == t535) = true := beq_iff_eq.mpr c28
              have c28b1 : (t528 != t535) = false := bne_eq_false_iff_eq.mpr c28
              clear c28
              by_cases c29 : t529 = 0
              · rw [if_pos c29] at H
                have c29b0 : (t529 == 0) = true := beq_iff_eq.mpr c29
                have c29b1 : (t529 != 0) = false := bne_eq_false_iff_eq.mpr c29
                clear c29
                have H' := Aside0.mk H
                clear H
                go_wp2_with (first | ((with_reducible refine gate_callee (f := 42) rfl ?_); refine goesL_ (some 75) rfl rfl Try.func42 (by kernel_rfl) rfl #[.slice Ao11 t522.length co11, .int .i64 a1, .slice Ao12 t525.length co12] rfl (by (try simp only [List.map_toArray, List.map_cons, List.map_nil]); first | done | rfl | (simp only [List.length_drop, List.length_take]; rfl)) ?_; (with_reducible refine (tickingref11_Sum.calls kj7 _ _ t522 a1 _ _ t525 t535 _ ?side1 ?side2 ?side3 ?side4 A27.out).mono ?_); (case side1 => repeat (first | exact (Kd.R_reads' HO_7.out).2.2 | (with_reducible refine Kd.C_alloc ?_ _) | (with_reducible refine Kd.C_drewN ?_ _) | (with_reducible refine Kd.C_drew ?_))); (case side2 => exact (Kd.R_reads' HO_7.out).2.1); (case side3 => repeat (first | exact (Kd.R_reads' HO_8.out).2.2 | (with_reducible refine Kd.C_alloc ?_ _) | (with_reducible refine Kd.C_drewN ?_ _) | (with_reducible refine Kd.C_drew ?_))); (case side4 => exact (Kd.R_reads' HO_8.out).2.1); rintro e w' ⟨rfl, ⟨nd, rfl⟩⟩; refine ⟨_, rfl, ?_⟩))
                go_meet
                case rel => exact ⟨_, H', ⟨by have := HJ7.out; first | omega | exact Nat.le_refl _⟩, ⟨by (with_reducible repeat (first | apply Kd.R_alloc | apply Kd.R_drewN | apply Kd.R_drew)); exact HO_7.out⟩, ⟨by (with_reducible repeat (first | apply Kd.R_alloc | apply Kd.R_drewN | apply Kd.R_drew)); exact HO_8.out⟩, ⟨by repeat (first | (with_reducible first | exact HB.out | apply below_alloc | apply pw_below_drewN | apply below_drew1) | exact HB.out)⟩⟩
              · rw [if_neg c29] at H
                have c29b0 : (t529 == 0) = false := beq_eq_false_iff_ne.mpr c29
                have c29b1 : (t529 != 0) = true := bne_iff_ne.mpr c29
                obtain rfl := Option.some.inj H
                go_wp2_with (first | ((with_reducible refine gate_callee (f := 42) rfl ?_); refine goesL_ (some 75) rfl rfl Try.func42 (by kernel_rfl) rfl #[.slice Ao11 t522.length co11, .int .i64 a1, .slice Ao12 t525.length co12] rfl (by (try simp only [List.map_toArray, List.map_cons, List.map_nil]); first | done | rfl | (simp only [List.length_drop, List.length_take]; rfl)) ?_; (with_reducible refine (tickingref11_Sum.calls kj7 _ _ t522 a1 _ _ t525 t535 _ ?side1 ?side2 ?side3 ?side4 A27.out).mono ?_); (case side1 => repeat (first | exact (Kd.R_reads' HO_7.out).2.2 | (with_reducible refine Kd.C_alloc ?_ _) | (with_reducible refine Kd.C_drewN ?_ _) | (with_reducible refine Kd.C_drew ?_))); (case side2 => exact (Kd.R_reads' HO_7.out).2.1); (case side3 => repeat (first | exact (Kd.R_reads' HO_8.out).2.2 | (with_reducible refine Kd.C_alloc ?_ _) | (with_reducible refine Kd.C_drewN ?_ _) | (with_reducible refine Kd.C_drew ?_))); (case side4 => exact (Kd.R_reads' HO_8.out).2.1); rintro e w' ⟨rfl, ⟨nd, rfl⟩⟩; refine ⟨_, rfl, ?_⟩))
                go_ret
                exact ⟨by first | rfl | (simp [errW_none, errW_some] <;> rfl) | (simp [*, errW_none, errW_some] <;> rfl), by repeat (first | (with_reducible first | exact HB.out | apply below_alloc | apply pw_below_drewN | apply below_drew1) | exact HB.out)⟩
            · rw [if_neg c28] at H
              have c28b0 : (t528 == t535) = false := beq_eq_false_iff_ne.mpr c28
              have c28b1 : (t528 != t535) = true := bne_iff_ne.mpr c28
              obtain rfl := Option.some.inj H
              go_wp2_with (first | ((with_reducible refine gate_callee (f := 42) rfl ?_); refine goesL_ (some 75) rfl rfl Try.func42 (by kernel_rfl) rfl #[.slice Ao11 t522.length co11, .int .i64 a1, .slice Ao12 t525.length co12] rfl (by (try simp only [List.map_toArray, List.map_cons, List.map_nil]); first | done | rfl | (simp only [List.length_drop, List.length_take]; rfl)) ?_; (with_reducible refine (tickingref11_Sum.calls kj7 _ _ t522 a1 _ _ t525 t535 _ ?side1 ?side2 ?side3 ?side4 A27.out).mono ?_); (case side1 => repeat (first | exact (Kd.R_reads' HO_7.out).2.2 | (with_reducible refine Kd.C_alloc ?_ _) | (with_reducible refine Kd.C_drewN ?_ _) | (with_reducible refine Kd.C_drew ?_))); (case side2 => exact (Kd.R_reads' HO_7.out).2.1); (case side3 => repeat (first | exact (Kd.R_reads' HO_8.out).2.2 | (with_reducible refine Kd.C_alloc ?_ _) | (with_reducible refine Kd.C_drewN ?_ _) | (with_reducible refine Kd.C_drew ?_))); (case side4 => exact (Kd.R_reads' HO_8.out).2.1); rintro e w' ⟨rfl, ⟨nd, rfl⟩⟩; refine ⟨_, rfl, ?_⟩))
              go_ret
              exact ⟨by first | rfl | (simp [errW_none, errW_some] <;> rfl) | (simp [*, errW_none, errW_some] <;> rfl), by repeat (first | (with_reducible first | exact HB.out | apply below_alloc | apply pw_below_drewN | apply below_drew1) | exact HB.out)⟩
          · rw [if_neg c26] at H
            have c26b0 : ((t525.length : Int) == (t522.length : Int)) = false := beq_eq_false_iff_ne.mpr c26
            have c26b1 : ((t525.length : Int) != (t522.length : Int)) = true := bne_iff_ne.mpr c26
            have c26b2 : (t525.length == t522.length) = false := by first | simpa using c26 | (simp at c26 ⊢; omega)
            (first | rw [c26b0] | (simp only [i64_w, i32_w]; rw [c26b0]) | skip)
            by_cases c30 : t528 = 0
            · rw [if_pos c30] at H
              have c30b0 : (t528 == 0) = true := beq_iff_eq.mpr c30
              have c30b1 : (t528 != 0) = false := bne_eq_false_iff_eq.mpr c30
              clear c30
              by_cases c31 : t529 = 2
              · rw [if_pos c31] at H
                have c31b0 : (t529 == 2) = true := beq_iff_eq.mpr c31
                have c31b1 : (t529 != 2) = false := bne_eq_false_iff_eq.mpr c31
                clear c31
                have H' := Aside0.mk H
                clear H
                go_wp2
                go_meet
                case rel => exact ⟨_, H', ⟨by have := HJ7.out; first | omega | exact Nat.le_refl _⟩, ⟨by (with_reducible repeat (first | apply Kd.R_alloc | apply Kd.R_drewN | apply Kd.R_drew)); exact HO_7.out⟩, ⟨by (with_reducible repeat (first | apply Kd.R_alloc | apply Kd.R_drewN | apply Kd.R_drew)); exact HO_8.out⟩, ⟨by repeat (first | (with_reducible first | exact HB.out | apply below_alloc | apply pw_below_drewN | apply below_drew1) | exact HB.out)⟩⟩
              · rw [if_neg c31] at H
                have c31b0 : (t529 == 2) = false := beq_eq_false_iff_ne.mpr c31
                have c31b1 : (t529 != 2) = true := bne_iff_ne.mpr c31
                obtain rfl := Option.some.inj H
                go_wp2
                go_ret
                exact ⟨by first | rfl | (simp [errW_none, errW_some] <;> rfl) | (simp [*, errW_none, errW_some] <;> rfl), by repeat (first | (with_reducible first | exact HB.out | apply below_alloc | apply pw_below_drewN | apply below_drew1) | exact HB.out)⟩
            · rw [if_neg c30] at H
              have c30b0 : (t528 == 0) = false := beq_eq_false_iff_ne.mpr c30
              have c30b1 : (t528 != 0) = true := bne_iff_ne.mpr c30
              obtain rfl := Option.some.inj H
              go_wp2
              go_ret
              exact ⟨by first | rfl | (simp [errW_none, errW_some] <;> rfl) | (simp [*, errW_none, errW_some] <;> rfl), by repeat (first | (with_reducible first | exact HB.out | apply below_alloc | apply pw_below_drewN | apply below_drew1) | exact HB.out)⟩
        case rest =>
          clear HC25
          try clear c1
          try clear c2
          try clear p2
          try clear c3
          try clear c4
          try clear c9
          try clear c16
          try clear c18
          try clear c19
          try clear c19b0
          try clear c19b1
          try clear c20
          try clear c20b0
          try clear c20b1
          try clear c21
          try clear c21b0
          try clear c21b1
          try clear c22
          try clear c22b0
          try clear c22b1
          try clear c26
          try clear c26b0
          try clear c26b1
          try clear c26b2
          try clear c28
          try clear c28b0
          try clear c28b1
          try clear c29
          try clear c29b0
          try clear c29b1
          try clear c30
          try clear c30b0
          try clear c30b1
          try clear c31
          try clear c31b0
          try clear c31b1
          try clear p2
          obtain ⟨kq, HA, HJ24, HO_7, HO_8, HB⟩ := hcut
          cases kq with
          | zero => exact absurd HA.out (by simp [tickinglaw11_SerialSums.j1])
          | succ kj24 =>
            have H := HA.out
            clear HA
            simp only [tickinglaw11_SerialSums.j1] at H
            by_cases c32 : (wrap64 ((t525.length : Int) + 1)) = (t522.length : Int)
            · rw [if_pos c32] at H
              have c32b0 : ((wrap64 ((t525.length : Int) + 1)) == (t522.length : Int)) = true := beq_iff_eq.mpr c32
              have c32b1 : ((wrap64 ((t525.length : Int) + 1)) != (t522.length : Int)) = false := bne_eq_false_iff_eq.mpr c32
              clear c32
              replace H := Option.bind_eq_some_iff.mp H
              obtain ⟨⟨t537, t538⟩, A330, H⟩ := H
              replace H : (if t538 = true then (if t530 = t537 then (if t531 = 0 then ((tickinglaw11_awake.f kj24).bind fun t539 => (some t539)) else (some false)) else (some false)) else (if t530 = 0 then (if t531 = 6 then ((tickinglaw11_awake.f kj24).bind fun t540 => (some t540)) else (some false)) else (some false))) = some r := H
              have A33 := Aside0.mk A330
              clear A330
              by_cases c34 : t538 = true
              · subst c34
                have H1 : (if t530 = t537 then (if t531 = 0 then ((tickinglaw11_awake.f kj24).bind fun t539 => (some t539)) else (some false)) else (some false)) = some r := by rw [if_pos rfl] at H; exact H
                clear H
                have H := H1
                clear H1
                by_cases c35 : t530 = t537
                · rw [if_pos c35] at H
                  have c35b0 : (t530 == t537) = true := beq_iff_eq.mpr c35
                  have c35b1 : (t530 != t537) = false := bne_eq_false_iff_eq.mpr c35
                  clear c35
                  by_cases c36 : t531 = 0
                  · rw [if_pos c36] at H
                    have c36b0 : (t531 == 0) = true := beq_iff_eq.mpr c36
                    have c36b1 : (t531 != 0) = false := bne_eq_false_iff_eq.mpr c36
                    clear c36
                    replace H := Option.bind_eq_some_iff.mp H
                    obtain ⟨t539, A370, H⟩ := H
                    replace H : (some t539) = some r := H
                    have A37 := Aside0.mk A370
                    clear A370
                    obtain rfl := Option.some.inj H
                    go_wp2_with (first | ((with_reducible refine gate_callee (f := 43) rfl ?_); refine goesL_ (some 100) rfl rfl Try.func43 (by kernel_rfl) rfl #[.slice Ao11 t522.length co11, .int .i64 a1, .slice Ao12 t525.length co12] rfl (by (try simp only [List.map_toArray, List.map_cons, List.map_nil]); first | done | rfl | (simp only [List.length_drop, List.length_take]; rfl)) ?_; (with_reducible refine (tickingref11_Last.calls kj24 _ _ t522 a1 _ _ t525 t537 true _ ?side1 ?side2 ?side3 ?side4 A33.out).mono ?_); (case side1 => repeat (first | exact (Kd.R_reads' HO_7.out).2.2 | (with_reducible refine Kd.C_alloc ?_ _) | (with_reducible refine Kd.C_drewN ?_ _) | (with_reducible refine Kd.C_drew ?_))); (case side2 => exact (Kd.R_reads' HO_7.out).2.1); (case side3 => repeat (first | exact (Kd.R_reads' HO_8.out).2.2 | (with_reducible refine Kd.C_alloc ?_ _) | (with_reducible refine Kd.C_drewN ?_ _) | (with_reducible refine Kd.C_drew ?_))); (case side4 => exact (Kd.R_reads' HO_8.out).2.1); rintro e w' ⟨rfl, ⟨nd, rfl⟩⟩; refine ⟨_, rfl, ?_⟩) | (go_at_call 22; (with_reducible refine (tickinglaw11_awake.calls kj24  t539 _ A37.out).mono ?_); rintro e w38 ⟨rfl, hb⟩; have n0_ := Aside0.mk (Kd.R_below (by (with_reducible repeat (first | apply Kd.R_alloc | apply Kd.R_drewN | apply Kd.R_drew)); exact HO_7.out) hb); have n1_ := Aside0.mk (Kd.R_below (by (with_reducible repeat (first | apply Kd.R_alloc | apply Kd.R_drewN | apply Kd.R_drew)); exact HO_8.out) hb); have n2_ := Aside0.mk (below_step (by repeat (first | (with_reducible first | exact HB.out | apply below_alloc | apply pw_below_drewN | apply below_drew1) | exact HB.out)) hb); clear HO_7; clear HO_8; clear HB; have HO_7 := n0_; have HO_8 := n1_; have HB := n2_; clear n0_ n1_ n2_; (try clear hb); (try clear hb2); (try clear hk); (try clear hi)))
                    go_ret
                    exact ⟨by first | rfl | (simp [errW_none, errW_some] <;> rfl) | (simp [*, errW_none, errW_some] <;> rfl), by repeat (first | (with_reducible first | exact HB.out | apply below_alloc | apply pw_below_drewN | apply below_drew1) | exact HB.out)⟩
                  · rw [if_neg c36] at H
                    have c36b0 : (t531 == 0) = false := beq_eq_false_iff_ne.mpr c36
                    have c36b1 : (t531 != 0) = true := bne_iff_ne.mpr c36
                    obtain rfl := Option.some.inj H
                    go_wp2_with (first | ((with_reducible refine gate_callee (f := 43) rfl ?_); refine goesL_ (some 100) rfl rfl Try.func43 (by kernel_rfl) rfl #[.slice Ao11 t522.length co11, .int .i64 a1, .slice Ao12 t525.length co12] rfl (by (try simp only [List.map_toArray, List.map_cons, List.map_nil]); first | done | rfl | (simp only [List.length_drop, List.length_take]; rfl)) ?_; (with_reducible refine (tickingref11_Last.calls kj24 _ _ t522 a1 _ _ t525 t537 true _ ?side1 ?side2 ?side3 ?side4 A33.out).mono ?_); (case side1 => repeat (first | exact (Kd.R_reads' HO_7.out).2.2 | (with_reducible refine Kd.C_alloc ?_ _) | (with_reducible refine Kd.C_drewN ?_ _) | (with_reducible refine Kd.C_drew ?_))); (case side2 => exact (Kd.R_reads' HO_7.out).2.1); (case side3 => repeat (first | exact (Kd.R_reads' HO_8.out).2.2 | (with_reducible refine Kd.C_alloc ?_ _) | (with_reducible refine Kd.C_drewN ?_ _) | (with_reducible refine Kd.C_drew ?_))); (case side4 => exact (Kd.R_reads' HO_8.out).2.1); rintro e w' ⟨rfl, ⟨nd, rfl⟩⟩; refine ⟨_, rfl, ?_⟩))
                    go_ret
                    exact ⟨by first | rfl | (simp [errW_none, errW_some] <;> rfl) | (simp [*, errW_none, errW_some] <;> rfl), by repeat (first | (with_reducible first | exact HB.out | apply below_alloc | apply pw_below_drewN | apply below_drew1) | exact HB.out)⟩
                · rw [if_neg c35] at H
                  have c35b0 : (t530 == t537) = false := beq_eq_false_iff_ne.mpr c35
                  have c35b1 : (t530 != t537) = true := bne_iff_ne.mpr c35
                  obtain rfl := Option.some.inj H
                  go_wp2_with (first | ((with_reducible refine gate_callee (f := 43) rfl ?_); refine goesL_ (some 100) rfl rfl Try.func43 (by kernel_rfl) rfl #[.slice Ao11 t522.length co11, .int .i64 a1, .slice Ao12 t525.length co12] rfl (by (try simp only [List.map_toArray, List.map_cons, List.map_nil]); first | done | rfl | (simp only [List.length_drop, List.length_take]; rfl)) ?_; (with_reducible refine (tickingref11_Last.calls kj24 _ _ t522 a1 _ _ t525 t537 true _ ?side1 ?side2 ?side3 ?side4 A33.out).mono ?_); (case side1 => repeat (first | exact (Kd.R_reads' HO_7.out).2.2 | (with_reducible refine Kd.C_alloc ?_ _) | (with_reducible refine Kd.C_drewN ?_ _) | (with_reducible refine Kd.C_drew ?_))); (case side2 => exact (Kd.R_reads' HO_7.out).2.1); (case side3 => repeat (first | exact (Kd.R_reads' HO_8.out).2.2 | (with_reducible refine Kd.C_alloc ?_ _) | (with_reducible refine Kd.C_drewN ?_ _) | (with_reducible refine Kd.C_drew ?_))); (case side4 => exact (Kd.R_reads' HO_8.out).2.1); rintro e w' ⟨rfl, ⟨nd, rfl⟩⟩; refine ⟨_, rfl, ?_⟩))
                  go_ret
                  exact ⟨by first | rfl | (simp [errW_none, errW_some] <;> rfl) | (simp [*, errW_none, errW_some] <;> rfl), by repeat (first | (with_reducible first | exact HB.out | apply below_alloc | apply pw_below_drewN | apply below_drew1) | exact HB.out)⟩
              · replace c34 := Bool.eq_false_iff.mpr c34
                subst c34
                have H1 : (if t530 = 0 then (if t531 = 6 then ((tickinglaw11_awake.f kj24).bind fun t540 => (some t540)) else (some false)) else (some false)) = some r := by rw [if_neg (show ¬ (false = true) by decide)] at H; exact H
                clear H
                have H := H1
                clear H1
                by_cases c39 : t530 = 0
                · rw [if_pos c39] at H
                  have c39b0 : (t530 == 0) = true := beq_iff_eq.mpr c39
                  have c39b1 : (t530 != 0) = false := bne_eq_false_iff_eq.mpr c39
                  clear c39
                  by_cases c40 : t531 = 6
                  · rw [if_pos c40] at H
                    have c40b0 : (t531 == 6) = true := beq_iff_eq.mpr c40
                    have c40b1 : (t531 != 6) = false := bne_eq_false_iff_eq.mpr c40
                    clear c40
                    replace H := Option.bind_eq_some_iff.mp H
                    obtain ⟨t540, A410, H⟩ := H
                    replace H : (some t540) = some r := H
                    have A41 := Aside0.mk A410
                    clear A410
                    obtain rfl := Option.some.inj H
                    go_wp2_with (first | ((with_reducible refine gate_callee (f := 43) rfl ?_); refine goesL_ (some 100) rfl rfl Try.func43 (by kernel_rfl) rfl #[.slice Ao11 t522.length co11, .int .i64 a1, .slice Ao12 t525.length co12] rfl (by (try simp only [List.map_toArray, List.map_cons, List.map_nil]); first | done | rfl | (simp only [List.length_drop, List.length_take]; rfl)) ?_; (with_reducible refine (tickingref11_Last.calls kj24 _ _ t522 a1 _ _ t525 t537 false _ ?side1 ?side2 ?side3 ?side4 A33.out).mono ?_); (case side1 => repeat (first | exact (Kd.R_reads' HO_7.out).2.2 | (with_reducible refine Kd.C_alloc ?_ _) | (with_reducible refine Kd.C_drewN ?_ _) | (with_reducible refine Kd.C_drew ?_))); (case side2 => exact (Kd.R_reads' HO_7.out).2.1); (case side3 => repeat (first | exact (Kd.R_reads' HO_8.out).2.2 | (with_reducible refine Kd.C_alloc ?_ _) | (with_reducible refine Kd.C_drewN ?_ _) | (with_reducible refine Kd.C_drew ?_))); (case side4 => exact (Kd.R_reads' HO_8.out).2.1); rintro e w' ⟨rfl, ⟨nd, rfl⟩⟩; refine ⟨_, rfl, ?_⟩) | (go_at_call 22; (with_reducible refine (tickinglaw11_awake.calls kj24  t540 _ A41.out).mono ?_); rintro e w42 ⟨rfl, hb⟩; have n0_ := Aside0.mk (Kd.R_below (by (with_reducible repeat (first | apply Kd.R_alloc | apply Kd.R_drewN | apply Kd.R_drew)); exact HO_7.out) hb); have n1_ := Aside0.mk (Kd.R_below (by (with_reducible repeat (first | apply Kd.R_alloc | apply Kd.R_drewN | apply Kd.R_drew)); exact HO_8.out) hb); have n2_ := Aside0.mk (below_step (by repeat (first | (with_reducible first | exact HB.out | apply below_alloc | apply pw_below_drewN | apply below_drew1) | exact HB.out)) hb); clear HO_7; clear HO_8; clear HB; have HO_7 := n0_; have HO_8 := n1_; have HB := n2_; clear n0_ n1_ n2_; (try clear hb); (try clear hb2); (try clear hk); (try clear hi)))
                    go_ret
                    exact ⟨by first | rfl | (simp [errW_none, errW_some] <;> rfl) | (simp [*, errW_none, errW_some] <;> rfl), by repeat (first | (with_reducible first | exact HB.out | apply below_alloc | apply pw_below_drewN | apply below_drew1) | exact HB.out)⟩
                  · rw [if_neg c40] at H
                    have c40b0 : (t531 == 6) = false := beq_eq_false_iff_ne.mpr c40
                    have c40b1 : (t531 != 6) = true := bne_iff_ne.mpr c40
                    obtain rfl := Option.some.inj H
                    go_wp2_with (first | ((with_reducible refine gate_callee (f := 43) rfl ?_); refine goesL_ (some 100) rfl rfl Try.func43 (by kernel_rfl) rfl #[.slice Ao11 t522.length co11, .int .i64 a1, .slice Ao12 t525.length co12] rfl (by (try simp only [List.map_toArray, List.map_cons, List.map_nil]); first | done | rfl | (simp only [List.length_drop, List.length_take]; rfl)) ?_; (with_reducible refine (tickingref11_Last.calls kj24 _ _ t522 a1 _ _ t525 t537 false _ ?side1 ?side2 ?side3 ?side4 A33.out).mono ?_); (case side1 => repeat (first | exact (Kd.R_reads' HO_7.out).2.2 | (with_reducible refine Kd.C_alloc ?_ _) | (with_reducible refine Kd.C_drewN ?_ _) | (with_reducible refine Kd.C_drew ?_))); (case side2 => exact (Kd.R_reads' HO_7.out).2.1); (case side3 => repeat (first | exact (Kd.R_reads' HO_8.out).2.2 | (with_reducible refine Kd.C_alloc ?_ _) | (with_reducible refine Kd.C_drewN ?_ _) | (with_reducible refine Kd.C_drew ?_))); (case side4 => exact (Kd.R_reads' HO_8.out).2.1); rintro e w' ⟨rfl, ⟨nd, rfl⟩⟩; refine ⟨_, rfl, ?_⟩))
                    go_ret
                    exact ⟨by first | rfl | (simp [errW_none, errW_some] <;> rfl) | (simp [*, errW_none, errW_some] <;> rfl), by repeat (first | (with_reducible first | exact HB.out | apply below_alloc | apply pw_below_drewN | apply below_drew1) | exact HB.out)⟩
                · rw [if_neg c39] at H
                  have c39b0 : (t530 == 0) = false := beq_eq_false_iff_ne.mpr c39
                  have c39b1 : (t530 != 0) = true := bne_iff_ne.mpr c39
                  obtain rfl := Option.some.inj H
                  go_wp2_with (first | ((with_reducible refine gate_callee (f := 43) rfl ?_); refine goesL_ (some 100) rfl rfl Try.func43 (by kernel_rfl) rfl #[.slice Ao11 t522.length co11, .int .i64 a1, .slice Ao12 t525.length co12] rfl (by (try simp only [List.map_toArray, List.map_cons, List.map_nil]); first | done | rfl | (simp only [List.length_drop, List.length_take]; rfl)) ?_; (with_reducible refine (tickingref11_Last.calls kj24 _ _ t522 a1 _ _ t525 t537 false _ ?side1 ?side2 ?side3 ?side4 A33.out).mono ?_); (case side1 => repeat (first | exact (Kd.R_reads' HO_7.out).2.2 | (with_reducible refine Kd.C_alloc ?_ _) | (with_reducible refine Kd.C_drewN ?_ _) | (with_reducible refine Kd.C_drew ?_))); (case side2 => exact (Kd.R_reads' HO_7.out).2.1); (case side3 => repeat (first | exact (Kd.R_reads' HO_8.out).2.2 | (with_reducible refine Kd.C_alloc ?_ _) | (with_reducible refine Kd.C_drewN ?_ _) | (with_reducible refine Kd.C_drew ?_))); (case side4 => exact (Kd.R_reads' HO_8.out).2.1); rintro e w' ⟨rfl, ⟨nd, rfl⟩⟩; refine ⟨_, rfl, ?_⟩))
                  go_ret
                  exact ⟨by first | rfl | (simp [errW_none, errW_some] <;> rfl) | (simp [*, errW_none, errW_some] <;> rfl), by repeat (first | (with_reducible first | exact HB.out | apply below_alloc | apply pw_below_drewN | apply below_drew1) | exact HB.out)⟩
            · rw [if_neg c32] at H
              have c32b0 : ((wrap64 ((t525.length : Int) + 1)) == (t522.length : Int)) = false := beq_eq_false_iff_ne.mpr c32
              have c32b1 : ((wrap64 ((t525.length : Int) + 1)) != (t522.length : Int)) = true := bne_iff_ne.mpr c32
              by_cases c43 : t530 = 0
              · rw [if_pos c43] at H
                have c43b0 : (t530 == 0) = true := beq_iff_eq.mpr c43
                have c43b1 : (t530 != 0) = false := bne_eq_false_iff_eq.mpr c43
                clear c43
                by_cases c44 : t531 = 2
                · rw [if_pos c44] at H
                  have c44b0 : (t531 == 2) = true := beq_iff_eq.mpr c44
                  have c44b1 : (t531 != 2) = false := bne_eq_false_iff_eq.mpr c44
                  clear c44
                  replace H := Option.bind_eq_some_iff.mp H
                  obtain ⟨t536, A450, H⟩ := H
                  replace H : (some t536) = some r := H
                  have A45 := Aside0.mk A450
                  clear A450
                  obtain rfl := Option.some.inj H
                  go_wp2_with (first | (go_at_call 22; (with_reducible refine (tickinglaw11_awake.calls kj24  t536 _ A45.out).mono ?_); rintro e w46 ⟨rfl, hb⟩; have n0_ := Aside0.mk (Kd.R_below (by (with_reducible repeat (first | apply Kd.R_alloc | apply Kd.R_drewN | apply Kd.R_drew)); exact HO_7.out) hb); have n1_ := Aside0.mk (Kd.R_below (by (with_reducible repeat (first | apply Kd.R_alloc | apply Kd.R_drewN | apply Kd.R_drew)); exact HO_8.out) hb); have n2_ := Aside0.mk (below_step (by repeat (first | (with_reducible first | exact HB.out | apply below_alloc | apply pw_below_drewN | apply below_drew1) | exact HB.out)) hb); clear HO_7; clear HO_8; clear HB; have HO_7 := n0_; have HO_8 := n1_; have HB := n2_; clear n0_ n1_ n2_; (try clear hb); (try clear hb2); (try clear hk); (try clear hi)))
                  go_ret
                  exact ⟨by first | rfl | (simp [errW_none, errW_some] <;> rfl) | (simp [*, errW_none, errW_some] <;> rfl), by repeat (first | (with_reducible first | exact HB.out | apply below_alloc | apply pw_below_drewN | apply below_drew1) | exact HB.out)⟩
                · rw [if_neg c44] at H
                  have c44b0 : (t531 == 2) = false := beq_eq_false_iff_ne.mpr c44
                  have c44b1 : (t531 != 2) = true := bne_iff_ne.mpr c44
                  obtain rfl := Option.some.inj H
                  go_wp2
                  go_ret
                  exact ⟨by first | rfl | (simp [errW_none, errW_some] <;> rfl) | (simp [*, errW_none, errW_some] <;> rfl), by repeat (first | (with_reducible first | exact HB.out | apply below_alloc | apply pw_below_drewN | apply below_drew1) | exact HB.out)⟩
              · rw [if_neg c43] at H
                have c43b0 : (t530 == 0) = false := beq_eq_false_iff_ne.mpr c43
                have c43b1 : (t530 != 0) = true := bne_iff_ne.mpr c43
                obtain rfl := Option.some.inj H
                go_wp2
                go_ret
                exact ⟨by first | rfl | (simp [errW_none, errW_some] <;> rfl) | (simp [*, errW_none, errW_some] <;> rfl), by repeat (first | (with_reducible first | exact HB.out | apply below_alloc | apply pw_below_drewN | apply below_drew1) | exact HB.out)⟩

/-- THE ONE PURE STATEMENT of tickinglaw11_SerialSums: yours. -/
def tickinglaw11_SerialSums.Pure : Prop := ∀ (l0 : List Int) (a1 : Int) (l2 : List Int), l0.length ≤ maxLen → l0.length * 8 ≤ 140737488351232 → (∀ x ∈ l0, (Lit.int .i64 x).wf = true) → (Lit.int .i64 a1).wf = true → l2.length ≤ maxLen → l2.length * 8 ≤ 140737488351232 → (∀ x ∈ l2, (Lit.int .i64 x).wf = true) → ∃ k, tickinglaw11_SerialSums.f k l0 a1 l2 = some true
theorem tickinglaw11_SerialSums.walk (P : tickinglaw11_SerialSums.Pure) (a0 : Option Addr) (len0 cap0 : Nat) (z0 : List Int) (a1 : Int) (a2 : Option Addr) (len2 cap2 : Nat) (z2 : List Int) (w : World) (w0 : (a0 = none ∧ len0 = 0 ∧ cap0 = 0 ∧ z0 = []) ∨ ∃ x, a0 = some x ∧ len0 ≤ cap0 ∧ cap0 ≤ maxLen ∧ z0.length = cap0 ∧ (∀ i, i < z0.length → w.cell? (x.add i) = some (.int .i64 (z0.getD i 0))) ∧ ∀ n ∈ z0, (Lit.int .i64 n).wf = true) (y0 : len0 * 8 ≤ 140737488351232) (w1 : (Lit.int .i64 a1).wf = true) (w2 : (a2 = none ∧ len2 = 0 ∧ cap2 = 0 ∧ z2 = []) ∨ ∃ x, a2 = some x ∧ len2 ≤ cap2 ∧ cap2 ≤ maxLen ∧ z2.length = cap2 ∧ (∀ i, i < z2.length → w.cell? (x.add i) = some (.int .i64 (z2.getD i 0))) ∧ ∀ n ∈ z2, (Lit.int .i64 n).wf = true) (y2 : len2 * 8 ≤ 140737488351232) :
    Calls Try.prog 9 #[.slice a0 len0 cap0, .int .i64 a1, .slice a2 len2 cap2] w fun e w' => e = .returned (.bool true) ∧ Below w.heap.size w w' := by
  obtain ⟨l0, rfl, hr0, hm0, hw0, hc0⟩ := ReadsInt.ofRowC w0
  obtain ⟨l2, rfl, hr2, hm2, hw2, hc2⟩ := ReadsInt.ofRowC w2
  obtain ⟨k, h⟩ := P l0 a1 l2 hm0 y0 hw0 w1 hm2 y2 hw2
  refine (tickinglaw11_SerialSums.calls k _ _ l0 a1 _ _ l2 true w (Kd.C_of_reads (d := (0 : Int)) (h1 := fun _ => rfl) hr0) hc0 (Kd.C_of_reads (d := (0 : Int)) (h1 := fun _ => rfl) hr2) hc2 h).mono ?_
  rintro e w' ⟨rfl, hd⟩
  exact ⟨rfl, hd⟩

end Go.Proofs.Ytdkncfmlehcjmaa.X
