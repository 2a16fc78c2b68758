-- Written by a program of this session (wip/tools/xprint.py) over the kit's print, for this claim.
import Derived.Test.YtdkncfmlehcjmaaX0
import Derived.Test.YtdkncfmlehcjmaaX20
import Derived.Test.YtdkncfmlehcjmaaX23
import Derived.Test.YtdkncfmlehcjmaaX25
import Derived.Test.YtdkncfmlehcjmaaX26
import Derived.Test.YtdkncfmlehcjmaaX27
import Derived.Test.YtdkncfmlehcjmaaX56
import Derived.Test.YtdkncfmlehcjmaaX59
namespace Go.Proofs.Ytdkncfmlehcjmaa.X
open Go.RowKit Go.Proofs.YtdkncfmlehcjmaaW.PrintWords Go.Proofs.YtdkncfmlehcjmaaW.PrintLast Go.Proofs.YtdkncfmlehcjmaaW.PrintMore
attribute [local go_sem] max2_int min2_int max_two min_two max_three min_three max_four min_four   -- for this text's walks alone
set_option linter.unusedVariables false
set_option linter.unusedSimpArgs false

/-! ### tickinglaw11_SerialLinear: function 4 -/
mutual
def tickinglaw11_SerialLinear.j0 : Nat → Int → Int → Int → List (List Int) → Int → Int → Int → Int → Bool → Option (Bool)
  | 0, _, _, _, _, _, _, _, _, _ => none
  | k + 1, x0, x1, x2, x7, x8, x9, x10, x11, x35 => if x35 = true then (if (x7.length : Int) = 0 then (if x8 = 2 then (if x9 = 0 then (if x10 = 0 then (if x11 = 2 then ((tickinglaw11_awake.f k).bind fun t366 => (some t366)) else (some false)) else (some false)) else (some false)) else (some false)) else (some false)) else ((tickingref11_Fine.f k x0).bind fun bt367 => (if bt367.2.2 = true then (if x9 = bt367.1 then (if x10 = bt367.2.1 then (if x11 = 0 then (tickinglaw11_SerialLinear.j1 k x0 x1 x2 x7 x8 false) else (tickinglaw11_SerialLinear.j1 k x0 x1 x2 x7 x8 true)) else (tickinglaw11_SerialLinear.j1 k x0 x1 x2 x7 x8 true)) else (tickinglaw11_SerialLinear.j1 k x0 x1 x2 x7 x8 true)) else (if x9 = 0 then (if x10 = 0 then (tickinglaw11_SerialLinear.j1 k x0 x1 x2 x7 x8 (x11 != 6)) else (tickinglaw11_SerialLinear.j1 k x0 x1 x2 x7 x8 true)) else (tickinglaw11_SerialLinear.j1 k x0 x1 x2 x7 x8 true))))
def tickinglaw11_SerialLinear.j1 : Nat → Int → Int → Int → List (List Int) → Int → Bool → Option (Bool)
  | 0, _, _, _, _, _, _ => none
  | k + 1, x0, x1, x2, x7, x8, x94 => if x94 = true then (some false) else ((tickingref11_Prime.f k x1 x0).bind fun t370 => (if t370 = true then ((tickingref11_Prime.f k x2 x0).bind fun t371 => (tickinglaw11_SerialLinear.j2 k x0 x1 x2 x7 x8 (!t371))) else (tickinglaw11_SerialLinear.j2 k x0 x1 x2 x7 x8 true)))
def tickinglaw11_SerialLinear.j2 : Nat → Int → Int → Int → List (List Int) → Int → Bool → Option (Bool)
  | 0, _, _, _, _, _, _ => none
  | k + 1, x0, x1, x2, x7, x8, x104 => if x104 = true then (if (x7.length : Int) = 0 then (if x8 = 2 then ((tickinglaw11_awake.f k).bind fun t372 => (some t372)) else (some false)) else (some false)) else ((tickingref11_Linear.f k x0 x1 x2).bind fun t373 => (if (x7.length : Int) = x0 then (tickinglaw11_SerialLinear.j3 k x0 x7 t373 (x8 != 0)) else (tickinglaw11_SerialLinear.j3 k x0 x7 t373 true)))
def tickinglaw11_SerialLinear.j3 : Nat → Int → List (List Int) → List (List Int) → Bool → Option (Bool)
  | 0, _, _, _, _ => none
  | k + 1, x0, x7, x15, x126 => if x126 = true then (some false) else (tickinglaw11_SerialLinear.l0 k x0 x7 x15 0)
def tickinglaw11_SerialLinear.l0 : Nat → Int → List (List Int) → List (List Int) → Int → Option (Bool)
  | 0, _, _, _, _ => none
  | k + 1, x0, x7, x15, x16 => if x16 < x0 then (if 0 ≤ x16 then (if x16 < (x7.length : Int) then (if x16 < (x15.length : Int) then ((tickinglaw11_ints.f k (rd_L1 x7 x16) (rd_L1 x15 x16)).bind fun t378 => (if t378 = true then (tickinglaw11_SerialLinear.l0 k x0 x7 x15 (wrap64 (x16 + 1))) else (some false))) else (none)) else (none)) else (none)) else ((tickinglaw11_awake.f k).bind fun t379 => (some t379))
end
def tickinglaw11_SerialLinear.f (k : Nat) (a0 : Int) (a1 : Int) (a2 : Int) : Option (Bool) := (serial_Linear.f k a0 a1 a2).bind fun bt359 => ((serial_Fine.f k a0).bind fun bt363 => (if a0 < 2 then (tickinglaw11_SerialLinear.j0 k a0 a1 a2 bt359.1 bt359.2 bt363.1 bt363.2.1 bt363.2.2 true) else (tickinglaw11_SerialLinear.j0 k a0 a1 a2 bt359.1 bt359.2 bt363.1 bt363.2.1 bt363.2.2 (decide (a0 > 12)))))
theorem tickinglaw11_SerialLinear.mono_l : ∀ k, (∀ y0 y1 y2 y3 y4 y5 y6 y7 y8, LeO (tickinglaw11_SerialLinear.j0 k y0 y1 y2 y3 y4 y5 y6 y7 y8) (tickinglaw11_SerialLinear.j0 (k + 1) y0 y1 y2 y3 y4 y5 y6 y7 y8)) ∧ (∀ y0 y1 y2 y3 y4 y5, LeO (tickinglaw11_SerialLinear.j1 k y0 y1 y2 y3 y4 y5) (tickinglaw11_SerialLinear.j1 (k + 1) y0 y1 y2 y3 y4 y5)) ∧ (∀ y0 y1 y2 y3 y4 y5, LeO (tickinglaw11_SerialLinear.j2 k y0 y1 y2 y3 y4 y5) (tickinglaw11_SerialLinear.j2 (k + 1) y0 y1 y2 y3 y4 y5)) ∧ (∀ y0 y1 y2 y3, LeO (tickinglaw11_SerialLinear.j3 k y0 y1 y2 y3) (tickinglaw11_SerialLinear.j3 (k + 1) y0 y1 y2 y3)) ∧ (∀ y0 y1 y2 y3, LeO (tickinglaw11_SerialLinear.l0 k y0 y1 y2 y3) (tickinglaw11_SerialLinear.l0 (k + 1) y0 y1 y2 y3))
  | 0 => ⟨fun _ _ _ _ _ _ _ _ _ r h => by simp [tickinglaw11_SerialLinear.j0] at h, fun _ _ _ _ _ _ r h => by simp [tickinglaw11_SerialLinear.j1] at h, fun _ _ _ _ _ _ r h => by simp [tickinglaw11_SerialLinear.j2] at h, fun _ _ _ _ r h => by simp [tickinglaw11_SerialLinear.j3] at h, fun _ _ _ _ r h => by simp [tickinglaw11_SerialLinear.l0] at h⟩
  | k + 1 => by
    obtain ⟨ih0, ih1, ih2, ih3, ih4⟩ := tickinglaw11_SerialLinear.mono_l k
    refine ⟨?_, ?_, ?_, ?_, ?_⟩
    · intro y0 y1 y2 y3 y4 y5 y6 y7 y8
      unfold tickinglaw11_SerialLinear.j0
      repeat' first
      | (with_reducible exact ih0 _ _ _ _ _ _ _ _ _)
      | (with_reducible exact ih1 _ _ _ _ _ _)
      | (with_reducible exact ih2 _ _ _ _ _ _)
      | (with_reducible exact ih3 _ _ _ _)
      | (with_reducible exact ih4 _ _ _ _)
      | (with_reducible exact serial_Fine.mono _ _)
      | (with_reducible exact serial_Linear.mono _ _ _ _)
      | (with_reducible exact tickinglaw11_awake.mono _)
      | (with_reducible exact tickinglaw11_ints.mono _ _ _)
      | (with_reducible exact tickingref11_Fine.mono _ _)
      | (with_reducible exact tickingref11_Linear.mono _ _ _ _)
      | (with_reducible exact tickingref11_Prime.mono _ _ _)
      | (with_reducible exact LeO.refl _)
      | (with_reducible exact LeO.none _)
      | (with_reducible refine LeO.ite ?_ ?_)
      | (with_reducible refine LeO.bind ?_ (fun _ => ?_))
      | exact ih0 _ _ _ _ _ _ _ _ _
      | exact ih1 _ _ _ _ _ _
      | exact ih2 _ _ _ _ _ _
      | exact ih3 _ _ _ _
      | exact ih4 _ _ _ _
      | exact serial_Fine.mono _ _
      | exact serial_Linear.mono _ _ _ _
      | exact tickinglaw11_awake.mono _
      | exact tickinglaw11_ints.mono _ _ _
      | exact tickingref11_Fine.mono _ _
      | exact tickingref11_Linear.mono _ _ _ _
      | exact tickingref11_Prime.mono _ _ _
      | exact LeO.none _
      | refine LeO.ite ?_ ?_
      | refine LeO.bind ?_ (fun _ => ?_)
    · intro y0 y1 y2 y3 y4 y5
      unfold tickinglaw11_SerialLinear.j1
      repeat' first
      | (with_reducible exact ih0 _ _ _ _ _ _ _ _ _)
      | (with_reducible exact ih1 _ _ _ _ _ _)
      | (with_reducible exact ih2 _ _ _ _ _ _)
      | (with_reducible exact ih3 _ _ _ _)
      | (with_reducible exact ih4 _ _ _ _)
      | (with_reducible exact serial_Fine.mono _ _)
      | (with_reducible exact serial_Linear.mono _ _ _ _)
      | (with_reducible exact tickinglaw11_awake.mono _)
      | (with_reducible exact tickinglaw11_ints.mono _ _ _)
      | (with_reducible exact tickingref11_Fine.mono _ _)
      | (with_reducible exact tickingref11_Linear.mono _ _ _ _)
      | (with_reducible exact tickingref11_Prime.mono _ _ _)
      | (with_reducible exact LeO.refl _)
      | (with_reducible exact LeO.none _)
      | (with_reducible refine LeO.ite ?_ ?_)
      | (with_reducible refine LeO.bind ?_ (fun _ => ?_))
      | exact ih0 _ _ _ _ _ _ _ _ _
      | exact ih1 _ _ _ _ _ _
      | exact ih2 _ _ _ _ _ _
      | exact ih3 _ _ _ _
      | exact ih4 _ _ _ _
      | exact serial_Fine.mono _ _
      | exact serial_Linear.mono _ _ _ _
      | exact tickinglaw11_awake.mono _
      | exact tickinglaw11_ints.mono _ _ _
      | exact tickingref11_Fine.mono _ _
      | exact tickingref11_Linear.mono _ _ _ _
      | exact tickingref11_Prime.mono _ _ _
      | exact LeO.none _
      | refine LeO.ite ?_ ?_
      | refine LeO.bind ?_ (fun _ => ?_)
    · intro y0 y1 y2 y3 y4 y5
      unfold tickinglaw11_SerialLinear.j2
      repeat' first
      | (with_reducible exact ih0 _ _ _ _ _ _ _ _ _)
      | (with_reducible exact ih1 _ _ _ _ _ _)
      | (with_reducible exact ih2 _ _ _ _ _ _)
      | (with_reducible exact ih3 _ _ _ _)
      | (with_reducible exact ih4 _ _ _ _)
      | (with_reducible exact serial_Fine.mono _ _)
      | (with_reducible exact serial_Linear.mono _ _ _ _)
      | (with_reducible exact tickinglaw11_awake.mono _)
      | (with_reducible exact tickinglaw11_ints.mono _ _ _)
      | (with_reducible exact tickingref11_Fine.mono _ _)
      | (with_reducible exact tickingref11_Linear.mono _ _ _ _)
      | (with_reducible exact tickingref11_Prime.mono _ _ _)
      | (with_reducible exact LeO.refl _)
      | (with_reducible exact LeO.none _)
      | (with_reducible refine LeO.ite ?_ ?_)
      | (with_reducible refine LeO.bind ?_ (fun _ => ?_))
      | exact ih0 _ _ _ _ _ _ _ _ _
      | exact ih1 _ _ _ _ _ _
      | exact ih2 _ _ _ _ _ _
      | exact ih3 _ _ _ _
      | exact ih4 _ _ _ _
      | exact serial_Fine.mono _ _
      | exact serial_Linear.mono _ _ _ _
      | exact tickinglaw11_awake.mono _
      | exact tickinglaw11_ints.mono _ _ _
      | exact tickingref11_Fine.mono _ _
      | exact tickingref11_Linear.mono _ _ _ _
      | exact tickingref11_Prime.mono _ _ _
      | exact LeO.none _
      | refine LeO.ite ?_ ?_
      | refine LeO.bind ?_ (fun _ => ?_)
    · intro y0 y1 y2 y3
      unfold tickinglaw11_SerialLinear.j3
      repeat' first
      | (with_reducible exact ih0 _ _ _ _ _ _ _ _ _)
      | (with_reducible exact ih1 _ _ _ _ _ _)
      | (with_reducible exact ih2 _ _ _ _ _ _)
      | (with_reducible exact ih3 _ _ _ _)
      | (with_reducible exact ih4 _ _ _ _)
      | (with_reducible exact serial_Fine.mono _ _)
      | (with_reducible exact serial_Linear.mono _ _ _ _)
      | (with_reducible exact tickinglaw11_awake.mono _)
      | (with_reducible exact tickinglaw11_ints.mono _ _ _)
      | (with_reducible exact tickingref11_Fine.mono _ _)
      | (with_reducible exact tickingref11_Linear.mono _ _ _ _)
      | (with_reducible exact tickingref11_Prime.mono _ _ _)
      | (with_reducible exact LeO.refl _)
      | (with_reducible exact LeO.none _)
      | (with_reducible refine LeO.ite ?_ ?_)
      | (with_reducible refine LeO.bind ?_ (fun _ => ?_))
      | exact ih0 _ _ _ _ _ _ _ _ _
      | exact ih1 _ _ _ _ _ _
      | exact ih2 _ _ _ _ _ _
      | exact ih3 _ _ _ _
      | exact ih4 _ _ _ _
      | exact serial_Fine.mono _ _
      | exact serial_Linear.mono _ _ _ _
      | exact tickinglaw11_awake.mono _
      | exact tickinglaw11_ints.mono _ _ _
      | exact tickingref11_Fine.mono _ _
      | exact tickingref11_Linear.mono _ _ _ _
      | exact tickingref11_Prime.mono _ _ _
      | exact LeO.none _
      | refine LeO.ite ?_ ?_
      | refine LeO.bind ?_ (fun _ => ?_)
    · intro y0 y1 y2 y3
      unfold tickinglaw11_SerialLinear.l0
      repeat' first
      | (with_reducible exact ih0 _ _ _ _ _ _ _ _ _)
      | (with_reducible exact ih1 _ _ _ _ _ _)
      | (with_reducible exact ih2 _ _ _ _ _ _)
      | (with_reducible exact ih3 _ _ _ _)
      | (with_reducible exact ih4 _ _ _ _)
      | (with_reducible exact serial_Fine.mono _ _)
      | (with_reducible exact serial_Linear.mono _ _ _ _)
      | (with_reducible exact tickinglaw11_awake.mono _)
      | (with_reducible exact tickinglaw11_ints.mono _ _ _)
      | (with_reducible exact tickingref11_Fine.mono _ _)
      | (with_reducible exact tickingref11_Linear.mono _ _ _ _)
      | (with_reducible exact tickingref11_Prime.mono _ _ _)
      | (with_reducible exact LeO.refl _)
      | (with_reducible exact LeO.none _)
      | (with_reducible refine LeO.ite ?_ ?_)
      | (with_reducible refine LeO.bind ?_ (fun _ => ?_))
      | exact ih0 _ _ _ _ _ _ _ _ _
      | exact ih1 _ _ _ _ _ _
      | exact ih2 _ _ _ _ _ _
      | exact ih3 _ _ _ _
      | exact ih4 _ _ _ _
      | exact serial_Fine.mono _ _
      | exact serial_Linear.mono _ _ _ _
      | exact tickinglaw11_awake.mono _
      | exact tickinglaw11_ints.mono _ _ _
      | exact tickingref11_Fine.mono _ _
      | exact tickingref11_Linear.mono _ _ _ _
      | exact tickingref11_Prime.mono _ _ _
      | exact LeO.none _
      | refine LeO.ite ?_ ?_
      | refine LeO.bind ?_ (fun _ => ?_)
theorem tickinglaw11_SerialLinear.mono : ∀ a0 a1 a2 k, LeO (tickinglaw11_SerialLinear.f k a0 a1 a2) (tickinglaw11_SerialLinear.f (k + 1) a0 a1 a2) := by
  intro a0 a1 a2 k
  obtain ⟨ih0, ih1, ih2, ih3, ih4⟩ := tickinglaw11_SerialLinear.mono_l k
  unfold tickinglaw11_SerialLinear.f
  repeat' first
      | (with_reducible exact ih0 _ _ _ _ _ _ _ _ _)
      | (with_reducible exact ih1 _ _ _ _ _ _)
      | (with_reducible exact ih2 _ _ _ _ _ _)
      | (with_reducible exact ih3 _ _ _ _)
      | (with_reducible exact ih4 _ _ _ _)
      | (with_reducible exact serial_Fine.mono _ _)
      | (with_reducible exact serial_Linear.mono _ _ _ _)
      | (with_reducible exact tickinglaw11_awake.mono _)
      | (with_reducible exact tickinglaw11_ints.mono _ _ _)
      | (with_reducible exact tickingref11_Fine.mono _ _)
      | (with_reducible exact tickingref11_Linear.mono _ _ _ _)
      | (with_reducible exact tickingref11_Prime.mono _ _ _)
      | (with_reducible exact LeO.refl _)
      | (with_reducible exact LeO.none _)
      | (with_reducible refine LeO.ite ?_ ?_)
      | (with_reducible refine LeO.bind ?_ (fun _ => ?_))
      | exact ih0 _ _ _ _ _ _ _ _ _
      | exact ih1 _ _ _ _ _ _
      | exact ih2 _ _ _ _ _ _
      | exact ih3 _ _ _ _
      | exact ih4 _ _ _ _
      | exact serial_Fine.mono _ _
      | exact serial_Linear.mono _ _ _ _
      | exact tickinglaw11_awake.mono _
      | exact tickinglaw11_ints.mono _ _ _
      | exact tickingref11_Fine.mono _ _
      | exact tickingref11_Linear.mono _ _ _ _
      | exact tickingref11_Prime.mono _ _ _
      | exact LeO.none _
      | refine LeO.ite ?_ ?_
      | refine LeO.bind ?_ (fun _ => ?_)
set_option maxHeartbeats 8000000 in
set_option maxRecDepth 100000 in
theorem tickinglaw11_SerialLinear.calls (k : Nat) (a0 : Int) (a1 : Int) (a2 : Int) (r : Bool) (w : World) (h : tickinglaw11_SerialLinear.f k a0 a1 a2 = some r) :
    Calls Try.prog 4 #[.int .i64 a0, .int .i64 a1, .int .i64 a2] w fun e w' => e = .returned (.bool r) ∧ Below w.heap.size w w' := by
  have HB := Aside0.mk (Below.refl w.heap.size w)
  have H : ((serial_Linear.f k a0 a1 a2).bind fun bt359 => ((serial_Fine.f k a0).bind fun bt363 => (if a0 < 2 then (tickinglaw11_SerialLinear.j0 k a0 a1 a2 bt359.1 bt359.2 bt363.1 bt363.2.1 bt363.2.2 true) else (tickinglaw11_SerialLinear.j0 k a0 a1 a2 bt359.1 bt359.2 bt363.1 bt363.2.1 bt363.2.2 (decide (a0 > 12)))))) = some r := h
  clear h
  replace H := Option.bind_eq_some_iff.mp H
  obtain ⟨⟨t359, t360⟩, A40, H⟩ := H
  replace H : ((serial_Fine.f k a0).bind fun bt363 => (if a0 < 2 then (tickinglaw11_SerialLinear.j0 k a0 a1 a2 t359 t360 bt363.1 bt363.2.1 bt363.2.2 true) else (tickinglaw11_SerialLinear.j0 k a0 a1 a2 t359 t360 bt363.1 bt363.2.1 bt363.2.2 (decide (a0 > 12))))) = some r := H
  have A4 := Aside0.mk A40
  clear A40
  replace H := Option.bind_eq_some_iff.mp H
  obtain ⟨⟨t363, t364, t365⟩, A50, H⟩ := H
  replace H : (if a0 < 2 then (tickinglaw11_SerialLinear.j0 k a0 a1 a2 t359 t360 t363 t364 t365 true) else (tickinglaw11_SerialLinear.j0 k a0 a1 a2 t359 t360 t363 t364 t365 (decide (a0 > 12)))) = some r := H
  have A5 := Aside0.mk A50
  clear A50
  have HC6 := Aside0.mk H
  clear H
  go_enter Try.func4, Try.ntmps4
  go_upto_region 3 with (first | (go_at_call 23; (with_reducible refine (serial_Linear.calls k a0 a1 a2 t359 t360 _ A4.out).mono ?_); rintro e w7 ⟨v361, rfl, ho0, hb⟩; have n0_ := Aside0.mk (Kd.S_lower ho0 (below_size (by repeat (first | (with_reducible first | exact HB.out | apply below_alloc | apply pw_below_drewN | apply below_drew1) | exact HB.out)))); have n1_ := Aside0.mk (below_step (by repeat (first | (with_reducible first | exact HB.out | apply below_alloc | apply pw_below_drewN | apply below_drew1) | exact HB.out)) hb); clear HB; have HO362 := n0_; have HB := n1_; clear n0_ n1_; (try clear hb); (try clear hb2); (try clear hk); (try clear hi); (try clear ho0)) | (go_at_call 24; (with_reducible refine (serial_Fine.calls k a0 t363 t364 t365 _ A5.out).mono ?_); rintro e w8 ⟨rfl, hb⟩; have n0_ := Aside0.mk (Kd.S_below (by (with_reducible repeat (first | apply Kd.S_alloc | apply Kd.S_drewN | apply Kd.S_drew)); exact HO362.out) hb); have n1_ := Aside0.mk (below_step (by repeat (first | (with_reducible first | exact HB.out | apply below_alloc | apply pw_below_drewN | apply below_drew1) | exact HB.out)) hb); clear HO362; clear HB; have HO362 := n0_; have HB := n1_; clear n0_ n1_; (try clear hb); (try clear hb2); (try clear hk); (try clear hi)))
  repeat (go_quiet (first | (go_at_call 23; (with_reducible refine (serial_Linear.calls k a0 a1 a2 t359 t360 _ A4.out).mono ?_); rintro e w7 ⟨v361, rfl, ho0, hb⟩; have n0_ := Aside0.mk (Kd.S_lower ho0 (below_size (by repeat (first | (with_reducible first | exact HB.out | apply below_alloc | apply pw_below_drewN | apply below_drew1) | exact HB.out)))); have n1_ := Aside0.mk (below_step (by repeat (first | (with_reducible first | exact HB.out | apply below_alloc | apply pw_below_drewN | apply below_drew1) | exact HB.out)) hb); clear HB; have HO362 := n0_; have HB := n1_; clear n0_ n1_; (try clear hb); (try clear hb2); (try clear hk); (try clear hi); (try clear ho0)) | (go_at_call 24; (with_reducible refine (serial_Fine.calls k a0 t363 t364 t365 _ A5.out).mono ?_); rintro e w8 ⟨rfl, hb⟩; have n0_ := Aside0.mk (Kd.S_below (by (with_reducible repeat (first | apply Kd.S_alloc | apply Kd.S_drewN | apply Kd.S_drew)); exact HO362.out) hb); have n1_ := Aside0.mk (below_step (by repeat (first | (with_reducible first | exact HB.out | apply below_alloc | apply pw_below_drewN | apply below_drew1) | exact HB.out)) hb); clear HO362; clear HB; have HO362 := n0_; have HB := n1_; clear n0_ n1_; (try clear hb); (try clear hb2); (try clear hk); (try clear hi))); go_upto_region 3 with (first | (go_at_call 23; (with_reducible refine (serial_Linear.calls k a0 a1 a2 t359 t360 _ A4.out).mono ?_); rintro e w7 ⟨v361, rfl, ho0, hb⟩; have n0_ := Aside0.mk (Kd.S_lower ho0 (below_size (by repeat (first | (with_reducible first | exact HB.out | apply below_alloc | apply pw_below_drewN | apply below_drew1) | exact HB.out)))); have n1_ := Aside0.mk (below_step (by repeat (first | (with_reducible first | exact HB.out | apply below_alloc | apply pw_below_drewN | apply below_drew1) | exact HB.out)) hb); clear HB; have HO362 := n0_; have HB := n1_; clear n0_ n1_; (try clear hb); (try clear hb2); (try clear hk); (try clear hi); (try clear ho0)) | (go_at_call 24; (with_reducible refine (serial_Fine.calls k a0 t363 t364 t365 _ A5.out).mono ?_); rintro e w8 ⟨rfl, hb⟩; have n0_ := Aside0.mk (Kd.S_below (by (with_reducible repeat (first | apply Kd.S_alloc | apply Kd.S_drewN | apply Kd.S_drew)); exact HO362.out) hb); have n1_ := Aside0.mk (below_step (by repeat (first | (with_reducible first | exact HB.out | apply below_alloc | apply pw_below_drewN | apply below_drew1) | exact HB.out)) hb); clear HO362; clear HB; have HO362 := n0_; have HB := n1_; clear n0_ n1_; (try clear hb); (try clear hb2); (try clear hk); (try clear hi))))
  (try simp only [Act.put, List.setIfInBounds_toArray, List.set_cons_zero, List.set_cons_succ])
  go_cut [35] (fun v35 wc => ∃ (kq : Nat) (x35_5 : Bool), v35 = .bool x35_5 ∧ Aside0 (tickinglaw11_SerialLinear.j0 kq a0 a1 a2 t359 t360 t363 t364 t365 x35_5 = some r) ∧ Aside0 (kq ≤ k) ∧ Aside0 (Kd.S (Kd.slice 3 (Kd.int .i64)) 23 wc w.heap.size (fun _ => True) v361 t359) ∧ Aside0 (Below w.heap.size w wc))
  case first =>
    have H := HC6.out
    clear HC6
    by_cases c9 : a0 < 2
    · rw [if_pos c9] at H
      have c9b0 : decide (a0 < 2) = true := decide_eq_true c9
      clear c9
      (first | rw [c9b0] | (simp only [i64_w, i32_w]; rw [c9b0]) | skip)
      have H' := Aside0.mk H
      clear H
      go_wp2
      repeat (go_quiet (fail); try go_wp2)
      go_meet
      case rel => exact ⟨_, (true), (by first | rfl | (simp; done) | (simp [*]; done)), H', ⟨by first | omega | exact Nat.le_refl _⟩, ⟨by (with_reducible repeat (first | apply Kd.S_alloc | apply Kd.S_drewN | apply Kd.S_drew)); exact HO362.out⟩, ⟨by repeat (first | (with_reducible first | exact HB.out | apply below_alloc | apply pw_below_drewN | apply below_drew1) | exact HB.out)⟩⟩
    · rw [if_neg c9] at H
      have c9b0 : decide (a0 < 2) = false := decide_eq_false c9
      clear c9
      (first | rw [c9b0] | (simp only [i64_w, i32_w]; rw [c9b0]) | skip)
      have H' := Aside0.mk H
      clear H
      go_wp2
      repeat (go_quiet (fail); try go_wp2)
      go_meet
      case rel => exact ⟨_, (decide (a0 > 12)), (by first | rfl | (simp; done) | (simp [*]; done)), H', ⟨by first | omega | exact Nat.le_refl _⟩, ⟨by (with_reducible repeat (first | apply Kd.S_alloc | apply Kd.S_drewN | apply Kd.S_drew)); exact HO362.out⟩, ⟨by repeat (first | (with_reducible first | exact HB.out | apply below_alloc | apply pw_below_drewN | apply below_drew1) | exact HB.out)⟩⟩
  case rest =>
    clear HC6
    try clear p2
    try clear c4
    try clear c9
    try clear c9b0
    obtain ⟨kq, x35_5, rfl, HA, HJ5, HO_7, HB⟩ := hcut
    cases kq with
    | zero => exact absurd HA.out (by simp [tickinglaw11_SerialLinear.j0])
    | succ kj5 =>
      have H := HA.out
      clear HA
      simp only [tickinglaw11_SerialLinear.j0] at H
      by_cases c10 : x35_5 = true
      · subst c10
        have H1 : (if (t359.length : Int) = 0 then (if t360 = 2 then (if t363 = 0 then (if t364 = 0 then (if t365 = 2 then ((tickinglaw11_awake.f kj5).bind fun t366 => (some t366)) else (some false)) else (some false)) else (some false)) else (some false)) else (some false)) = some r := by rw [if_pos rfl] at H; exact H
        clear H
        have H := H1
        clear H1
        by_cases c11 : (t359.length : Int) = 0
        · rw [if_pos c11] at H
          have c11b0 : ((t359.length : Int) == 0) = true := beq_iff_eq.mpr c11
          have c11b1 : ((t359.length : Int) != 0) = false := bne_eq_false_iff_eq.mpr c11
          clear c11
          by_cases c12 : t360 = 2
          · rw [if_pos c12] at H
            have c12b0 : (t360 == 2) = true := beq_iff_eq.mpr c12
            have c12b1 : (t360 != 2) = false := bne_eq_false_iff_eq.mpr c12
            clear c12
            by_cases c13 : t363 = 0
            · rw [if_pos c13] at H
              have c13b0 : (t363 == 0) = true := beq_iff_eq.mpr c13
              have c13b1 : (t363 != 0) = false := bne_eq_false_iff_eq.mpr c13
              clear c13
              by_cases c14 : t364 = 0
              · rw [if_pos c14] at H
                have c14b0 : (t364 == 0) = true := beq_iff_eq.mpr c14
                have c14b1 : (t364 != 0) = false := bne_eq_false_iff_eq.mpr c14
                clear c14
                by_cases c15 : t365 = 2
                · rw [if_pos c15] at H
                  have c15b0 : (t365 == 2) = true := beq_iff_eq.mpr c15
                  have c15b1 : (t365 != 2) = false := bne_eq_false_iff_eq.mpr c15
                  clear c15
                  replace H := Option.bind_eq_some_iff.mp H
                  obtain ⟨t366, A160, H⟩ := H
                  replace H : (some t366) = some r := H
                  have A16 := Aside0.mk A160
                  clear A160
                  obtain rfl := Option.some.inj H
                  obtain ⟨Ao17, co17, eo17⟩ := Kd.S_slice HO_7.out
                  subst eo17
                  go_wp2_with (first | (go_at_call 22; (with_reducible refine (tickinglaw11_awake.calls kj5  t366 _ A16.out).mono ?_); rintro e w18 ⟨rfl, hb⟩; have n0_ := Aside0.mk (Kd.S_below (by (with_reducible repeat (first | apply Kd.S_alloc | apply Kd.S_drewN | apply Kd.S_drew)); exact HO_7.out) hb); have n1_ := Aside0.mk (below_step (by repeat (first | (with_reducible first | exact HB.out | apply below_alloc | apply pw_below_drewN | apply below_drew1) | exact HB.out)) hb); clear HO_7; clear HB; have HO_7 := n0_; have HB := n1_; clear n0_ n1_; (try clear hb); (try clear hb2); (try clear hk); (try clear hi)))
                  repeat (go_quiet (first | (go_at_call 22; (with_reducible refine (tickinglaw11_awake.calls kj5  t366 _ A16.out).mono ?_); rintro e w18 ⟨rfl, hb⟩; have n0_ := Aside0.mk (Kd.S_below (by (with_reducible repeat (first | apply Kd.S_alloc | apply Kd.S_drewN | apply Kd.S_drew)); exact HO_7.out) hb); have n1_ := Aside0.mk (below_step (by repeat (first | (with_reducible first | exact HB.out | apply below_alloc | apply pw_below_drewN | apply below_drew1) | exact HB.out)) hb); clear HO_7; clear HB; have HO_7 := n0_; have HB := n1_; clear n0_ n1_; (try clear hb); (try clear hb2); (try clear hk); (try clear hi))); try go_wp2_with (first | (go_at_call 22; (with_reducible refine (tickinglaw11_awake.calls kj5  t366 _ A16.out).mono ?_); rintro e w18 ⟨rfl, hb⟩; have n0_ := Aside0.mk (Kd.S_below (by (with_reducible repeat (first | apply Kd.S_alloc | apply Kd.S_drewN | apply Kd.S_drew)); exact HO_7.out) hb); have n1_ := Aside0.mk (below_step (by repeat (first | (with_reducible first | exact HB.out | apply below_alloc | apply pw_below_drewN | apply below_drew1) | exact HB.out)) hb); clear HO_7; clear HB; have HO_7 := n0_; have HB := n1_; clear n0_ n1_; (try clear hb); (try clear hb2); (try clear hk); (try clear hi))))
                  go_ret
                  exact ⟨by first | rfl | (simp [errW_none, errW_some] <;> rfl) | (simp [*, errW_none, errW_some] <;> rfl), by repeat (first | (with_reducible first | exact HB.out | apply below_alloc | apply pw_below_drewN | apply below_drew1) | exact HB.out)⟩
                · rw [if_neg c15] at H
                  have c15b0 : (t365 == 2) = false := beq_eq_false_iff_ne.mpr c15
                  have c15b1 : (t365 != 2) = true := bne_iff_ne.mpr c15
                  obtain rfl := Option.some.inj H
                  obtain ⟨Ao19, co19, eo19⟩ := Kd.S_slice HO_7.out
                  subst eo19
                  go_wp2
                  repeat (go_quiet (fail); try go_wp2)
                  go_ret
                  exact ⟨by first | rfl | (simp [errW_none, errW_some] <;> rfl) | (simp [*, errW_none, errW_some] <;> rfl), by repeat (first | (with_reducible first | exact HB.out | apply below_alloc | apply pw_below_drewN | apply below_drew1) | exact HB.out)⟩
              · rw [if_neg c14] at H
                have c14b0 : (t364 == 0) = false := beq_eq_false_iff_ne.mpr c14
                have c14b1 : (t364 != 0) = true := bne_iff_ne.mpr c14
                obtain rfl := Option.some.inj H
                obtain ⟨Ao20, co20, eo20⟩ := Kd.S_slice HO_7.out
                subst eo20
                go_wp2
                repeat (go_quiet (fail); try go_wp2)
                go_ret
                exact ⟨by first | rfl | (simp [errW_none, errW_some] <;> rfl) | (simp [*, errW_none, errW_some] <;> rfl), by repeat (first | (with_reducible first | exact HB.out | apply below_alloc | apply pw_below_drewN | apply below_drew1) | exact HB.out)⟩
            · rw [if_neg c13] at H
              have c13b0 : (t363 == 0) = false := beq_eq_false_iff_ne.mpr c13
              have c13b1 : (t363 != 0) = true := bne_iff_ne.mpr c13
              obtain rfl := Option.some.inj H
              obtain ⟨Ao21, co21, eo21⟩ := Kd.S_slice HO_7.out
              subst eo21
              go_wp2
              repeat (go_quiet (fail); try go_wp2)
              go_ret
              exact ⟨by first | rfl | (simp [errW_none, errW_some] <;> rfl) | (simp [*, errW_none, errW_some] <;> rfl), by repeat (first | (with_reducible first | exact HB.out | apply below_alloc | apply pw_below_drewN | apply below_drew1) | exact HB.out)⟩
          · rw [if_neg c12] at H
            have c12b0 : (t360 == 2) = false := beq_eq_false_iff_ne.mpr c12
            have c12b1 : (t360 != 2) = true := bne_iff_ne.mpr c12
            obtain rfl := Option.some.inj H
            obtain ⟨Ao22, co22, eo22⟩ := Kd.S_slice HO_7.out
            subst eo22
            go_wp2
            repeat (go_quiet (fail); try go_wp2)
            go_ret
            exact ⟨by first | rfl | (simp [errW_none, errW_some] <;> rfl) | (simp [*, errW_none, errW_some] <;> rfl), by repeat (first | (with_reducible first | exact HB.out | apply below_alloc | apply pw_below_drewN | apply below_drew1) | exact HB.out)⟩
        · rw [if_neg c11] at H
          have c11b0 : ((t359.length : Int) == 0) = false := beq_eq_false_iff_ne.mpr c11
          have c11b1 : ((t359.length : Int) != 0) = true := bne_iff_ne.mpr c11
          have c11b2 : ¬ (t359 = []) := fun h_ => c11 (by rw [h_]; rfl)
          obtain rfl := Option.some.inj H
          obtain ⟨Ao23, co23, eo23⟩ := Kd.S_slice HO_7.out
          subst eo23
          go_wp2
          repeat (go_quiet (fail); try go_wp2)
          go_ret
          exact ⟨by first | rfl | (simp [errW_none, errW_some] <;> rfl) | (simp [*, errW_none, errW_some] <;> rfl), by repeat (first | (with_reducible first | exact HB.out | apply below_alloc | apply pw_below_drewN | apply below_drew1) | exact HB.out)⟩
      · replace c10 := Bool.eq_false_iff.mpr c10
        subst c10
        have H1 : ((tickingref11_Fine.f kj5 a0).bind fun bt367 => (if bt367.2.2 = true then (if t363 = bt367.1 then (if t364 = bt367.2.1 then (if t365 = 0 then (tickinglaw11_SerialLinear.j1 kj5 a0 a1 a2 t359 t360 false) else (tickinglaw11_SerialLinear.j1 kj5 a0 a1 a2 t359 t360 true)) else (tickinglaw11_SerialLinear.j1 kj5 a0 a1 a2 t359 t360 true)) else (tickinglaw11_SerialLinear.j1 kj5 a0 a1 a2 t359 t360 true)) else (if t363 = 0 then (if t364 = 0 then (tickinglaw11_SerialLinear.j1 kj5 a0 a1 a2 t359 t360 (t365 != 6)) else (tickinglaw11_SerialLinear.j1 kj5 a0 a1 a2 t359 t360 true)) else (tickinglaw11_SerialLinear.j1 kj5 a0 a1 a2 t359 t360 true)))) = some r := by rw [if_neg (show ¬ (false = true) by decide)] at H; exact H
        clear H
        have H := H1
        clear H1
        replace H := Option.bind_eq_some_iff.mp H
        obtain ⟨⟨t367, t368, t369⟩, A240, H⟩ := H
        replace H : (if t369 = true then (if t363 = t367 then (if t364 = t368 then (if t365 = 0 then (tickinglaw11_SerialLinear.j1 kj5 a0 a1 a2 t359 t360 false) else (tickinglaw11_SerialLinear.j1 kj5 a0 a1 a2 t359 t360 true)) else (tickinglaw11_SerialLinear.j1 kj5 a0 a1 a2 t359 t360 true)) else (tickinglaw11_SerialLinear.j1 kj5 a0 a1 a2 t359 t360 true)) else (if t363 = 0 then (if t364 = 0 then (tickinglaw11_SerialLinear.j1 kj5 a0 a1 a2 t359 t360 (t365 != 6)) else (tickinglaw11_SerialLinear.j1 kj5 a0 a1 a2 t359 t360 true)) else (tickinglaw11_SerialLinear.j1 kj5 a0 a1 a2 t359 t360 true))) = some r := H
        have A24 := Aside0.mk A240
        clear A240
        have HC25 := Aside0.mk H
        clear H
        go_upto_region 6 with (first | (go_at_call 25; (with_reducible refine (tickingref11_Fine.calls kj5 a0 t367 t368 t369 _ A24.out).mono ?_); rintro e w26 ⟨rfl, hb⟩; have n0_ := Aside0.mk (Kd.S_below (by (with_reducible repeat (first | apply Kd.S_alloc | apply Kd.S_drewN | apply Kd.S_drew)); exact HO_7.out) hb); have n1_ := Aside0.mk (below_step (by repeat (first | (with_reducible first | exact HB.out | apply below_alloc | apply pw_below_drewN | apply below_drew1) | exact HB.out)) hb); clear HO_7; clear HB; have HO_7 := n0_; have HB := n1_; clear n0_ n1_; (try clear hb); (try clear hb2); (try clear hk); (try clear hi)))
        repeat (go_quiet (first | (go_at_call 25; (with_reducible refine (tickingref11_Fine.calls kj5 a0 t367 t368 t369 _ A24.out).mono ?_); rintro e w26 ⟨rfl, hb⟩; have n0_ := Aside0.mk (Kd.S_below (by (with_reducible repeat (first | apply Kd.S_alloc | apply Kd.S_drewN | apply Kd.S_drew)); exact HO_7.out) hb); have n1_ := Aside0.mk (below_step (by repeat (first | (with_reducible first | exact HB.out | apply below_alloc | apply pw_below_drewN | apply below_drew1) | exact HB.out)) hb); clear HO_7; clear HB; have HO_7 := n0_; have HB := n1_; clear n0_ n1_; (try clear hb); (try clear hb2); (try clear hk); (try clear hi))); go_upto_region 6 with (first | (go_at_call 25; (with_reducible refine (tickingref11_Fine.calls kj5 a0 t367 t368 t369 _ A24.out).mono ?_); rintro e w26 ⟨rfl, hb⟩; have n0_ := Aside0.mk (Kd.S_below (by (with_reducible repeat (first | apply Kd.S_alloc | apply Kd.S_drewN | apply Kd.S_drew)); exact HO_7.out) hb); have n1_ := Aside0.mk (below_step (by repeat (first | (with_reducible first | exact HB.out | apply below_alloc | apply pw_below_drewN | apply below_drew1) | exact HB.out)) hb); clear HO_7; clear HB; have HO_7 := n0_; have HB := n1_; clear n0_ n1_; (try clear hb); (try clear hb2); (try clear hk); (try clear hi))))
        (try simp only [Act.put, List.setIfInBounds_toArray, List.set_cons_zero, List.set_cons_succ])
        go_cut [94] (fun v94 wc => ∃ (kq : Nat) (x94_24 : Bool), v94 = .bool x94_24 ∧ Aside0 (tickinglaw11_SerialLinear.j1 kq a0 a1 a2 t359 t360 x94_24 = some r) ∧ Aside0 (kq ≤ kj5) ∧ Aside0 (Kd.S (Kd.slice 3 (Kd.int .i64)) 23 wc w.heap.size (fun _ => True) v361 t359) ∧ Aside0 (Below w.heap.size w wc))
        case first =>
          have H := HC25.out
          clear HC25
          by_cases c27 : t369 = true
          · subst c27
            have H1 : (if t363 = t367 then (if t364 = t368 then (if t365 = 0 then (tickinglaw11_SerialLinear.j1 kj5 a0 a1 a2 t359 t360 false) else (tickinglaw11_SerialLinear.j1 kj5 a0 a1 a2 t359 t360 true)) else (tickinglaw11_SerialLinear.j1 kj5 a0 a1 a2 t359 t360 true)) else (tickinglaw11_SerialLinear.j1 kj5 a0 a1 a2 t359 t360 true)) = some r := by rw [if_pos rfl] at H; exact H
            clear H
            have H := H1
            clear H1
            by_cases c28 : t363 = t367
            · rw [if_pos c28] at H
              have c28b0 : (t363 == t367) = true := beq_iff_eq.mpr c28
              have c28b1 : (t363 != t367) = false := bne_eq_false_iff_eq.mpr c28
              clear c28
              (first | rw [c28b0] | (simp only [i64_w, i32_w]; rw [c28b0]) | skip)
              by_cases c29 : t364 = t368
              · rw [if_pos c29] at H
                have c29b0 : (t364 == t368) = true := beq_iff_eq.mpr c29
                have c29b1 : (t364 != t368) = false := bne_eq_false_iff_eq.mpr c29
                clear c29
                by_cases c30 : t365 = 0
                · rw [if_pos c30] at H
                  have c30b0 : (t365 == 0) = true := beq_iff_eq.mpr c30
                  have c30b1 : (t365 != 0) = false := bne_eq_false_iff_eq.mpr c30
                  clear c30
                  have H' := Aside0.mk H
                  clear H
                  go_wp2
                  repeat (go_quiet (fail); try go_wp2)
                  go_meet
                  case rel => exact ⟨_, (false), (by first | rfl | (simp; done) | (simp [*]; done)), H', ⟨by have := HJ5.out; first | omega | exact Nat.le_refl _⟩, ⟨by (with_reducible repeat (first | apply Kd.S_alloc | apply Kd.S_drewN | apply Kd.S_drew)); exact HO_7.out⟩, ⟨by repeat (first | (with_reducible first | exact HB.out | apply below_alloc | apply pw_below_drewN | apply below_drew1) | exact HB.out)⟩⟩
                · rw [if_neg c30] at H
                  have c30b0 : (t365 == 0) = false := beq_eq_false_iff_ne.mpr c30
                  have c30b1 : (t365 != 0) = true := bne_iff_ne.mpr c30
                  have H' := Aside0.mk H
                  clear H
                  go_wp2
                  repeat (go_quiet (fail); try go_wp2)
                  go_meet
                  case rel => exact ⟨_, (true), (by first | rfl | (simp; done) | (simp [*]; done)), H', ⟨by have := HJ5.out; first | omega | exact Nat.le_refl _⟩, ⟨by (with_reducible repeat (first | apply Kd.S_alloc | apply Kd.S_drewN | apply Kd.S_drew)); exact HO_7.out⟩, ⟨by repeat (first | (with_reducible first | exact HB.out | apply below_alloc | apply pw_below_drewN | apply below_drew1) | exact HB.out)⟩⟩
              · rw [if_neg c29] at H
                have c29b0 : (t364 == t368) = false := beq_eq_false_iff_ne.mpr c29
                have c29b1 : (t364 != t368) = true := bne_iff_ne.mpr c29
                have H' := Aside0.mk H
                clear H
                go_wp2
                repeat (go_quiet (fail); try go_wp2)
                go_meet
                case rel => exact ⟨_, (true), (by first | rfl | (simp; done) | (simp [*]; done)), H', ⟨by have := HJ5.out; first | omega | exact Nat.le_refl _⟩, ⟨by (with_reducible repeat (first | apply Kd.S_alloc | apply Kd.S_drewN | apply Kd.S_drew)); exact HO_7.out⟩, ⟨by repeat (first | (with_reducible first | exact HB.out | apply below_alloc | apply pw_below_drewN | apply below_drew1) | exact HB.out)⟩⟩
            · rw [if_neg c28] at H
              have c28b0 : (t363 == t367) = false := beq_eq_false_iff_ne.mpr c28
              have c28b1 : (t363 != t367) = true := bne_iff_ne.mpr c28
              (first | rw [c28b0] | (simp only [i64_w, i32_w]; rw [c28b0]) | skip)
              have H' := Aside0.mk H
              clear H
              go_wp2
              repeat (go_quiet (fail); try go_wp2)
              go_meet
              case rel => exact ⟨_, (true), (by first | rfl | (simp; done) | (simp [*]; done)), H', ⟨by have := HJ5.out; first | omega | exact Nat.le_refl _⟩, ⟨by (with_reducible repeat (first | apply Kd.S_alloc | apply Kd.S_drewN | apply Kd.S_drew)); exact HO_7.out⟩, ⟨by repeat (first | (with_reducible first | exact HB.out | apply below_alloc | apply pw_below_drewN | apply below_drew1) | exact HB.out)⟩⟩
          · replace c27 := Bool.eq_false_iff.mpr c27
            subst c27
            have H1 : (if t363 = 0 then (if t364 = 0 then (tickinglaw11_SerialLinear.j1 kj5 a0 a1 a2 t359 t360 (t365 != 6)) else (tickinglaw11_SerialLinear.j1 kj5 a0 a1 a2 t359 t360 true)) else (tickinglaw11_SerialLinear.j1 kj5 a0 a1 a2 t359 t360 true)) = some r := by rw [if_neg (show ¬ (false = true) by decide)] at H; exact H
            clear H
            have H := H1
            clear H1
            by_cases c31 : t363 = 0
            · rw [if_pos c31] at H
              have c31b0 : (t363 == 0) = true := beq_iff_eq.mpr c31
              have c31b1 : (t363 != 0) = false := bne_eq_false_iff_eq.mpr c31
              clear c31
              by_cases c32 : t364 = 0
              · rw [if_pos c32] at H
                have c32b0 : (t364 == 0) = true := beq_iff_eq.mpr c32
                have c32b1 : (t364 != 0) = false := bne_eq_false_iff_eq.mpr c32
                clear c32
                have H' := Aside0.mk H
                clear H
                go_wp2
                repeat (go_quiet (fail); try go_wp2)
                go_meet
                case rel => exact ⟨_, ((t365 != 6)), (by first | rfl | (simp; done) | (simp [*]; done)), H', ⟨by have := HJ5.out; first | omega | exact Nat.le_refl _⟩, ⟨by (with_reducible repeat (first | apply Kd.S_alloc | apply Kd.S_drewN | apply Kd.S_drew)); exact HO_7.out⟩, ⟨by repeat (first | (with_reducible first | exact HB.out | apply below_alloc | apply pw_below_drewN | apply below_drew1) | exact HB.out)⟩⟩
              · rw [if_neg c32] at H
                have c32b0 : (t364 == 0) = false := beq_eq_false_iff_ne.mpr c32
                have c32b1 : (t364 != 0) = true := bne_iff_ne.mpr c32
                have H' := Aside0.mk H
                clear H
                go_wp2
                repeat (go_quiet (fail); try go_wp2)
                go_meet
                case rel => exact ⟨_, (true), (by first | rfl | (simp; done) | (simp [*]; done)), H', ⟨by have := HJ5.out; first | omega | exact Nat.le_refl _⟩, ⟨by (with_reducible repeat (first | apply Kd.S_alloc | apply Kd.S_drewN | apply Kd.S_drew)); exact HO_7.out⟩, ⟨by repeat (first | (with_reducible first | exact HB.out | apply below_alloc | apply pw_below_drewN | apply below_drew1) | exact HB.out)⟩⟩
            · rw [if_neg c31] at H
              have c31b0 : (t363 == 0) = false := beq_eq_false_iff_ne.mpr c31
              have c31b1 : (t363 != 0) = true := bne_iff_ne.mpr c31
              have H' := Aside0.mk H
              clear H
              go_wp2
              repeat (go_quiet (fail); try go_wp2)
              go_meet
              case rel => exact ⟨_, (true), (by first | rfl | (simp; done) | (simp [*]; done)), H', ⟨by have := HJ5.out; first | omega | exact Nat.le_refl _⟩, ⟨by (with_reducible repeat (first | apply Kd.S_alloc | apply Kd.S_drewN | apply Kd.S_drew)); exact HO_7.out⟩, ⟨by repeat (first | (with_reducible first | exact HB.out | apply below_alloc | apply pw_below_drewN | apply below_drew1) | exact HB.out)⟩⟩
        case rest =>
          clear HC25
          try clear c1
          try clear c2
          try clear p2
          try clear c3
          try clear c4
          try clear c9
          try clear c9b0
          try clear c10
          try clear c11
          try clear c11b0
          try clear c11b1
          try clear c11b2
          try clear c12
          try clear c12b0
          try clear c12b1
          try clear c13
          try clear c13b0
          try clear c13b1
          try clear c14
          try clear c14b0
          try clear c14b1
          try clear c15
          try clear c15b0
          try clear c15b1
          try clear c27
          try clear c28
          try clear c28b0
          try clear c28b1
          try clear c29
          try clear c29b0
          try clear c29b1
          try clear c30
          try clear c30b0
          try clear c30b1
          try clear c31
          try clear c31b0
          try clear c31b1
          try clear c32
          try clear c32b0
          try clear c32b1
          try clear p2
          obtain ⟨kq, x94_24, rfl, HA, HJ24, HO_7, HB⟩ := hcut
          cases kq with
          | zero => exact absurd HA.out (by simp [tickinglaw11_SerialLinear.j1])
          | succ kj24 =>
            have H := HA.out
            clear HA
            simp only [tickinglaw11_SerialLinear.j1] at H
            by_cases c33 : x94_24 = true
            · subst c33
              have H1 : (some false) = some r := by rw [if_pos rfl] at H; exact H
              clear H
              have H := H1
              clear H1
              obtain rfl := Option.some.inj H
              go_wp2
              repeat (go_quiet (fail); try go_wp2)
              go_ret
              exact ⟨by first | rfl | (simp [errW_none, errW_some] <;> rfl) | (simp [*, errW_none, errW_some] <;> rfl), by repeat (first | (with_reducible first | exact HB.out | apply below_alloc | apply pw_below_drewN | apply below_drew1) | exact HB.out)⟩
            · replace c33 := Bool.eq_false_iff.mpr c33
              subst c33
              have H1 : ((tickingref11_Prime.f kj24 a1 a0).bind fun t370 => (if t370 = true then ((tickingref11_Prime.f kj24 a2 a0).bind fun t371 => (tickinglaw11_SerialLinear.j2 kj24 a0 a1 a2 t359 t360 (!t371))) else (tickinglaw11_SerialLinear.j2 kj24 a0 a1 a2 t359 t360 true))) = some r := by rw [if_neg (show ¬ (false = true) by decide)] at H; exact H
              clear H
              have H := H1
              clear H1
              have HC34 := Aside0.mk H
              clear H
              go_upto_region 8 with (fail)
              repeat (go_quiet (fail); go_upto_region 8 with (fail))
              go_cut [104] (fun v104 wc => ∃ (kq : Nat) (x104_33 : Bool), v104 = .bool x104_33 ∧ Aside0 (tickinglaw11_SerialLinear.j2 kq a0 a1 a2 t359 t360 x104_33 = some r) ∧ Aside0 (kq ≤ kj24) ∧ Aside0 (Kd.S (Kd.slice 3 (Kd.int .i64)) 23 wc w.heap.size (fun _ => True) v361 t359) ∧ Aside0 (Below w.heap.size w wc))
              case first =>
                have H := HC34.out
                clear HC34
                replace H := Option.bind_eq_some_iff.mp H
                obtain ⟨t370, A350, H⟩ := H
                replace H : (if t370 = true then ((tickingref11_Prime.f kj24 a2 a0).bind fun t371 => (tickinglaw11_SerialLinear.j2 kj24 a0 a1 a2 t359 t360 (!t371))) else (tickinglaw11_SerialLinear.j2 kj24 a0 a1 a2 t359 t360 true)) = some r := H
                have A35 := Aside0.mk A350
                clear A350
                by_cases c36 : t370 = true
                · subst c36
                  have H1 : ((tickingref11_Prime.f kj24 a2 a0).bind fun t371 => (tickinglaw11_SerialLinear.j2 kj24 a0 a1 a2 t359 t360 (!t371))) = some r := by rw [if_pos rfl] at H; exact H
                  clear H
                  have H := H1
                  clear H1
                  replace H := Option.bind_eq_some_iff.mp H
                  obtain ⟨t371, A370, H⟩ := H
                  replace H : (tickinglaw11_SerialLinear.j2 kj24 a0 a1 a2 t359 t360 (!t371)) = some r := H
                  have A37 := Aside0.mk A370
                  clear A370
                  have H' := Aside0.mk H
                  clear H
                  go_wp2_with (first | (go_at_call 26; (with_reducible refine (tickingref11_Prime.calls kj24 a1 a0 true _ A35.out).mono ?_); rintro e w' ⟨rfl, ⟨nd, rfl⟩⟩; (try first | exact ⟨rfl, _, World.drewN_drewN _ _ _⟩ | exact ⟨rfl, _, Eq.trans (World.drewN_drewN _ _ _) (congrArg (World.drewN _) (Nat.add_assoc _ _ _))⟩)) | (go_at_call 26; (with_reducible refine (tickingref11_Prime.calls kj24 a2 a0 t371 _ A37.out).mono ?_); rintro e w' ⟨rfl, ⟨nd, rfl⟩⟩; (try first | exact ⟨rfl, _, World.drewN_drewN _ _ _⟩ | exact ⟨rfl, _, Eq.trans (World.drewN_drewN _ _ _) (congrArg (World.drewN _) (Nat.add_assoc _ _ _))⟩)))
                  repeat (go_quiet (first | (go_at_call 26; (with_reducible refine (tickingref11_Prime.calls kj24 a1 a0 true _ A35.out).mono ?_); rintro e w' ⟨rfl, ⟨nd, rfl⟩⟩; (try first | exact ⟨rfl, _, World.drewN_drewN _ _ _⟩ | exact ⟨rfl, _, Eq.trans (World.drewN_drewN _ _ _) (congrArg (World.drewN _) (Nat.add_assoc _ _ _))⟩)) | (go_at_call 26; (with_reducible refine (tickingref11_Prime.calls kj24 a2 a0 t371 _ A37.out).mono ?_); rintro e w' ⟨rfl, ⟨nd, rfl⟩⟩; (try first | exact ⟨rfl, _, World.drewN_drewN _ _ _⟩ | exact ⟨rfl, _, Eq.trans (World.drewN_drewN _ _ _) (congrArg (World.drewN _) (Nat.add_assoc _ _ _))⟩))); try go_wp2_with (first | (go_at_call 26; (with_reducible refine (tickingref11_Prime.calls kj24 a1 a0 true _ A35.out).mono ?_); rintro e w' ⟨rfl, ⟨nd, rfl⟩⟩; (try first | exact ⟨rfl, _, World.drewN_drewN _ _ _⟩ | exact ⟨rfl, _, Eq.trans (World.drewN_drewN _ _ _) (congrArg (World.drewN _) (Nat.add_assoc _ _ _))⟩)) | (go_at_call 26; (with_reducible refine (tickingref11_Prime.calls kj24 a2 a0 t371 _ A37.out).mono ?_); rintro e w' ⟨rfl, ⟨nd, rfl⟩⟩; (try first | exact ⟨rfl, _, World.drewN_drewN _ _ _⟩ | exact ⟨rfl, _, Eq.trans (World.drewN_drewN _ _ _) (congrArg (World.drewN _) (Nat.add_assoc _ _ _))⟩))))
                  go_meet
                  case rel => exact ⟨_, (!t371), (by first | rfl | (simp; done) | (simp [*]; done)), H', ⟨by have := HJ5.out; have := HJ24.out; first | omega | exact Nat.le_refl _⟩, ⟨by (with_reducible repeat (first | apply Kd.S_alloc | apply Kd.S_drewN | apply Kd.S_drew)); exact HO_7.out⟩, ⟨by repeat (first | (with_reducible first | exact HB.out | apply below_alloc | apply pw_below_drewN | apply below_drew1) | exact HB.out)⟩⟩
                · replace c36 := Bool.eq_false_iff.mpr c36
                  subst c36
                  have H1 : (tickinglaw11_SerialLinear.j2 kj24 a0 a1 a2 t359 t360 true) = some r := by rw [if_neg (show ¬ (false = true) by decide)] at H; exact H
                  clear H
                  have H := H1
                  clear H1
                  have H' := Aside0.mk H
                  clear H
                  go_wp2_with (first | (go_at_call 26; (with_reducible refine (tickingref11_Prime.calls kj24 a1 a0 false _ A35.out).mono ?_); rintro e w' ⟨rfl, ⟨nd, rfl⟩⟩; (try first | exact ⟨rfl, _, World.drewN_drewN _ _ _⟩ | exact ⟨rfl, _, Eq.trans (World.drewN_drewN _ _ _) (congrArg (World.drewN _) (Nat.add_assoc _ _ _))⟩)))
                  repeat (go_quiet (first | (go_at_call 26; (with_reducible refine (tickingref11_Prime.calls kj24 a1 a0 false _ A35.out).mono ?_); rintro e w' ⟨rfl, ⟨nd, rfl⟩⟩; (try first | exact ⟨rfl, _, World.drewN_drewN _ _ _⟩ | exact ⟨rfl, _, Eq.trans (World.drewN_drewN _ _ _) (congrArg (World.drewN _) (Nat.add_assoc _ _ _))⟩))); try go_wp2_with (first | (go_at_call 26; (with_reducible refine (tickingref11_Prime.calls kj24 a1 a0 false _ A35.out).mono ?_); rintro e w' ⟨rfl, ⟨nd, rfl⟩⟩; (try first | exact ⟨rfl, _, World.drewN_drewN _ _ _⟩ | exact ⟨rfl, _, Eq.trans (World.drewN_drewN _ _ _) (congrArg (World.drewN _) (Nat.add_assoc _ _ _))⟩))))
                  go_meet
                  case rel => exact ⟨_, (true), (by first | rfl | (simp; done) | (simp [*]; done)), H', ⟨by have := HJ5.out; have := HJ24.out; first | omega | exact Nat.le_refl _⟩, ⟨by (with_reducible repeat (first | apply Kd.S_alloc | apply Kd.S_drewN | apply Kd.S_drew)); exact HO_7.out⟩, ⟨by repeat (first | (with_reducible first | exact HB.out | apply below_alloc | apply pw_below_drewN | apply below_drew1) | exact HB.out)⟩⟩
              case rest =>
                clear HC34
                try clear c1
                try clear c2
                try clear p2
                try clear c3
                try clear c4
                try clear c9
                try clear c9b0
                try clear c10
                try clear c11
                try clear c11b0
                try clear c11b1
                try clear c11b2
                try clear c12
                try clear c12b0
                try clear c12b1
                try clear c13
                try clear c13b0
                try clear c13b1
                try clear c14
                try clear c14b0
                try clear c14b1
                try clear c15
                try clear c15b0
                try clear c15b1
                try clear c27
                try clear c28
                try clear c28b0
                try clear c28b1
                try clear c29
                try clear c29b0
                try clear c29b1
                try clear c30
                try clear c30b0
                try clear c30b1
                try clear c31
                try clear c31b0
                try clear c31b1
                try clear c32
                try clear c32b0
                try clear c32b1
                try clear c33
                try clear c36
                try clear p2
                obtain ⟨kq, x104_33, rfl, HA, HJ33, HO_7, HB⟩ := hcut
                cases kq with
                | zero => exact absurd HA.out (by simp [tickinglaw11_SerialLinear.j2])
                | succ kj33 =>
                  have H := HA.out
                  clear HA
                  simp only [tickinglaw11_SerialLinear.j2] at H
                  by_cases c38 : x104_33 = true
                  · subst c38
                    have H1 : (if (t359.length : Int) = 0 then (if t360 = 2 then ((tickinglaw11_awake.f kj33).bind fun t372 => (some t372)) else (some false)) else (some false)) = some r := by rw [if_pos rfl] at H; exact H
                    clear H
                    have H := H1
                    clear H1
                    by_cases c39 : (t359.length : Int) = 0
                    · rw [if_pos c39] at H
                      have c39b0 : ((t359.length : Int) == 0) = true := beq_iff_eq.mpr c39
                      have c39b1 : ((t359.length : Int) != 0) = false := bne_eq_false_iff_eq.mpr c39
                      clear c39
                      by_cases c40 : t360 = 2
                      · rw [if_pos c40] at H
                        have c40b0 : (t360 == 2) = true := beq_iff_eq.mpr c40
                        have c40b1 : (t360 != 2) = false := bne_eq_false_iff_eq.mpr c40
                        clear c40
                        replace H := Option.bind_eq_some_iff.mp H
                        obtain ⟨t372, A410, H⟩ := H
                        replace H : (some t372) = some r := H
                        have A41 := Aside0.mk A410
                        clear A410
                        obtain rfl := Option.some.inj H
                        obtain ⟨Ao42, co42, eo42⟩ := Kd.S_slice HO_7.out
                        subst eo42
                        go_wp2_with (first | (go_at_call 22; (with_reducible refine (tickinglaw11_awake.calls kj33  t372 _ A41.out).mono ?_); rintro e w43 ⟨rfl, hb⟩; have n0_ := Aside0.mk (Kd.S_below (by (with_reducible repeat (first | apply Kd.S_alloc | apply Kd.S_drewN | apply Kd.S_drew)); exact HO_7.out) hb); have n1_ := Aside0.mk (below_step (by repeat (first | (with_reducible first | exact HB.out | apply below_alloc | apply pw_below_drewN | apply below_drew1) | exact HB.out)) hb); clear HO_7; clear HB; have HO_7 := n0_; have HB := n1_; clear n0_ n1_; (try clear hb); (try clear hb2); (try clear hk); (try clear hi)))
                        repeat (go_quiet (first | (go_at_call 22; (with_reducible refine (tickinglaw11_awake.calls kj33  t372 _ A41.out).mono ?_); rintro e w43 ⟨rfl, hb⟩; have n0_ := Aside0.mk (Kd.S_below (by (with_reducible repeat (first | apply Kd.S_alloc | apply Kd.S_drewN | apply Kd.S_drew)); exact HO_7.out) hb); have n1_ := Aside0.mk (below_step (by repeat (first | (with_reducible first | exact HB.out | apply below_alloc | apply pw_below_drewN | apply below_drew1) | exact HB.out)) hb); clear HO_7; clear HB; have HO_7 := n0_; have HB := n1_; clear n0_ n1_; (try clear hb); (try clear hb2); (try clear hk); (try clear hi))); try go_wp2_with (first | (go_at_call 22; (with_reducible refine (tickinglaw11_awake.calls kj33  t372 _ A41.out).mono ?_); rintro e w43 ⟨rfl, hb⟩; have n0_ := Aside0.mk (Kd.S_below (by (with_reducible repeat (first | apply Kd.S_alloc | apply Kd.S_drewN | apply Kd.S_drew)); exact HO_7.out) hb); have n1_ := Aside0.mk (below_step (by repeat (first | (with_reducible first | exact HB.out | apply below_alloc | apply pw_below_drewN | apply below_drew1) | exact HB.out)) hb); clear HO_7; clear HB; have HO_7 := n0_; have HB := n1_; clear n0_ n1_; (try clear hb); (try clear hb2); (try clear hk); (try clear hi))))
                        go_ret
                        exact ⟨by first | rfl | (simp [errW_none, errW_some] <;> rfl) | (simp [*, errW_none, errW_some] <;> rfl), by repeat (first | (with_reducible first | exact HB.out | apply below_alloc | apply pw_below_drewN | apply below_drew1) | exact HB.out)⟩
                      · rw [if_neg c40] at H
                        have c40b0 : (t360 == 2) = false := beq_eq_false_iff_ne.mpr c40
                        have c40b1 : (t360 != 2) = true := bne_iff_ne.mpr c40
                        obtain rfl := Option.some.inj H
                        obtain ⟨Ao44, co44, eo44⟩ := Kd.S_slice HO_7.out
                        subst eo44
                        go_wp2
                        repeat (go_quiet (fail); try go_wp2)
                        go_ret
                        exact ⟨by first | rfl | (simp [errW_none, errW_some] <;> rfl) | (simp [*, errW_none, errW_some] <;> rfl), by repeat (first | (with_reducible first | exact HB.out | apply below_alloc | apply pw_below_drewN | apply below_drew1) | exact HB.out)⟩
                    · rw [if_neg c39] at H
                      have c39b0 : ((t359.length : Int) == 0) = false := beq_eq_false_iff_ne.mpr c39
                      have c39b1 : ((t359.length : Int) != 0) = true := bne_iff_ne.mpr c39
                      have c39b2 : ¬ (t359 = []) := fun h_ => c39 (by rw [h_]; rfl)
                      obtain rfl := Option.some.inj H
                      obtain ⟨Ao45, co45, eo45⟩ := Kd.S_slice HO_7.out
                      subst eo45
                      go_wp2
                      repeat (go_quiet (fail); try go_wp2)
                      go_ret
                      exact ⟨by first | rfl | (simp [errW_none, errW_some] <;> rfl) | (simp [*, errW_none, errW_some] <;> rfl), by repeat (first | (with_reducible first | exact HB.out | apply below_alloc | apply pw_below_drewN | apply below_drew1) | exact HB.out)⟩
                  · replace c38 := Bool.eq_false_iff.mpr c38
                    subst c38
                    have H1 : ((tickingref11_Linear.f kj33 a0 a1 a2).bind fun t373 => (if (t359.length : Int) = a0 then (tickinglaw11_SerialLinear.j3 kj33 a0 t359 t373 (t360 != 0)) else (tickinglaw11_SerialLinear.j3 kj33 a0 t359 t373 true))) = some r := by rw [if_neg (show ¬ (false = true) by decide)] at H; exact H
                    clear H
                    have H := H1
                    clear H1
                    replace H := Option.bind_eq_some_iff.mp H
                    obtain ⟨t373, A460, H⟩ := H
                    replace H : (if (t359.length : Int) = a0 then (tickinglaw11_SerialLinear.j3 kj33 a0 t359 t373 (t360 != 0)) else (tickinglaw11_SerialLinear.j3 kj33 a0 t359 t373 true)) = some r := H
                    have A46 := Aside0.mk A460
                    clear A460
                    have HC47 := Aside0.mk H
                    clear H
                    go_upto_region 11 with (first | (go_at_call 27; (with_reducible refine (tickingref11_Linear.calls kj33 a0 a1 a2 t373 _ A46.out).mono ?_); rintro e w48 ⟨v374, rfl, ho0, hb⟩; have n0_ := Aside0.mk (Kd.S_elder' (by (with_reducible repeat (first | apply Kd.S_alloc | apply Kd.S_drewN | apply Kd.S_drew)); exact HO_7.out) (Kd.S_base ho0) hb); have n1_ := Aside0.mk (Kd.S_lower (Kd.S_new' ho0 (Kd.S_lt (by (with_reducible repeat (first | apply Kd.S_alloc | apply Kd.S_drewN | apply Kd.S_drew)); exact HO_7.out))) (below_size (by repeat (first | (with_reducible first | exact HB.out | apply below_alloc | apply pw_below_drewN | apply below_drew1) | exact HB.out)))); have n2_ := Aside0.mk (below_step (by repeat (first | (with_reducible first | exact HB.out | apply below_alloc | apply pw_below_drewN | apply below_drew1) | exact HB.out)) hb); clear HO_7; clear HB; have HO_7 := n0_; have HO375 := n1_; have HB := n2_; clear n0_ n1_ n2_; (try clear hb); (try clear hb2); (try clear hk); (try clear hi); (try clear ho0)))
                    repeat (go_quiet (first | (go_at_call 27; (with_reducible refine (tickingref11_Linear.calls kj33 a0 a1 a2 t373 _ A46.out).mono ?_); rintro e w48 ⟨v374, rfl, ho0, hb⟩; have n0_ := Aside0.mk (Kd.S_elder' (by (with_reducible repeat (first | apply Kd.S_alloc | apply Kd.S_drewN | apply Kd.S_drew)); exact HO_7.out) (Kd.S_base ho0) hb); have n1_ := Aside0.mk (Kd.S_lower (Kd.S_new' ho0 (Kd.S_lt (by (with_reducible repeat (first | apply Kd.S_alloc | apply Kd.S_drewN | apply Kd.S_drew)); exact HO_7.out))) (below_size (by repeat (first | (with_reducible first | exact HB.out | apply below_alloc | apply pw_below_drewN | apply below_drew1) | exact HB.out)))); have n2_ := Aside0.mk (below_step (by repeat (first | (with_reducible first | exact HB.out | apply below_alloc | apply pw_below_drewN | apply below_drew1) | exact HB.out)) hb); clear HO_7; clear HB; have HO_7 := n0_; have HO375 := n1_; have HB := n2_; clear n0_ n1_ n2_; (try clear hb); (try clear hb2); (try clear hk); (try clear hi); (try clear ho0))); go_upto_region 11 with (first | (go_at_call 27; (with_reducible refine (tickingref11_Linear.calls kj33 a0 a1 a2 t373 _ A46.out).mono ?_); rintro e w48 ⟨v374, rfl, ho0, hb⟩; have n0_ := Aside0.mk (Kd.S_elder' (by (with_reducible repeat (first | apply Kd.S_alloc | apply Kd.S_drewN | apply Kd.S_drew)); exact HO_7.out) (Kd.S_base ho0) hb); have n1_ := Aside0.mk (Kd.S_lower (Kd.S_new' ho0 (Kd.S_lt (by (with_reducible repeat (first | apply Kd.S_alloc | apply Kd.S_drewN | apply Kd.S_drew)); exact HO_7.out))) (below_size (by repeat (first | (with_reducible first | exact HB.out | apply below_alloc | apply pw_below_drewN | apply below_drew1) | exact HB.out)))); have n2_ := Aside0.mk (below_step (by repeat (first | (with_reducible first | exact HB.out | apply below_alloc | apply pw_below_drewN | apply below_drew1) | exact HB.out)) hb); clear HO_7; clear HB; have HO_7 := n0_; have HO375 := n1_; have HB := n2_; clear n0_ n1_ n2_; (try clear hb); (try clear hb2); (try clear hk); (try clear hi); (try clear ho0))))
                    (try simp only [Act.put, List.setIfInBounds_toArray, List.set_cons_zero, List.set_cons_succ])
                    go_cut [126] (fun v126 wc => ∃ (kq : Nat) (x126_46 : Bool), v126 = .bool x126_46 ∧ Aside0 (tickinglaw11_SerialLinear.j3 kq a0 t359 t373 x126_46 = some r) ∧ Aside0 (kq ≤ kj33) ∧ Aside0 (Kd.S (Kd.slice 3 (Kd.int .i64)) 23 wc w.heap.size (fun k_ => some k_ ≠ (v374 : Value).ownBlock) v361 t359) ∧ Aside0 (Kd.S (Kd.slice 3 (Kd.int .i64)) 23 wc w.heap.size (fun k_ => some k_ ≠ (v361 : Value).ownBlock) v374 t373) ∧ Aside0 (Below w.heap.size w wc))
                    case first =>
                      have H := HC47.out
                      clear HC47
                      by_cases c49 : (t359.length : Int) = a0
                      · rw [if_pos c49] at H
                        have c49b0 : ((t359.length : Int) == a0) = true := beq_iff_eq.mpr c49
                        have c49b1 : ((t359.length : Int) != a0) = false := bne_eq_false_iff_eq.mpr c49
                        clear c49
                        (first | rw [c49b0] | (simp only [i64_w, i32_w]; rw [c49b0]) | skip)
                        have H' := Aside0.mk H
                        clear H
                        obtain ⟨Ao50, co50, eo50⟩ := Kd.S_slice HO_7.out
                        subst eo50
                        go_wp2
                        repeat (go_quiet (fail); try go_wp2)
                        go_meet
                        case rel => exact ⟨_, ((t360 != 0)), (by first | rfl | (simp; done) | (simp [*]; done)), H', ⟨by have := HJ5.out; have := HJ24.out; have := HJ33.out; first | omega | exact Nat.le_refl _⟩, ⟨by (with_reducible repeat (first | apply Kd.S_alloc | apply Kd.S_drewN | apply Kd.S_drew)); exact Kd.S_mono HO_7.out (fun _ hk => hk.2)⟩, ⟨by (with_reducible repeat (first | apply Kd.S_alloc | apply Kd.S_drewN | apply Kd.S_drew)); exact Kd.S_mono HO375.out (fun _ hk => hk.2)⟩, ⟨by repeat (first | (with_reducible first | exact HB.out | apply below_alloc | apply pw_below_drewN | apply below_drew1) | exact HB.out)⟩⟩
                      · rw [if_neg c49] at H
                        have c49b0 : ((t359.length : Int) == a0) = false := beq_eq_false_iff_ne.mpr c49
                        have c49b1 : ((t359.length : Int) != a0) = true := bne_iff_ne.mpr c49
                        (first | rw [c49b0] | (simp only [i64_w, i32_w]; rw [c49b0]) | skip)
                        have H' := Aside0.mk H
                        clear H
                        obtain ⟨Ao51, co51, eo51⟩ := Kd.S_slice HO_7.out
                        subst eo51
                        go_wp2
                        repeat (go_quiet (fail); try go_wp2)
                        go_meet
                        case rel => exact ⟨_, (true), (by first | rfl | (simp; done) | (simp [*]; done)), H', ⟨by have := HJ5.out; have := HJ24.out; have := HJ33.out; first | omega | exact Nat.le_refl _⟩, ⟨by (with_reducible repeat (first | apply Kd.S_alloc | apply Kd.S_drewN | apply Kd.S_drew)); exact Kd.S_mono HO_7.out (fun _ hk => hk.2)⟩, ⟨by (with_reducible repeat (first | apply Kd.S_alloc | apply Kd.S_drewN | apply Kd.S_drew)); exact Kd.S_mono HO375.out (fun _ hk => hk.2)⟩, ⟨by repeat (first | (with_reducible first | exact HB.out | apply below_alloc | apply pw_below_drewN | apply below_drew1) | exact HB.out)⟩⟩
                    case rest =>
                      clear HC47
                      try clear c1
                      try clear c2
                      try clear p2
                      try clear c3
                      try clear c4
                      try clear c9
                      try clear c9b0
                      try clear c10
                      try clear c11
                      try clear c11b0
                      try clear c11b1
                      try clear c11b2
                      try clear c12
                      try clear c12b0
                      try clear c12b1
                      try clear c13
                      try clear c13b0
                      try clear c13b1
                      try clear c14
                      try clear c14b0
                      try clear c14b1
                      try clear c15
                      try clear c15b0
                      try clear c15b1
                      try clear c27
                      try clear c28
                      try clear c28b0
                      try clear c28b1
                      try clear c29
                      try clear c29b0
                      try clear c29b1
                      try clear c30
                      try clear c30b0
                      try clear c30b1
                      try clear c31
                      try clear c31b0
                      try clear c31b1
                      try clear c32
                      try clear c32b0
                      try clear c32b1
                      try clear c33
                      try clear c36
                      try clear c38
                      try clear c39
                      try clear c39b0
                      try clear c39b1
                      try clear c39b2
                      try clear c40
                      try clear c40b0
                      try clear c40b1
                      try clear c49
                      try clear c49b0
                      try clear c49b1
                      try clear p2
                      obtain ⟨kq, x126_46, rfl, HA, HJ46, HO_7, HO_15, HB⟩ := hcut
                      cases kq with
                      | zero => exact absurd HA.out (by simp [tickinglaw11_SerialLinear.j3])
                      | succ kj46 =>
                        have H := HA.out
                        clear HA
                        simp only [tickinglaw11_SerialLinear.j3] at H
                        by_cases c52 : x126_46 = true
                        · subst c52
                          have H1 : (some false) = some r := by rw [if_pos rfl] at H; exact H
                          clear H
                          have H := H1
                          clear H1
                          obtain rfl := Option.some.inj H
                          go_wp2
                          repeat (go_quiet (fail); try go_wp2)
                          go_ret
                          exact ⟨by first | rfl | (simp [errW_none, errW_some] <;> rfl) | (simp [*, errW_none, errW_some] <;> rfl), by repeat (first | (with_reducible first | exact HB.out | apply below_alloc | apply pw_below_drewN | apply below_drew1) | exact HB.out)⟩
                        · replace c52 := Bool.eq_false_iff.mpr c52
                          subst c52
                          have H1 : (tickinglaw11_SerialLinear.l0 kj46 a0 t359 t373 0) = some r := by rw [if_neg (show ¬ (false = true) by decide)] at H; exact H
                          clear H
                          have H := H1
                          clear H1
                          have H' := Aside0.mk H
                          clear H
                          go_wp2
                          repeat (go_quiet (fail); try go_wp2)
                          go_loopg [16] kj46 (fun kq v16 w' => ∃ (x16_5 : Int), v16 = .int .i64 x16_5 ∧ Aside0 (tickinglaw11_SerialLinear.l0 kq a0 t359 t373 x16_5 = some r) ∧ Aside0 (kq ≤ kj46) ∧ Aside0 (Kd.S (Kd.slice 3 (Kd.int .i64)) 23 w' w.heap.size (fun k_ => some k_ ≠ (v374 : Value).ownBlock) v361 t359) ∧ Aside0 (Kd.S (Kd.slice 3 (Kd.int .i64)) 23 w' w.heap.size (fun k_ => some k_ ≠ (v361 : Value).ownBlock) v374 t373) ∧ Aside0 (Below w.heap.size w w'))
                          case atStart => exact ⟨(0), (by first | rfl | (simp; done) | (simp [*]; done)), H', ⟨Nat.le_refl _⟩, ⟨by (with_reducible repeat (first | apply Kd.S_alloc | apply Kd.S_drewN | apply Kd.S_drew)); exact HO_7.out⟩, ⟨by (with_reducible repeat (first | apply Kd.S_alloc | apply Kd.S_drewN | apply Kd.S_drew)); exact HO_15.out⟩, ⟨by repeat (first | (with_reducible first | exact HB.out | apply below_alloc | apply pw_below_drewN | apply below_drew1) | exact HB.out)⟩⟩
                          case round =>
                            clear H'
                            try clear c1
                            try clear c2
                            try clear p2
                            try clear c3
                            try clear c4
                            try clear c5
                            try clear c9
                            try clear c9b0
                            try clear c10
                            try clear c11
                            try clear c11b0
                            try clear c11b1
                            try clear c11b2
                            try clear c12
                            try clear c12b0
                            try clear c12b1
                            try clear c13
                            try clear c13b0
                            try clear c13b1
                            try clear c14
                            try clear c14b0
                            try clear c14b1
                            try clear c15
                            try clear c15b0
                            try clear c15b1
                            try clear c27
                            try clear c28
                            try clear c28b0
                            try clear c28b1
                            try clear c29
                            try clear c29b0
                            try clear c29b1
                            try clear c30
                            try clear c30b0
                            try clear c30b1
                            try clear c31
                            try clear c31b0
                            try clear c31b1
                            try clear c32
                            try clear c32b0
                            try clear c32b1
                            try clear c33
                            try clear c36
                            try clear c38
                            try clear c39
                            try clear c39b0
                            try clear c39b1
                            try clear c39b2
                            try clear c40
                            try clear c40b0
                            try clear c40b1
                            try clear c49
                            try clear c49b0
                            try clear c49b1
                            try clear c52
                            try clear p2
                            obtain ⟨x16_5, rfl, HA, HK5, HO_7, HO_15, HB⟩ := hrel
                            cases gk with
                            | zero => exact absurd HA.out (by simp [tickinglaw11_SerialLinear.l0])
                            | succ k5 =>
                              have H := HA.out
                              clear HA
                              simp only [tickinglaw11_SerialLinear.l0] at H
                              by_cases c53 : x16_5 < a0
                              · rw [if_pos c53] at H
                                have c53b0 : decide (x16_5 < a0) = true := decide_eq_true c53
                                clear c53
                                by_cases c54 : 0 ≤ x16_5
                                · rw [if_pos c54] at H
                                  have c54b0 : decide (0 ≤ x16_5) = true := decide_eq_true c54
                                  clear c54
                                  by_cases c55 : x16_5 < (t359.length : Int)
                                  · rw [if_pos c55] at H
                                    have c55b0 : decide (x16_5 < (t359.length : Int)) = true := decide_eq_true c55
                                    clear c55
                                    by_cases c56 : x16_5 < (t373.length : Int)
                                    · rw [if_pos c56] at H
                                      have c56b0 : decide (x16_5 < (t373.length : Int)) = true := decide_eq_true c56
                                      clear c56
                                      replace H := Option.bind_eq_some_iff.mp H
                                      obtain ⟨t378, A570, H⟩ := H
                                      replace H : (if t378 = true then (tickinglaw11_SerialLinear.l0 k5 a0 t359 t373 (wrap64 (x16_5 + 1))) else (some false)) = some r := H
                                      have A57 := Aside0.mk A570
                                      clear A570
                                      by_cases c58 : t378 = true
                                      · subst c58
                                        have H1 : (tickinglaw11_SerialLinear.l0 k5 a0 t359 t373 (wrap64 (x16_5 + 1))) = some r := by rw [if_pos rfl] at H; exact H
                                        clear H
                                        have H := H1
                                        clear H1
                                        have H' := Aside0.mk H
                                        clear H
                                        obtain ⟨Ao59, co59, eo59⟩ := Kd.S_slice HO_7.out
                                        subst eo59
                                        have p376 : 0 ≤ (x16_5 : Int) := of_decide_eq_true (by first | (with_reducible assumption) | assumption)
                                        have q376 : x16_5 < (t359.length : Int) := of_decide_eq_true (by first | (with_reducible assumption) | assumption)
                                        obtain ⟨ad376, A376_0, c376_0, e376, hx376_0, hl376_0, hi376_0⟩ := at_L1 (Kd.S_reads' HO_7.out).2.2 x16_5 p376 q376
                                        cases e376
                                        obtain ⟨ce376, hce376, hMe376, hcc376⟩ := Kd.S_get HO_7.out [] x16_5 p376 (by first | exact q376 | exact of_decide_eq_true (by first | (with_reducible assumption) | assumption) | (have e_ := (Kd.S_reads' HO_7.out).1; omega))
                                        obtain ⟨ve376_0, rfl, ge376_0⟩ := hMe376
                                        have hv376_0 := hcc376 0 _ rfl
                                        rw [Nat.add_zero, show ((Kd.slice 3 (Kd.int .i64))).sz = 1 from rfl, Nat.mul_one] at hv376_0
                                        replace hv376_0 := Option.some.inj (hv376_0.symm.trans hx376_0)
                                        rw [hv376_0] at ge376_0
                                        have HL376_0 := Aside0.mk (show Kd.R (Kd.int .i64) 3 _ _ _ _ (rd_L1 t359 x16_5) from ge376_0)
                                        clear hv376_0 ge376_0
                                        clear hcc376 hce376
                                        have HR376_0 := Aside0.mk hi376_0
                                        have HC376_0 := Aside0.mk hl376_0
                                        clear hi376_0 hl376_0
                                        replace p376 := eq_true p376
                                        replace q376 := eq_true q376
                                        obtain ⟨Ao60, co60, eo60⟩ := Kd.S_slice HO_15.out
                                        subst eo60
                                        have p377 : 0 ≤ (x16_5 : Int) := of_decide_eq_true (by first | (with_reducible assumption) | assumption)
                                        have q377 : x16_5 < (t373.length : Int) := of_decide_eq_true (by first | (with_reducible assumption) | assumption)
                                        obtain ⟨ad377, A377_0, c377_0, e377, hx377_0, hl377_0, hi377_0⟩ := at_L1 (Kd.S_reads' HO_15.out).2.2 x16_5 p377 q377
                                        cases e377
                                        obtain ⟨ce377, hce377, hMe377, hcc377⟩ := Kd.S_get HO_15.out [] x16_5 p377 (by first | exact q377 | exact of_decide_eq_true (by first | (with_reducible assumption) | assumption) | (have e_ := (Kd.S_reads' HO_15.out).1; omega))
                                        obtain ⟨ve377_0, rfl, ge377_0⟩ := hMe377
                                        have hv377_0 := hcc377 0 _ rfl
                                        rw [Nat.add_zero, show ((Kd.slice 3 (Kd.int .i64))).sz = 1 from rfl, Nat.mul_one] at hv377_0
                                        replace hv377_0 := Option.some.inj (hv377_0.symm.trans hx377_0)
                                        rw [hv377_0] at ge377_0
                                        have HL377_0 := Aside0.mk (show Kd.R (Kd.int .i64) 3 _ _ _ _ (rd_L1 t373 x16_5) from ge377_0)
                                        clear hv377_0 ge377_0
                                        clear hcc377 hce377
                                        have HR377_0 := Aside0.mk hi377_0
                                        have HC377_0 := Aside0.mk hl377_0
                                        clear hi377_0 hl377_0
                                        replace p377 := eq_true p377
                                        replace q377 := eq_true q377
                                        go_wp2_with (first | (go_at_call 28; (with_reducible refine (tickinglaw11_ints.calls k5 _ _ (rd_L1 t359 x16_5) _ _ (rd_L1 t373 x16_5) true _ ?side1 ?side2 ?side3 ?side4 A57.out).mono ?_); (case side1 => repeat (first | exact (by repeat (first | (with_reducible exact HR376_0.out) | (with_reducible refine Kd.C_alloc ?_ _) | (with_reducible refine Kd.C_drewN ?_ _) | (with_reducible refine Kd.C_drew ?_) | exact HR376_0.out)) | (with_reducible refine Kd.C_alloc ?_ _) | (with_reducible refine Kd.C_drewN ?_ _) | (with_reducible refine Kd.C_drew ?_))); (case side2 => exact HC376_0.out); (case side3 => repeat (first | exact (by repeat (first | (with_reducible exact HR377_0.out) | (with_reducible refine Kd.C_alloc ?_ _) | (with_reducible refine Kd.C_drewN ?_ _) | (with_reducible refine Kd.C_drew ?_) | exact HR377_0.out)) | (with_reducible refine Kd.C_alloc ?_ _) | (with_reducible refine Kd.C_drewN ?_ _) | (with_reducible refine Kd.C_drew ?_))); (case side4 => exact HC377_0.out); rintro e w' ⟨rfl, ⟨nd, rfl⟩⟩; (try first | exact ⟨rfl, _, World.drewN_drewN _ _ _⟩ | exact ⟨rfl, _, Eq.trans (World.drewN_drewN _ _ _) (congrArg (World.drewN _) (Nat.add_assoc _ _ _))⟩)))
                                        repeat (go_quiet (first | (go_at_call 28; (with_reducible refine (tickinglaw11_ints.calls k5 _ _ (rd_L1 t359 x16_5) _ _ (rd_L1 t373 x16_5) true _ ?side1 ?side2 ?side3 ?side4 A57.out).mono ?_); (case side1 => repeat (first | exact (by repeat (first | (with_reducible exact HR376_0.out) | (with_reducible refine Kd.C_alloc ?_ _) | (with_reducible refine Kd.C_drewN ?_ _) | (with_reducible refine Kd.C_drew ?_) | exact HR376_0.out)) | (with_reducible refine Kd.C_alloc ?_ _) | (with_reducible refine Kd.C_drewN ?_ _) | (with_reducible refine Kd.C_drew ?_))); (case side2 => exact HC376_0.out); (case side3 => repeat (first | exact (by repeat (first | (with_reducible exact HR377_0.out) | (with_reducible refine Kd.C_alloc ?_ _) | (with_reducible refine Kd.C_drewN ?_ _) | (with_reducible refine Kd.C_drew ?_) | exact HR377_0.out)) | (with_reducible refine Kd.C_alloc ?_ _) | (with_reducible refine Kd.C_drewN ?_ _) | (with_reducible refine Kd.C_drew ?_))); (case side4 => exact HC377_0.out); rintro e w' ⟨rfl, ⟨nd, rfl⟩⟩; (try first | exact ⟨rfl, _, World.drewN_drewN _ _ _⟩ | exact ⟨rfl, _, Eq.trans (World.drewN_drewN _ _ _) (congrArg (World.drewN _) (Nat.add_assoc _ _ _))⟩))); try go_wp2_with (first | (go_at_call 28; (with_reducible refine (tickinglaw11_ints.calls k5 _ _ (rd_L1 t359 x16_5) _ _ (rd_L1 t373 x16_5) true _ ?side1 ?side2 ?side3 ?side4 A57.out).mono ?_); (case side1 => repeat (first | exact (by repeat (first | (with_reducible exact HR376_0.out) | (with_reducible refine Kd.C_alloc ?_ _) | (with_reducible refine Kd.C_drewN ?_ _) | (with_reducible refine Kd.C_drew ?_) | exact HR376_0.out)) | (with_reducible refine Kd.C_alloc ?_ _) | (with_reducible refine Kd.C_drewN ?_ _) | (with_reducible refine Kd.C_drew ?_))); (case side2 => exact HC376_0.out); (case side3 => repeat (first | exact (by repeat (first | (with_reducible exact HR377_0.out) | (with_reducible refine Kd.C_alloc ?_ _) | (with_reducible refine Kd.C_drewN ?_ _) | (with_reducible refine Kd.C_drew ?_) | exact HR377_0.out)) | (with_reducible refine Kd.C_alloc ?_ _) | (with_reducible refine Kd.C_drewN ?_ _) | (with_reducible refine Kd.C_drew ?_))); (case side4 => exact HC377_0.out); rintro e w' ⟨rfl, ⟨nd, rfl⟩⟩; (try first | exact ⟨rfl, _, World.drewN_drewN _ _ _⟩ | exact ⟨rfl, _, Eq.trans (World.drewN_drewN _ _ _) (congrArg (World.drewN _) (Nat.add_assoc _ _ _))⟩))))
                                        go_roundg k5
                                        case measure => have := HJ5.out; have := HJ24.out; have := HJ33.out; have := HJ46.out; have := HK5.out; omega
                                        case rel => exact ⟨(wrap64 (x16_5 + 1)), (by first | rfl | (simp; done) | (simp [*]; done)), H', ⟨by have := HJ5.out; have := HJ24.out; have := HJ33.out; have := HJ46.out; have := HK5.out; omega⟩, ⟨by (with_reducible repeat (first | apply Kd.S_alloc | apply Kd.S_drewN | apply Kd.S_drew)); exact HO_7.out⟩, ⟨by (with_reducible repeat (first | apply Kd.S_alloc | apply Kd.S_drewN | apply Kd.S_drew)); exact HO_15.out⟩, ⟨by repeat (first | (with_reducible first | exact HB.out | apply below_alloc | apply pw_below_drewN | apply below_drew1) | exact HB.out)⟩⟩
                                      · replace c58 := Bool.eq_false_iff.mpr c58
                                        subst c58
                                        have H1 : (some false) = some r := by rw [if_neg (show ¬ (false = true) by decide)] at H; exact H
                                        clear H
                                        have H := H1
                                        clear H1
                                        obtain rfl := Option.some.inj H
                                        obtain ⟨Ao61, co61, eo61⟩ := Kd.S_slice HO_7.out
                                        subst eo61
                                        have p376 : 0 ≤ (x16_5 : Int) := of_decide_eq_true (by first | (with_reducible assumption) | assumption)
                                        have q376 : x16_5 < (t359.length : Int) := of_decide_eq_true (by first | (with_reducible assumption) | assumption)
                                        obtain ⟨ad376, A376_0, c376_0, e376, hx376_0, hl376_0, hi376_0⟩ := at_L1 (Kd.S_reads' HO_7.out).2.2 x16_5 p376 q376
                                        cases e376
                                        obtain ⟨ce376, hce376, hMe376, hcc376⟩ := Kd.S_get HO_7.out [] x16_5 p376 (by first | exact q376 | exact of_decide_eq_true (by first | (with_reducible assumption) | assumption) | (have e_ := (Kd.S_reads' HO_7.out).1; omega))
                                        obtain ⟨ve376_0, rfl, ge376_0⟩ := hMe376
                                        have hv376_0 := hcc376 0 _ rfl
                                        rw [Nat.add_zero, show ((Kd.slice 3 (Kd.int .i64))).sz = 1 from rfl, Nat.mul_one] at hv376_0
                                        replace hv376_0 := Option.some.inj (hv376_0.symm.trans hx376_0)
                                        rw [hv376_0] at ge376_0
                                        have HL376_0 := Aside0.mk (show Kd.R (Kd.int .i64) 3 _ _ _ _ (rd_L1 t359 x16_5) from ge376_0)
                                        clear hv376_0 ge376_0
                                        clear hcc376 hce376
                                        have HR376_0 := Aside0.mk hi376_0
                                        have HC376_0 := Aside0.mk hl376_0
                                        clear hi376_0 hl376_0
                                        replace p376 := eq_true p376
                                        replace q376 := eq_true q376
                                        obtain ⟨Ao62, co62, eo62⟩ := Kd.S_slice HO_15.out
                                        subst eo62
                                        have p377 : 0 ≤ (x16_5 : Int) := of_decide_eq_true (by first | (with_reducible assumption) | assumption)
                                        have q377 : x16_5 < (t373.length : Int) := of_decide_eq_true (by first | (with_reducible assumption) | assumption)
                                        obtain ⟨ad377, A377_0, c377_0, e377, hx377_0, hl377_0, hi377_0⟩ := at_L1 (Kd.S_reads' HO_15.out).2.2 x16_5 p377 q377
                                        cases e377
                                        obtain ⟨ce377, hce377, hMe377, hcc377⟩ := Kd.S_get HO_15.out [] x16_5 p377 (by first | exact q377 | exact of_decide_eq_true (by first | (with_reducible assumption) | assumption) | (have e_ := (Kd.S_reads' HO_15.out).1; omega))
                                        obtain ⟨ve377_0, rfl, ge377_0⟩ := hMe377
                                        have hv377_0 := hcc377 0 _ rfl
                                        rw [Nat.add_zero, show ((Kd.slice 3 (Kd.int .i64))).sz = 1 from rfl, Nat.mul_one] at hv377_0
                                        replace hv377_0 := Option.some.inj (hv377_0.symm.trans hx377_0)
                                        rw [hv377_0] at ge377_0
                                        have HL377_0 := Aside0.mk (show Kd.R (Kd.int .i64) 3 _ _ _ _ (rd_L1 t373 x16_5) from ge377_0)
                                        clear hv377_0 ge377_0
                                        clear hcc377 hce377
                                        have HR377_0 := Aside0.mk hi377_0
                                        have HC377_0 := Aside0.mk hl377_0
                                        clear hi377_0 hl377_0
                                        replace p377 := eq_true p377
                                        replace q377 := eq_true q377
                                        go_wp2_with (first | (go_at_call 28; (with_reducible refine (tickinglaw11_ints.calls k5 _ _ (rd_L1 t359 x16_5) _ _ (rd_L1 t373 x16_5) false _ ?side1 ?side2 ?side3 ?side4 A57.out).mono ?_); (case side1 => repeat (first | exact (by repeat (first | (with_reducible exact HR376_0.out) | (with_reducible refine Kd.C_alloc ?_ _) | (with_reducible refine Kd.C_drewN ?_ _) | (with_reducible refine Kd.C_drew ?_) | exact HR376_0.out)) | (with_reducible refine Kd.C_alloc ?_ _) | (with_reducible refine Kd.C_drewN ?_ _) | (with_reducible refine Kd.C_drew ?_))); (case side2 => exact HC376_0.out); (case side3 => repeat (first | exact (by repeat (first | (with_reducible exact HR377_0.out) | (with_reducible refine Kd.C_alloc ?_ _) | (with_reducible refine Kd.C_drewN ?_ _) | (with_reducible refine Kd.C_drew ?_) | exact HR377_0.out)) | (with_reducible refine Kd.C_alloc ?_ _) | (with_reducible refine Kd.C_drewN ?_ _) | (with_reducible refine Kd.C_drew ?_))); (case side4 => exact HC377_0.out); rintro e w' ⟨rfl, ⟨nd, rfl⟩⟩; (try first | exact ⟨rfl, _, World.drewN_drewN _ _ _⟩ | exact ⟨rfl, _, Eq.trans (World.drewN_drewN _ _ _) (congrArg (World.drewN _) (Nat.add_assoc _ _ _))⟩)))
                                        repeat (go_quiet (first | (go_at_call 28; (with_reducible refine (tickinglaw11_ints.calls k5 _ _ (rd_L1 t359 x16_5) _ _ (rd_L1 t373 x16_5) false _ ?side1 ?side2 ?side3 ?side4 A57.out).mono ?_); (case side1 => repeat (first | exact (by repeat (first | (with_reducible exact HR376_0.out) | (with_reducible refine Kd.C_alloc ?_ _) | (with_reducible refine Kd.C_drewN ?_ _) | (with_reducible refine Kd.C_drew ?_) | exact HR376_0.out)) | (with_reducible refine Kd.C_alloc ?_ _) | (with_reducible refine Kd.C_drewN ?_ _) | (with_reducible refine Kd.C_drew ?_))); (case side2 => exact HC376_0.out); (case side3 => repeat (first | exact (by repeat (first | (with_reducible exact HR377_0.out) | (with_reducible refine Kd.C_alloc ?_ _) | (with_reducible refine Kd.C_drewN ?_ _) | (with_reducible refine Kd.C_drew ?_) | exact HR377_0.out)) | (with_reducible refine Kd.C_alloc ?_ _) | (with_reducible refine Kd.C_drewN ?_ _) | (with_reducible refine Kd.C_drew ?_))); (case side4 => exact HC377_0.out); rintro e w' ⟨rfl, ⟨nd, rfl⟩⟩; (try first | exact ⟨rfl, _, World.drewN_drewN _ _ _⟩ | exact ⟨rfl, _, Eq.trans (World.drewN_drewN _ _ _) (congrArg (World.drewN _) (Nat.add_assoc _ _ _))⟩))); try go_wp2_with (first | (go_at_call 28; (with_reducible refine (tickinglaw11_ints.calls k5 _ _ (rd_L1 t359 x16_5) _ _ (rd_L1 t373 x16_5) false _ ?side1 ?side2 ?side3 ?side4 A57.out).mono ?_); (case side1 => repeat (first | exact (by repeat (first | (with_reducible exact HR376_0.out) | (with_reducible refine Kd.C_alloc ?_ _) | (with_reducible refine Kd.C_drewN ?_ _) | (with_reducible refine Kd.C_drew ?_) | exact HR376_0.out)) | (with_reducible refine Kd.C_alloc ?_ _) | (with_reducible refine Kd.C_drewN ?_ _) | (with_reducible refine Kd.C_drew ?_))); (case side2 => exact HC376_0.out); (case side3 => repeat (first | exact (by repeat (first | (with_reducible exact HR377_0.out) | (with_reducible refine Kd.C_alloc ?_ _) | (with_reducible refine Kd.C_drewN ?_ _) | (with_reducible refine Kd.C_drew ?_) | exact HR377_0.out)) | (with_reducible refine Kd.C_alloc ?_ _) | (with_reducible refine Kd.C_drewN ?_ _) | (with_reducible refine Kd.C_drew ?_))); (case side4 => exact HC377_0.out); rintro e w' ⟨rfl, ⟨nd, rfl⟩⟩; (try first | exact ⟨rfl, _, World.drewN_drewN _ _ _⟩ | exact ⟨rfl, _, Eq.trans (World.drewN_drewN _ _ _) (congrArg (World.drewN _) (Nat.add_assoc _ _ _))⟩))))
                                        go_ret
                                        exact ⟨by first | rfl | (simp [errW_none, errW_some] <;> rfl) | (simp [*, errW_none, errW_some] <;> rfl), by repeat (first | (with_reducible first | exact HB.out | apply below_alloc | apply pw_below_drewN | apply below_drew1) | exact HB.out)⟩
                                    · rw [if_neg c56] at H
                                      exact absurd H (by simp)
                                  · rw [if_neg c55] at H
                                    exact absurd H (by simp)
                                · rw [if_neg c54] at H
                                  exact absurd H (by simp)
                              · rw [if_neg c53] at H
                                have c53b0 : decide (x16_5 < a0) = false := decide_eq_false c53
                                clear c53
                                replace H := Option.bind_eq_some_iff.mp H
                                obtain ⟨t379, A630, H⟩ := H
                                replace H : (some t379) = some r := H
                                have A63 := Aside0.mk A630
                                clear A630
                                obtain rfl := Option.some.inj H
                                go_wp2_with (first | (go_at_call 22; (with_reducible refine (tickinglaw11_awake.calls k5  t379 _ A63.out).mono ?_); rintro e w64 ⟨rfl, hb⟩; have n0_ := Aside0.mk (Kd.S_below (by (with_reducible repeat (first | apply Kd.S_alloc | apply Kd.S_drewN | apply Kd.S_drew)); exact HO_7.out) hb); have n1_ := Aside0.mk (Kd.S_below (by (with_reducible repeat (first | apply Kd.S_alloc | apply Kd.S_drewN | apply Kd.S_drew)); exact HO_15.out) hb); have n2_ := Aside0.mk (below_step (by repeat (first | (with_reducible first | exact HB.out | apply below_alloc | apply pw_below_drewN | apply below_drew1) | exact HB.out)) hb); clear HO_7; clear HO_15; clear HB; have HO_7 := n0_; have HO_15 := n1_; have HB := n2_; clear n0_ n1_ n2_; (try clear hb); (try clear hb2); (try clear hk); (try clear hi)))
                                repeat (go_quiet (first | (go_at_call 22; (with_reducible refine (tickinglaw11_awake.calls k5  t379 _ A63.out).mono ?_); rintro e w64 ⟨rfl, hb⟩; have n0_ := Aside0.mk (Kd.S_below (by (with_reducible repeat (first | apply Kd.S_alloc | apply Kd.S_drewN | apply Kd.S_drew)); exact HO_7.out) hb); have n1_ := Aside0.mk (Kd.S_below (by (with_reducible repeat (first | apply Kd.S_alloc | apply Kd.S_drewN | apply Kd.S_drew)); exact HO_15.out) hb); have n2_ := Aside0.mk (below_step (by repeat (first | (with_reducible first | exact HB.out | apply below_alloc | apply pw_below_drewN | apply below_drew1) | exact HB.out)) hb); clear HO_7; clear HO_15; clear HB; have HO_7 := n0_; have HO_15 := n1_; have HB := n2_; clear n0_ n1_ n2_; (try clear hb); (try clear hb2); (try clear hk); (try clear hi))); try go_wp2_with (first | (go_at_call 22; (with_reducible refine (tickinglaw11_awake.calls k5  t379 _ A63.out).mono ?_); rintro e w64 ⟨rfl, hb⟩; have n0_ := Aside0.mk (Kd.S_below (by (with_reducible repeat (first | apply Kd.S_alloc | apply Kd.S_drewN | apply Kd.S_drew)); exact HO_7.out) hb); have n1_ := Aside0.mk (Kd.S_below (by (with_reducible repeat (first | apply Kd.S_alloc | apply Kd.S_drewN | apply Kd.S_drew)); exact HO_15.out) hb); have n2_ := Aside0.mk (below_step (by repeat (first | (with_reducible first | exact HB.out | apply below_alloc | apply pw_below_drewN | apply below_drew1) | exact HB.out)) hb); clear HO_7; clear HO_15; clear HB; have HO_7 := n0_; have HO_15 := n1_; have HB := n2_; clear n0_ n1_ n2_; (try clear hb); (try clear hb2); (try clear hk); (try clear hi))))
                                go_ret
                                exact ⟨by first | rfl | (simp [errW_none, errW_some] <;> rfl) | (simp [*, errW_none, errW_some] <;> rfl), by repeat (first | (with_reducible first | exact HB.out | apply below_alloc | apply pw_below_drewN | apply below_drew1) | exact HB.out)⟩

/-- THE ONE PURE STATEMENT of tickinglaw11_SerialLinear: yours. -/
def tickinglaw11_SerialLinear.Pure : Prop := ∀ (a0 : Int) (a1 : Int) (a2 : Int), (Lit.int .i64 a0).wf = true → (Lit.int .i64 a1).wf = true → (Lit.int .i64 a2).wf = true → ∃ k, tickinglaw11_SerialLinear.f k a0 a1 a2 = some true
theorem tickinglaw11_SerialLinear.walk (P : tickinglaw11_SerialLinear.Pure) (a0 : Int) (a1 : Int) (a2 : Int) (w : World) (w0 : (Lit.int .i64 a0).wf = true) (w1 : (Lit.int .i64 a1).wf = true) (w2 : (Lit.int .i64 a2).wf = true) :
    Calls Try.prog 4 #[.int .i64 a0, .int .i64 a1, .int .i64 a2] w fun e w' => e = .returned (.bool true) ∧ Below w.heap.size w w' := by
  obtain ⟨k, h⟩ := P a0 a1 a2 w0 w1 w2
  refine (tickinglaw11_SerialLinear.calls k a0 a1 a2 true w h).mono ?_
  rintro e w' ⟨rfl, hd⟩
  exact ⟨rfl, hd⟩

end Go.Proofs.Ytdkncfmlehcjmaa.X
