/- Texts behind TestsOwn, part 28: contracts of the program's functions and the plain words for them. -/
import Derived.Test.YtekmiepdodaidaaDoorTpas
section
namespace Go.Proofs.YtekmiepdodaidaaDoor.X
open Go.RowKit Go.Proofs.YtekmiepdodaidaaDoorW.PrintWords Go.Proofs.YtekmiepdodaidaaDoorW.PrintLast Go.Proofs.YtekmiepdodaidaaDoorW.PrintMore
attribute [local go_sem] max2_int min2_int max_two min_two max_three min_three max_four min_four   -- for this text's walks alone
set_option linter.unusedVariables false
set_option linter.unusedSimpArgs false

mutual
def tickingref07_Plan.j0 : Nat → List (S57) → Int → Bool → List Int → List (List Int) → List Int → Option (Bool)
 | 0, _, _, _, _, _, _ => none
 | k + 1, x1, x5, x17, x256000, x256001, x256002 => if x17 = true then (some false) else (if 0 ≤ x5 then (if (x5 : Int).toNat ≤ 35184372088832 then (tickingref07_Plan.l0 k x1 x5 (List.replicate (x5 : Int).toNat 0) 0 x256000 x256001 x256002) else (none)) else (none))
def tickingref07_Plan.l0 : Nat → List (S57) → Int → List Int → Int → List Int → List (List Int) → List Int → Option (Bool)
 | 0, _, _, _, _, _, _, _ => none
 | k + 1, x1, x5, x6, x7, x256000, x256001, x256002 => if x7 < x5 then (if 0 ≤ x7 then (if x7 < (x1.length : Int) then (if ((rd_T57 x1 x7).f0) = (-1) then (if ((rd_T57 x1 x7).f1) < 0 then (tickingref07_Plan.j2 k x1 x5 x6 x7 true x256000 x256001 x256002) else (if ((rd_T57 x1 x7).f1) ≥ (x256000.length : Int) then (tickingref07_Plan.j2 k x1 x5 x6 x7 true x256000 x256001 x256002) else (if ((rd_T57 x1 x7).f2) = 0 then (tickingref07_Plan.j2 k x1 x5 x6 x7 (((rd_T57 x1 x7).f3) != 0) x256000 x256001 x256002) else (tickingref07_Plan.j2 k x1 x5 x6 x7 true x256000 x256001 x256002)))) else (if ((rd_T57 x1 x7).f0) < 0 then (some false) else (if ((rd_T57 x1 x7).f0) ≥ (x256001.length : Int) then (some false) else (if ((rd_T57 x1 x7).f1) = 0 then (if ((rd_T57 x1 x7).f2) ≤ x7 then (some false) else (if ((rd_T57 x1 x7).f2) ≥ x5 then (some false) else (if ((rd_T57 x1 x7).f3) ≤ x7 then (some false) else (if ((rd_T57 x1 x7).f3) ≥ x5 then (some false) else (if 0 ≤ ((rd_T57 x1 x7).f2) then (if ((rd_T57 x1 x7).f2) < (x6.length : Int) then ((some (x6.set (((rd_T57 x1 x7).f2) : Int).toNat (wrap64 ((rd x6 ((rd_T57 x1 x7).f2)) + 1)) : List Int)).bind fun y262 => (if 0 ≤ ((rd_T57 x1 x7).f3) then (if ((rd_T57 x1 x7).f3) < (x6.length : Int) then (tickingref07_Plan.l0 k x1 x5 (y262.set (((rd_T57 x1 x7).f3) : Int).toNat (wrap64 ((rd y262 ((rd_T57 x1 x7).f3)) + 1))) (wrap64 (x7 + 1)) x256000 x256001 x256002) else (none)) else (none))) else (none)) else (none)))))) else (some false))))) else (none)) else (none)) else (tickingref07_Plan.l1 k x5 x6 1)
def tickingref07_Plan.j2 : Nat → List (S57) → Int → List Int → Int → Bool → List Int → List (List Int) → List Int → Option (Bool)
 | 0, _, _, _, _, _, _, _, _ => none
 | k + 1, x1, x5, x6, x7, x52, x256000, x256001, x256002 => if x52 = true then (some false) else (tickingref07_Plan.l0 k x1 x5 x6 (wrap64 (x7 + 1)) x256000 x256001 x256002)
def tickingref07_Plan.l1 : Nat → Int → List Int → Int → Option (Bool)
 | 0, _, _, _ => none
 | k + 1, x5, x6, x9 => if x9 < x5 then (if 0 ≤ x9 then (if x9 < (x6.length : Int) then (if (rd x6 x9) = 1 then (tickingref07_Plan.l1 k x5 x6 (wrap64 (x9 + 1))) else (some false)) else (none)) else (none)) else (some true)
end
def tickingref07_Plan.f (k : Nat) (l0_0 : List Int) (l0_1 : List (List Int)) (l0_2 : List Int) (l1 : List (S57)) : Option (Bool) := if (l1.length : Int) < 1 then (tickingref07_Plan.j0 k l1 (l1.length : Int) true l0_0 l0_1 l0_2) else (tickingref07_Plan.j0 k l1 (l1.length : Int) (decide ((l1.length : Int) > 1000)) l0_0 l0_1 l0_2)
def tickingref07_Plan.T14 : Bool × List (List Nat × List Nat) := (true, [([], []), ([], []), ([1], [1]), ([], []), ([], []), ([4], [4]), ([3, 5], [3, 5]), ([6], [6]), ([7], [7]), ([0, 2, 0, 1, 2, 3, 4, 5, 6, 7, 8], [0, 2]), ([9, 8, 0, 1, 2, 3, 4, 5, 6, 7, 8], [8, 9])])
def tickingref07_Plan.B14 : List Nat := [0, 0, 2, 0, 0, 16, 56, 120, 248, 511, 1023]
theorem tickingref07_Plan.tab14 : rtab .any (opsOf Tryd.f44 14) = tickingref07_Plan.T14 := by kernel_rfl
theorem tickingref07_Plan.bits14 : waitsOk tickingref07_Plan.T14.2 tickingref07_Plan.B14 = true := by kernel_rfl
def tickingref07_Plan.T15 : Bool × List (List Nat × List Nat) := (true, [([], []), ([], []), ([1], [1]), ([], []), ([], []), ([4], [4]), ([3, 5], [3, 5]), ([6], [6]), ([7], [7]), ([0, 2, 0, 1, 2, 3, 4, 5, 6, 7, 8], [0, 2]), ([9, 8, 0, 1, 2, 3, 4, 5, 6, 7, 8], [8, 9])])
def tickingref07_Plan.B15 : List Nat := [0, 0, 2, 0, 0, 16, 56, 120, 248, 511, 1023]
theorem tickingref07_Plan.tab15 : rtab .any (opsOf Tryd.f44 15) = tickingref07_Plan.T15 := by kernel_rfl
theorem tickingref07_Plan.bits15 : waitsOk tickingref07_Plan.T15.2 tickingref07_Plan.B15 = true := by kernel_rfl
set_option maxHeartbeats 8000000 in
set_option maxRecDepth 100000 in
theorem tickingref07_Plan.calls (k : Nat) (A0_0 : Option Addr) (c0_0 : Nat) (l0_0 : List Int) (A0_1 : Option Addr) (c0_1 : Nat) (l0_1 : List (List Int)) (A0_2 : Option Addr) (c0_2 : Nat) (l0_2 : List Int) (A1 : Option Addr) (c1 : Nat) (l1 : List (S57)) (r : Bool) (w : World) (hr0_0 : Kd.C (Kd.int .i64) w A0_0 l0_0.length l0_0) (hc0_0 : l0_0.length ≤ c0_0) (hr0_1 : Kd.C (Kd.slice 3 (Kd.int .i64)) w A0_1 l0_1.length l0_1) (hc0_1 : l0_1.length ≤ c0_1) (hr0_2 : Kd.C (Kd.int .i64) w A0_2 l0_2.length l0_2) (hc0_2 : l0_2.length ≤ c0_2) (hr1 : Kd.C k57 w A1 l1.length l1) (hc1 : l1.length ≤ c1) (h : tickingref07_Plan.f k l0_0 l0_1 l0_2 l1 = some r) :
  Calls Tryd.prog 44 #[.agg #[.slice A0_0 l0_0.length c0_0, .slice A0_1 l0_1.length c0_1, .slice A0_2 l0_2.length c0_2], .slice A1 l1.length c1] w fun e w' => e = .returned (.bool r) ∧ Below w.heap.size w w' := by
 have hu25 := Tryd.underlying25
 have hu57 := Tryd.underlying57
 have HR0_0 := Aside0.mk hr0_0
 have HC0_0 := Aside0.mk hc0_0
 clear hr0_0 hc0_0
 have HR0_1 := Aside0.mk hr0_1
 have HC0_1 := Aside0.mk hc0_1
 clear hr0_1 hc0_1
 have HR0_2 := Aside0.mk hr0_2
 have HC0_2 := Aside0.mk hc0_2
 clear hr0_2 hc0_2
 have HR1 := Aside0.mk hr1
 have HC1 := Aside0.mk hc1
 clear hr1 hc1
 have HB := Aside0.mk (Below.refl w.heap.size w)
 have H : (if (l1.length : Int) < 1 then (tickingref07_Plan.j0 k l1 (l1.length : Int) true l0_0 l0_1 l0_2) else (tickingref07_Plan.j0 k l1 (l1.length : Int) (decide ((l1.length : Int) > 1000)) l0_0 l0_1 l0_2)) = some r := h
 clear h
 have HC3 := Aside0.mk H
 clear H
 go_enter Tryd.func44, Tryd.ntmps44
 go_upto_region 2 with (first | ((with_reducible refine gate_dst (N := 2) rfl ?_); (try (refine gate_guard (by rfl) ?_; dsimp only)); refine box_event ?hg (N := 2) ?hd (cs := #[.slice A0_0 l0_0.length c0_0, .slice A0_1 l0_1.length c0_1, .slice A0_2 l0_2.length c0_2]) (t := 25) ?hr ?_; (case hd => rfl); (case hg => rfl); (case hr => first | (go_simp; done) | (go_simp; rfl)); intro gb255 hg w4 hbox hb; have n0_ := Aside0.mk (below_step bz hb); have n1_ := Aside0.mk (hbox); have n2_ := Aside0.mk ((by rw [hg]; exact (below_size bz) : w.heap.size ≤ gb255)); have n3_ := Aside0.mk ((by rw [hg]; exact (below_size bz) : w.heap.size ≤ gb255)); clear HB; have HB := n0_; have BK255 := n1_; have GW255 := n2_; have GE255 := n3_; clear n0_ n1_ n2_ n3_; clear hb hbox hg))
 (try simp only [Act.put, List.setIfInBounds_toArray, List.set_cons_zero, List.set_cons_succ])
 go_cut [17] (fun v17 wc => ∃ (kq : Nat) (x17_2 : Bool), v17 = .bool x17_2 ∧ Aside0 (tickingref07_Plan.j0 kq l1 (l1.length : Int) x17_2 l0_0 l0_1 l0_2 = some r) ∧ Aside0 (kq ≤ k) ∧ Aside0 (wc.heap[gb255]? = some (.cells #[(.slice A0_0 l0_0.length c0_0), (.slice A0_1 l0_1.length c0_1), (.slice A0_2 l0_2.length c0_2)] 25 (0, 0))) ∧ Aside0 (Below w.heap.size w wc))
 case first =>
  have H := HC3.out
  clear HC3
  by_cases c5 : (l1.length : Int) < 1
  ·rw [if_pos c5] at H
   have c5b0 : decide ((l1.length : Int) < 1) = true := decide_eq_true c5
   have c5b1 : decide (l1.length < 1) = true := decide_eq_true (by omega)
   clear c5
   (first | rw [c5b0] | (simp only [i64_w, i32_w]; rw [c5b0]) | skip)
   have H' := Aside0.mk H
   clear H
   go_wp2
   go_meet
   case rel => exact ⟨_, (true), (by first | rfl | (simp; done) | (simp [*]; done)), H', ⟨by first | omega | exact Nat.le_refl _⟩, ⟨by (with_reducible repeat (first | refine blk_drewN ?_ _ | refine blk_drew ?_ | refine blk_alloc ?_ _)); exact BK255.out⟩, ⟨by repeat (first | (with_reducible first | exact HB.out | apply below_alloc | apply pw_below_drewN | apply below_drew1 | refine below_set ?_ GE255.out) | exact HB.out)⟩⟩
  ·rw [if_neg c5] at H
   have c5b0 : decide ((l1.length : Int) < 1) = false := decide_eq_false c5
   have c5b1 : decide (l1.length < 1) = false := decide_eq_false (by omega)
   clear c5
   (first | rw [c5b0] | (simp only [i64_w, i32_w]; rw [c5b0]) | skip)
   have H' := Aside0.mk H
   clear H
   go_wp2
   go_meet
   case rel => exact ⟨_, (decide ((l1.length : Int) > 1000)), (by first | rfl | (simp; done) | (simp [*]; done)), H', ⟨by first | omega | exact Nat.le_refl _⟩, ⟨by (with_reducible repeat (first | refine blk_drewN ?_ _ | refine blk_drew ?_ | refine blk_alloc ?_ _)); exact BK255.out⟩, ⟨by repeat (first | (with_reducible first | exact HB.out | apply below_alloc | apply pw_below_drewN | apply below_drew1 | refine below_set ?_ GE255.out) | exact HB.out)⟩⟩
 case rest =>
  clear HC3
  try clear c1
  try clear p2
  try clear c4
  try clear c5
  try clear c5b0
  try clear c5b1
  obtain ⟨kq, x17_2, rfl, HA, HJ2, BK255, HB⟩ := hcut
  cases kq with
  | zero => exact absurd HA.out (by simp [tickingref07_Plan.j0])
  | succ kj2 =>
   have H := HA.out
   clear HA
   simp only [tickingref07_Plan.j0] at H
   by_cases c6 : x17_2 = true
   ·subst c6
    have H1 : (some false) = some r := by rw [if_pos rfl] at H; exact H
    clear H
    have H := H1
    clear H1
    obtain rfl := Option.some.inj H
    go_wp2
    go_ret
    exact ⟨by first | rfl | (simp [errW_none, errW_some] <;> rfl) | (simp [*, errW_none, errW_some] <;> rfl), by repeat (first | (with_reducible first | exact HB.out | apply below_alloc | apply pw_below_drewN | apply below_drew1 | refine below_set ?_ GE255.out) | exact HB.out)⟩
   ·replace c6 := Bool.eq_false_iff.mpr c6
    subst c6
    have H1 : (if 0 ≤ (l1.length : Int) then (if ((l1.length : Int) : Int).toNat ≤ 35184372088832 then (tickingref07_Plan.l0 kj2 l1 (l1.length : Int) (List.replicate ((l1.length : Int) : Int).toNat 0) 0 l0_0 l0_1 l0_2) else (none)) else (none)) = some r := by rw [if_neg (show ¬ (false = true) by decide)] at H; exact H
    clear H
    have H := H1
    clear H1
    by_cases c7 : 0 ≤ (l1.length : Int)
    ·rw [if_pos c7] at H
     have c7b0 := eq_true c7
     have c7b1 : decide (0 ≤ (l1.length : Int)) = true := decide_eq_true c7
     clear c7
     by_cases c8 : ((l1.length : Int) : Int).toNat ≤ 35184372088832
     ·rw [if_pos c8] at H
      have c8b0 := eq_true c8
      have c8b1 : decide (((l1.length : Int) : Int).toNat ≤ 35184372088832) = true := decide_eq_true c8
      clear c8
      obtain ⟨y256, hy256⟩ : ∃ y_ : List Int, y_ = (List.replicate ((l1.length : Int) : Int).toNat 0) := ⟨_, rfl⟩
      replace H : (tickingref07_Plan.l0 kj2 l1 (l1.length : Int) y256 0 l0_0 l0_1 l0_2) = some r := by first | (rw [hy256]; with_reducible exact H) | (have H2_ := (Option.bind_some _ _).symm.trans H; rw [hy256]; with_reducible exact H2_) | (have H2_ := (Option.bind_some _ _).symm.trans H; with_reducible exact H2_) | with_reducible exact H | (rw [hy256]; exact H) | exact H
      have Ny256 := Aside0.mk hy256
      clear hy256
      have H' := Aside0.mk H
      clear H
      go_wp2_with (first | ((with_reducible refine gate_dst (N := 19) rfl ?_); (try (refine gate_guard (by rfl) ?_; dsimp only)); refine Kd.R_make (Kd.int .i64) _ 3 rfl (N := 19) rfl 22 _ _ rfl (l1.length : Int) rfl rfl Tryd.underlying22 (.int .i64 0) 8 info3 rfl (by decide) (by omega) 0 (ok := fun _ => True) (okp := fun _ => True) rfl (fun _ hk => hk) trivial (of_decide_eq_true az) (Nat.le_trans (Nat.mul_le_mul_right _ (of_decide_eq_true az : (l1.length : Int).toNat ≤ 35184372088832)) (by omega)) (Below.refl _ _) (Nat.le_refl _) ?_; intro v257 w9 ho10 hb hg_ hnew_; clear hg_ hnew_; (first | rw [← Ny256.out] at ho10 | (simp only [Int.reduceToNat] at ho10; rw [← Ny256.out] at ho10)); have n0_ := Aside0.mk (Kd.R_lower ho10 (below_size bz)); have n1_ := Aside0.mk (kb BK255.out hb); have n2_ := Aside0.mk (below_step bz hb); clear BK255; clear HB; have HO258 := n0_; have BK255 := n1_; have HB := n2_; clear n0_ n1_ n2_; clear hb ho10))
      go_loopg [7] kj2 (fun kq v7 w' => ∃ (x6_2 : List Int) (x7_2 : Int), v7 = .int .i64 x7_2 ∧ Aside0 (tickingref07_Plan.l0 kq l1 (l1.length : Int) x6_2 x7_2 l0_0 l0_1 l0_2 = some r) ∧ Aside0 (kq ≤ kj2) ∧ Aside0 (Kd.R (Kd.int .i64) 3 w' w.heap.size (fun _ => True) v257 x6_2) ∧ Aside0 (w'.heap[gb255]? = some (.cells #[(.slice A0_0 l0_0.length c0_0), (.slice A0_1 l0_1.length c0_1), (.slice A0_2 l0_2.length c0_2)] 25 (0, 0))) ∧ Aside0 (Below w.heap.size w w'))
      case atStart => exact ⟨(y256), (0), (by first | rfl | (simp; done) | (simp [*]; done)), H', ⟨Nat.le_refl _⟩, ⟨by (with_reducible repeat (first | apply Kd.R_alloc | apply Kd.R_drewN | apply Kd.R_drew)); exact HO258.out⟩, ⟨by (with_reducible repeat (first | refine blk_drewN ?_ _ | refine blk_drew ?_ | refine blk_alloc ?_ _)); exact BK255.out⟩, ⟨by repeat (first | (with_reducible first | exact HB.out | apply below_alloc | apply pw_below_drewN | apply below_drew1 | refine below_set ?_ GE255.out) | exact HB.out)⟩⟩
      case round =>
       clear H'
       try clear c1
       try clear p2
       try clear c4
       try clear c5
       try clear c5b0
       try clear c5b1
       try clear c6
       try clear c7
       try clear c7b0
       try clear c7b1
       try clear c8
       try clear c8b0
       try clear c8b1
       try clear p2
       obtain ⟨x6_2, x7_2, rfl, HA, HK2, HO_6, BK255, HB⟩ := hrel
       cases gk with
       | zero => exact absurd HA.out (by simp [tickingref07_Plan.l0])
       | succ k2 =>
        have H := HA.out
        clear HA
        simp only [tickingref07_Plan.l0] at H
        by_cases c11 : x7_2 < (l1.length : Int)
        ·rw [if_pos c11] at H
         have c11b0 : decide (x7_2 < (l1.length : Int)) = true := decide_eq_true c11
         clear c11
         by_cases c12 : 0 ≤ x7_2
         ·rw [if_pos c12] at H
          have c12b0 : decide (0 ≤ x7_2) = true := decide_eq_true c12
          clear c12
          by_cases c13 : x7_2 < (l1.length : Int)
          ·rw [if_pos c13] at H
           have c13b0 : decide (x7_2 < (l1.length : Int)) = true := decide_eq_true c13
           clear c13
           by_cases c14 : ((rd_T57 l1 x7_2).f0) = (-1)
           ·rw [if_pos c14] at H
            have c14b0 : (((rd_T57 l1 x7_2).f0) == (-1)) = true := beq_iff_eq.mpr c14
            have c14b1 : (((rd_T57 l1 x7_2).f0) != (-1)) = false := bne_eq_false_iff_eq.mpr c14
            clear c14
            have HC15 := Aside0.mk H
            clear H
            have p259 : 0 ≤ (x7_2 : Int) := of_decide_eq_true az
            have q259 : x7_2 < (l1.length : Int) := of_decide_eq_true az
            obtain ⟨ad259, e259, hx259_0, hx259_1, hx259_2, hx259_3⟩ := at_T57 HR1.out x7_2 p259 q259
            cases e259
            replace hx259_0 := (HB.out.cell (World.block_lt_of_cell? w _ hx259_0)).trans hx259_0
            replace hx259_1 := (HB.out.cell (World.block_lt_of_cell? w _ hx259_1)).trans hx259_1
            replace hx259_2 := (HB.out.cell (World.block_lt_of_cell? w _ hx259_2)).trans hx259_2
            replace hx259_3 := (HB.out.cell (World.block_lt_of_cell? w _ hx259_3)).trans hx259_3
            replace p259 := eq_true p259
            replace q259 := eq_true q259
            go_upto_region 10 with (first | ((with_reducible refine gate_dst (N := 8) rfl ?_); (try (refine gate_guard (by rfl) ?_; dsimp only)); refine box_event ?hg (N := 8) ?hd (cs := #[.int .i64 0, .int .i64 0, .int .i64 0, .int .i64 0]) (t := 57) ?hr ?_; (case hd => rfl); (case hg => rfl); (case hr => first | (go_simp; done) | (go_simp; rfl)); intro gb260 hg w16 hbox hb; have n0_ := Aside0.mk (Kd.R_below (rz HO_6.out) hb); have n1_ := Aside0.mk (kb BK255.out hb); have n2_ := Aside0.mk (below_step bz hb); have n3_ := Aside0.mk (hbox); have n4_ := Aside0.mk ((by rw [hg]; exact (below_size bz) : w.heap.size ≤ gb260)); have n5_ := Aside0.mk ((by rw [hg]; exact (below_size bz) : w.heap.size ≤ gb260)); have n6_ := Aside0.mk ((by rw [hg]; exact Nat.ne_of_lt (kl BK255.out) : gb255 ≠ gb260)); have n7_ := Aside0.mk ((by rw [hg]; exact Nat.ne_of_gt (kl BK255.out) : gb260 ≠ gb255)); clear HO_6; clear BK255; clear HB; have HO_6 := n0_; have BK255 := n1_; have HB := n2_; have BK260 := n3_; have GW260 := n4_; have GE260 := n5_; have NB255_260 := n6_; have NB260_255 := n7_; clear n0_ n1_ n2_ n3_ n4_ n5_ n6_ n7_; clear hb hbox hg; have hnb17 := NB260_255.out; have hnc17 := NB255_260.out; have hcz18_0 : w16.cell? ⟨gb260, 0, none⟩ = some (.int .i64 0) := (blk_cell BK260.out 0).trans rfl; have hcz18_1 : w16.cell? ⟨gb260, 1, none⟩ = some (.int .i64 0) := (blk_cell BK260.out 1).trans rfl; have hcz18_2 : w16.cell? ⟨gb260, 2, none⟩ = some (.int .i64 0) := (blk_cell BK260.out 2).trans rfl; have hcz18_3 : w16.cell? ⟨gb260, 3, none⟩ = some (.int .i64 0) := (blk_cell BK260.out 3).trans rfl; have hfz18_0 := blk_frozen BK260.out 0; have hfz18_1 := blk_frozen BK260.out 1; have hfz18_2 := blk_frozen BK260.out 2; have hfz18_3 := blk_frozen BK260.out 3))
            (try simp only [Act.put, List.setIfInBounds_toArray, List.set_cons_zero, List.set_cons_succ])
            go_cut [52] (fun v52 wc => ∃ (kq : Nat) (x52_14 : Bool), v52 = .bool x52_14 ∧ Aside0 (tickingref07_Plan.j2 kq l1 (l1.length : Int) x6_2 x7_2 x52_14 l0_0 l0_1 l0_2 = some r) ∧ Aside0 (kq ≤ k2) ∧ Aside0 (Kd.R (Kd.int .i64) 3 wc w.heap.size (fun _ => True) v257 x6_2) ∧ Aside0 (wc.heap[gb255]? = some (.cells #[(.slice A0_0 l0_0.length c0_0), (.slice A0_1 l0_1.length c0_1), (.slice A0_2 l0_2.length c0_2)] 25 (0, 0))) ∧ Aside0 (wc.heap[gb260]? = some (.cells #[.int .i64 ((rd_T57 l1 x7_2).f0), .int .i64 ((rd_T57 l1 x7_2).f1), .int .i64 ((rd_T57 l1 x7_2).f2), .int .i64 ((rd_T57 l1 x7_2).f3)] 57 (0, 0))) ∧ Aside0 (Below w.heap.size w wc))
            case first =>
             have H := HC15.out
             clear HC15
             by_cases c19 : ((rd_T57 l1 x7_2).f1) < 0
             ·rw [if_pos c19] at H
              have c19b0 : decide (((rd_T57 l1 x7_2).f1) < 0) = true := decide_eq_true c19
              clear c19
              (first | rw [c19b0] | (simp only [i64_w, i32_w]; rw [c19b0]) | skip)
              have H' := Aside0.mk H
              clear H
              have hnb20 := NB260_255.out
              have hnc20 := NB255_260.out
              have hcz21_0 : w16.cell? ⟨gb260, 0, none⟩ = some (.int .i64 0) := (blk_cell BK260.out 0).trans rfl
              have hcz21_1 : w16.cell? ⟨gb260, 1, none⟩ = some (.int .i64 0) := (blk_cell BK260.out 1).trans rfl
              have hcz21_2 : w16.cell? ⟨gb260, 2, none⟩ = some (.int .i64 0) := (blk_cell BK260.out 2).trans rfl
              have hcz21_3 : w16.cell? ⟨gb260, 3, none⟩ = some (.int .i64 0) := (blk_cell BK260.out 3).trans rfl
              have hfz21_0 := blk_frozen BK260.out 0
              have hfz21_1 := blk_frozen BK260.out 1
              have hfz21_2 := blk_frozen BK260.out 2
              have hfz21_3 := blk_frozen BK260.out 3
              go_wp2
              go_meet
              case rel => exact ⟨_, (true), (by first | rfl | (simp; done) | (simp [*]; done)), H', ⟨by have := HJ2.out; have := HK2.out; first | omega | exact Nat.le_refl _⟩, ⟨by (with_reducible repeat (first | apply Kd.R_alloc | apply Kd.R_drewN | apply Kd.R_drew)); exact Kd.R_mono (Kd.R_far (p := ⟨gb260, 3, none⟩) (Kd.R_far (p := ⟨gb260, 2, none⟩) (Kd.R_far (p := ⟨gb260, 1, none⟩) (Kd.R_far (p := ⟨gb260, 0, none⟩) (Kd.R_types HO_6.out BK260.out (by decide)) (fun _ hk => hk.2) (.int .i64 ((rd_T57 l1 x7_2).f0))) (fun _ hk => hk.2) (.int .i64 ((rd_T57 l1 x7_2).f1))) (fun _ hk => hk.2) (.int .i64 ((rd_T57 l1 x7_2).f2))) (fun _ hk => hk.2) (.int .i64 ((rd_T57 l1 x7_2).f3))) (fun _ hk => trivial)⟩, ⟨by (with_reducible repeat (first | refine blk_drewN ?_ _ | refine blk_drew ?_ | refine blk_alloc ?_ _)); refine blk_far ?_ NB255_260.out _; (with_reducible repeat (first | refine blk_drewN ?_ _ | refine blk_drew ?_ | refine blk_alloc ?_ _)); refine blk_far ?_ NB255_260.out _; (with_reducible repeat (first | refine blk_drewN ?_ _ | refine blk_drew ?_ | refine blk_alloc ?_ _)); refine blk_far ?_ NB255_260.out _; (with_reducible repeat (first | refine blk_drewN ?_ _ | refine blk_drew ?_ | refine blk_alloc ?_ _)); refine blk_far ?_ NB255_260.out _; (with_reducible repeat (first | refine blk_drewN ?_ _ | refine blk_drew ?_ | refine blk_alloc ?_ _)); exact BK255.out⟩, ⟨by (with_reducible repeat (first | refine blk_drewN ?_ _ | refine blk_drew ?_ | refine blk_alloc ?_ _)); refine blk_put (cs := #[.int .i64 ((rd_T57 l1 x7_2).f0), .int .i64 ((rd_T57 l1 x7_2).f1), .int .i64 ((rd_T57 l1 x7_2).f2), .int .i64 0]) ?_ 3 _ rfl; (with_reducible repeat (first | refine blk_drewN ?_ _ | refine blk_drew ?_ | refine blk_alloc ?_ _)); refine blk_put (cs := #[.int .i64 ((rd_T57 l1 x7_2).f0), .int .i64 ((rd_T57 l1 x7_2).f1), .int .i64 0, .int .i64 0]) ?_ 2 _ rfl; (with_reducible repeat (first | refine blk_drewN ?_ _ | refine blk_drew ?_ | refine blk_alloc ?_ _)); refine blk_put (cs := #[.int .i64 ((rd_T57 l1 x7_2).f0), .int .i64 0, .int .i64 0, .int .i64 0]) ?_ 1 _ rfl; (with_reducible repeat (first | refine blk_drewN ?_ _ | refine blk_drew ?_ | refine blk_alloc ?_ _)); refine blk_put (cs := #[.int .i64 0, .int .i64 0, .int .i64 0, .int .i64 0]) ?_ 0 _ rfl; (with_reducible repeat (first | refine blk_drewN ?_ _ | refine blk_drew ?_ | refine blk_alloc ?_ _)); exact BK260.out⟩, ⟨by repeat (first | (with_reducible first | exact HB.out | apply below_alloc | apply pw_below_drewN | apply below_drew1 | refine below_set ?_ GE255.out | refine below_set ?_ GE260.out) | exact HB.out)⟩⟩
             ·rw [if_neg c19] at H
              have c19b0 : decide (((rd_T57 l1 x7_2).f1) < 0) = false := decide_eq_false c19
              clear c19
              (first | rw [c19b0] | (simp only [i64_w, i32_w]; rw [c19b0]) | skip)
              by_cases c22 : ((rd_T57 l1 x7_2).f1) ≥ (l0_0.length : Int)
              ·rw [if_pos c22] at H
               have c22b0 : decide ((l0_0.length : Int) ≤ ((rd_T57 l1 x7_2).f1)) = true := decide_eq_true c22
               clear c22
               have H' := Aside0.mk H
               clear H
               have hnb23 := NB260_255.out
               have hnc23 := NB255_260.out
               have hcz24_0 : w16.cell? ⟨gb260, 0, none⟩ = some (.int .i64 0) := (blk_cell BK260.out 0).trans rfl
               have hcz24_1 : w16.cell? ⟨gb260, 1, none⟩ = some (.int .i64 0) := (blk_cell BK260.out 1).trans rfl
               have hcz24_2 : w16.cell? ⟨gb260, 2, none⟩ = some (.int .i64 0) := (blk_cell BK260.out 2).trans rfl
               have hcz24_3 : w16.cell? ⟨gb260, 3, none⟩ = some (.int .i64 0) := (blk_cell BK260.out 3).trans rfl
               have hfz24_0 := blk_frozen BK260.out 0
               have hfz24_1 := blk_frozen BK260.out 1
               have hfz24_2 := blk_frozen BK260.out 2
               have hfz24_3 := blk_frozen BK260.out 3
               have hcz25_0 : w16.cell? ⟨gb255, 0, none⟩ = some (.slice A0_0 l0_0.length c0_0) := (blk_cell BK255.out 0).trans rfl
               have hcz25_1 : w16.cell? ⟨gb255, 1, none⟩ = some (.slice A0_1 l0_1.length c0_1) := (blk_cell BK255.out 1).trans rfl
               have hcz25_2 : w16.cell? ⟨gb255, 2, none⟩ = some (.slice A0_2 l0_2.length c0_2) := (blk_cell BK255.out 2).trans rfl
               have hfz25_0 := blk_frozen BK255.out 0
               have hfz25_1 := blk_frozen BK255.out 1
               have hfz25_2 := blk_frozen BK255.out 2
               go_wp2
               go_meet
               case rel => exact ⟨_, (true), (by first | rfl | (simp; done) | (simp [*]; done)), H', ⟨by have := HJ2.out; have := HK2.out; first | omega | exact Nat.le_refl _⟩, ⟨by (with_reducible repeat (first | apply Kd.R_alloc | apply Kd.R_drewN | apply Kd.R_drew)); exact Kd.R_mono (Kd.R_far (p := ⟨gb260, 3, none⟩) (Kd.R_far (p := ⟨gb260, 2, none⟩) (Kd.R_far (p := ⟨gb260, 1, none⟩) (Kd.R_far (p := ⟨gb260, 0, none⟩) (Kd.R_types HO_6.out BK260.out (by decide)) (fun _ hk => hk.2) (.int .i64 ((rd_T57 l1 x7_2).f0))) (fun _ hk => hk.2) (.int .i64 ((rd_T57 l1 x7_2).f1))) (fun _ hk => hk.2) (.int .i64 ((rd_T57 l1 x7_2).f2))) (fun _ hk => hk.2) (.int .i64 ((rd_T57 l1 x7_2).f3))) (fun _ hk => trivial)⟩, ⟨by (with_reducible repeat (first | refine blk_drewN ?_ _ | refine blk_drew ?_ | refine blk_alloc ?_ _)); refine blk_far ?_ NB255_260.out _; (with_reducible repeat (first | refine blk_drewN ?_ _ | refine blk_drew ?_ | refine blk_alloc ?_ _)); refine blk_far ?_ NB255_260.out _; (with_reducible repeat (first | refine blk_drewN ?_ _ | refine blk_drew ?_ | refine blk_alloc ?_ _)); refine blk_far ?_ NB255_260.out _; (with_reducible repeat (first | refine blk_drewN ?_ _ | refine blk_drew ?_ | refine blk_alloc ?_ _)); refine blk_far ?_ NB255_260.out _; (with_reducible repeat (first | refine blk_drewN ?_ _ | refine blk_drew ?_ | refine blk_alloc ?_ _)); exact BK255.out⟩, ⟨by (with_reducible repeat (first | refine blk_drewN ?_ _ | refine blk_drew ?_ | refine blk_alloc ?_ _)); refine blk_put (cs := #[.int .i64 ((rd_T57 l1 x7_2).f0), .int .i64 ((rd_T57 l1 x7_2).f1), .int .i64 ((rd_T57 l1 x7_2).f2), .int .i64 0]) ?_ 3 _ rfl; (with_reducible repeat (first | refine blk_drewN ?_ _ | refine blk_drew ?_ | refine blk_alloc ?_ _)); refine blk_put (cs := #[.int .i64 ((rd_T57 l1 x7_2).f0), .int .i64 ((rd_T57 l1 x7_2).f1), .int .i64 0, .int .i64 0]) ?_ 2 _ rfl; (with_reducible repeat (first | refine blk_drewN ?_ _ | refine blk_drew ?_ | refine blk_alloc ?_ _)); refine blk_put (cs := #[.int .i64 ((rd_T57 l1 x7_2).f0), .int .i64 0, .int .i64 0, .int .i64 0]) ?_ 1 _ rfl; (with_reducible repeat (first | refine blk_drewN ?_ _ | refine blk_drew ?_ | refine blk_alloc ?_ _)); refine blk_put (cs := #[.int .i64 0, .int .i64 0, .int .i64 0, .int .i64 0]) ?_ 0 _ rfl; (with_reducible repeat (first | refine blk_drewN ?_ _ | refine blk_drew ?_ | refine blk_alloc ?_ _)); exact BK260.out⟩, ⟨by repeat (first | (with_reducible first | exact HB.out | apply below_alloc | apply pw_below_drewN | apply below_drew1 | refine below_set ?_ GE255.out | refine below_set ?_ GE260.out) | exact HB.out)⟩⟩
              ·rw [if_neg c22] at H
               have c22b0 : decide ((l0_0.length : Int) ≤ ((rd_T57 l1 x7_2).f1)) = false := decide_eq_false c22
               clear c22
               by_cases c26 : ((rd_T57 l1 x7_2).f2) = 0
               ·rw [if_pos c26] at H
                have c26b0 : (((rd_T57 l1 x7_2).f2) == 0) = true := beq_iff_eq.mpr c26
                have c26b1 : (((rd_T57 l1 x7_2).f2) != 0) = false := bne_eq_false_iff_eq.mpr c26
                clear c26
                have H' := Aside0.mk H
                clear H
                have hnb27 := NB260_255.out
                have hnc27 := NB255_260.out
                have hcz28_0 : w16.cell? ⟨gb260, 0, none⟩ = some (.int .i64 0) := (blk_cell BK260.out 0).trans rfl
                have hcz28_1 : w16.cell? ⟨gb260, 1, none⟩ = some (.int .i64 0) := (blk_cell BK260.out 1).trans rfl
                have hcz28_2 : w16.cell? ⟨gb260, 2, none⟩ = some (.int .i64 0) := (blk_cell BK260.out 2).trans rfl
                have hcz28_3 : w16.cell? ⟨gb260, 3, none⟩ = some (.int .i64 0) := (blk_cell BK260.out 3).trans rfl
                have hfz28_0 := blk_frozen BK260.out 0
                have hfz28_1 := blk_frozen BK260.out 1
                have hfz28_2 := blk_frozen BK260.out 2
                have hfz28_3 := blk_frozen BK260.out 3
                have hcz29_0 : w16.cell? ⟨gb255, 0, none⟩ = some (.slice A0_0 l0_0.length c0_0) := (blk_cell BK255.out 0).trans rfl
                have hcz29_1 : w16.cell? ⟨gb255, 1, none⟩ = some (.slice A0_1 l0_1.length c0_1) := (blk_cell BK255.out 1).trans rfl
                have hcz29_2 : w16.cell? ⟨gb255, 2, none⟩ = some (.slice A0_2 l0_2.length c0_2) := (blk_cell BK255.out 2).trans rfl
                have hfz29_0 := blk_frozen BK255.out 0
                have hfz29_1 := blk_frozen BK255.out 1
                have hfz29_2 := blk_frozen BK255.out 2
                go_wp2
                go_meet
                case rel => exact ⟨_, ((((rd_T57 l1 x7_2).f3) != 0)), (by first | rfl | (simp; done) | (simp [*]; done)), H', ⟨by have := HJ2.out; have := HK2.out; first | omega | exact Nat.le_refl _⟩, ⟨by (with_reducible repeat (first | apply Kd.R_alloc | apply Kd.R_drewN | apply Kd.R_drew)); exact Kd.R_mono (Kd.R_far (p := ⟨gb260, 3, none⟩) (Kd.R_far (p := ⟨gb260, 2, none⟩) (Kd.R_far (p := ⟨gb260, 1, none⟩) (Kd.R_far (p := ⟨gb260, 0, none⟩) (Kd.R_types HO_6.out BK260.out (by decide)) (fun _ hk => hk.2) (.int .i64 ((rd_T57 l1 x7_2).f0))) (fun _ hk => hk.2) (.int .i64 ((rd_T57 l1 x7_2).f1))) (fun _ hk => hk.2) (.int .i64 ((rd_T57 l1 x7_2).f2))) (fun _ hk => hk.2) (.int .i64 ((rd_T57 l1 x7_2).f3))) (fun _ hk => trivial)⟩, ⟨by (with_reducible repeat (first | refine blk_drewN ?_ _ | refine blk_drew ?_ | refine blk_alloc ?_ _)); refine blk_far ?_ NB255_260.out _; (with_reducible repeat (first | refine blk_drewN ?_ _ | refine blk_drew ?_ | refine blk_alloc ?_ _)); refine blk_far ?_ NB255_260.out _; (with_reducible repeat (first | refine blk_drewN ?_ _ | refine blk_drew ?_ | refine blk_alloc ?_ _)); refine blk_far ?_ NB255_260.out _; (with_reducible repeat (first | refine blk_drewN ?_ _ | refine blk_drew ?_ | refine blk_alloc ?_ _)); refine blk_far ?_ NB255_260.out _; (with_reducible repeat (first | refine blk_drewN ?_ _ | refine blk_drew ?_ | refine blk_alloc ?_ _)); exact BK255.out⟩, ⟨by (with_reducible repeat (first | refine blk_drewN ?_ _ | refine blk_drew ?_ | refine blk_alloc ?_ _)); refine blk_put (cs := #[.int .i64 ((rd_T57 l1 x7_2).f0), .int .i64 ((rd_T57 l1 x7_2).f1), .int .i64 ((rd_T57 l1 x7_2).f2), .int .i64 0]) ?_ 3 _ rfl; (with_reducible repeat (first | refine blk_drewN ?_ _ | refine blk_drew ?_ | refine blk_alloc ?_ _)); refine blk_put (cs := #[.int .i64 ((rd_T57 l1 x7_2).f0), .int .i64 ((rd_T57 l1 x7_2).f1), .int .i64 0, .int .i64 0]) ?_ 2 _ rfl; (with_reducible repeat (first | refine blk_drewN ?_ _ | refine blk_drew ?_ | refine blk_alloc ?_ _)); refine blk_put (cs := #[.int .i64 ((rd_T57 l1 x7_2).f0), .int .i64 0, .int .i64 0, .int .i64 0]) ?_ 1 _ rfl; (with_reducible repeat (first | refine blk_drewN ?_ _ | refine blk_drew ?_ | refine blk_alloc ?_ _)); refine blk_put (cs := #[.int .i64 0, .int .i64 0, .int .i64 0, .int .i64 0]) ?_ 0 _ rfl; (with_reducible repeat (first | refine blk_drewN ?_ _ | refine blk_drew ?_ | refine blk_alloc ?_ _)); exact BK260.out⟩, ⟨by repeat (first | (with_reducible first | exact HB.out | apply below_alloc | apply pw_below_drewN | apply below_drew1 | refine below_set ?_ GE255.out | refine below_set ?_ GE260.out) | exact HB.out)⟩⟩
               ·rw [if_neg c26] at H
                have c26b0 : (((rd_T57 l1 x7_2).f2) == 0) = false := beq_eq_false_iff_ne.mpr c26
                have c26b1 : (((rd_T57 l1 x7_2).f2) != 0) = true := bne_iff_ne.mpr c26
                have H' := Aside0.mk H
                clear H
                have hnb30 := NB260_255.out
                have hnc30 := NB255_260.out
                have hcz31_0 : w16.cell? ⟨gb260, 0, none⟩ = some (.int .i64 0) := (blk_cell BK260.out 0).trans rfl
                have hcz31_1 : w16.cell? ⟨gb260, 1, none⟩ = some (.int .i64 0) := (blk_cell BK260.out 1).trans rfl
                have hcz31_2 : w16.cell? ⟨gb260, 2, none⟩ = some (.int .i64 0) := (blk_cell BK260.out 2).trans rfl
                have hcz31_3 : w16.cell? ⟨gb260, 3, none⟩ = some (.int .i64 0) := (blk_cell BK260.out 3).trans rfl
                have hfz31_0 := blk_frozen BK260.out 0
                have hfz31_1 := blk_frozen BK260.out 1
                have hfz31_2 := blk_frozen BK260.out 2
                have hfz31_3 := blk_frozen BK260.out 3
                have hcz32_0 : w16.cell? ⟨gb255, 0, none⟩ = some (.slice A0_0 l0_0.length c0_0) := (blk_cell BK255.out 0).trans rfl
                have hcz32_1 : w16.cell? ⟨gb255, 1, none⟩ = some (.slice A0_1 l0_1.length c0_1) := (blk_cell BK255.out 1).trans rfl
                have hcz32_2 : w16.cell? ⟨gb255, 2, none⟩ = some (.slice A0_2 l0_2.length c0_2) := (blk_cell BK255.out 2).trans rfl
                have hfz32_0 := blk_frozen BK255.out 0
                have hfz32_1 := blk_frozen BK255.out 1
                have hfz32_2 := blk_frozen BK255.out 2
                go_wp2
                go_meet
                case rel => exact ⟨_, (true), (by first | rfl | (simp; done) | (simp [*]; done)), H', ⟨by have := HJ2.out; have := HK2.out; first | omega | exact Nat.le_refl _⟩, ⟨by (with_reducible repeat (first | apply Kd.R_alloc | apply Kd.R_drewN | apply Kd.R_drew)); exact Kd.R_mono (Kd.R_far (p := ⟨gb260, 3, none⟩) (Kd.R_far (p := ⟨gb260, 2, none⟩) (Kd.R_far (p := ⟨gb260, 1, none⟩) (Kd.R_far (p := ⟨gb260, 0, none⟩) (Kd.R_types HO_6.out BK260.out (by decide)) (fun _ hk => hk.2) (.int .i64 ((rd_T57 l1 x7_2).f0))) (fun _ hk => hk.2) (.int .i64 ((rd_T57 l1 x7_2).f1))) (fun _ hk => hk.2) (.int .i64 ((rd_T57 l1 x7_2).f2))) (fun _ hk => hk.2) (.int .i64 ((rd_T57 l1 x7_2).f3))) (fun _ hk => trivial)⟩, ⟨by (with_reducible repeat (first | refine blk_drewN ?_ _ | refine blk_drew ?_ | refine blk_alloc ?_ _)); refine blk_far ?_ NB255_260.out _; (with_reducible repeat (first | refine blk_drewN ?_ _ | refine blk_drew ?_ | refine blk_alloc ?_ _)); refine blk_far ?_ NB255_260.out _; (with_reducible repeat (first | refine blk_drewN ?_ _ | refine blk_drew ?_ | refine blk_alloc ?_ _)); refine blk_far ?_ NB255_260.out _; (with_reducible repeat (first | refine blk_drewN ?_ _ | refine blk_drew ?_ | refine blk_alloc ?_ _)); refine blk_far ?_ NB255_260.out _; (with_reducible repeat (first | refine blk_drewN ?_ _ | refine blk_drew ?_ | refine blk_alloc ?_ _)); exact BK255.out⟩, ⟨by (with_reducible repeat (first | refine blk_drewN ?_ _ | refine blk_drew ?_ | refine blk_alloc ?_ _)); refine blk_put (cs := #[.int .i64 ((rd_T57 l1 x7_2).f0), .int .i64 ((rd_T57 l1 x7_2).f1), .int .i64 ((rd_T57 l1 x7_2).f2), .int .i64 0]) ?_ 3 _ rfl; (with_reducible repeat (first | refine blk_drewN ?_ _ | refine blk_drew ?_ | refine blk_alloc ?_ _)); refine blk_put (cs := #[.int .i64 ((rd_T57 l1 x7_2).f0), .int .i64 ((rd_T57 l1 x7_2).f1), .int .i64 0, .int .i64 0]) ?_ 2 _ rfl; (with_reducible repeat (first | refine blk_drewN ?_ _ | refine blk_drew ?_ | refine blk_alloc ?_ _)); refine blk_put (cs := #[.int .i64 ((rd_T57 l1 x7_2).f0), .int .i64 0, .int .i64 0, .int .i64 0]) ?_ 1 _ rfl; (with_reducible repeat (first | refine blk_drewN ?_ _ | refine blk_drew ?_ | refine blk_alloc ?_ _)); refine blk_put (cs := #[.int .i64 0, .int .i64 0, .int .i64 0, .int .i64 0]) ?_ 0 _ rfl; (with_reducible repeat (first | refine blk_drewN ?_ _ | refine blk_drew ?_ | refine blk_alloc ?_ _)); exact BK260.out⟩, ⟨by repeat (first | (with_reducible first | exact HB.out | apply below_alloc | apply pw_below_drewN | apply below_drew1 | refine below_set ?_ GE255.out | refine below_set ?_ GE260.out) | exact HB.out)⟩⟩
            case rest =>
             clear HC15
             try clear c1
             try clear c2
             try clear p2
             try clear q2
             try clear hx2
             try clear c3
             try clear c4
             try clear c5
             try clear c5b0
             try clear c5b1
             try clear c6
             try clear c7
             try clear c7b0
             try clear c7b1
             try clear c8
             try clear c8b0
             try clear c8b1
             try clear c11
             try clear c11b0
             try clear c12
             try clear c12b0
             try clear c13
             try clear c13b0
             try clear c14
             try clear c14b0
             try clear c14b1
             try clear c17
             try clear c19
             try clear c19b0
             try clear c20
             try clear c22
             try clear c22b0
             try clear c23
             try clear p25
             try clear q25
             try clear hx25
             try clear c26
             try clear c26b0
             try clear c26b1
             try clear c27
             try clear c30
             try clear hcz18_0
             try clear hcz18_1
             try clear hcz18_2
             try clear hcz18_3
             try clear hcz21_0
             try clear hcz21_1
             try clear hcz21_2
             try clear hcz21_3
             try clear hcz24_0
             try clear hcz24_1
             try clear hcz24_2
             try clear hcz24_3
             try clear hcz25_0
             try clear hcz25_1
             try clear hcz25_2
             try clear hcz28_0
             try clear hcz28_1
             try clear hcz28_2
             try clear hcz28_3
             try clear hcz29_0
             try clear hcz29_1
             try clear hcz29_2
             try clear hcz31_0
             try clear hcz31_1
             try clear hcz31_2
             try clear hcz31_3
             try clear hcz32_0
             try clear hcz32_1
             try clear hcz32_2
             try clear hfz18_0
             try clear hfz18_1
             try clear hfz18_2
             try clear hfz18_3
             try clear hfz21_0
             try clear hfz21_1
             try clear hfz21_2
             try clear hfz21_3
             try clear hfz24_0
             try clear hfz24_1
             try clear hfz24_2
             try clear hfz24_3
             try clear hfz25_0
             try clear hfz25_1
             try clear hfz25_2
             try clear hfz28_0
             try clear hfz28_1
             try clear hfz28_2
             try clear hfz28_3
             try clear hfz29_0
             try clear hfz29_1
             try clear hfz29_2
             try clear hfz31_0
             try clear hfz31_1
             try clear hfz31_2
             try clear hfz31_3
             try clear hfz32_0
             try clear hfz32_1
             try clear hfz32_2
             try clear hx259_0
             try clear hx259_1
             try clear hx259_2
             try clear hx259_3
             try clear p2
             try clear p259
             try clear q259
             obtain ⟨kq, x52_14, rfl, HA, HJ14, HO_6, BK255, BK260, HB⟩ := hcut
             cases kq with
             | zero => exact absurd HA.out (by simp [tickingref07_Plan.j2])
             | succ kj14 =>
              have H := HA.out
              clear HA
              simp only [tickingref07_Plan.j2] at H
              by_cases c33 : x52_14 = true
              ·subst c33
               have H1 : (some false) = some r := by rw [if_pos rfl] at H; exact H
               clear H
               have H := H1
               clear H1
               obtain rfl := Option.some.inj H
               go_wp2
               go_ret
               exact ⟨by first | rfl | (simp [errW_none, errW_some] <;> rfl) | (simp [*, errW_none, errW_some] <;> rfl), by repeat (first | (with_reducible first | exact HB.out | apply below_alloc | apply pw_below_drewN | apply below_drew1 | refine below_set ?_ GE255.out | refine below_set ?_ GE260.out) | exact HB.out)⟩
              ·replace c33 := Bool.eq_false_iff.mpr c33
               subst c33
               have H1 : (tickingref07_Plan.l0 kj14 l1 (l1.length : Int) x6_2 (wrap64 (x7_2 + 1)) l0_0 l0_1 l0_2) = some r := by rw [if_neg (show ¬ (false = true) by decide)] at H; exact H
               clear H
               have H := H1
               clear H1
               have H' := Aside0.mk H
               clear H
               go_wp2
               go_roundg kj14
               case measure => have := HJ2.out; have := HK2.out; have := HJ14.out; omega
               case rel => exact ⟨(x6_2), (wrap64 (x7_2 + 1)), (by first | rfl | (simp; done) | (simp [*]; done)), H', ⟨by have := HJ2.out; have := HK2.out; have := HJ14.out; omega⟩, ⟨by (with_reducible repeat (first | apply Kd.R_alloc | apply Kd.R_drewN | apply Kd.R_drew)); exact HO_6.out⟩, ⟨by (with_reducible repeat (first | refine blk_drewN ?_ _ | refine blk_drew ?_ | refine blk_alloc ?_ _)); exact BK255.out⟩, ⟨by repeat (first | (with_reducible first | exact HB.out | apply below_alloc | apply pw_below_drewN | apply below_drew1 | refine below_set ?_ GE255.out | refine below_set ?_ GE260.out) | exact HB.out)⟩⟩
           ·rw [if_neg c14] at H
            have c14b0 : (((rd_T57 l1 x7_2).f0) == (-1)) = false := beq_eq_false_iff_ne.mpr c14
            have c14b1 : (((rd_T57 l1 x7_2).f0) != (-1)) = true := bne_iff_ne.mpr c14
            by_cases c34 : ((rd_T57 l1 x7_2).f0) < 0
            ·rw [if_pos c34] at H
             have c34b0 : decide (((rd_T57 l1 x7_2).f0) < 0) = true := decide_eq_true c34
             clear c34
             obtain rfl := Option.some.inj H
             have p259 : 0 ≤ (x7_2 : Int) := of_decide_eq_true az
             have q259 : x7_2 < (l1.length : Int) := of_decide_eq_true az
             obtain ⟨ad259, e259, hx259_0, hx259_1, hx259_2, hx259_3⟩ := at_T57 HR1.out x7_2 p259 q259
             cases e259
             replace hx259_0 := (HB.out.cell (World.block_lt_of_cell? w _ hx259_0)).trans hx259_0
             replace hx259_1 := (HB.out.cell (World.block_lt_of_cell? w _ hx259_1)).trans hx259_1
             replace hx259_2 := (HB.out.cell (World.block_lt_of_cell? w _ hx259_2)).trans hx259_2
             replace hx259_3 := (HB.out.cell (World.block_lt_of_cell? w _ hx259_3)).trans hx259_3
             replace p259 := eq_true p259
             replace q259 := eq_true q259
             go_wp2_with (first | ((with_reducible refine gate_dst (N := 8) rfl ?_); (try (refine gate_guard (by rfl) ?_; dsimp only)); refine box_event ?hg (N := 8) ?hd (cs := #[.int .i64 0, .int .i64 0, .int .i64 0, .int .i64 0]) (t := 57) ?hr ?_; (case hd => rfl); (case hg => rfl); (case hr => first | (go_simp; done) | (go_simp; rfl)); intro gb260 hg w35 hbox hb; have n0_ := Aside0.mk (Kd.R_below (rz HO_6.out) hb); have n1_ := Aside0.mk (kb BK255.out hb); have n2_ := Aside0.mk (below_step bz hb); have n3_ := Aside0.mk (hbox); have n4_ := Aside0.mk ((by rw [hg]; exact (below_size bz) : w.heap.size ≤ gb260)); have n5_ := Aside0.mk ((by rw [hg]; exact (below_size bz) : w.heap.size ≤ gb260)); have n6_ := Aside0.mk ((by rw [hg]; exact Nat.ne_of_lt (kl BK255.out) : gb255 ≠ gb260)); have n7_ := Aside0.mk ((by rw [hg]; exact Nat.ne_of_gt (kl BK255.out) : gb260 ≠ gb255)); clear HO_6; clear BK255; clear HB; have HO_6 := n0_; have BK255 := n1_; have HB := n2_; have BK260 := n3_; have GW260 := n4_; have GE260 := n5_; have NB255_260 := n6_; have NB260_255 := n7_; clear n0_ n1_ n2_ n3_ n4_ n5_ n6_ n7_; clear hb hbox hg; have hnb36 := NB260_255.out; have hnc36 := NB255_260.out; have hcz37_0 : w35.cell? ⟨gb260, 0, none⟩ = some (.int .i64 0) := (blk_cell BK260.out 0).trans rfl; have hcz37_1 : w35.cell? ⟨gb260, 1, none⟩ = some (.int .i64 0) := (blk_cell BK260.out 1).trans rfl; have hcz37_2 : w35.cell? ⟨gb260, 2, none⟩ = some (.int .i64 0) := (blk_cell BK260.out 2).trans rfl; have hcz37_3 : w35.cell? ⟨gb260, 3, none⟩ = some (.int .i64 0) := (blk_cell BK260.out 3).trans rfl; have hfz37_0 := blk_frozen BK260.out 0; have hfz37_1 := blk_frozen BK260.out 1; have hfz37_2 := blk_frozen BK260.out 2; have hfz37_3 := blk_frozen BK260.out 3))
             go_ret
             exact ⟨by first | rfl | (simp [errW_none, errW_some] <;> rfl) | (simp [*, errW_none, errW_some] <;> rfl), by repeat (first | (with_reducible first | exact HB.out | apply below_alloc | apply pw_below_drewN | apply below_drew1 | refine below_set ?_ GE255.out | refine below_set ?_ GE260.out) | exact HB.out)⟩
            ·rw [if_neg c34] at H
             have c34b0 : decide (((rd_T57 l1 x7_2).f0) < 0) = false := decide_eq_false c34
             clear c34
             by_cases c38 : ((rd_T57 l1 x7_2).f0) ≥ (l0_1.length : Int)
             ·rw [if_pos c38] at H
              have c38b0 : decide ((l0_1.length : Int) ≤ ((rd_T57 l1 x7_2).f0)) = true := decide_eq_true c38
              clear c38
              obtain rfl := Option.some.inj H
              have p259 : 0 ≤ (x7_2 : Int) := of_decide_eq_true az
              have q259 : x7_2 < (l1.length : Int) := of_decide_eq_true az
              obtain ⟨ad259, e259, hx259_0, hx259_1, hx259_2, hx259_3⟩ := at_T57 HR1.out x7_2 p259 q259
              cases e259
              replace hx259_0 := (HB.out.cell (World.block_lt_of_cell? w _ hx259_0)).trans hx259_0
              replace hx259_1 := (HB.out.cell (World.block_lt_of_cell? w _ hx259_1)).trans hx259_1
              replace hx259_2 := (HB.out.cell (World.block_lt_of_cell? w _ hx259_2)).trans hx259_2
              replace hx259_3 := (HB.out.cell (World.block_lt_of_cell? w _ hx259_3)).trans hx259_3
              replace p259 := eq_true p259
              replace q259 := eq_true q259
              go_wp2_with (first | ((with_reducible refine gate_dst (N := 8) rfl ?_); (try (refine gate_guard (by rfl) ?_; dsimp only)); refine box_event ?hg (N := 8) ?hd (cs := #[.int .i64 0, .int .i64 0, .int .i64 0, .int .i64 0]) (t := 57) ?hr ?_; (case hd => rfl); (case hg => rfl); (case hr => first | (go_simp; done) | (go_simp; rfl)); intro gb260 hg w39 hbox hb; have n0_ := Aside0.mk (Kd.R_below (rz HO_6.out) hb); have n1_ := Aside0.mk (kb BK255.out hb); have n2_ := Aside0.mk (below_step bz hb); have n3_ := Aside0.mk (hbox); have n4_ := Aside0.mk ((by rw [hg]; exact (below_size bz) : w.heap.size ≤ gb260)); have n5_ := Aside0.mk ((by rw [hg]; exact (below_size bz) : w.heap.size ≤ gb260)); have n6_ := Aside0.mk ((by rw [hg]; exact Nat.ne_of_lt (kl BK255.out) : gb255 ≠ gb260)); have n7_ := Aside0.mk ((by rw [hg]; exact Nat.ne_of_gt (kl BK255.out) : gb260 ≠ gb255)); clear HO_6; clear BK255; clear HB; have HO_6 := n0_; have BK255 := n1_; have HB := n2_; have BK260 := n3_; have GW260 := n4_; have GE260 := n5_; have NB255_260 := n6_; have NB260_255 := n7_; clear n0_ n1_ n2_ n3_ n4_ n5_ n6_ n7_; clear hb hbox hg; have hnb40 := NB260_255.out; have hnc40 := NB255_260.out; have hcz41_0 : w39.cell? ⟨gb260, 0, none⟩ = some (.int .i64 0) := (blk_cell BK260.out 0).trans rfl; have hcz41_1 : w39.cell? ⟨gb260, 1, none⟩ = some (.int .i64 0) := (blk_cell BK260.out 1).trans rfl; have hcz41_2 : w39.cell? ⟨gb260, 2, none⟩ = some (.int .i64 0) := (blk_cell BK260.out 2).trans rfl; have hcz41_3 : w39.cell? ⟨gb260, 3, none⟩ = some (.int .i64 0) := (blk_cell BK260.out 3).trans rfl; have hfz41_0 := blk_frozen BK260.out 0; have hfz41_1 := blk_frozen BK260.out 1; have hfz41_2 := blk_frozen BK260.out 2; have hfz41_3 := blk_frozen BK260.out 3; have hcz42_0 : w39.cell? ⟨gb255, 0, none⟩ = some (.slice A0_0 l0_0.length c0_0) := (blk_cell BK255.out 0).trans rfl; have hcz42_1 : w39.cell? ⟨gb255, 1, none⟩ = some (.slice A0_1 l0_1.length c0_1) := (blk_cell BK255.out 1).trans rfl; have hcz42_2 : w39.cell? ⟨gb255, 2, none⟩ = some (.slice A0_2 l0_2.length c0_2) := (blk_cell BK255.out 2).trans rfl; have hfz42_0 := blk_frozen BK255.out 0; have hfz42_1 := blk_frozen BK255.out 1; have hfz42_2 := blk_frozen BK255.out 2))
              go_ret
              exact ⟨by first | rfl | (simp [errW_none, errW_some] <;> rfl) | (simp [*, errW_none, errW_some] <;> rfl), by repeat (first | (with_reducible first | exact HB.out | apply below_alloc | apply pw_below_drewN | apply below_drew1 | refine below_set ?_ GE255.out | refine below_set ?_ GE260.out) | exact HB.out)⟩
             ·rw [if_neg c38] at H
              have c38b0 : decide ((l0_1.length : Int) ≤ ((rd_T57 l1 x7_2).f0)) = false := decide_eq_false c38
              clear c38
              by_cases c43 : ((rd_T57 l1 x7_2).f1) = 0
              ·rw [if_pos c43] at H
               have c43b0 : (((rd_T57 l1 x7_2).f1) == 0) = true := beq_iff_eq.mpr c43
               have c43b1 : (((rd_T57 l1 x7_2).f1) != 0) = false := bne_eq_false_iff_eq.mpr c43
               clear c43
               by_cases c44 : ((rd_T57 l1 x7_2).f2) ≤ x7_2
               ·rw [if_pos c44] at H
                have c44b0 : decide (((rd_T57 l1 x7_2).f2) ≤ x7_2) = true := decide_eq_true c44
                clear c44
                obtain rfl := Option.some.inj H
                have p259 : 0 ≤ (x7_2 : Int) := of_decide_eq_true az
                have q259 : x7_2 < (l1.length : Int) := of_decide_eq_true az
                obtain ⟨ad259, e259, hx259_0, hx259_1, hx259_2, hx259_3⟩ := at_T57 HR1.out x7_2 p259 q259
                cases e259
                replace hx259_0 := (HB.out.cell (World.block_lt_of_cell? w _ hx259_0)).trans hx259_0
                replace hx259_1 := (HB.out.cell (World.block_lt_of_cell? w _ hx259_1)).trans hx259_1
                replace hx259_2 := (HB.out.cell (World.block_lt_of_cell? w _ hx259_2)).trans hx259_2
                replace hx259_3 := (HB.out.cell (World.block_lt_of_cell? w _ hx259_3)).trans hx259_3
                replace p259 := eq_true p259
                replace q259 := eq_true q259
                go_wp2_with (first | ((with_reducible refine gate_dst (N := 8) rfl ?_); (try (refine gate_guard (by rfl) ?_; dsimp only)); refine box_event ?hg (N := 8) ?hd (cs := #[.int .i64 0, .int .i64 0, .int .i64 0, .int .i64 0]) (t := 57) ?hr ?_; (case hd => rfl); (case hg => rfl); (case hr => first | (go_simp; done) | (go_simp; rfl)); intro gb260 hg w45 hbox hb; have n0_ := Aside0.mk (Kd.R_below (rz HO_6.out) hb); have n1_ := Aside0.mk (kb BK255.out hb); have n2_ := Aside0.mk (below_step bz hb); have n3_ := Aside0.mk (hbox); have n4_ := Aside0.mk ((by rw [hg]; exact (below_size bz) : w.heap.size ≤ gb260)); have n5_ := Aside0.mk ((by rw [hg]; exact (below_size bz) : w.heap.size ≤ gb260)); have n6_ := Aside0.mk ((by rw [hg]; exact Nat.ne_of_lt (kl BK255.out) : gb255 ≠ gb260)); have n7_ := Aside0.mk ((by rw [hg]; exact Nat.ne_of_gt (kl BK255.out) : gb260 ≠ gb255)); clear HO_6; clear BK255; clear HB; have HO_6 := n0_; have BK255 := n1_; have HB := n2_; have BK260 := n3_; have GW260 := n4_; have GE260 := n5_; have NB255_260 := n6_; have NB260_255 := n7_; clear n0_ n1_ n2_ n3_ n4_ n5_ n6_ n7_; clear hb hbox hg; have hnb46 := NB260_255.out; have hnc46 := NB255_260.out; have hcz47_0 : w45.cell? ⟨gb260, 0, none⟩ = some (.int .i64 0) := (blk_cell BK260.out 0).trans rfl; have hcz47_1 : w45.cell? ⟨gb260, 1, none⟩ = some (.int .i64 0) := (blk_cell BK260.out 1).trans rfl; have hcz47_2 : w45.cell? ⟨gb260, 2, none⟩ = some (.int .i64 0) := (blk_cell BK260.out 2).trans rfl; have hcz47_3 : w45.cell? ⟨gb260, 3, none⟩ = some (.int .i64 0) := (blk_cell BK260.out 3).trans rfl; have hfz47_0 := blk_frozen BK260.out 0; have hfz47_1 := blk_frozen BK260.out 1; have hfz47_2 := blk_frozen BK260.out 2; have hfz47_3 := blk_frozen BK260.out 3; have hcz48_0 : w45.cell? ⟨gb255, 0, none⟩ = some (.slice A0_0 l0_0.length c0_0) := (blk_cell BK255.out 0).trans rfl; have hcz48_1 : w45.cell? ⟨gb255, 1, none⟩ = some (.slice A0_1 l0_1.length c0_1) := (blk_cell BK255.out 1).trans rfl; have hcz48_2 : w45.cell? ⟨gb255, 2, none⟩ = some (.slice A0_2 l0_2.length c0_2) := (blk_cell BK255.out 2).trans rfl; have hfz48_0 := blk_frozen BK255.out 0; have hfz48_1 := blk_frozen BK255.out 1; have hfz48_2 := blk_frozen BK255.out 2))
                go_ret
                exact ⟨by first | rfl | (simp [errW_none, errW_some] <;> rfl) | (simp [*, errW_none, errW_some] <;> rfl), by repeat (first | (with_reducible first | exact HB.out | apply below_alloc | apply pw_below_drewN | apply below_drew1 | refine below_set ?_ GE255.out | refine below_set ?_ GE260.out) | exact HB.out)⟩
               ·rw [if_neg c44] at H
                have c44b0 : decide (((rd_T57 l1 x7_2).f2) ≤ x7_2) = false := decide_eq_false c44
                clear c44
                by_cases c49 : ((rd_T57 l1 x7_2).f2) ≥ (l1.length : Int)
                ·rw [if_pos c49] at H
                 have c49b0 : decide ((l1.length : Int) ≤ ((rd_T57 l1 x7_2).f2)) = true := decide_eq_true c49
                 clear c49
                 obtain rfl := Option.some.inj H
                 have p259 : 0 ≤ (x7_2 : Int) := of_decide_eq_true az
                 have q259 : x7_2 < (l1.length : Int) := of_decide_eq_true az
                 obtain ⟨ad259, e259, hx259_0, hx259_1, hx259_2, hx259_3⟩ := at_T57 HR1.out x7_2 p259 q259
                 cases e259
                 replace hx259_0 := (HB.out.cell (World.block_lt_of_cell? w _ hx259_0)).trans hx259_0
                 replace hx259_1 := (HB.out.cell (World.block_lt_of_cell? w _ hx259_1)).trans hx259_1
                 replace hx259_2 := (HB.out.cell (World.block_lt_of_cell? w _ hx259_2)).trans hx259_2
                 replace hx259_3 := (HB.out.cell (World.block_lt_of_cell? w _ hx259_3)).trans hx259_3
                 replace p259 := eq_true p259
                 replace q259 := eq_true q259
                 go_wp2_with (first | ((with_reducible refine gate_dst (N := 8) rfl ?_); (try (refine gate_guard (by rfl) ?_; dsimp only)); refine box_event ?hg (N := 8) ?hd (cs := #[.int .i64 0, .int .i64 0, .int .i64 0, .int .i64 0]) (t := 57) ?hr ?_; (case hd => rfl); (case hg => rfl); (case hr => first | (go_simp; done) | (go_simp; rfl)); intro gb260 hg w50 hbox hb; have n0_ := Aside0.mk (Kd.R_below (rz HO_6.out) hb); have n1_ := Aside0.mk (kb BK255.out hb); have n2_ := Aside0.mk (below_step bz hb); have n3_ := Aside0.mk (hbox); have n4_ := Aside0.mk ((by rw [hg]; exact (below_size bz) : w.heap.size ≤ gb260)); have n5_ := Aside0.mk ((by rw [hg]; exact (below_size bz) : w.heap.size ≤ gb260)); have n6_ := Aside0.mk ((by rw [hg]; exact Nat.ne_of_lt (kl BK255.out) : gb255 ≠ gb260)); have n7_ := Aside0.mk ((by rw [hg]; exact Nat.ne_of_gt (kl BK255.out) : gb260 ≠ gb255)); clear HO_6; clear BK255; clear HB; have HO_6 := n0_; have BK255 := n1_; have HB := n2_; have BK260 := n3_; have GW260 := n4_; have GE260 := n5_; have NB255_260 := n6_; have NB260_255 := n7_; clear n0_ n1_ n2_ n3_ n4_ n5_ n6_ n7_; clear hb hbox hg; have hnb51 := NB260_255.out; have hnc51 := NB255_260.out; have hcz52_0 : w50.cell? ⟨gb260, 0, none⟩ = some (.int .i64 0) := (blk_cell BK260.out 0).trans rfl; have hcz52_1 : w50.cell? ⟨gb260, 1, none⟩ = some (.int .i64 0) := (blk_cell BK260.out 1).trans rfl; have hcz52_2 : w50.cell? ⟨gb260, 2, none⟩ = some (.int .i64 0) := (blk_cell BK260.out 2).trans rfl; have hcz52_3 : w50.cell? ⟨gb260, 3, none⟩ = some (.int .i64 0) := (blk_cell BK260.out 3).trans rfl; have hfz52_0 := blk_frozen BK260.out 0; have hfz52_1 := blk_frozen BK260.out 1; have hfz52_2 := blk_frozen BK260.out 2; have hfz52_3 := blk_frozen BK260.out 3; have hcz53_0 : w50.cell? ⟨gb255, 0, none⟩ = some (.slice A0_0 l0_0.length c0_0) := (blk_cell BK255.out 0).trans rfl; have hcz53_1 : w50.cell? ⟨gb255, 1, none⟩ = some (.slice A0_1 l0_1.length c0_1) := (blk_cell BK255.out 1).trans rfl; have hcz53_2 : w50.cell? ⟨gb255, 2, none⟩ = some (.slice A0_2 l0_2.length c0_2) := (blk_cell BK255.out 2).trans rfl; have hfz53_0 := blk_frozen BK255.out 0; have hfz53_1 := blk_frozen BK255.out 1; have hfz53_2 := blk_frozen BK255.out 2))
                 go_ret
                 exact ⟨by first | rfl | (simp [errW_none, errW_some] <;> rfl) | (simp [*, errW_none, errW_some] <;> rfl), by repeat (first | (with_reducible first | exact HB.out | apply below_alloc | apply pw_below_drewN | apply below_drew1 | refine below_set ?_ GE255.out | refine below_set ?_ GE260.out) | exact HB.out)⟩
                ·rw [if_neg c49] at H
                 have c49b0 : decide ((l1.length : Int) ≤ ((rd_T57 l1 x7_2).f2)) = false := decide_eq_false c49
                 clear c49
                 by_cases c54 : ((rd_T57 l1 x7_2).f3) ≤ x7_2
                 ·rw [if_pos c54] at H
                  have c54b0 : decide (((rd_T57 l1 x7_2).f3) ≤ x7_2) = true := decide_eq_true c54
                  clear c54
                  obtain rfl := Option.some.inj H
                  have p259 : 0 ≤ (x7_2 : Int) := of_decide_eq_true az
                  have q259 : x7_2 < (l1.length : Int) := of_decide_eq_true az
                  obtain ⟨ad259, e259, hx259_0, hx259_1, hx259_2, hx259_3⟩ := at_T57 HR1.out x7_2 p259 q259
                  cases e259
                  replace hx259_0 := (HB.out.cell (World.block_lt_of_cell? w _ hx259_0)).trans hx259_0
                  replace hx259_1 := (HB.out.cell (World.block_lt_of_cell? w _ hx259_1)).trans hx259_1
                  replace hx259_2 := (HB.out.cell (World.block_lt_of_cell? w _ hx259_2)).trans hx259_2
                  replace hx259_3 := (HB.out.cell (World.block_lt_of_cell? w _ hx259_3)).trans hx259_3
                  replace p259 := eq_true p259
                  replace q259 := eq_true q259
                  go_wp2_with (first | ((with_reducible refine gate_dst (N := 8) rfl ?_); (try (refine gate_guard (by rfl) ?_; dsimp only)); refine box_event ?hg (N := 8) ?hd (cs := #[.int .i64 0, .int .i64 0, .int .i64 0, .int .i64 0]) (t := 57) ?hr ?_; (case hd => rfl); (case hg => rfl); (case hr => first | (go_simp; done) | (go_simp; rfl)); intro gb260 hg w55 hbox hb; have n0_ := Aside0.mk (Kd.R_below (rz HO_6.out) hb); have n1_ := Aside0.mk (kb BK255.out hb); have n2_ := Aside0.mk (below_step bz hb); have n3_ := Aside0.mk (hbox); have n4_ := Aside0.mk ((by rw [hg]; exact (below_size bz) : w.heap.size ≤ gb260)); have n5_ := Aside0.mk ((by rw [hg]; exact (below_size bz) : w.heap.size ≤ gb260)); have n6_ := Aside0.mk ((by rw [hg]; exact Nat.ne_of_lt (kl BK255.out) : gb255 ≠ gb260)); have n7_ := Aside0.mk ((by rw [hg]; exact Nat.ne_of_gt (kl BK255.out) : gb260 ≠ gb255)); clear HO_6; clear BK255; clear HB; have HO_6 := n0_; have BK255 := n1_; have HB := n2_; have BK260 := n3_; have GW260 := n4_; have GE260 := n5_; have NB255_260 := n6_; have NB260_255 := n7_; clear n0_ n1_ n2_ n3_ n4_ n5_ n6_ n7_; clear hb hbox hg; have hnb56 := NB260_255.out; have hnc56 := NB255_260.out; have hcz57_0 : w55.cell? ⟨gb260, 0, none⟩ = some (.int .i64 0) := (blk_cell BK260.out 0).trans rfl; have hcz57_1 : w55.cell? ⟨gb260, 1, none⟩ = some (.int .i64 0) := (blk_cell BK260.out 1).trans rfl; have hcz57_2 : w55.cell? ⟨gb260, 2, none⟩ = some (.int .i64 0) := (blk_cell BK260.out 2).trans rfl; have hcz57_3 : w55.cell? ⟨gb260, 3, none⟩ = some (.int .i64 0) := (blk_cell BK260.out 3).trans rfl; have hfz57_0 := blk_frozen BK260.out 0; have hfz57_1 := blk_frozen BK260.out 1; have hfz57_2 := blk_frozen BK260.out 2; have hfz57_3 := blk_frozen BK260.out 3; have hcz58_0 : w55.cell? ⟨gb255, 0, none⟩ = some (.slice A0_0 l0_0.length c0_0) := (blk_cell BK255.out 0).trans rfl; have hcz58_1 : w55.cell? ⟨gb255, 1, none⟩ = some (.slice A0_1 l0_1.length c0_1) := (blk_cell BK255.out 1).trans rfl; have hcz58_2 : w55.cell? ⟨gb255, 2, none⟩ = some (.slice A0_2 l0_2.length c0_2) := (blk_cell BK255.out 2).trans rfl; have hfz58_0 := blk_frozen BK255.out 0; have hfz58_1 := blk_frozen BK255.out 1; have hfz58_2 := blk_frozen BK255.out 2))
                  go_ret
                  exact ⟨by first | rfl | (simp [errW_none, errW_some] <;> rfl) | (simp [*, errW_none, errW_some] <;> rfl), by repeat (first | (with_reducible first | exact HB.out | apply below_alloc | apply pw_below_drewN | apply below_drew1 | refine below_set ?_ GE255.out | refine below_set ?_ GE260.out) | exact HB.out)⟩
                 ·rw [if_neg c54] at H
                  have c54b0 : decide (((rd_T57 l1 x7_2).f3) ≤ x7_2) = false := decide_eq_false c54
                  clear c54
                  by_cases c59 : ((rd_T57 l1 x7_2).f3) ≥ (l1.length : Int)
                  ·rw [if_pos c59] at H
                   have c59b0 : decide ((l1.length : Int) ≤ ((rd_T57 l1 x7_2).f3)) = true := decide_eq_true c59
                   clear c59
                   obtain rfl := Option.some.inj H
                   have p259 : 0 ≤ (x7_2 : Int) := of_decide_eq_true az
                   have q259 : x7_2 < (l1.length : Int) := of_decide_eq_true az
                   obtain ⟨ad259, e259, hx259_0, hx259_1, hx259_2, hx259_3⟩ := at_T57 HR1.out x7_2 p259 q259
                   cases e259
                   replace hx259_0 := (HB.out.cell (World.block_lt_of_cell? w _ hx259_0)).trans hx259_0
                   replace hx259_1 := (HB.out.cell (World.block_lt_of_cell? w _ hx259_1)).trans hx259_1
                   replace hx259_2 := (HB.out.cell (World.block_lt_of_cell? w _ hx259_2)).trans hx259_2
                   replace hx259_3 := (HB.out.cell (World.block_lt_of_cell? w _ hx259_3)).trans hx259_3
                   replace p259 := eq_true p259
                   replace q259 := eq_true q259
                   go_wp2_with (first | ((with_reducible refine gate_dst (N := 8) rfl ?_); (try (refine gate_guard (by rfl) ?_; dsimp only)); refine box_event ?hg (N := 8) ?hd (cs := #[.int .i64 0, .int .i64 0, .int .i64 0, .int .i64 0]) (t := 57) ?hr ?_; (case hd => rfl); (case hg => rfl); (case hr => first | (go_simp; done) | (go_simp; rfl)); intro gb260 hg w60 hbox hb; have n0_ := Aside0.mk (Kd.R_below (rz HO_6.out) hb); have n1_ := Aside0.mk (kb BK255.out hb); have n2_ := Aside0.mk (below_step bz hb); have n3_ := Aside0.mk (hbox); have n4_ := Aside0.mk ((by rw [hg]; exact (below_size bz) : w.heap.size ≤ gb260)); have n5_ := Aside0.mk ((by rw [hg]; exact (below_size bz) : w.heap.size ≤ gb260)); have n6_ := Aside0.mk ((by rw [hg]; exact Nat.ne_of_lt (kl BK255.out) : gb255 ≠ gb260)); have n7_ := Aside0.mk ((by rw [hg]; exact Nat.ne_of_gt (kl BK255.out) : gb260 ≠ gb255)); clear HO_6; clear BK255; clear HB; have HO_6 := n0_; have BK255 := n1_; have HB := n2_; have BK260 := n3_; have GW260 := n4_; have GE260 := n5_; have NB255_260 := n6_; have NB260_255 := n7_; clear n0_ n1_ n2_ n3_ n4_ n5_ n6_ n7_; clear hb hbox hg; have hnb61 := NB260_255.out; have hnc61 := NB255_260.out; have hcz62_0 : w60.cell? ⟨gb260, 0, none⟩ = some (.int .i64 0) := (blk_cell BK260.out 0).trans rfl; have hcz62_1 : w60.cell? ⟨gb260, 1, none⟩ = some (.int .i64 0) := (blk_cell BK260.out 1).trans rfl; have hcz62_2 : w60.cell? ⟨gb260, 2, none⟩ = some (.int .i64 0) := (blk_cell BK260.out 2).trans rfl; have hcz62_3 : w60.cell? ⟨gb260, 3, none⟩ = some (.int .i64 0) := (blk_cell BK260.out 3).trans rfl; have hfz62_0 := blk_frozen BK260.out 0; have hfz62_1 := blk_frozen BK260.out 1; have hfz62_2 := blk_frozen BK260.out 2; have hfz62_3 := blk_frozen BK260.out 3; have hcz63_0 : w60.cell? ⟨gb255, 0, none⟩ = some (.slice A0_0 l0_0.length c0_0) := (blk_cell BK255.out 0).trans rfl; have hcz63_1 : w60.cell? ⟨gb255, 1, none⟩ = some (.slice A0_1 l0_1.length c0_1) := (blk_cell BK255.out 1).trans rfl; have hcz63_2 : w60.cell? ⟨gb255, 2, none⟩ = some (.slice A0_2 l0_2.length c0_2) := (blk_cell BK255.out 2).trans rfl; have hfz63_0 := blk_frozen BK255.out 0; have hfz63_1 := blk_frozen BK255.out 1; have hfz63_2 := blk_frozen BK255.out 2))
                   go_ret
                   exact ⟨by first | rfl | (simp [errW_none, errW_some] <;> rfl) | (simp [*, errW_none, errW_some] <;> rfl), by repeat (first | (with_reducible first | exact HB.out | apply below_alloc | apply pw_below_drewN | apply below_drew1 | refine below_set ?_ GE255.out | refine below_set ?_ GE260.out) | exact HB.out)⟩
                  ·rw [if_neg c59] at H
                   have c59b0 : decide ((l1.length : Int) ≤ ((rd_T57 l1 x7_2).f3)) = false := decide_eq_false c59
                   clear c59
                   by_cases c64 : 0 ≤ ((rd_T57 l1 x7_2).f2)
                   ·rw [if_pos c64] at H
                    have c64b0 : decide (0 ≤ ((rd_T57 l1 x7_2).f2)) = true := decide_eq_true c64
                    clear c64
                    by_cases c65 : ((rd_T57 l1 x7_2).f2) < (x6_2.length : Int)
                    ·rw [if_pos c65] at H
                     have c65b0 : decide (((rd_T57 l1 x7_2).f2) < (x6_2.length : Int)) = true := decide_eq_true c65
                     clear c65
                     obtain ⟨y262, hy262⟩ : ∃ y_ : List Int, y_ = (x6_2.set (((rd_T57 l1 x7_2).f2) : Int).toNat (wrap64 ((rd x6_2 ((rd_T57 l1 x7_2).f2)) + 1))) := ⟨_, rfl⟩
                     replace H : (if 0 ≤ ((rd_T57 l1 x7_2).f3) then (if ((rd_T57 l1 x7_2).f3) < (x6_2.length : Int) then (tickingref07_Plan.l0 k2 l1 (l1.length : Int) (y262.set (((rd_T57 l1 x7_2).f3) : Int).toNat (wrap64 ((rd y262 ((rd_T57 l1 x7_2).f3)) + 1))) (wrap64 (x7_2 + 1)) l0_0 l0_1 l0_2) else (none)) else (none)) = some r := by first | (rw [hy262]; with_reducible exact H) | (have H2_ := (Option.bind_some _ _).symm.trans H; rw [hy262]; with_reducible exact H2_) | (have H2_ := (Option.bind_some _ _).symm.trans H; with_reducible exact H2_) | with_reducible exact H | (rw [hy262]; exact H) | exact H
                     have Ny262 := Aside0.mk hy262
                     clear hy262
                     by_cases c67 : 0 ≤ ((rd_T57 l1 x7_2).f3)
                     ·rw [if_pos c67] at H
                      have c67b0 : decide (0 ≤ ((rd_T57 l1 x7_2).f3)) = true := decide_eq_true c67
                      clear c67
                      by_cases c68 : ((rd_T57 l1 x7_2).f3) < (x6_2.length : Int)
                      ·rw [if_pos c68] at H
                       have c68b0 : decide (((rd_T57 l1 x7_2).f3) < (x6_2.length : Int)) = true := decide_eq_true c68
                       clear c68
                       obtain ⟨y264, hy264⟩ : ∃ y_ : List Int, y_ = (y262.set (((rd_T57 l1 x7_2).f3) : Int).toNat (wrap64 ((rd y262 ((rd_T57 l1 x7_2).f3)) + 1))) := ⟨_, rfl⟩
                       replace H : (tickingref07_Plan.l0 k2 l1 (l1.length : Int) y264 (wrap64 (x7_2 + 1)) l0_0 l0_1 l0_2) = some r := by first | (rw [hy264]; with_reducible exact H) | (have H2_ := (Option.bind_some _ _).symm.trans H; rw [hy264]; with_reducible exact H2_) | (have H2_ := (Option.bind_some _ _).symm.trans H; with_reducible exact H2_) | with_reducible exact H | (rw [hy264]; exact H) | exact H
                       have Ny264 := Aside0.mk hy264
                       clear hy264
                       have H' := Aside0.mk H
                       clear H
                       have p259 : 0 ≤ (x7_2 : Int) := of_decide_eq_true az
                       have q259 : x7_2 < (l1.length : Int) := of_decide_eq_true az
                       obtain ⟨ad259, e259, hx259_0, hx259_1, hx259_2, hx259_3⟩ := at_T57 HR1.out x7_2 p259 q259
                       cases e259
                       replace hx259_0 := (HB.out.cell (World.block_lt_of_cell? w _ hx259_0)).trans hx259_0
                       replace hx259_1 := (HB.out.cell (World.block_lt_of_cell? w _ hx259_1)).trans hx259_1
                       replace hx259_2 := (HB.out.cell (World.block_lt_of_cell? w _ hx259_2)).trans hx259_2
                       replace hx259_3 := (HB.out.cell (World.block_lt_of_cell? w _ hx259_3)).trans hx259_3
                       replace p259 := eq_true p259
                       replace q259 := eq_true q259
                       try go_wp2_with (first | ((with_reducible refine gate_dst (N := 8) rfl ?_); (try (refine gate_guard (by rfl) ?_; dsimp only)); refine box_event ?hg (N := 8) ?hd (cs := #[.int .i64 0, .int .i64 0, .int .i64 0, .int .i64 0]) (t := 57) ?hr ?_; (case hd => rfl); (case hg => rfl); (case hr => first | (go_simp; done) | (go_simp; rfl)); intro gb260 hg w70 hbox hb; have n0_ := Aside0.mk (Kd.R_below (rz HO_6.out) hb); have n1_ := Aside0.mk (kb BK255.out hb); have n2_ := Aside0.mk (below_step bz hb); have n3_ := Aside0.mk (hbox); have n4_ := Aside0.mk ((by rw [hg]; exact (below_size bz) : w.heap.size ≤ gb260)); have n5_ := Aside0.mk ((by rw [hg]; exact (below_size bz) : w.heap.size ≤ gb260)); have n6_ := Aside0.mk ((by rw [hg]; exact Nat.ne_of_lt (kl BK255.out) : gb255 ≠ gb260)); have n7_ := Aside0.mk ((by rw [hg]; exact Nat.ne_of_gt (kl BK255.out) : gb260 ≠ gb255)); clear HO_6; clear BK255; clear HB; have HO_6 := n0_; have BK255 := n1_; have HB := n2_; have BK260 := n3_; have GW260 := n4_; have GE260 := n5_; have NB255_260 := n6_; have NB260_255 := n7_; clear n0_ n1_ n2_ n3_ n4_ n5_ n6_ n7_; clear hb hbox hg; have hnb71 := NB260_255.out; have hnc71 := NB255_260.out; have hcz72_0 : w70.cell? ⟨gb260, 0, none⟩ = some (.int .i64 0) := (blk_cell BK260.out 0).trans rfl; have hcz72_1 : w70.cell? ⟨gb260, 1, none⟩ = some (.int .i64 0) := (blk_cell BK260.out 1).trans rfl; have hcz72_2 : w70.cell? ⟨gb260, 2, none⟩ = some (.int .i64 0) := (blk_cell BK260.out 2).trans rfl; have hcz72_3 : w70.cell? ⟨gb260, 3, none⟩ = some (.int .i64 0) := (blk_cell BK260.out 3).trans rfl; have hfz72_0 := blk_frozen BK260.out 0; have hfz72_1 := blk_frozen BK260.out 1; have hfz72_2 := blk_frozen BK260.out 2; have hfz72_3 := blk_frozen BK260.out 3; have hcz73_0 : w70.cell? ⟨gb255, 0, none⟩ = some (.slice A0_0 l0_0.length c0_0) := (blk_cell BK255.out 0).trans rfl; have hcz73_1 : w70.cell? ⟨gb255, 1, none⟩ = some (.slice A0_1 l0_1.length c0_1) := (blk_cell BK255.out 1).trans rfl; have hcz73_2 : w70.cell? ⟨gb255, 2, none⟩ = some (.slice A0_2 l0_2.length c0_2) := (blk_cell BK255.out 2).trans rfl; have hfz73_0 := blk_frozen BK255.out 0; have hfz73_1 := blk_frozen BK255.out 1; have hfz73_2 := blk_frozen BK255.out 2))
                       have n0_ : Aside0 (Kd.R (Kd.int .i64) 3 ((((w70.setCell ⟨gb260, 0, none⟩ (.int .i64 ((rd_T57 l1 x7_2).f0))).setCell ⟨gb260, 1, none⟩ (.int .i64 ((rd_T57 l1 x7_2).f1))).setCell ⟨gb260, 2, none⟩ (.int .i64 ((rd_T57 l1 x7_2).f2))).setCell ⟨gb260, 3, none⟩ (.int .i64 ((rd_T57 l1 x7_2).f3))) w.heap.size (fun _ => True) v257 x6_2) := ⟨by (with_reducible repeat (first | apply Kd.R_alloc | apply Kd.R_drewN | apply Kd.R_drew)); exact Kd.R_mono (Kd.R_far (p := ⟨gb260, 3, none⟩) (Kd.R_far (p := ⟨gb260, 2, none⟩) (Kd.R_far (p := ⟨gb260, 1, none⟩) (Kd.R_far (p := ⟨gb260, 0, none⟩) (Kd.R_types HO_6.out BK260.out (by decide)) (fun _ hk => hk.2) (.int .i64 ((rd_T57 l1 x7_2).f0))) (fun _ hk => hk.2) (.int .i64 ((rd_T57 l1 x7_2).f1))) (fun _ hk => hk.2) (.int .i64 ((rd_T57 l1 x7_2).f2))) (fun _ hk => hk.2) (.int .i64 ((rd_T57 l1 x7_2).f3))) (fun _ hk => trivial)⟩
                       have n1_ : Aside0 (((((w70.setCell ⟨gb260, 0, none⟩ (.int .i64 ((rd_T57 l1 x7_2).f0))).setCell ⟨gb260, 1, none⟩ (.int .i64 ((rd_T57 l1 x7_2).f1))).setCell ⟨gb260, 2, none⟩ (.int .i64 ((rd_T57 l1 x7_2).f2))).setCell ⟨gb260, 3, none⟩ (.int .i64 ((rd_T57 l1 x7_2).f3))).heap[gb255]? = some (.cells #[.slice A0_0 l0_0.length c0_0, .slice A0_1 l0_1.length c0_1, .slice A0_2 l0_2.length c0_2] 25 (0, 0))) := ⟨by (with_reducible repeat (first | refine blk_drewN ?_ _ | refine blk_drew ?_ | refine blk_alloc ?_ _)); refine blk_far ?_ NB255_260.out _; (with_reducible repeat (first | refine blk_drewN ?_ _ | refine blk_drew ?_ | refine blk_alloc ?_ _)); refine blk_far ?_ NB255_260.out _; (with_reducible repeat (first | refine blk_drewN ?_ _ | refine blk_drew ?_ | refine blk_alloc ?_ _)); refine blk_far ?_ NB255_260.out _; (with_reducible repeat (first | refine blk_drewN ?_ _ | refine blk_drew ?_ | refine blk_alloc ?_ _)); refine blk_far ?_ NB255_260.out _; (with_reducible repeat (first | refine blk_drewN ?_ _ | refine blk_drew ?_ | refine blk_alloc ?_ _)); exact BK255.out⟩
                       have n2_ : Aside0 (((((w70.setCell ⟨gb260, 0, none⟩ (.int .i64 ((rd_T57 l1 x7_2).f0))).setCell ⟨gb260, 1, none⟩ (.int .i64 ((rd_T57 l1 x7_2).f1))).setCell ⟨gb260, 2, none⟩ (.int .i64 ((rd_T57 l1 x7_2).f2))).setCell ⟨gb260, 3, none⟩ (.int .i64 ((rd_T57 l1 x7_2).f3))).heap[gb260]? = some (.cells #[.int .i64 ((rd_T57 l1 x7_2).f0), .int .i64 ((rd_T57 l1 x7_2).f1), .int .i64 ((rd_T57 l1 x7_2).f2), .int .i64 ((rd_T57 l1 x7_2).f3)] 57 (0, 0))) := ⟨by (with_reducible repeat (first | refine blk_drewN ?_ _ | refine blk_drew ?_ | refine blk_alloc ?_ _)); refine blk_put (cs := #[.int .i64 ((rd_T57 l1 x7_2).f0), .int .i64 ((rd_T57 l1 x7_2).f1), .int .i64 ((rd_T57 l1 x7_2).f2), .int .i64 0]) ?_ 3 _ rfl; (with_reducible repeat (first | refine blk_drewN ?_ _ | refine blk_drew ?_ | refine blk_alloc ?_ _)); refine blk_put (cs := #[.int .i64 ((rd_T57 l1 x7_2).f0), .int .i64 ((rd_T57 l1 x7_2).f1), .int .i64 0, .int .i64 0]) ?_ 2 _ rfl; (with_reducible repeat (first | refine blk_drewN ?_ _ | refine blk_drew ?_ | refine blk_alloc ?_ _)); refine blk_put (cs := #[.int .i64 ((rd_T57 l1 x7_2).f0), .int .i64 0, .int .i64 0, .int .i64 0]) ?_ 1 _ rfl; (with_reducible repeat (first | refine blk_drewN ?_ _ | refine blk_drew ?_ | refine blk_alloc ?_ _)); refine blk_put (cs := #[.int .i64 0, .int .i64 0, .int .i64 0, .int .i64 0]) ?_ 0 _ rfl; (with_reducible repeat (first | refine blk_drewN ?_ _ | refine blk_drew ?_ | refine blk_alloc ?_ _)); exact BK260.out⟩
                       have n3_ : Aside0 (Below w.heap.size w ((((w70.setCell ⟨gb260, 0, none⟩ (.int .i64 ((rd_T57 l1 x7_2).f0))).setCell ⟨gb260, 1, none⟩ (.int .i64 ((rd_T57 l1 x7_2).f1))).setCell ⟨gb260, 2, none⟩ (.int .i64 ((rd_T57 l1 x7_2).f2))).setCell ⟨gb260, 3, none⟩ (.int .i64 ((rd_T57 l1 x7_2).f3)))) := ⟨by repeat (first | (with_reducible first | exact HB.out | apply below_alloc | apply pw_below_drewN | apply below_drew1 | refine below_set ?_ GE255.out | refine below_set ?_ GE260.out) | exact HB.out)⟩
                       (try clear HO_6)
                       (try clear BK255)
                       (try clear BK260)
                       (try clear HB)
                       generalize ((((w70.setCell ⟨gb260, 0, none⟩ (.int .i64 ((rd_T57 l1 x7_2).f0))).setCell ⟨gb260, 1, none⟩ (.int .i64 ((rd_T57 l1 x7_2).f1))).setCell ⟨gb260, 2, none⟩ (.int .i64 ((rd_T57 l1 x7_2).f2))).setCell ⟨gb260, 3, none⟩ (.int .i64 ((rd_T57 l1 x7_2).f3))) = w74 at n0_ n1_ n2_ n3_ ⊢
                       have HO_6 := n0_
                       have BK255 := n1_
                       have BK260 := n2_
                       have HB := n3_
                       clear n0_ n1_ n2_ n3_
                       have n0_ := Aside0.mk (Kd.R_drew HO_6.out)
                       have n1_ := Aside0.mk (blk_drew BK255.out)
                       have n2_ := Aside0.mk (blk_drew BK260.out)
                       have n3_ := Aside0.mk (below_drew1 HB.out)
                       clear HO_6
                       clear BK255
                       clear BK260
                       clear HB
                       have HO_6 := n0_
                       have BK255 := n1_
                       have BK260 := n2_
                       have HB := n3_
                       clear n0_ n1_ n2_ n3_
                       obtain ⟨Ao76, co76, eo76⟩ := Kd.R_slice HO_6.out
                       (first | subst eo76 | (injection eo76 with f1_ f2_ f3_; have f4_ := f1_.symm; have f5_ := f3_.symm; clear f1_ f2_ f3_; subst f4_; subst f5_))
                       have p261 : 0 ≤ (((rd_T57 l1 x7_2).f2) : Int) := of_decide_eq_true az
                       have q261 : ((rd_T57 l1 x7_2).f2) < (x6_2.length : Int) := of_decide_eq_true az
                       obtain ⟨ad261, e261, hx261_0⟩ := Kd.at_int (Kd.R_reads' HO_6.out).2.2 ((rd_T57 l1 x7_2).f2) p261 q261
                       cases e261
                       replace p261 := eq_true p261
                       replace q261 := eq_true q261
                       have p66 : 0 ≤ (((rd_T57 l1 x7_2).f2) : Int) := of_decide_eq_true az
                       have q66 : (((rd_T57 l1 x7_2).f2) : Int) < ((x6_2.length : Int) : Int) := of_decide_eq_true az
                       obtain ⟨go66, co66, eo66, gb66, gl66, cl66, HG66⟩ := Kd.R_form HO_6.out (by omega)
                       (first | cases eo66 | (injection eo66 with ea_ en_ ec_; (first | subst ea_ | (injection ea_ with ea_; subst ea_)); subst ec_; clear en_))
                       have GB66 := Aside0.mk gb66
                       have GG66 := Aside0.mk HG66
                       clear gb66 gl66 HG66
                       (first | simp only [add_plain] at hx261_0 | skip)
                       obtain ⟨hx66_0, hf66_0⟩ := Kd.R_celln 0 HO_6.out (((rd_T57 l1 x7_2).f2) : Int) p66 q66
                       replace p66 := eq_true p66
                       replace q66 := eq_true q66
                       have HP77 := Kd.R_putn HO_6.out (((rd_T57 l1 x7_2).f2) : Int) (wrap64 ((rd x6_2 ((rd_T57 l1 x7_2).f2)) + 1))
                       rw [← Ny262.out] at HP77
                       have HQ77 := Aside0.mk HP77
                       clear HP77
                       refine start_ (n := 11) (S := fun w' => w'.cell? ⟨gb260, 0, none⟩ = some (.int .i64 ((rd_T57 l1 x7_2).f0)) ∧ w'.cell? ⟨gb260, 1, none⟩ = some (.int .i64 ((rd_T57 l1 x7_2).f1)) ∧ w'.cell? ⟨gb260, 2, none⟩ = some (.int .i64 ((rd_T57 l1 x7_2).f2)) ∧ w'.cell? ⟨gb260, 3, none⟩ = some (.int .i64 ((rd_T57 l1 x7_2).f3)) ∧ w'.cell? ⟨go66, (((rd_T57 l1 x7_2).f2)).toNat, none⟩ = some (.int .i64 (rd x6_2 ((rd_T57 l1 x7_2).f2)))) (ds := [10]) #[false, false, false, false, false, false, false, false, false, false, false] (by kernel_rfl) rfl rfl ⟨(blk_cell BK260.out 0).trans rfl, (blk_cell BK260.out 1).trans rfl, (blk_cell BK260.out 2).trans rfl, (blk_cell BK260.out 3).trans rfl, hx261_0⟩ (fun hHeld => ?_); refine with_tabW tickingref07_Plan.tab14 tickingref07_Plan.bits14 (fun HT_ HW_ => ?_)
                       generalize w74.drew = w75 at HO_6 BK255 BK260 HB GG66 HQ77 hf66_0 hx261_0 hx66_0 hHeld ⊢
                       refine pure_ (i := 0) (N := some 93) (v := ?_) (a' := ?_) #[true, false, false, false, false, false, false, false, false, false, false] rfl rfl (any_of HT_.out (by kernel_rfl)) (fun _ _ _ h => h) (Or.inl ⟨by rfl, ?_⟩) ?_ ?_
                       rotate_left
                       ·intro w'
                        go_simp
                        with_reducible rfl
                       rotate_left
                       ·simp only [Act.put, List.setIfInBounds_toArray, List.set_cons_zero, List.set_cons_succ, i64_w, i32_w]
                        rfl
                       refine pure_ (i := 1) (N := some 94) (v := ?_) (a' := ?_) #[true, true, false, false, false, false, false, false, false, false, false] rfl rfl (any_of HT_.out (by kernel_rfl)) (fun _ _ _ h => h) (Or.inl ⟨by rfl, ?_⟩) ?_ ?_
                       rotate_left
                       ·intro w'
                        go_simp
                        with_reducible rfl
                       rotate_left
                       ·simp only [Act.put, List.setIfInBounds_toArray, List.set_cons_zero, List.set_cons_succ, i64_w, i32_w]
                        rfl
                       refine pure_ (i := 3) (N := some 96) (v := ?_) (a' := ?_) #[true, true, false, true, false, false, false, false, false, false, false] rfl rfl (any_of HT_.out (by kernel_rfl)) (fun _ _ _ h => h) (Or.inl ⟨by rfl, ?_⟩) ?_ ?_
                       rotate_left
                       ·intro w'
                        go_simp
                        with_reducible rfl
                       rotate_left
                       ·simp only [Act.put, List.setIfInBounds_toArray, List.set_cons_zero, List.set_cons_succ, i64_w, i32_w]
                        rfl
                       refine pure_ (i := 4) (N := some 97) (v := ?_) (a' := ?_) #[true, true, false, true, true, false, false, false, false, false, false] rfl rfl (any_of HT_.out (by kernel_rfl)) (fun _ _ _ h => h) (Or.inl ⟨by rfl, ?_⟩) ?_ ?_
                       rotate_left
                       ·intro w'
                        go_simp
                        with_reducible rfl
                       rotate_left
                       ·simp only [Act.put, List.setIfInBounds_toArray, List.set_cons_zero, List.set_cons_succ, i64_w, i32_w]
                        rfl
                       refine take_ (i := 2) (N := some 95) (v := ?_) (a' := ?_) #[true, true, true, true, true, false, false, false, false, false, false] rfl rfl (take_ofW HT_.out HW_.out (by kernel_rfl)) (fun _ _ _ h => h) (Or.inl ⟨by rfl, ?_⟩) hHeld ?_ ?_
                       rotate_left
                       ·rintro w' ⟨s0, s1, s2, s3, s4⟩
                        go_simp
                        with_reducible rfl
                       rotate_left
                       ·simp only [Act.put, List.setIfInBounds_toArray, List.set_cons_zero, List.set_cons_succ, i64_w, i32_w]
                        rfl
                       refine take_ (i := 5) (N := some 98) (v := ?_) (a' := ?_) #[true, true, true, true, true, true, false, false, false, false, false] rfl rfl (take_ofW HT_.out HW_.out (by kernel_rfl)) (fun _ _ _ h => h) (Or.inl ⟨by rfl, ?_⟩) hHeld ?_ ?_
                       rotate_left
                       ·rintro w' ⟨s0, s1, s2, s3, s4⟩
                        go_simp
                        with_reducible rfl
                       rotate_left
                       ·simp only [Act.put, List.setIfInBounds_toArray, List.set_cons_zero, List.set_cons_succ, i64_w, i32_w]
                        rfl
                       refine pure_ (i := 6) (N := some 99) (v := ?_) (a' := ?_) #[true, true, true, true, true, true, true, false, false, false, false] rfl rfl (any_of HT_.out (by kernel_rfl)) (fun _ _ _ h => h) (Or.inl ⟨by rfl, ?_⟩) ?_ ?_
                       rotate_left
                       ·intro w'
                        go_simp
                        with_reducible rfl
                       rotate_left
                       ·simp only [Act.put, List.setIfInBounds_toArray, List.set_cons_zero, List.set_cons_succ, i64_w, i32_w]
                        rfl
                       refine take_ (i := 7) (N := some 100) (v := ?_) (a' := ?_) #[true, true, true, true, true, true, true, true, false, false, false] rfl rfl (take_ofW HT_.out HW_.out (by kernel_rfl)) (fun _ _ _ h => h) (Or.inl ⟨by rfl, ?_⟩) hHeld ?_ ?_
                       rotate_left
                       ·rintro w' ⟨s0, s1, s2, s3, s4⟩
                        go_simp
                        with_reducible rfl
                       rotate_left
                       ·simp only [Act.put, List.setIfInBounds_toArray, List.set_cons_zero, List.set_cons_succ, i64_w, i32_w]
                        rfl
                       refine pure_ (i := 8) (N := some 101) (v := ?_) (a' := ?_) #[true, true, true, true, true, true, true, true, true, false, false] rfl rfl (any_of HT_.out (by kernel_rfl)) (fun _ _ _ h => h) (Or.inl ⟨by rfl, ?_⟩) ?_ ?_
                       rotate_left
                       ·intro w'
                        go_simp
                        with_reducible rfl
                       rotate_left
                       ·simp only [Act.put, List.setIfInBounds_toArray, List.set_cons_zero, List.set_cons_succ, i64_w, i32_w]
                        rfl
                       refine pure_ (i := 9) (N := some 102) (v := ?_) (a' := ?_) #[true, true, true, true, true, true, true, true, true, true, false] rfl rfl (any_of HT_.out (by kernel_rfl)) (fun _ _ _ h => h) (Or.inl ⟨by rfl, ?_⟩) ?_ ?_
                       rotate_left
                       ·intro w'
                        go_simp
                        with_reducible rfl
                       rotate_left
                       ·simp only [Act.put, List.setIfInBounds_toArray, List.set_cons_zero, List.set_cons_succ, i64_w, i32_w]
                        rfl
                       refine last_ (i := 10) (N := none) #[true, true, true, true, true, true, true, true, true, true, true] rfl rfl (one_of HT_.out (by kernel_rfl)) (by decide) (fun K hK => ?_)
                       refine skip_ (w1 := ?_) (by rfl) rfl ?_ ?_
                       rotate_left
                       ·go_simp
                        rfl
                       refine hK.out _ _ ?_
                       clear hK K
                       refine done_ (done_of HT_.out (by kernel_rfl)) ?_
                       try go_wp2
                       have n0_ : Aside0 (Kd.R (Kd.int .i64) 3 (w75.setCell ⟨go66, (((rd_T57 l1 x7_2).f2) : Int).toNat, none⟩ (.int .i64 (wrap64 ((rd x6_2 ((rd_T57 l1 x7_2).f2)) + 1)))) w.heap.size (fun _ => True) (.slice (some ⟨go66, 0, none⟩) x6_2.length co76) y262) := ⟨by (with_reducible repeat (first | apply Kd.R_alloc | apply Kd.R_drewN | apply Kd.R_drew)); exact HQ77.out⟩
                       have n1_ : Aside0 ((w75.setCell ⟨go66, (((rd_T57 l1 x7_2).f2) : Int).toNat, none⟩ (.int .i64 (wrap64 ((rd x6_2 ((rd_T57 l1 x7_2).f2)) + 1)))).heap[gb255]? = some (.cells #[.slice A0_0 l0_0.length c0_0, .slice A0_1 l0_1.length c0_1, .slice A0_2 l0_2.length c0_2] 25 (0, 0))) := ⟨by (with_reducible repeat (first | refine blk_drewN ?_ _ | refine blk_drew ?_ | refine blk_alloc ?_ _)); refine blk_far ?_ (by have h_ := Kd.R_ne HO_6.out BK255.out (by decide); intro e_; exact h_ (by rw [e_]; rfl)) _; (with_reducible repeat (first | refine blk_drewN ?_ _ | refine blk_drew ?_ | refine blk_alloc ?_ _)); exact BK255.out⟩
                       have n2_ : Aside0 ((w75.setCell ⟨go66, (((rd_T57 l1 x7_2).f2) : Int).toNat, none⟩ (.int .i64 (wrap64 ((rd x6_2 ((rd_T57 l1 x7_2).f2)) + 1)))).heap[gb260]? = some (.cells #[.int .i64 ((rd_T57 l1 x7_2).f0), .int .i64 ((rd_T57 l1 x7_2).f1), .int .i64 ((rd_T57 l1 x7_2).f2), .int .i64 ((rd_T57 l1 x7_2).f3)] 57 (0, 0))) := ⟨by (with_reducible repeat (first | refine blk_drewN ?_ _ | refine blk_drew ?_ | refine blk_alloc ?_ _)); refine blk_far ?_ (by have h_ := Kd.R_ne HO_6.out BK260.out (by decide); intro e_; exact h_ (by rw [e_]; rfl)) _; (with_reducible repeat (first | refine blk_drewN ?_ _ | refine blk_drew ?_ | refine blk_alloc ?_ _)); exact BK260.out⟩
                       have n3_ : Aside0 (Below w.heap.size w (w75.setCell ⟨go66, (((rd_T57 l1 x7_2).f2) : Int).toNat, none⟩ (.int .i64 (wrap64 ((rd x6_2 ((rd_T57 l1 x7_2).f2)) + 1))))) := ⟨by repeat (first | (with_reducible first | exact HB.out | apply below_alloc | apply pw_below_drewN | apply below_drew1 | refine below_set ?_ GB66.out | refine below_set ?_ GE255.out | refine below_set ?_ GE260.out) | exact HB.out)⟩
                       (try clear HO_6)
                       (try clear BK255)
                       (try clear BK260)
                       (try clear HB)
                       generalize (w75.setCell ⟨go66, (((rd_T57 l1 x7_2).f2) : Int).toNat, none⟩ (.int .i64 (wrap64 ((rd x6_2 ((rd_T57 l1 x7_2).f2)) + 1)))) = w78 at n0_ n1_ n2_ n3_ ⊢
                       have HO_6 := n0_
                       have BK255 := n1_
                       have BK260 := n2_
                       have HB := n3_
                       clear n0_ n1_ n2_ n3_
                       have n0_ := Aside0.mk (Kd.R_drew HO_6.out)
                       have n1_ := Aside0.mk (blk_drew BK255.out)
                       have n2_ := Aside0.mk (blk_drew BK260.out)
                       have n3_ := Aside0.mk (below_drew1 HB.out)
                       clear HO_6
                       clear BK255
                       clear BK260
                       clear HB
                       have HO_6 := n0_
                       have BK255 := n1_
                       have BK260 := n2_
                       have HB := n3_
                       clear n0_ n1_ n2_ n3_
                       have p263 : 0 ≤ (((rd_T57 l1 x7_2).f3) : Int) := of_decide_eq_true az
                       have q263 : ((rd_T57 l1 x7_2).f3) < (y262.length : Int) := (by have h_ : (((rd_T57 l1 x7_2).f3) : Int) < ((x6_2.length : Int) : Int) := of_decide_eq_true az; first | (have e_ := (Kd.R_reads' HO_6.out).1; omega) | simpa only [Ny262.out, List.length_set] using h_)
                       have ql263 : ((((rd_T57 l1 x7_2).f3) : Int) < ((x6_2.length : Int) : Int)) = True := eq_true (of_decide_eq_true az)
                       obtain ⟨ad263, e263, hx263_0⟩ := Kd.at_int (Kd.R_reads' HO_6.out).2.2 ((rd_T57 l1 x7_2).f3) p263 q263
                       obtain rfl : (⟨go66, 0, none⟩ : Addr) = ad263 := (by injection e263)
                       (first | simp only [add_plain] at hx263_0 | simp only [add_at] at hx263_0 | simp only [Addr.add, Nat.zero_add] at hx263_0 | skip)
                       replace p263 := eq_true p263
                       replace q263 := eq_true q263
                       have p69 : 0 ≤ (((rd_T57 l1 x7_2).f3) : Int) := of_decide_eq_true az
                       have q69 : (((rd_T57 l1 x7_2).f3) : Int) < ((x6_2.length : Int) : Int) := of_decide_eq_true az
                       obtain ⟨hx69_0, hf69_0⟩ := Kd.R_celln 0 HO_6.out (((rd_T57 l1 x7_2).f3) : Int) p69 q69
                       replace p69 := eq_true p69
                       replace q69 := eq_true q69
                       have HP80 := Kd.R_putn HO_6.out (((rd_T57 l1 x7_2).f3) : Int) (wrap64 ((rd y262 ((rd_T57 l1 x7_2).f3)) + 1))
                       rw [← Ny264.out] at HP80
                       have HQ80 := Aside0.mk HP80
                       clear HP80
                       refine start_ (n := 11) (S := fun w' => w'.cell? ⟨gb260, 0, none⟩ = some (.int .i64 ((rd_T57 l1 x7_2).f0)) ∧ w'.cell? ⟨gb260, 1, none⟩ = some (.int .i64 ((rd_T57 l1 x7_2).f1)) ∧ w'.cell? ⟨gb260, 2, none⟩ = some (.int .i64 ((rd_T57 l1 x7_2).f2)) ∧ w'.cell? ⟨gb260, 3, none⟩ = some (.int .i64 ((rd_T57 l1 x7_2).f3)) ∧ w'.cell? ⟨go66, (((rd_T57 l1 x7_2).f3)).toNat, none⟩ = some (.int .i64 (rd y262 ((rd_T57 l1 x7_2).f3)))) (ds := [10]) #[false, false, false, false, false, false, false, false, false, false, false] (by kernel_rfl) rfl rfl ⟨(blk_cell BK260.out 0).trans rfl, (blk_cell BK260.out 1).trans rfl, (blk_cell BK260.out 2).trans rfl, (blk_cell BK260.out 3).trans rfl, hx263_0⟩ (fun hHeld => ?_); refine with_tabW tickingref07_Plan.tab15 tickingref07_Plan.bits15 (fun HT_ HW_ => ?_)
                       generalize w78.drew = w79 at HO_6 BK255 BK260 HB HQ77 HQ80 hf69_0 hx263_0 hx69_0 hHeld ⊢
                       refine pure_ (i := 0) (N := some 103) (v := ?_) (a' := ?_) #[true, false, false, false, false, false, false, false, false, false, false] rfl rfl (any_of HT_.out (by kernel_rfl)) (fun _ _ _ h => h) (Or.inl ⟨by rfl, ?_⟩) ?_ ?_
                       rotate_left
                       ·intro w'
                        go_simp
                        with_reducible rfl
                       rotate_left
                       ·simp only [Act.put, List.setIfInBounds_toArray, List.set_cons_zero, List.set_cons_succ, i64_w, i32_w]
                        rfl
                       refine pure_ (i := 1) (N := some 104) (v := ?_) (a' := ?_) #[true, true, false, false, false, false, false, false, false, false, false] rfl rfl (any_of HT_.out (by kernel_rfl)) (fun _ _ _ h => h) (Or.inl ⟨by rfl, ?_⟩) ?_ ?_
                       rotate_left
                       ·intro w'
                        go_simp
                        with_reducible rfl
                       rotate_left
                       ·simp only [Act.put, List.setIfInBounds_toArray, List.set_cons_zero, List.set_cons_succ, i64_w, i32_w]
                        rfl
                       refine pure_ (i := 3) (N := some 106) (v := ?_) (a' := ?_) #[true, true, false, true, false, false, false, false, false, false, false] rfl rfl (any_of HT_.out (by kernel_rfl)) (fun _ _ _ h => h) (Or.inl ⟨by rfl, ?_⟩) ?_ ?_
                       rotate_left
                       ·intro w'
                        go_simp
                        with_reducible rfl
                       rotate_left
                       ·simp only [Act.put, List.setIfInBounds_toArray, List.set_cons_zero, List.set_cons_succ, i64_w, i32_w]
                        rfl
                       refine pure_ (i := 4) (N := some 107) (v := ?_) (a' := ?_) #[true, true, false, true, true, false, false, false, false, false, false] rfl rfl (any_of HT_.out (by kernel_rfl)) (fun _ _ _ h => h) (Or.inl ⟨by rfl, ?_⟩) ?_ ?_
                       rotate_left
                       ·intro w'
                        go_simp
                        with_reducible rfl
                       rotate_left
                       ·simp only [Act.put, List.setIfInBounds_toArray, List.set_cons_zero, List.set_cons_succ, i64_w, i32_w]
                        rfl
                       refine take_ (i := 2) (N := some 105) (v := ?_) (a' := ?_) #[true, true, true, true, true, false, false, false, false, false, false] rfl rfl (take_ofW HT_.out HW_.out (by kernel_rfl)) (fun _ _ _ h => h) (Or.inl ⟨by rfl, ?_⟩) hHeld ?_ ?_
                       rotate_left
                       ·rintro w' ⟨s0, s1, s2, s3, s4⟩
                        go_simp
                        with_reducible rfl
                       rotate_left
                       ·simp only [Act.put, List.setIfInBounds_toArray, List.set_cons_zero, List.set_cons_succ, i64_w, i32_w]
                        rfl
                       refine take_ (i := 5) (N := some 108) (v := ?_) (a' := ?_) #[true, true, true, true, true, true, false, false, false, false, false] rfl rfl (take_ofW HT_.out HW_.out (by kernel_rfl)) (fun _ _ _ h => h) (Or.inl ⟨by rfl, ?_⟩) hHeld ?_ ?_
                       rotate_left
                       ·rintro w' ⟨s0, s1, s2, s3, s4⟩
                        go_simp
                        with_reducible rfl
                       rotate_left
                       ·simp only [Act.put, List.setIfInBounds_toArray, List.set_cons_zero, List.set_cons_succ, i64_w, i32_w]
                        rfl
                       refine pure_ (i := 6) (N := some 109) (v := ?_) (a' := ?_) #[true, true, true, true, true, true, true, false, false, false, false] rfl rfl (any_of HT_.out (by kernel_rfl)) (fun _ _ _ h => h) (Or.inl ⟨by rfl, ?_⟩) ?_ ?_
                       rotate_left
                       ·intro w'
                        go_simp
                        with_reducible rfl
                       rotate_left
                       ·simp only [Act.put, List.setIfInBounds_toArray, List.set_cons_zero, List.set_cons_succ, i64_w, i32_w]
                        rfl
                       refine take_ (i := 7) (N := some 110) (v := ?_) (a' := ?_) #[true, true, true, true, true, true, true, true, false, false, false] rfl rfl (take_ofW HT_.out HW_.out (by kernel_rfl)) (fun _ _ _ h => h) (Or.inl ⟨by rfl, ?_⟩) hHeld ?_ ?_
                       rotate_left
                       ·rintro w' ⟨s0, s1, s2, s3, s4⟩
                        go_simp
                        with_reducible rfl
                       rotate_left
                       ·simp only [Act.put, List.setIfInBounds_toArray, List.set_cons_zero, List.set_cons_succ, i64_w, i32_w]
                        rfl
                       refine pure_ (i := 8) (N := some 111) (v := ?_) (a' := ?_) #[true, true, true, true, true, true, true, true, true, false, false] rfl rfl (any_of HT_.out (by kernel_rfl)) (fun _ _ _ h => h) (Or.inl ⟨by rfl, ?_⟩) ?_ ?_
                       rotate_left
                       ·intro w'
                        go_simp
                        with_reducible rfl
                       rotate_left
                       ·simp only [Act.put, List.setIfInBounds_toArray, List.set_cons_zero, List.set_cons_succ, i64_w, i32_w]
                        rfl
                       refine pure_ (i := 9) (N := some 112) (v := ?_) (a' := ?_) #[true, true, true, true, true, true, true, true, true, true, false] rfl rfl (any_of HT_.out (by kernel_rfl)) (fun _ _ _ h => h) (Or.inl ⟨by rfl, ?_⟩) ?_ ?_
                       rotate_left
                       ·intro w'
                        go_simp
                        with_reducible rfl
                       rotate_left
                       ·simp only [Act.put, List.setIfInBounds_toArray, List.set_cons_zero, List.set_cons_succ, i64_w, i32_w]
                        rfl
                       refine last_ (i := 10) (N := none) #[true, true, true, true, true, true, true, true, true, true, true] rfl rfl (one_of HT_.out (by kernel_rfl)) (by decide) (fun K hK => ?_)
                       refine skip_ (w1 := ?_) (by rfl) rfl ?_ ?_
                       rotate_left
                       ·go_simp
                        rfl
                       refine hK.out _ _ ?_
                       clear hK K
                       refine done_ (done_of HT_.out (by kernel_rfl)) ?_
                       try go_wp2
                       go_roundg k2
                       case measure => have := HJ2.out; have := HK2.out; omega
                       case rel => exact ⟨(y264), (wrap64 (x7_2 + 1)), (by first | rfl | (simp; done) | (simp [*]; done)), H', ⟨by have := HJ2.out; have := HK2.out; omega⟩, ⟨by (with_reducible repeat (first | apply Kd.R_alloc | apply Kd.R_drewN | apply Kd.R_drew)); exact HQ80.out⟩, ⟨by (with_reducible repeat (first | refine blk_drewN ?_ _ | refine blk_drew ?_ | refine blk_alloc ?_ _)); refine blk_far ?_ (by have h_ := Kd.R_ne HO_6.out BK255.out (by decide); intro e_; exact h_ (by rw [e_]; rfl)) _; (with_reducible repeat (first | refine blk_drewN ?_ _ | refine blk_drew ?_ | refine blk_alloc ?_ _)); exact BK255.out⟩, ⟨by repeat (first | (with_reducible first | exact HB.out | apply below_alloc | apply pw_below_drewN | apply below_drew1 | refine below_set ?_ GB66.out | refine below_set ?_ GE255.out | refine below_set ?_ GE260.out) | exact HB.out)⟩⟩
                      ·rw [if_neg c68] at H
                       exact absurd H (by simp)
                     ·rw [if_neg c67] at H
                      exact absurd H (by simp)
                    ·rw [if_neg c65] at H
                     exact absurd H (by simp)
                   ·rw [if_neg c64] at H
                    exact absurd H (by simp)
              ·rw [if_neg c43] at H
               have c43b0 : (((rd_T57 l1 x7_2).f1) == 0) = false := beq_eq_false_iff_ne.mpr c43
               have c43b1 : (((rd_T57 l1 x7_2).f1) != 0) = true := bne_iff_ne.mpr c43
               obtain rfl := Option.some.inj H
               have p259 : 0 ≤ (x7_2 : Int) := of_decide_eq_true az
               have q259 : x7_2 < (l1.length : Int) := of_decide_eq_true az
               obtain ⟨ad259, e259, hx259_0, hx259_1, hx259_2, hx259_3⟩ := at_T57 HR1.out x7_2 p259 q259
               cases e259
               replace hx259_0 := (HB.out.cell (World.block_lt_of_cell? w _ hx259_0)).trans hx259_0
               replace hx259_1 := (HB.out.cell (World.block_lt_of_cell? w _ hx259_1)).trans hx259_1
               replace hx259_2 := (HB.out.cell (World.block_lt_of_cell? w _ hx259_2)).trans hx259_2
               replace hx259_3 := (HB.out.cell (World.block_lt_of_cell? w _ hx259_3)).trans hx259_3
               replace p259 := eq_true p259
               replace q259 := eq_true q259
               go_wp2_with (first | ((with_reducible refine gate_dst (N := 8) rfl ?_); (try (refine gate_guard (by rfl) ?_; dsimp only)); refine box_event ?hg (N := 8) ?hd (cs := #[.int .i64 0, .int .i64 0, .int .i64 0, .int .i64 0]) (t := 57) ?hr ?_; (case hd => rfl); (case hg => rfl); (case hr => first | (go_simp; done) | (go_simp; rfl)); intro gb260 hg w81 hbox hb; have n0_ := Aside0.mk (Kd.R_below (rz HO_6.out) hb); have n1_ := Aside0.mk (kb BK255.out hb); have n2_ := Aside0.mk (below_step bz hb); have n3_ := Aside0.mk (hbox); have n4_ := Aside0.mk ((by rw [hg]; exact (below_size bz) : w.heap.size ≤ gb260)); have n5_ := Aside0.mk ((by rw [hg]; exact (below_size bz) : w.heap.size ≤ gb260)); have n6_ := Aside0.mk ((by rw [hg]; exact Nat.ne_of_lt (kl BK255.out) : gb255 ≠ gb260)); have n7_ := Aside0.mk ((by rw [hg]; exact Nat.ne_of_gt (kl BK255.out) : gb260 ≠ gb255)); clear HO_6; clear BK255; clear HB; have HO_6 := n0_; have BK255 := n1_; have HB := n2_; have BK260 := n3_; have GW260 := n4_; have GE260 := n5_; have NB255_260 := n6_; have NB260_255 := n7_; clear n0_ n1_ n2_ n3_ n4_ n5_ n6_ n7_; clear hb hbox hg; have hnb82 := NB260_255.out; have hnc82 := NB255_260.out; have hcz83_0 : w81.cell? ⟨gb260, 0, none⟩ = some (.int .i64 0) := (blk_cell BK260.out 0).trans rfl; have hcz83_1 : w81.cell? ⟨gb260, 1, none⟩ = some (.int .i64 0) := (blk_cell BK260.out 1).trans rfl; have hcz83_2 : w81.cell? ⟨gb260, 2, none⟩ = some (.int .i64 0) := (blk_cell BK260.out 2).trans rfl; have hcz83_3 : w81.cell? ⟨gb260, 3, none⟩ = some (.int .i64 0) := (blk_cell BK260.out 3).trans rfl; have hfz83_0 := blk_frozen BK260.out 0; have hfz83_1 := blk_frozen BK260.out 1; have hfz83_2 := blk_frozen BK260.out 2; have hfz83_3 := blk_frozen BK260.out 3; have hcz84_0 : w81.cell? ⟨gb255, 0, none⟩ = some (.slice A0_0 l0_0.length c0_0) := (blk_cell BK255.out 0).trans rfl; have hcz84_1 : w81.cell? ⟨gb255, 1, none⟩ = some (.slice A0_1 l0_1.length c0_1) := (blk_cell BK255.out 1).trans rfl; have hcz84_2 : w81.cell? ⟨gb255, 2, none⟩ = some (.slice A0_2 l0_2.length c0_2) := (blk_cell BK255.out 2).trans rfl; have hfz84_0 := blk_frozen BK255.out 0; have hfz84_1 := blk_frozen BK255.out 1; have hfz84_2 := blk_frozen BK255.out 2))
               go_ret
               exact ⟨by first | rfl | (simp [errW_none, errW_some] <;> rfl) | (simp [*, errW_none, errW_some] <;> rfl), by repeat (first | (with_reducible first | exact HB.out | apply below_alloc | apply pw_below_drewN | apply below_drew1 | refine below_set ?_ GE255.out | refine below_set ?_ GE260.out) | exact HB.out)⟩
          ·rw [if_neg c13] at H
           exact absurd H (by simp)
         ·rw [if_neg c12] at H
          exact absurd H (by simp)
        ·rw [if_neg c11] at H
         have c11b0 : decide (x7_2 < (l1.length : Int)) = false := decide_eq_false c11
         clear c11
         have H' := Aside0.mk H
         clear H
         go_wp2
         go_loopg [9] k2 (fun kq v9 w' => ∃ (x9_3 : Int), v9 = .int .i64 x9_3 ∧ Aside0 (tickingref07_Plan.l1 kq (l1.length : Int) x6_2 x9_3 = some r) ∧ Aside0 (kq ≤ k2) ∧ Aside0 (Kd.R (Kd.int .i64) 3 w' w.heap.size (fun _ => True) v257 x6_2) ∧ Aside0 (w'.heap[gb255]? = some (.cells #[(.slice A0_0 l0_0.length c0_0), (.slice A0_1 l0_1.length c0_1), (.slice A0_2 l0_2.length c0_2)] 25 (0, 0))) ∧ Aside0 (Below w.heap.size w w'))
         case atStart => exact ⟨(1), (by first | rfl | (simp; done) | (simp [*]; done)), H', ⟨Nat.le_refl _⟩, ⟨by (with_reducible repeat (first | apply Kd.R_alloc | apply Kd.R_drewN | apply Kd.R_drew)); exact HO_6.out⟩, ⟨by (with_reducible repeat (first | refine blk_drewN ?_ _ | refine blk_drew ?_ | refine blk_alloc ?_ _)); exact BK255.out⟩, ⟨by repeat (first | (with_reducible first | exact HB.out | apply below_alloc | apply pw_below_drewN | apply below_drew1 | refine below_set ?_ GE255.out) | exact HB.out)⟩⟩
         case round =>
          clear H'
          try clear c1
          try clear c2
          try clear p2
          try clear q2
          try clear hx2
          try clear c3
          try clear c4
          try clear c5
          try clear c6
          try clear p6
          try clear q6
          try clear hx6
          try clear hf6
          try clear c7
          try clear c8
          try clear c11
          try clear c11b0
          try clear c12
          try clear c13
          try clear c14
          try clear c14b0
          try clear c14b1
          try clear c17
          try clear c19
          try clear c19b0
          try clear c20
          try clear c22
          try clear c22b0
          try clear c23
          try clear p25
          try clear q25
          try clear hx25
          try clear c26
          try clear c26b0
          try clear c26b1
          try clear p26
          try clear q26
          try clear hx26
          try clear c27
          try clear c30
          try clear c33
          try clear c34
          try clear c34b0
          try clear c36
          try clear c38
          try clear c38b0
          try clear c40
          try clear c43
          try clear c43b0
          try clear c43b1
          try clear c44
          try clear c44b0
          try clear c46
          try clear c49
          try clear c49b0
          try clear c51
          try clear c54
          try clear c54b0
          try clear c56
          try clear c59
          try clear c59b0
          try clear c61
          try clear c64
          try clear c64b0
          try clear p64
          try clear c65
          try clear c65b0
          try clear p66
          try clear q66
          try clear hx66
          try clear hf66
          try clear c67
          try clear c67b0
          try clear c68
          try clear c68b0
          try clear p69
          try clear q69
          try clear hx69
          try clear hf69
          try clear c71
          try clear c82
          try clear hcz18_0
          try clear hcz18_1
          try clear hcz18_2
          try clear hcz18_3
          try clear hcz21_0
          try clear hcz21_1
          try clear hcz21_2
          try clear hcz21_3
          try clear hcz24_0
          try clear hcz24_1
          try clear hcz24_2
          try clear hcz24_3
          try clear hcz25_0
          try clear hcz25_1
          try clear hcz25_2
          try clear hcz28_0
          try clear hcz28_1
          try clear hcz28_2
          try clear hcz28_3
          try clear hcz29_0
          try clear hcz29_1
          try clear hcz29_2
          try clear hcz31_0
          try clear hcz31_1
          try clear hcz31_2
          try clear hcz31_3
          try clear hcz32_0
          try clear hcz32_1
          try clear hcz32_2
          try clear hcz37_0
          try clear hcz37_1
          try clear hcz37_2
          try clear hcz37_3
          try clear hcz41_0
          try clear hcz41_1
          try clear hcz41_2
          try clear hcz41_3
          try clear hcz42_0
          try clear hcz42_1
          try clear hcz42_2
          try clear hcz47_0
          try clear hcz47_1
          try clear hcz47_2
          try clear hcz47_3
          try clear hcz48_0
          try clear hcz48_1
          try clear hcz48_2
          try clear hcz52_0
          try clear hcz52_1
          try clear hcz52_2
          try clear hcz52_3
          try clear hcz53_0
          try clear hcz53_1
          try clear hcz53_2
          try clear hcz57_0
          try clear hcz57_1
          try clear hcz57_2
          try clear hcz57_3
          try clear hcz58_0
          try clear hcz58_1
          try clear hcz58_2
          try clear hcz62_0
          try clear hcz62_1
          try clear hcz62_2
          try clear hcz62_3
          try clear hcz63_0
          try clear hcz63_1
          try clear hcz63_2
          try clear hcz72_0
          try clear hcz72_1
          try clear hcz72_2
          try clear hcz72_3
          try clear hcz73_0
          try clear hcz73_1
          try clear hcz73_2
          try clear hcz83_0
          try clear hcz83_1
          try clear hcz83_2
          try clear hcz83_3
          try clear hcz84_0
          try clear hcz84_1
          try clear hcz84_2
          try clear hfz18_0
          try clear hfz18_1
          try clear hfz18_2
          try clear hfz18_3
          try clear hfz21_0
          try clear hfz21_1
          try clear hfz21_2
          try clear hfz21_3
          try clear hfz24_0
          try clear hfz24_1
          try clear hfz24_2
          try clear hfz24_3
          try clear hfz25_0
          try clear hfz25_1
          try clear hfz25_2
          try clear hfz28_0
          try clear hfz28_1
          try clear hfz28_2
          try clear hfz28_3
          try clear hfz29_0
          try clear hfz29_1
          try clear hfz29_2
          try clear hfz31_0
          try clear hfz31_1
          try clear hfz31_2
          try clear hfz31_3
          try clear hfz32_0
          try clear hfz32_1
          try clear hfz32_2
          try clear hfz37_0
          try clear hfz37_1
          try clear hfz37_2
          try clear hfz37_3
          try clear hfz41_0
          try clear hfz41_1
          try clear hfz41_2
          try clear hfz41_3
          try clear hfz42_0
          try clear hfz42_1
          try clear hfz42_2
          try clear hfz47_0
          try clear hfz47_1
          try clear hfz47_2
          try clear hfz47_3
          try clear hfz48_0
          try clear hfz48_1
          try clear hfz48_2
          try clear hfz52_0
          try clear hfz52_1
          try clear hfz52_2
          try clear hfz52_3
          try clear hfz53_0
          try clear hfz53_1
          try clear hfz53_2
          try clear hfz57_0
          try clear hfz57_1
          try clear hfz57_2
          try clear hfz57_3
          try clear hfz58_0
          try clear hfz58_1
          try clear hfz58_2
          try clear hfz62_0
          try clear hfz62_1
          try clear hfz62_2
          try clear hfz62_3
          try clear hfz63_0
          try clear hfz63_1
          try clear hfz63_2
          try clear hfz72_0
          try clear hfz72_1
          try clear hfz72_2
          try clear hfz72_3
          try clear hfz73_0
          try clear hfz73_1
          try clear hfz73_2
          try clear hfz83_0
          try clear hfz83_1
          try clear hfz83_2
          try clear hfz83_3
          try clear hfz84_0
          try clear hfz84_1
          try clear hfz84_2
          try clear hx259_0
          try clear hx259_1
          try clear hx259_2
          try clear hx259_3
          try clear hx261_0
          try clear hx263_0
          try clear hx66_0
          try clear hx69_0
          try clear p2
          try clear p25
          try clear p259
          try clear p261
          try clear p263
          try clear p66
          try clear p69
          try clear q25
          try clear q259
          try clear q261
          try clear q263
          try clear q66
          try clear q69
          obtain ⟨x9_3, rfl, HA, HK3, HO_6, BK255, HB⟩ := hrel
          cases gk with
          | zero => exact absurd HA.out (by simp [tickingref07_Plan.l1])
          | succ k3 =>
           have H := HA.out
           clear HA
           simp only [tickingref07_Plan.l1] at H
           by_cases c85 : x9_3 < (l1.length : Int)
           ·rw [if_pos c85] at H
            have c85b0 : decide (x9_3 < (l1.length : Int)) = true := decide_eq_true c85
            clear c85
            by_cases c86 : 0 ≤ x9_3
            ·rw [if_pos c86] at H
             have c86b0 : decide (0 ≤ x9_3) = true := decide_eq_true c86
             clear c86
             by_cases c87 : x9_3 < (x6_2.length : Int)
             ·rw [if_pos c87] at H
              have c87b0 : decide (x9_3 < (x6_2.length : Int)) = true := decide_eq_true c87
              clear c87
              by_cases c88 : (rd x6_2 x9_3) = 1
              ·rw [if_pos c88] at H
               have c88b0 : ((rd x6_2 x9_3) == 1) = true := beq_iff_eq.mpr c88
               have c88b1 : ((rd x6_2 x9_3) != 1) = false := bne_eq_false_iff_eq.mpr c88
               clear c88
               have H' := Aside0.mk H
               clear H
               obtain ⟨Ao89, co89, eo89⟩ := Kd.R_slice HO_6.out
               subst eo89
               have p265 : 0 ≤ (x9_3 : Int) := of_decide_eq_true az
               have q265 : x9_3 < (x6_2.length : Int) := of_decide_eq_true az
               obtain ⟨ad265, e265, hx265_0⟩ := Kd.at_int (Kd.R_reads' HO_6.out).2.2 x9_3 p265 q265
               cases e265
               replace p265 := eq_true p265
               replace q265 := eq_true q265
               go_wp2
               go_roundg k3
               case measure => have := HJ2.out; have := HK2.out; have := HK3.out; omega
               case rel => exact ⟨(wrap64 (x9_3 + 1)), (by first | rfl | (simp; done) | (simp [*]; done)), H', ⟨by have := HJ2.out; have := HK2.out; have := HK3.out; omega⟩, ⟨by (with_reducible repeat (first | apply Kd.R_alloc | apply Kd.R_drewN | apply Kd.R_drew)); exact HO_6.out⟩, ⟨by (with_reducible repeat (first | refine blk_drewN ?_ _ | refine blk_drew ?_ | refine blk_alloc ?_ _)); exact BK255.out⟩, ⟨by repeat (first | (with_reducible first | exact HB.out | apply below_alloc | apply pw_below_drewN | apply below_drew1 | refine below_set ?_ GE255.out) | exact HB.out)⟩⟩
              ·rw [if_neg c88] at H
               have c88b0 : ((rd x6_2 x9_3) == 1) = false := beq_eq_false_iff_ne.mpr c88
               have c88b1 : ((rd x6_2 x9_3) != 1) = true := bne_iff_ne.mpr c88
               obtain rfl := Option.some.inj H
               obtain ⟨Ao90, co90, eo90⟩ := Kd.R_slice HO_6.out
               subst eo90
               have p265 : 0 ≤ (x9_3 : Int) := of_decide_eq_true az
               have q265 : x9_3 < (x6_2.length : Int) := of_decide_eq_true az
               obtain ⟨ad265, e265, hx265_0⟩ := Kd.at_int (Kd.R_reads' HO_6.out).2.2 x9_3 p265 q265
               cases e265
               replace p265 := eq_true p265
               replace q265 := eq_true q265
               go_wp2
               go_ret
               exact ⟨by first | rfl | (simp [errW_none, errW_some] <;> rfl) | (simp [*, errW_none, errW_some] <;> rfl), by repeat (first | (with_reducible first | exact HB.out | apply below_alloc | apply pw_below_drewN | apply below_drew1 | refine below_set ?_ GE255.out) | exact HB.out)⟩
             ·rw [if_neg c87] at H
              exact absurd H (by simp)
            ·rw [if_neg c86] at H
             exact absurd H (by simp)
           ·rw [if_neg c85] at H
            have c85b0 : decide (x9_3 < (l1.length : Int)) = false := decide_eq_false c85
            clear c85
            obtain rfl := Option.some.inj H
            go_wp2
            go_ret
            exact ⟨by first | rfl | (simp [errW_none, errW_some] <;> rfl) | (simp [*, errW_none, errW_some] <;> rfl), by repeat (first | (with_reducible first | exact HB.out | apply below_alloc | apply pw_below_drewN | apply below_drew1 | refine below_set ?_ GE255.out) | exact HB.out)⟩
     ·rw [if_neg c8] at H
      exact absurd H (by simp)
    ·rw [if_neg c7] at H
     exact absurd H (by simp)

end Go.Proofs.YtekmiepdodaidaaDoor.X
end
