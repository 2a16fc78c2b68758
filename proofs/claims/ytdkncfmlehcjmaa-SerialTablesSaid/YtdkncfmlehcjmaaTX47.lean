-- Written by a program of this session (wip/tools/xprint.py) over the kit's print, for this claim.
import Derived.Test.YtdkncfmlehcjmaaTX0
namespace Go.Proofs.Ytdkncfmlehcjmaa.X
open Go.RowKit Go.Proofs.YtdkncfmlehcjmaaW.PrintWords Go.Proofs.YtdkncfmlehcjmaaW.PrintLast Go.Proofs.YtdkncfmlehcjmaaW.PrintMore
attribute [local go_sem] max2_int min2_int max_two min_two max_three min_three max_four min_four   -- for this text's walks alone
set_option linter.unusedVariables false
set_option linter.unusedSimpArgs false

/-! ### tickingref11_Uneven: function 47 -/
mutual
def tickingref11_Uneven.l0 : Nat → List (List Int) → Int → Int → Option (Int × Int × Int × Bool)
  | 0, _, _, _ => none
  | k + 1, x0, x4, x5 => if x5 < x4 then (tickingref11_Uneven.l1 k x0 x4 x5 0) else (some (0, 0, 0, false))
def tickingref11_Uneven.l1 : Nat → List (List Int) → Int → Int → Int → Option (Int × Int × Int × Bool)
  | 0, _, _, _, _ => none
  | k + 1, x0, x4, x5, x6 => if x6 < x4 then (tickingref11_Uneven.l2 k x0 x4 x5 x6 0) else (tickingref11_Uneven.l0 k x0 x4 (wrap64 (x5 + 1)))
def tickingref11_Uneven.l2 : Nat → List (List Int) → Int → Int → Int → Int → Option (Int × Int × Int × Bool)
  | 0, _, _, _, _, _ => none
  | k + 1, x0, x4, x5, x6, x7 => if x7 < x4 then (if 0 ≤ x5 then (if x5 < (x0.length : Int) then (if 0 ≤ x6 then (if x6 < ((rd_L1 x0 x5).length : Int) then (if 0 ≤ (rd (rd_L1 x0 x5) x6) then (if (rd (rd_L1 x0 x5) x6) < (x0.length : Int) then (if 0 ≤ x7 then (if x7 < ((rd_L1 x0 (rd (rd_L1 x0 x5) x6)).length : Int) then (if x6 < (x0.length : Int) then (if x7 < ((rd_L1 x0 x6).length : Int) then (if 0 ≤ (rd (rd_L1 x0 x6) x7) then (if (rd (rd_L1 x0 x6) x7) < ((rd_L1 x0 x5).length : Int) then (if (rd (rd_L1 x0 (rd (rd_L1 x0 x5) x6)) x7) = (rd (rd_L1 x0 x5) (rd (rd_L1 x0 x6) x7)) then (tickingref11_Uneven.l2 k x0 x4 x5 x6 (wrap64 (x7 + 1))) else (some (x5, x6, x7, true))) else (none)) else (none)) else (none)) else (none)) else (none)) else (none)) else (none)) else (none)) else (none)) else (none)) else (none)) else (none)) else (tickingref11_Uneven.l1 k x0 x4 x5 (wrap64 (x6 + 1)))
end
def tickingref11_Uneven.f (k : Nat) (l0 : List (List Int)) : Option (Int × Int × Int × Bool) := tickingref11_Uneven.l0 k l0 (l0.length : Int) 0
theorem tickingref11_Uneven.mono_l : ∀ k, (∀ y0 y1 y2, LeO (tickingref11_Uneven.l0 k y0 y1 y2) (tickingref11_Uneven.l0 (k + 1) y0 y1 y2)) ∧ (∀ y0 y1 y2 y3, LeO (tickingref11_Uneven.l1 k y0 y1 y2 y3) (tickingref11_Uneven.l1 (k + 1) y0 y1 y2 y3)) ∧ (∀ y0 y1 y2 y3 y4, LeO (tickingref11_Uneven.l2 k y0 y1 y2 y3 y4) (tickingref11_Uneven.l2 (k + 1) y0 y1 y2 y3 y4))
  | 0 => ⟨fun _ _ _ r h => by simp [tickingref11_Uneven.l0] at h, fun _ _ _ _ r h => by simp [tickingref11_Uneven.l1] at h, fun _ _ _ _ _ r h => by simp [tickingref11_Uneven.l2] at h⟩
  | k + 1 => by
    obtain ⟨ih0, ih1, ih2⟩ := tickingref11_Uneven.mono_l k
    refine ⟨?_, ?_, ?_⟩
    · intro y0 y1 y2
      unfold tickingref11_Uneven.l0
      repeat' first
      | (with_reducible exact ih0 _ _ _)
      | (with_reducible exact ih1 _ _ _ _)
      | (with_reducible exact ih2 _ _ _ _ _)
      | (with_reducible exact LeO.refl _)
      | (with_reducible exact LeO.none _)
      | (with_reducible refine LeO.ite ?_ ?_)
      | (with_reducible refine LeO.bind ?_ (fun _ => ?_))
      | exact ih0 _ _ _
      | exact ih1 _ _ _ _
      | exact ih2 _ _ _ _ _
      | exact LeO.none _
      | refine LeO.ite ?_ ?_
      | refine LeO.bind ?_ (fun _ => ?_)
    · intro y0 y1 y2 y3
      unfold tickingref11_Uneven.l1
      repeat' first
      | (with_reducible exact ih0 _ _ _)
      | (with_reducible exact ih1 _ _ _ _)
      | (with_reducible exact ih2 _ _ _ _ _)
      | (with_reducible exact LeO.refl _)
      | (with_reducible exact LeO.none _)
      | (with_reducible refine LeO.ite ?_ ?_)
      | (with_reducible refine LeO.bind ?_ (fun _ => ?_))
      | exact ih0 _ _ _
      | exact ih1 _ _ _ _
      | exact ih2 _ _ _ _ _
      | exact LeO.none _
      | refine LeO.ite ?_ ?_
      | refine LeO.bind ?_ (fun _ => ?_)
    · intro y0 y1 y2 y3 y4
      unfold tickingref11_Uneven.l2
      repeat' first
      | (with_reducible exact ih0 _ _ _)
      | (with_reducible exact ih1 _ _ _ _)
      | (with_reducible exact ih2 _ _ _ _ _)
      | (with_reducible exact LeO.refl _)
      | (with_reducible exact LeO.none _)
      | (with_reducible refine LeO.ite ?_ ?_)
      | (with_reducible refine LeO.bind ?_ (fun _ => ?_))
      | exact ih0 _ _ _
      | exact ih1 _ _ _ _
      | exact ih2 _ _ _ _ _
      | exact LeO.none _
      | refine LeO.ite ?_ ?_
      | refine LeO.bind ?_ (fun _ => ?_)
theorem tickingref11_Uneven.mono : ∀ a0 k, LeO (tickingref11_Uneven.f k a0) (tickingref11_Uneven.f (k + 1) a0) := by
  intro a0 k
  obtain ⟨ih0, ih1, ih2⟩ := tickingref11_Uneven.mono_l k
  unfold tickingref11_Uneven.f
  repeat' first
      | (with_reducible exact ih0 _ _ _)
      | (with_reducible exact ih1 _ _ _ _)
      | (with_reducible exact ih2 _ _ _ _ _)
      | (with_reducible exact LeO.refl _)
      | (with_reducible exact LeO.none _)
      | (with_reducible refine LeO.ite ?_ ?_)
      | (with_reducible refine LeO.bind ?_ (fun _ => ?_))
      | exact ih0 _ _ _
      | exact ih1 _ _ _ _
      | exact ih2 _ _ _ _ _
      | exact LeO.none _
      | refine LeO.ite ?_ ?_
      | refine LeO.bind ?_ (fun _ => ?_)
set_option maxHeartbeats 8000000 in
set_option maxRecDepth 100000 in
theorem tickingref11_Uneven.calls (k : Nat) (A0 : Option Addr) (c0 : Nat) (l0 : List (List Int)) (r1 : Int) (r2 : Int) (r3 : Int) (r4 : Bool) (w : World) (hr0 : Kd.C (Kd.slice 3 (Kd.int .i64)) w A0 l0.length l0) (hc0 : l0.length ≤ c0) (h : tickingref11_Uneven.f k l0 = some (r1, r2, r3, r4)) :
    Calls Try.prog 47 #[.slice A0 l0.length c0] w fun e w' => e = .returned (.tuple #[.agg #[.int .i64 r1, .int .i64 r2, .int .i64 r3], .bool r4]) ∧ Below w.heap.size w w' := by
  have hu43 := Try.underlying43
  have HR0 := Aside0.mk hr0
  have HC0 := Aside0.mk hc0
  clear hr0 hc0
  have HB := Aside0.mk (Below.refl w.heap.size w)
  have H : (tickingref11_Uneven.l0 k l0 (l0.length : Int) 0) = some (r1, r2, r3, r4) := h
  clear h
  have H' := Aside0.mk H
  clear H
  go_enter Try.func47, Try.ntmps47
  go_wp2_with (first | ((with_reducible refine gate_dst (N := 2) rfl ?_); refine box_event ?hg (N := 2) ?hd (cs := #[.int .i64 0, .int .i64 0, .int .i64 0]) (t := 43) ?hr ?_; (case hd => rfl); (case hg => rfl); (case hr => first | (go_simp; done) | (go_simp; rfl)); intro gb559 hg w2 hbox hb; have n0_ := Aside0.mk (below_step (by repeat (first | (with_reducible first | exact HB.out | apply below_alloc | apply pw_below_drewN | apply below_drew1) | exact HB.out)) hb); have n1_ := Aside0.mk (hbox); have n2_ := Aside0.mk ((by rw [hg]; exact (below_size (by repeat (first | (with_reducible first | exact HB.out | apply below_alloc | apply pw_below_drewN | apply below_drew1) | exact HB.out))) : w.heap.size ≤ gb559)); have n3_ := Aside0.mk ((by rw [hg]; exact (below_size (by repeat (first | (with_reducible first | exact HB.out | apply below_alloc | apply pw_below_drewN | apply below_drew1) | exact HB.out))) : w.heap.size ≤ gb559)); clear HB; have HB := n0_; have BK559 := n1_; have GW559 := n2_; have GE559 := n3_; clear n0_ n1_ n2_ n3_; clear hb hbox hg))
  repeat (go_quiet (first | ((with_reducible refine gate_dst (N := 2) rfl ?_); refine box_event ?hg (N := 2) ?hd (cs := #[.int .i64 0, .int .i64 0, .int .i64 0]) (t := 43) ?hr ?_; (case hd => rfl); (case hg => rfl); (case hr => first | (go_simp; done) | (go_simp; rfl)); intro gb559 hg w2 hbox hb; have n0_ := Aside0.mk (below_step (by repeat (first | (with_reducible first | exact HB.out | apply below_alloc | apply pw_below_drewN | apply below_drew1) | exact HB.out)) hb); have n1_ := Aside0.mk (hbox); have n2_ := Aside0.mk ((by rw [hg]; exact (below_size (by repeat (first | (with_reducible first | exact HB.out | apply below_alloc | apply pw_below_drewN | apply below_drew1) | exact HB.out))) : w.heap.size ≤ gb559)); have n3_ := Aside0.mk ((by rw [hg]; exact (below_size (by repeat (first | (with_reducible first | exact HB.out | apply below_alloc | apply pw_below_drewN | apply below_drew1) | exact HB.out))) : w.heap.size ≤ gb559)); clear HB; have HB := n0_; have BK559 := n1_; have GW559 := n2_; have GE559 := n3_; clear n0_ n1_ n2_ n3_; clear hb hbox hg)); try go_wp2_with (first | ((with_reducible refine gate_dst (N := 2) rfl ?_); refine box_event ?hg (N := 2) ?hd (cs := #[.int .i64 0, .int .i64 0, .int .i64 0]) (t := 43) ?hr ?_; (case hd => rfl); (case hg => rfl); (case hr => first | (go_simp; done) | (go_simp; rfl)); intro gb559 hg w2 hbox hb; have n0_ := Aside0.mk (below_step (by repeat (first | (with_reducible first | exact HB.out | apply below_alloc | apply pw_below_drewN | apply below_drew1) | exact HB.out)) hb); have n1_ := Aside0.mk (hbox); have n2_ := Aside0.mk ((by rw [hg]; exact (below_size (by repeat (first | (with_reducible first | exact HB.out | apply below_alloc | apply pw_below_drewN | apply below_drew1) | exact HB.out))) : w.heap.size ≤ gb559)); have n3_ := Aside0.mk ((by rw [hg]; exact (below_size (by repeat (first | (with_reducible first | exact HB.out | apply below_alloc | apply pw_below_drewN | apply below_drew1) | exact HB.out))) : w.heap.size ≤ gb559)); clear HB; have HB := n0_; have BK559 := n1_; have GW559 := n2_; have GE559 := n3_; clear n0_ n1_ n2_ n3_; clear hb hbox hg)))
  go_loopg [5] k (fun kq v5 w' => ∃ (x5_1 : Int) (x560000_1 : Int) (x560001_1 : Int) (x560002_1 : Int), v5 = .int .i64 x5_1 ∧ Aside0 (tickingref11_Uneven.l0 kq l0 (l0.length : Int) x5_1 = some (r1, r2, r3, r4)) ∧ Aside0 (kq ≤ k) ∧ Aside0 (w'.heap[gb559]? = some (.cells #[.int .i64 x560000_1, .int .i64 x560001_1, .int .i64 x560002_1] 43 (0, 0))) ∧ Aside0 (Below w.heap.size w w'))
  case atStart => exact ⟨(0), (0), (0), (0), (by first | rfl | (simp; done) | (simp [*]; done)), H', ⟨Nat.le_refl _⟩, ⟨by (with_reducible repeat (first | refine blk_drewN ?_ _ | refine blk_drew ?_ | refine blk_alloc ?_ _)); exact BK559.out⟩, ⟨by repeat (first | (with_reducible first | exact HB.out | apply below_alloc | apply pw_below_drewN | apply below_drew1 | refine below_set ?_ GE559.out) | exact HB.out)⟩⟩
  case round =>
    clear H'
    try clear p2
    obtain ⟨x5_1, x560000_1, x560001_1, x560002_1, rfl, HA, HK1, BK559, HB⟩ := hrel
    cases gk with
    | zero => exact absurd HA.out (by simp [tickingref11_Uneven.l0])
    | succ k1 =>
      have H := HA.out
      clear HA
      simp only [tickingref11_Uneven.l0] at H
      by_cases c3 : x5_1 < (l0.length : Int)
      · rw [if_pos c3] at H
        have c3b0 : decide (x5_1 < (l0.length : Int)) = true := decide_eq_true c3
        clear c3
        have H' := Aside0.mk H
        clear H
        go_wp2
        repeat (go_quiet (fail); try go_wp2)
        go_loopg [6] k1 (fun kq v6 w' => ∃ (x6_2 : Int) (x560000_2 : Int) (x560001_2 : Int) (x560002_2 : Int), v6 = .int .i64 x6_2 ∧ Aside0 (tickingref11_Uneven.l1 kq l0 (l0.length : Int) x5_1 x6_2 = some (r1, r2, r3, r4)) ∧ Aside0 (kq ≤ k1) ∧ Aside0 (w'.heap[gb559]? = some (.cells #[.int .i64 x560000_2, .int .i64 x560001_2, .int .i64 x560002_2] 43 (0, 0))) ∧ Aside0 (Below w.heap.size w w'))
        case atStart => exact ⟨(0), (x560000_1), (x560001_1), (x560002_1), (by first | rfl | (simp; done) | (simp [*]; done)), H', ⟨Nat.le_refl _⟩, ⟨by (with_reducible repeat (first | refine blk_drewN ?_ _ | refine blk_drew ?_ | refine blk_alloc ?_ _)); exact BK559.out⟩, ⟨by repeat (first | (with_reducible first | exact HB.out | apply below_alloc | apply pw_below_drewN | apply below_drew1 | refine below_set ?_ GE559.out) | exact HB.out)⟩⟩
        case round =>
          clear H'
          try clear p2
          try clear c3
          try clear c3b0
          try clear p2
          obtain ⟨x6_2, x560000_2, x560001_2, x560002_2, rfl, HA, HK2, BK559, HB⟩ := hrel
          cases gk with
          | zero => exact absurd HA.out (by simp [tickingref11_Uneven.l1])
          | succ k2 =>
            have H := HA.out
            clear HA
            simp only [tickingref11_Uneven.l1] at H
            by_cases c4 : x6_2 < (l0.length : Int)
            · rw [if_pos c4] at H
              have c4b0 : decide (x6_2 < (l0.length : Int)) = true := decide_eq_true c4
              clear c4
              have H' := Aside0.mk H
              clear H
              go_wp2
              repeat (go_quiet (fail); try go_wp2)
              go_loopg [7] k2 (fun kq v7 w' => ∃ (x7_3 : Int) (x560000_3 : Int) (x560001_3 : Int) (x560002_3 : Int), v7 = .int .i64 x7_3 ∧ Aside0 (tickingref11_Uneven.l2 kq l0 (l0.length : Int) x5_1 x6_2 x7_3 = some (r1, r2, r3, r4)) ∧ Aside0 (kq ≤ k2) ∧ Aside0 (w'.heap[gb559]? = some (.cells #[.int .i64 x560000_3, .int .i64 x560001_3, .int .i64 x560002_3] 43 (0, 0))) ∧ Aside0 (Below w.heap.size w w'))
              case atStart => exact ⟨(0), (x560000_2), (x560001_2), (x560002_2), (by first | rfl | (simp; done) | (simp [*]; done)), H', ⟨Nat.le_refl _⟩, ⟨by (with_reducible repeat (first | refine blk_drewN ?_ _ | refine blk_drew ?_ | refine blk_alloc ?_ _)); exact BK559.out⟩, ⟨by repeat (first | (with_reducible first | exact HB.out | apply below_alloc | apply pw_below_drewN | apply below_drew1 | refine below_set ?_ GE559.out) | exact HB.out)⟩⟩
              case round =>
                clear H'
                try clear p2
                try clear c3
                try clear c3b0
                try clear c4
                try clear c4b0
                try clear p2
                obtain ⟨x7_3, x560000_3, x560001_3, x560002_3, rfl, HA, HK3, BK559, HB⟩ := hrel
                cases gk with
                | zero => exact absurd HA.out (by simp [tickingref11_Uneven.l2])
                | succ k3 =>
                  have H := HA.out
                  clear HA
                  simp only [tickingref11_Uneven.l2] at H
                  by_cases c5 : x7_3 < (l0.length : Int)
                  · rw [if_pos c5] at H
                    have c5b0 : decide (x7_3 < (l0.length : Int)) = true := decide_eq_true c5
                    clear c5
                    by_cases c6 : 0 ≤ x5_1
                    · rw [if_pos c6] at H
                      have c6b0 : decide (0 ≤ x5_1) = true := decide_eq_true c6
                      clear c6
                      by_cases c7 : x5_1 < (l0.length : Int)
                      · rw [if_pos c7] at H
                        have c7b0 : decide (x5_1 < (l0.length : Int)) = true := decide_eq_true c7
                        clear c7
                        by_cases c8 : 0 ≤ x6_2
                        · rw [if_pos c8] at H
                          have c8b0 : decide (0 ≤ x6_2) = true := decide_eq_true c8
                          clear c8
                          by_cases c9 : x6_2 < ((rd_L1 l0 x5_1).length : Int)
                          · rw [if_pos c9] at H
                            have c9b0 : decide (x6_2 < ((rd_L1 l0 x5_1).length : Int)) = true := decide_eq_true c9
                            clear c9
                            by_cases c10 : 0 ≤ (rd (rd_L1 l0 x5_1) x6_2)
                            · rw [if_pos c10] at H
                              have c10b0 : decide (0 ≤ (rd (rd_L1 l0 x5_1) x6_2)) = true := decide_eq_true c10
                              clear c10
                              by_cases c11 : (rd (rd_L1 l0 x5_1) x6_2) < (l0.length : Int)
                              · rw [if_pos c11] at H
                                have c11b0 : decide ((rd (rd_L1 l0 x5_1) x6_2) < (l0.length : Int)) = true := decide_eq_true c11
                                clear c11
                                by_cases c12 : 0 ≤ x7_3
                                · rw [if_pos c12] at H
                                  have c12b0 : decide (0 ≤ x7_3) = true := decide_eq_true c12
                                  clear c12
                                  by_cases c13 : x7_3 < ((rd_L1 l0 (rd (rd_L1 l0 x5_1) x6_2)).length : Int)
                                  · rw [if_pos c13] at H
                                    have c13b0 : decide (x7_3 < ((rd_L1 l0 (rd (rd_L1 l0 x5_1) x6_2)).length : Int)) = true := decide_eq_true c13
                                    clear c13
                                    by_cases c14 : x6_2 < (l0.length : Int)
                                    · rw [if_pos c14] at H
                                      have c14b0 : decide (x6_2 < (l0.length : Int)) = true := decide_eq_true c14
                                      clear c14
                                      by_cases c15 : x7_3 < ((rd_L1 l0 x6_2).length : Int)
                                      · rw [if_pos c15] at H
                                        have c15b0 : decide (x7_3 < ((rd_L1 l0 x6_2).length : Int)) = true := decide_eq_true c15
                                        clear c15
                                        by_cases c16 : 0 ≤ (rd (rd_L1 l0 x6_2) x7_3)
                                        · rw [if_pos c16] at H
                                          have c16b0 : decide (0 ≤ (rd (rd_L1 l0 x6_2) x7_3)) = true := decide_eq_true c16
                                          clear c16
                                          by_cases c17 : (rd (rd_L1 l0 x6_2) x7_3) < ((rd_L1 l0 x5_1).length : Int)
                                          · rw [if_pos c17] at H
                                            have c17b0 : decide ((rd (rd_L1 l0 x6_2) x7_3) < ((rd_L1 l0 x5_1).length : Int)) = true := decide_eq_true c17
                                            clear c17
                                            by_cases c18 : (rd (rd_L1 l0 (rd (rd_L1 l0 x5_1) x6_2)) x7_3) = (rd (rd_L1 l0 x5_1) (rd (rd_L1 l0 x6_2) x7_3))
                                            · rw [if_pos c18] at H
                                              have c18b0 : ((rd (rd_L1 l0 (rd (rd_L1 l0 x5_1) x6_2)) x7_3) == (rd (rd_L1 l0 x5_1) (rd (rd_L1 l0 x6_2) x7_3))) = true := beq_iff_eq.mpr c18
                                              have c18b1 : ((rd (rd_L1 l0 (rd (rd_L1 l0 x5_1) x6_2)) x7_3) != (rd (rd_L1 l0 x5_1) (rd (rd_L1 l0 x6_2) x7_3))) = false := bne_eq_false_iff_eq.mpr c18
                                              clear c18
                                              have H' := Aside0.mk H
                                              clear H
                                              have p560 : 0 ≤ (x5_1 : Int) := of_decide_eq_true (by first | (with_reducible assumption) | assumption)
                                              have q560 : x5_1 < (l0.length : Int) := of_decide_eq_true (by first | (with_reducible assumption) | assumption)
                                              obtain ⟨ad560, A560_0, c560_0, e560, hx560_0, hl560_0, hi560_0⟩ := at_L1 HR0.out x5_1 p560 q560
                                              cases e560
                                              replace hx560_0 := (HB.out.cell (World.block_lt_of_cell? w _ hx560_0)).trans hx560_0
                                              have HR560_0 := Aside0.mk hi560_0
                                              have HC560_0 := Aside0.mk hl560_0
                                              clear hi560_0 hl560_0
                                              replace p560 := eq_true p560
                                              replace q560 := eq_true q560
                                              have p561 : 0 ≤ (x6_2 : Int) := of_decide_eq_true (by first | (with_reducible assumption) | assumption)
                                              have q561 : x6_2 < ((rd_L1 l0 x5_1).length : Int) := of_decide_eq_true (by first | (with_reducible assumption) | assumption)
                                              obtain ⟨ad561, e561, hx561_0⟩ := Kd.at_int HR560_0.out x6_2 p561 q561
                                              cases e561
                                              replace hx561_0 := (HB.out.cell (World.block_lt_of_cell? w _ hx561_0)).trans hx561_0
                                              replace p561 := eq_true p561
                                              replace q561 := eq_true q561
                                              have p562 : 0 ≤ ((rd (rd_L1 l0 x5_1) x6_2) : Int) := of_decide_eq_true (by first | (with_reducible assumption) | assumption)
                                              have q562 : (rd (rd_L1 l0 x5_1) x6_2) < (l0.length : Int) := of_decide_eq_true (by first | (with_reducible assumption) | assumption)
                                              obtain ⟨ad562, A562_0, c562_0, e562, hx562_0, hl562_0, hi562_0⟩ := at_L1 HR0.out (rd (rd_L1 l0 x5_1) x6_2) p562 q562
                                              obtain rfl : ad560 = ad562 := (by injection e562)
                                              replace hx562_0 := (HB.out.cell (World.block_lt_of_cell? w _ hx562_0)).trans hx562_0
                                              have HR562_0 := Aside0.mk hi562_0
                                              have HC562_0 := Aside0.mk hl562_0
                                              clear hi562_0 hl562_0
                                              replace p562 := eq_true p562
                                              replace q562 := eq_true q562
                                              have p563 : 0 ≤ (x7_3 : Int) := of_decide_eq_true (by first | (with_reducible assumption) | assumption)
                                              have q563 : x7_3 < ((rd_L1 l0 (rd (rd_L1 l0 x5_1) x6_2)).length : Int) := of_decide_eq_true (by first | (with_reducible assumption) | assumption)
                                              obtain ⟨ad563, e563, hx563_0⟩ := Kd.at_int HR562_0.out x7_3 p563 q563
                                              cases e563
                                              replace hx563_0 := (HB.out.cell (World.block_lt_of_cell? w _ hx563_0)).trans hx563_0
                                              replace p563 := eq_true p563
                                              replace q563 := eq_true q563
                                              have p564 : 0 ≤ (x5_1 : Int) := of_decide_eq_true (by first | (with_reducible assumption) | assumption)
                                              have q564 : x5_1 < (l0.length : Int) := of_decide_eq_true (by first | (with_reducible assumption) | assumption)
                                              obtain ⟨ad564, A564_0, c564_0, e564, hx564_0, hl564_0, hi564_0⟩ := at_L1 HR0.out x5_1 p564 q564
                                              obtain rfl : ad560 = ad564 := (by injection e564)
                                              replace hx564_0 := (HB.out.cell (World.block_lt_of_cell? w _ hx564_0)).trans hx564_0
                                              have HR564_0 := Aside0.mk hi564_0
                                              have HC564_0 := Aside0.mk hl564_0
                                              clear hi564_0 hl564_0
                                              replace p564 := eq_true p564
                                              replace q564 := eq_true q564
                                              have ea_ := Option.some.inj (hx560_0.symm.trans hx564_0)
                                              injection ea_ with ea_ en_ ec_
                                              subst ea_
                                              subst ec_
                                              clear en_
                                              have p565 : 0 ≤ (x6_2 : Int) := of_decide_eq_true (by first | (with_reducible assumption) | assumption)
                                              have q565 : x6_2 < (l0.length : Int) := of_decide_eq_true (by first | (with_reducible assumption) | assumption)
                                              obtain ⟨ad565, A565_0, c565_0, e565, hx565_0, hl565_0, hi565_0⟩ := at_L1 HR0.out x6_2 p565 q565
                                              obtain rfl : ad560 = ad565 := (by injection e565)
                                              replace hx565_0 := (HB.out.cell (World.block_lt_of_cell? w _ hx565_0)).trans hx565_0
                                              have HR565_0 := Aside0.mk hi565_0
                                              have HC565_0 := Aside0.mk hl565_0
                                              clear hi565_0 hl565_0
                                              replace p565 := eq_true p565
                                              replace q565 := eq_true q565
                                              have p566 : 0 ≤ (x7_3 : Int) := of_decide_eq_true (by first | (with_reducible assumption) | assumption)
                                              have q566 : x7_3 < ((rd_L1 l0 x6_2).length : Int) := of_decide_eq_true (by first | (with_reducible assumption) | assumption)
                                              obtain ⟨ad566, e566, hx566_0⟩ := Kd.at_int HR565_0.out x7_3 p566 q566
                                              cases e566
                                              replace hx566_0 := (HB.out.cell (World.block_lt_of_cell? w _ hx566_0)).trans hx566_0
                                              replace p566 := eq_true p566
                                              replace q566 := eq_true q566
                                              have p567 : 0 ≤ ((rd (rd_L1 l0 x6_2) x7_3) : Int) := of_decide_eq_true (by first | (with_reducible assumption) | assumption)
                                              have q567 : (rd (rd_L1 l0 x6_2) x7_3) < ((rd_L1 l0 x5_1).length : Int) := of_decide_eq_true (by first | (with_reducible assumption) | assumption)
                                              obtain ⟨ad567, e567, hx567_0⟩ := Kd.at_int HR564_0.out (rd (rd_L1 l0 x6_2) x7_3) p567 q567
                                              cases e567
                                              replace hx567_0 := (HB.out.cell (World.block_lt_of_cell? w _ hx567_0)).trans hx567_0
                                              replace p567 := eq_true p567
                                              replace q567 := eq_true q567
                                              go_wp2
                                              repeat (go_quiet (fail); try go_wp2)
                                              go_roundg k3
                                              case measure => have := HK1.out; have := HK2.out; have := HK3.out; omega
                                              case rel => exact ⟨(wrap64 (x7_3 + 1)), (x560000_3), (x560001_3), (x560002_3), (by first | rfl | (simp; done) | (simp [*]; done)), H', ⟨by have := HK1.out; have := HK2.out; have := HK3.out; omega⟩, ⟨by (with_reducible repeat (first | refine blk_drewN ?_ _ | refine blk_drew ?_ | refine blk_alloc ?_ _)); exact BK559.out⟩, ⟨by repeat (first | (with_reducible first | exact HB.out | apply below_alloc | apply pw_below_drewN | apply below_drew1 | refine below_set ?_ GE559.out) | exact HB.out)⟩⟩
                                            · rw [if_neg c18] at H
                                              have c18b0 : ((rd (rd_L1 l0 (rd (rd_L1 l0 x5_1) x6_2)) x7_3) == (rd (rd_L1 l0 x5_1) (rd (rd_L1 l0 x6_2) x7_3))) = false := beq_eq_false_iff_ne.mpr c18
                                              have c18b1 : ((rd (rd_L1 l0 (rd (rd_L1 l0 x5_1) x6_2)) x7_3) != (rd (rd_L1 l0 x5_1) (rd (rd_L1 l0 x6_2) x7_3))) = true := bne_iff_ne.mpr c18
                                              simp only [Option.some.injEq, Prod.mk.injEq] at H
                                              obtain ⟨rfl, rfl, rfl, rfl⟩ := H
                                              have p560 : 0 ≤ (x5_1 : Int) := of_decide_eq_true (by first | (with_reducible assumption) | assumption)
                                              have q560 : x5_1 < (l0.length : Int) := of_decide_eq_true (by first | (with_reducible assumption) | assumption)
                                              obtain ⟨ad560, A560_0, c560_0, e560, hx560_0, hl560_0, hi560_0⟩ := at_L1 HR0.out x5_1 p560 q560
                                              cases e560
                                              replace hx560_0 := (HB.out.cell (World.block_lt_of_cell? w _ hx560_0)).trans hx560_0
                                              have HR560_0 := Aside0.mk hi560_0
                                              have HC560_0 := Aside0.mk hl560_0
                                              clear hi560_0 hl560_0
                                              replace p560 := eq_true p560
                                              replace q560 := eq_true q560
                                              have p561 : 0 ≤ (x6_2 : Int) := of_decide_eq_true (by first | (with_reducible assumption) | assumption)
                                              have q561 : x6_2 < ((rd_L1 l0 x5_1).length : Int) := of_decide_eq_true (by first | (with_reducible assumption) | assumption)
                                              obtain ⟨ad561, e561, hx561_0⟩ := Kd.at_int HR560_0.out x6_2 p561 q561
                                              cases e561
                                              replace hx561_0 := (HB.out.cell (World.block_lt_of_cell? w _ hx561_0)).trans hx561_0
                                              replace p561 := eq_true p561
                                              replace q561 := eq_true q561
                                              have p562 : 0 ≤ ((rd (rd_L1 l0 x5_1) x6_2) : Int) := of_decide_eq_true (by first | (with_reducible assumption) | assumption)
                                              have q562 : (rd (rd_L1 l0 x5_1) x6_2) < (l0.length : Int) := of_decide_eq_true (by first | (with_reducible assumption) | assumption)
                                              obtain ⟨ad562, A562_0, c562_0, e562, hx562_0, hl562_0, hi562_0⟩ := at_L1 HR0.out (rd (rd_L1 l0 x5_1) x6_2) p562 q562
                                              obtain rfl : ad560 = ad562 := (by injection e562)
                                              replace hx562_0 := (HB.out.cell (World.block_lt_of_cell? w _ hx562_0)).trans hx562_0
                                              have HR562_0 := Aside0.mk hi562_0
                                              have HC562_0 := Aside0.mk hl562_0
                                              clear hi562_0 hl562_0
                                              replace p562 := eq_true p562
                                              replace q562 := eq_true q562
                                              have p563 : 0 ≤ (x7_3 : Int) := of_decide_eq_true (by first | (with_reducible assumption) | assumption)
                                              have q563 : x7_3 < ((rd_L1 l0 (rd (rd_L1 l0 x5_1) x6_2)).length : Int) := of_decide_eq_true (by first | (with_reducible assumption) | assumption)
                                              obtain ⟨ad563, e563, hx563_0⟩ := Kd.at_int HR562_0.out x7_3 p563 q563
                                              cases e563
                                              replace hx563_0 := (HB.out.cell (World.block_lt_of_cell? w _ hx563_0)).trans hx563_0
                                              replace p563 := eq_true p563
                                              replace q563 := eq_true q563
                                              have p564 : 0 ≤ (x5_1 : Int) := of_decide_eq_true (by first | (with_reducible assumption) | assumption)
                                              have q564 : x5_1 < (l0.length : Int) := of_decide_eq_true (by first | (with_reducible assumption) | assumption)
                                              obtain ⟨ad564, A564_0, c564_0, e564, hx564_0, hl564_0, hi564_0⟩ := at_L1 HR0.out x5_1 p564 q564
                                              obtain rfl : ad560 = ad564 := (by injection e564)
                                              replace hx564_0 := (HB.out.cell (World.block_lt_of_cell? w _ hx564_0)).trans hx564_0
                                              have HR564_0 := Aside0.mk hi564_0
                                              have HC564_0 := Aside0.mk hl564_0
                                              clear hi564_0 hl564_0
                                              replace p564 := eq_true p564
                                              replace q564 := eq_true q564
                                              have ea_ := Option.some.inj (hx560_0.symm.trans hx564_0)
                                              injection ea_ with ea_ en_ ec_
                                              subst ea_
                                              subst ec_
                                              clear en_
                                              have p565 : 0 ≤ (x6_2 : Int) := of_decide_eq_true (by first | (with_reducible assumption) | assumption)
                                              have q565 : x6_2 < (l0.length : Int) := of_decide_eq_true (by first | (with_reducible assumption) | assumption)
                                              obtain ⟨ad565, A565_0, c565_0, e565, hx565_0, hl565_0, hi565_0⟩ := at_L1 HR0.out x6_2 p565 q565
                                              obtain rfl : ad560 = ad565 := (by injection e565)
                                              replace hx565_0 := (HB.out.cell (World.block_lt_of_cell? w _ hx565_0)).trans hx565_0
                                              have HR565_0 := Aside0.mk hi565_0
                                              have HC565_0 := Aside0.mk hl565_0
                                              clear hi565_0 hl565_0
                                              replace p565 := eq_true p565
                                              replace q565 := eq_true q565
                                              have p566 : 0 ≤ (x7_3 : Int) := of_decide_eq_true (by first | (with_reducible assumption) | assumption)
                                              have q566 : x7_3 < ((rd_L1 l0 x6_2).length : Int) := of_decide_eq_true (by first | (with_reducible assumption) | assumption)
                                              obtain ⟨ad566, e566, hx566_0⟩ := Kd.at_int HR565_0.out x7_3 p566 q566
                                              cases e566
                                              replace hx566_0 := (HB.out.cell (World.block_lt_of_cell? w _ hx566_0)).trans hx566_0
                                              replace p566 := eq_true p566
                                              replace q566 := eq_true q566
                                              have p567 : 0 ≤ ((rd (rd_L1 l0 x6_2) x7_3) : Int) := of_decide_eq_true (by first | (with_reducible assumption) | assumption)
                                              have q567 : (rd (rd_L1 l0 x6_2) x7_3) < ((rd_L1 l0 x5_1).length : Int) := of_decide_eq_true (by first | (with_reducible assumption) | assumption)
                                              obtain ⟨ad567, e567, hx567_0⟩ := Kd.at_int HR564_0.out (rd (rd_L1 l0 x6_2) x7_3) p567 q567
                                              cases e567
                                              replace hx567_0 := (HB.out.cell (World.block_lt_of_cell? w _ hx567_0)).trans hx567_0
                                              replace p567 := eq_true p567
                                              replace q567 := eq_true q567
                                              have hcz19_0 : wr.cell? ⟨gb559, 0, none⟩ = some (.int .i64 x560000_3) := (blk_cell BK559.out 0).trans rfl
                                              have hcz19_1 : wr.cell? ⟨gb559, 1, none⟩ = some (.int .i64 x560001_3) := (blk_cell BK559.out 1).trans rfl
                                              have hcz19_2 : wr.cell? ⟨gb559, 2, none⟩ = some (.int .i64 x560002_3) := (blk_cell BK559.out 2).trans rfl
                                              have hfz19_0 := blk_frozen BK559.out 0
                                              have hfz19_1 := blk_frozen BK559.out 1
                                              have hfz19_2 := blk_frozen BK559.out 2
                                              go_wp2
                                              repeat (go_quiet (fail); try go_wp2)
                                              refine bodyPost_ret (results_ct rfl _ _ gb559 43 #[.int .i64 x5_1, .int .i64 x6_2, .int .i64 x7_3] (0, 0) _ rfl (by (with_reducible repeat (first | refine blk_drewN ?_ _ | refine blk_drew ?_ | refine blk_alloc ?_ _)); refine blk_put (cs := #[.int .i64 x5_1, .int .i64 x6_2, .int .i64 x560002_3]) ?_ 2 _ rfl; (with_reducible repeat (first | refine blk_drewN ?_ _ | refine blk_drew ?_ | refine blk_alloc ?_ _)); refine blk_put (cs := #[.int .i64 x5_1, .int .i64 x560001_3, .int .i64 x560002_3]) ?_ 1 _ rfl; (with_reducible repeat (first | refine blk_drewN ?_ _ | refine blk_drew ?_ | refine blk_alloc ?_ _)); refine blk_put (cs := #[.int .i64 x560000_3, .int .i64 x560001_3, .int .i64 x560002_3]) ?_ 0 _ rfl; (with_reducible repeat (first | refine blk_drewN ?_ _ | refine blk_drew ?_ | refine blk_alloc ?_ _)); exact BK559.out) Try.underlying43 rfl (by kernel_rfl)) rfl ?_
                                              exact ⟨by first | rfl | (simp [errW_none, errW_some] <;> rfl) | (simp [*, errW_none, errW_some] <;> rfl), by repeat (first | (with_reducible first | exact HB.out | apply below_alloc | apply pw_below_drewN | apply below_drew1 | refine below_set ?_ GE559.out) | exact HB.out)⟩
                                          · rw [if_neg c17] at H
                                            exact absurd H (by simp)
                                        · rw [if_neg c16] at H
                                          exact absurd H (by simp)
                                      · rw [if_neg c15] at H
                                        exact absurd H (by simp)
                                    · rw [if_neg c14] at H
                                      exact absurd H (by simp)
                                  · rw [if_neg c13] at H
                                    exact absurd H (by simp)
                                · rw [if_neg c12] at H
                                  exact absurd H (by simp)
                              · rw [if_neg c11] at H
                                exact absurd H (by simp)
                            · rw [if_neg c10] at H
                              exact absurd H (by simp)
                          · rw [if_neg c9] at H
                            exact absurd H (by simp)
                        · rw [if_neg c8] at H
                          exact absurd H (by simp)
                      · rw [if_neg c7] at H
                        exact absurd H (by simp)
                    · rw [if_neg c6] at H
                      exact absurd H (by simp)
                  · rw [if_neg c5] at H
                    have c5b0 : decide (x7_3 < (l0.length : Int)) = false := decide_eq_false c5
                    clear c5
                    have H' := Aside0.mk H
                    clear H
                    go_wp2
                    repeat (go_quiet (fail); try go_wp2)
                    go_roundg k3
                    case measure => have := HK1.out; have := HK2.out; have := HK3.out; omega
                    case rel => exact ⟨(wrap64 (x6_2 + 1)), (x560000_3), (x560001_3), (x560002_3), (by first | rfl | (simp; done) | (simp [*]; done)), H', ⟨by have := HK1.out; have := HK2.out; have := HK3.out; omega⟩, ⟨by (with_reducible repeat (first | refine blk_drewN ?_ _ | refine blk_drew ?_ | refine blk_alloc ?_ _)); exact BK559.out⟩, ⟨by repeat (first | (with_reducible first | exact HB.out | apply below_alloc | apply pw_below_drewN | apply below_drew1 | refine below_set ?_ GE559.out) | exact HB.out)⟩⟩
            · rw [if_neg c4] at H
              have c4b0 : decide (x6_2 < (l0.length : Int)) = false := decide_eq_false c4
              clear c4
              have H' := Aside0.mk H
              clear H
              go_wp2
              repeat (go_quiet (fail); try go_wp2)
              go_roundg k2
              case measure => have := HK1.out; have := HK2.out; omega
              case rel => exact ⟨(wrap64 (x5_1 + 1)), (x560000_2), (x560001_2), (x560002_2), (by first | rfl | (simp; done) | (simp [*]; done)), H', ⟨by have := HK1.out; have := HK2.out; omega⟩, ⟨by (with_reducible repeat (first | refine blk_drewN ?_ _ | refine blk_drew ?_ | refine blk_alloc ?_ _)); exact BK559.out⟩, ⟨by repeat (first | (with_reducible first | exact HB.out | apply below_alloc | apply pw_below_drewN | apply below_drew1 | refine below_set ?_ GE559.out) | exact HB.out)⟩⟩
      · rw [if_neg c3] at H
        have c3b0 : decide (x5_1 < (l0.length : Int)) = false := decide_eq_false c3
        clear c3
        simp only [Option.some.injEq, Prod.mk.injEq] at H
        obtain ⟨rfl, rfl, rfl, rfl⟩ := H
        have hcz20_0 : wr.cell? ⟨gb559, 0, none⟩ = some (.int .i64 x560000_1) := (blk_cell BK559.out 0).trans rfl
        have hcz20_1 : wr.cell? ⟨gb559, 1, none⟩ = some (.int .i64 x560001_1) := (blk_cell BK559.out 1).trans rfl
        have hcz20_2 : wr.cell? ⟨gb559, 2, none⟩ = some (.int .i64 x560002_1) := (blk_cell BK559.out 2).trans rfl
        have hfz20_0 := blk_frozen BK559.out 0
        have hfz20_1 := blk_frozen BK559.out 1
        have hfz20_2 := blk_frozen BK559.out 2
        go_wp2
        repeat (go_quiet (fail); try go_wp2)
        refine bodyPost_ret (results_ct rfl _ _ gb559 43 #[.int .i64 0, .int .i64 0, .int .i64 0] (0, 0) _ rfl (by (with_reducible repeat (first | refine blk_drewN ?_ _ | refine blk_drew ?_ | refine blk_alloc ?_ _)); refine blk_put (cs := #[.int .i64 0, .int .i64 0, .int .i64 x560002_1]) ?_ 2 _ rfl; (with_reducible repeat (first | refine blk_drewN ?_ _ | refine blk_drew ?_ | refine blk_alloc ?_ _)); refine blk_put (cs := #[.int .i64 0, .int .i64 x560001_1, .int .i64 x560002_1]) ?_ 1 _ rfl; (with_reducible repeat (first | refine blk_drewN ?_ _ | refine blk_drew ?_ | refine blk_alloc ?_ _)); refine blk_put (cs := #[.int .i64 x560000_1, .int .i64 x560001_1, .int .i64 x560002_1]) ?_ 0 _ rfl; (with_reducible repeat (first | refine blk_drewN ?_ _ | refine blk_drew ?_ | refine blk_alloc ?_ _)); exact BK559.out) Try.underlying43 rfl (by kernel_rfl)) rfl ?_
        exact ⟨by first | rfl | (simp [errW_none, errW_some] <;> rfl) | (simp [*, errW_none, errW_some] <;> rfl), by repeat (first | (with_reducible first | exact HB.out | apply below_alloc | apply pw_below_drewN | apply below_drew1 | refine below_set ?_ GE559.out) | exact HB.out)⟩

end Go.Proofs.Ytdkncfmlehcjmaa.X
