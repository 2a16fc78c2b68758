-- Written by a program of this session (wip/tools/xprint.py) over the kit's print, for this claim.
import Derived.Test.YtdkncfmlehcjmaaTX0
namespace Go.Proofs.Ytdkncfmlehcjmaa.X
open Go.RowKit Go.Proofs.YtdkncfmlehcjmaaW.PrintWords Go.Proofs.YtdkncfmlehcjmaaW.PrintLast Go.Proofs.YtdkncfmlehcjmaaW.PrintMore
attribute [local go_sem] max2_int min2_int max_two min_two max_three min_three max_four min_four   -- for this text's walks alone
set_option linter.unusedVariables false
set_option linter.unusedSimpArgs false

/-! ### tickingref11_Weak: function 45 -/
mutual
def tickingref11_Weak.l0 : Nat → List (List Int) → Int → Int → Option (Int × Int × Int × Bool)
  | 0, _, _, _ => none
  | k + 1, x0, x4, x5 => if x5 < x4 then (tickingref11_Weak.l1 k x0 x4 x5 0) else (some (0, 0, 0, false))
def tickingref11_Weak.l1 : Nat → List (List Int) → Int → Int → Int → Option (Int × Int × Int × Bool)
  | 0, _, _, _, _ => none
  | k + 1, x0, x4, x5, x6 => if x6 < x4 then (tickingref11_Weak.l2 k x0 x4 x5 x6 (wrap64 (x6 + 1))) else (tickingref11_Weak.l0 k x0 x4 (wrap64 (x5 + 1)))
def tickingref11_Weak.l2 : Nat → List (List Int) → Int → Int → Int → Int → Option (Int × Int × Int × Bool)
  | 0, _, _, _, _, _ => none
  | k + 1, x0, x4, x5, x6, x7 => if x7 < x4 then (if 0 ≤ x5 then (if x5 < (x0.length : Int) then (if 0 ≤ x6 then (if x6 < ((rd_L1 x0 x5).length : Int) then (if 0 ≤ (rd (rd_L1 x0 x5) x6) then (if (rd (rd_L1 x0 x5) x6) < (x0.length : Int) then (if 0 ≤ x7 then (if x7 < ((rd_L1 x0 (rd (rd_L1 x0 x5) x6)).length : Int) then (if x7 < ((rd_L1 x0 x5).length : Int) then (if 0 ≤ (rd (rd_L1 x0 x5) x7) then (if (rd (rd_L1 x0 x5) x7) < (x0.length : Int) then (if x6 < ((rd_L1 x0 (rd (rd_L1 x0 x5) x7)).length : Int) then (if (rd (rd_L1 x0 (rd (rd_L1 x0 x5) x6)) x7) = (rd (rd_L1 x0 (rd (rd_L1 x0 x5) x7)) x6) then (some (x5, x6, x7, true)) else (tickingref11_Weak.l2 k x0 x4 x5 x6 (wrap64 (x7 + 1)))) else (none)) else (none)) else (none)) else (none)) else (none)) else (none)) else (none)) else (none)) else (none)) else (none)) else (none)) else (none)) else (tickingref11_Weak.l1 k x0 x4 x5 (wrap64 (x6 + 1)))
end
def tickingref11_Weak.f (k : Nat) (l0 : List (List Int)) : Option (Int × Int × Int × Bool) := tickingref11_Weak.l0 k l0 (l0.length : Int) 0
theorem tickingref11_Weak.mono_l : ∀ k, (∀ y0 y1 y2, LeO (tickingref11_Weak.l0 k y0 y1 y2) (tickingref11_Weak.l0 (k + 1) y0 y1 y2)) ∧ (∀ y0 y1 y2 y3, LeO (tickingref11_Weak.l1 k y0 y1 y2 y3) (tickingref11_Weak.l1 (k + 1) y0 y1 y2 y3)) ∧ (∀ y0 y1 y2 y3 y4, LeO (tickingref11_Weak.l2 k y0 y1 y2 y3 y4) (tickingref11_Weak.l2 (k + 1) y0 y1 y2 y3 y4))
  | 0 => ⟨fun _ _ _ r h => by simp [tickingref11_Weak.l0] at h, fun _ _ _ _ r h => by simp [tickingref11_Weak.l1] at h, fun _ _ _ _ _ r h => by simp [tickingref11_Weak.l2] at h⟩
  | k + 1 => by
    obtain ⟨ih0, ih1, ih2⟩ := tickingref11_Weak.mono_l k
    refine ⟨?_, ?_, ?_⟩
    · intro y0 y1 y2
      unfold tickingref11_Weak.l0
      repeat' first
      | (with_reducible exact ih0 _ _ _)
      | (with_reducible exact ih1 _ _ _ _)
      | (with_reducible exact ih2 _ _ _ _ _)
      | (with_reducible exact LeO.refl _)
      | (with_reducible exact LeO.none _)
      | (with_reducible refine LeO.ite ?_ ?_)
      | (with_reducible refine LeO.bind ?_ (fun _ => ?_))
      | exact ih0 _ _ _
      | exact ih1 _ _ _ _
      | exact ih2 _ _ _ _ _
      | exact LeO.none _
      | refine LeO.ite ?_ ?_
      | refine LeO.bind ?_ (fun _ => ?_)
    · intro y0 y1 y2 y3
      unfold tickingref11_Weak.l1
      repeat' first
      | (with_reducible exact ih0 _ _ _)
      | (with_reducible exact ih1 _ _ _ _)
      | (with_reducible exact ih2 _ _ _ _ _)
      | (with_reducible exact LeO.refl _)
      | (with_reducible exact LeO.none _)
      | (with_reducible refine LeO.ite ?_ ?_)
      | (with_reducible refine LeO.bind ?_ (fun _ => ?_))
      | exact ih0 _ _ _
      | exact ih1 _ _ _ _
      | exact ih2 _ _ _ _ _
      | exact LeO.none _
      | refine LeO.ite ?_ ?_
      | refine LeO.bind ?_ (fun _ => ?_)
    · intro y0 y1 y2 y3 y4
      unfold tickingref11_Weak.l2
      repeat' first
      | (with_reducible exact ih0 _ _ _)
      | (with_reducible exact ih1 _ _ _ _)
      | (with_reducible exact ih2 _ _ _ _ _)
      | (with_reducible exact LeO.refl _)
      | (with_reducible exact LeO.none _)
      | (with_reducible refine LeO.ite ?_ ?_)
      | (with_reducible refine LeO.bind ?_ (fun _ => ?_))
      | exact ih0 _ _ _
      | exact ih1 _ _ _ _
      | exact ih2 _ _ _ _ _
      | exact LeO.none _
      | refine LeO.ite ?_ ?_
      | refine LeO.bind ?_ (fun _ => ?_)
theorem tickingref11_Weak.mono : ∀ a0 k, LeO (tickingref11_Weak.f k a0) (tickingref11_Weak.f (k + 1) a0) := by
  intro a0 k
  obtain ⟨ih0, ih1, ih2⟩ := tickingref11_Weak.mono_l k
  unfold tickingref11_Weak.f
  repeat' first
      | (with_reducible exact ih0 _ _ _)
      | (with_reducible exact ih1 _ _ _ _)
      | (with_reducible exact ih2 _ _ _ _ _)
      | (with_reducible exact LeO.refl _)
      | (with_reducible exact LeO.none _)
      | (with_reducible refine LeO.ite ?_ ?_)
      | (with_reducible refine LeO.bind ?_ (fun _ => ?_))
      | exact ih0 _ _ _
      | exact ih1 _ _ _ _
      | exact ih2 _ _ _ _ _
      | exact LeO.none _
      | refine LeO.ite ?_ ?_
      | refine LeO.bind ?_ (fun _ => ?_)
set_option maxHeartbeats 8000000 in
set_option maxRecDepth 100000 in
theorem tickingref11_Weak.calls (k : Nat) (A0 : Option Addr) (c0 : Nat) (l0 : List (List Int)) (r1 : Int) (r2 : Int) (r3 : Int) (r4 : Bool) (w : World) (hr0 : Kd.C (Kd.slice 3 (Kd.int .i64)) w A0 l0.length l0) (hc0 : l0.length ≤ c0) (h : tickingref11_Weak.f k l0 = some (r1, r2, r3, r4)) :
    Calls Try.prog 45 #[.slice A0 l0.length c0] w fun e w' => e = .returned (.tuple #[.agg #[.int .i64 r1, .int .i64 r2, .int .i64 r3], .bool r4]) ∧ Below w.heap.size w w' := by
  have hu43 := Try.underlying43
  have HR0 := Aside0.mk hr0
  have HC0 := Aside0.mk hc0
  clear hr0 hc0
  have HB := Aside0.mk (Below.refl w.heap.size w)
  have H : (tickingref11_Weak.l0 k l0 (l0.length : Int) 0) = some (r1, r2, r3, r4) := h
  clear h
  have H' := Aside0.mk H
  clear H
  go_enter Try.func45, Try.ntmps45
  go_wp2_with (first | ((with_reducible refine gate_dst (N := 2) rfl ?_); refine box_event ?hg (N := 2) ?hd (cs := #[.int .i64 0, .int .i64 0, .int .i64 0]) (t := 43) ?hr ?_; (case hd => rfl); (case hg => rfl); (case hr => first | (go_simp; done) | (go_simp; rfl)); intro gb340 hg w2 hbox hb; have n0_ := Aside0.mk (below_step (by repeat (first | (with_reducible first | exact HB.out | apply below_alloc | apply pw_below_drewN | apply below_drew1) | exact HB.out)) hb); have n1_ := Aside0.mk (hbox); have n2_ := Aside0.mk ((by rw [hg]; exact (below_size (by repeat (first | (with_reducible first | exact HB.out | apply below_alloc | apply pw_below_drewN | apply below_drew1) | exact HB.out))) : w.heap.size ≤ gb340)); have n3_ := Aside0.mk ((by rw [hg]; exact (below_size (by repeat (first | (with_reducible first | exact HB.out | apply below_alloc | apply pw_below_drewN | apply below_drew1) | exact HB.out))) : w.heap.size ≤ gb340)); clear HB; have HB := n0_; have BK340 := n1_; have GW340 := n2_; have GE340 := n3_; clear n0_ n1_ n2_ n3_; clear hb hbox hg))
  repeat (go_quiet (first | ((with_reducible refine gate_dst (N := 2) rfl ?_); refine box_event ?hg (N := 2) ?hd (cs := #[.int .i64 0, .int .i64 0, .int .i64 0]) (t := 43) ?hr ?_; (case hd => rfl); (case hg => rfl); (case hr => first | (go_simp; done) | (go_simp; rfl)); intro gb340 hg w2 hbox hb; have n0_ := Aside0.mk (below_step (by repeat (first | (with_reducible first | exact HB.out | apply below_alloc | apply pw_below_drewN | apply below_drew1) | exact HB.out)) hb); have n1_ := Aside0.mk (hbox); have n2_ := Aside0.mk ((by rw [hg]; exact (below_size (by repeat (first | (with_reducible first | exact HB.out | apply below_alloc | apply pw_below_drewN | apply below_drew1) | exact HB.out))) : w.heap.size ≤ gb340)); have n3_ := Aside0.mk ((by rw [hg]; exact (below_size (by repeat (first | (with_reducible first | exact HB.out | apply below_alloc | apply pw_below_drewN | apply below_drew1) | exact HB.out))) : w.heap.size ≤ gb340)); clear HB; have HB := n0_; have BK340 := n1_; have GW340 := n2_; have GE340 := n3_; clear n0_ n1_ n2_ n3_; clear hb hbox hg)); try go_wp2_with (first | ((with_reducible refine gate_dst (N := 2) rfl ?_); refine box_event ?hg (N := 2) ?hd (cs := #[.int .i64 0, .int .i64 0, .int .i64 0]) (t := 43) ?hr ?_; (case hd => rfl); (case hg => rfl); (case hr => first | (go_simp; done) | (go_simp; rfl)); intro gb340 hg w2 hbox hb; have n0_ := Aside0.mk (below_step (by repeat (first | (with_reducible first | exact HB.out | apply below_alloc | apply pw_below_drewN | apply below_drew1) | exact HB.out)) hb); have n1_ := Aside0.mk (hbox); have n2_ := Aside0.mk ((by rw [hg]; exact (below_size (by repeat (first | (with_reducible first | exact HB.out | apply below_alloc | apply pw_below_drewN | apply below_drew1) | exact HB.out))) : w.heap.size ≤ gb340)); have n3_ := Aside0.mk ((by rw [hg]; exact (below_size (by repeat (first | (with_reducible first | exact HB.out | apply below_alloc | apply pw_below_drewN | apply below_drew1) | exact HB.out))) : w.heap.size ≤ gb340)); clear HB; have HB := n0_; have BK340 := n1_; have GW340 := n2_; have GE340 := n3_; clear n0_ n1_ n2_ n3_; clear hb hbox hg)))
  go_loopg [5] k (fun kq v5 w' => ∃ (x5_1 : Int) (x341000_1 : Int) (x341001_1 : Int) (x341002_1 : Int), v5 = .int .i64 x5_1 ∧ Aside0 (tickingref11_Weak.l0 kq l0 (l0.length : Int) x5_1 = some (r1, r2, r3, r4)) ∧ Aside0 (kq ≤ k) ∧ Aside0 (w'.heap[gb340]? = some (.cells #[.int .i64 x341000_1, .int .i64 x341001_1, .int .i64 x341002_1] 43 (0, 0))) ∧ Aside0 (Below w.heap.size w w'))
  case atStart => exact ⟨(0), (0), (0), (0), (by first | rfl | (simp; done) | (simp [*]; done)), H', ⟨Nat.le_refl _⟩, ⟨by (with_reducible repeat (first | refine blk_drewN ?_ _ | refine blk_drew ?_ | refine blk_alloc ?_ _)); exact BK340.out⟩, ⟨by repeat (first | (with_reducible first | exact HB.out | apply below_alloc | apply pw_below_drewN | apply below_drew1 | refine below_set ?_ GE340.out) | exact HB.out)⟩⟩
  case round =>
    clear H'
    try clear p2
    obtain ⟨x5_1, x341000_1, x341001_1, x341002_1, rfl, HA, HK1, BK340, HB⟩ := hrel
    cases gk with
    | zero => exact absurd HA.out (by simp [tickingref11_Weak.l0])
    | succ k1 =>
      have H := HA.out
      clear HA
      simp only [tickingref11_Weak.l0] at H
      by_cases c3 : x5_1 < (l0.length : Int)
      · rw [if_pos c3] at H
        have c3b0 : decide (x5_1 < (l0.length : Int)) = true := decide_eq_true c3
        clear c3
        have H' := Aside0.mk H
        clear H
        go_wp2
        repeat (go_quiet (fail); try go_wp2)
        go_loopg [6] k1 (fun kq v6 w' => ∃ (x6_2 : Int) (x341000_2 : Int) (x341001_2 : Int) (x341002_2 : Int), v6 = .int .i64 x6_2 ∧ Aside0 (tickingref11_Weak.l1 kq l0 (l0.length : Int) x5_1 x6_2 = some (r1, r2, r3, r4)) ∧ Aside0 (kq ≤ k1) ∧ Aside0 (w'.heap[gb340]? = some (.cells #[.int .i64 x341000_2, .int .i64 x341001_2, .int .i64 x341002_2] 43 (0, 0))) ∧ Aside0 (Below w.heap.size w w'))
        case atStart => exact ⟨(0), (x341000_1), (x341001_1), (x341002_1), (by first | rfl | (simp; done) | (simp [*]; done)), H', ⟨Nat.le_refl _⟩, ⟨by (with_reducible repeat (first | refine blk_drewN ?_ _ | refine blk_drew ?_ | refine blk_alloc ?_ _)); exact BK340.out⟩, ⟨by repeat (first | (with_reducible first | exact HB.out | apply below_alloc | apply pw_below_drewN | apply below_drew1 | refine below_set ?_ GE340.out) | exact HB.out)⟩⟩
        case round =>
          clear H'
          try clear p2
          try clear c3
          try clear c3b0
          try clear p2
          obtain ⟨x6_2, x341000_2, x341001_2, x341002_2, rfl, HA, HK2, BK340, HB⟩ := hrel
          cases gk with
          | zero => exact absurd HA.out (by simp [tickingref11_Weak.l1])
          | succ k2 =>
            have H := HA.out
            clear HA
            simp only [tickingref11_Weak.l1] at H
            by_cases c4 : x6_2 < (l0.length : Int)
            · rw [if_pos c4] at H
              have c4b0 : decide (x6_2 < (l0.length : Int)) = true := decide_eq_true c4
              clear c4
              have H' := Aside0.mk H
              clear H
              go_wp2
              repeat (go_quiet (fail); try go_wp2)
              go_loopg [7] k2 (fun kq v7 w' => ∃ (x7_3 : Int) (x341000_3 : Int) (x341001_3 : Int) (x341002_3 : Int), v7 = .int .i64 x7_3 ∧ Aside0 (tickingref11_Weak.l2 kq l0 (l0.length : Int) x5_1 x6_2 x7_3 = some (r1, r2, r3, r4)) ∧ Aside0 (kq ≤ k2) ∧ Aside0 (w'.heap[gb340]? = some (.cells #[.int .i64 x341000_3, .int .i64 x341001_3, .int .i64 x341002_3] 43 (0, 0))) ∧ Aside0 (Below w.heap.size w w'))
              case atStart => exact ⟨(wrap64 (x6_2 + 1)), (x341000_2), (x341001_2), (x341002_2), (by first | rfl | (simp; done) | (simp [*]; done)), H', ⟨Nat.le_refl _⟩, ⟨by (with_reducible repeat (first | refine blk_drewN ?_ _ | refine blk_drew ?_ | refine blk_alloc ?_ _)); exact BK340.out⟩, ⟨by repeat (first | (with_reducible first | exact HB.out | apply below_alloc | apply pw_below_drewN | apply below_drew1 | refine below_set ?_ GE340.out) | exact HB.out)⟩⟩
              case round =>
                clear H'
                try clear p2
                try clear c3
                try clear c3b0
                try clear c4
                try clear c4b0
                try clear p2
                obtain ⟨x7_3, x341000_3, x341001_3, x341002_3, rfl, HA, HK3, BK340, HB⟩ := hrel
                cases gk with
                | zero => exact absurd HA.out (by simp [tickingref11_Weak.l2])
                | succ k3 =>
                  have H := HA.out
                  clear HA
                  simp only [tickingref11_Weak.l2] at H
                  by_cases c5 : x7_3 < (l0.length : Int)
                  · rw [if_pos c5] at H
                    have c5b0 : decide (x7_3 < (l0.length : Int)) = true := decide_eq_true c5
                    clear c5
                    by_cases c6 : 0 ≤ x5_1
                    · rw [if_pos c6] at H
                      have c6b0 : decide (0 ≤ x5_1) = true := decide_eq_true c6
                      clear c6
                      by_cases c7 : x5_1 < (l0.length : Int)
                      · rw [if_pos c7] at H
                        have c7b0 : decide (x5_1 < (l0.length : Int)) = true := decide_eq_true c7
                        clear c7
                        by_cases c8 : 0 ≤ x6_2
                        · rw [if_pos c8] at H
                          have c8b0 : decide (0 ≤ x6_2) = true := decide_eq_true c8
                          clear c8
                          by_cases c9 : x6_2 < ((rd_L1 l0 x5_1).length : Int)
                          · rw [if_pos c9] at H
                            have c9b0 : decide (x6_2 < ((rd_L1 l0 x5_1).length : Int)) = true := decide_eq_true c9
                            clear c9
                            by_cases c10 : 0 ≤ (rd (rd_L1 l0 x5_1) x6_2)
                            · rw [if_pos c10] at H
                              have c10b0 : decide (0 ≤ (rd (rd_L1 l0 x5_1) x6_2)) = true := decide_eq_true c10
                              clear c10
                              by_cases c11 : (rd (rd_L1 l0 x5_1) x6_2) < (l0.length : Int)
                              · rw [if_pos c11] at H
                                have c11b0 : decide ((rd (rd_L1 l0 x5_1) x6_2) < (l0.length : Int)) = true := decide_eq_true c11
                                clear c11
                                by_cases c12 : 0 ≤ x7_3
                                · rw [if_pos c12] at H
                                  have c12b0 : decide (0 ≤ x7_3) = true := decide_eq_true c12
                                  clear c12
                                  by_cases c13 : x7_3 < ((rd_L1 l0 (rd (rd_L1 l0 x5_1) x6_2)).length : Int)
                                  · rw [if_pos c13] at H
                                    have c13b0 : decide (x7_3 < ((rd_L1 l0 (rd (rd_L1 l0 x5_1) x6_2)).length : Int)) = true := decide_eq_true c13
                                    clear c13
                                    by_cases c14 : x7_3 < ((rd_L1 l0 x5_1).length : Int)
                                    · rw [if_pos c14] at H
                                      have c14b0 : decide (x7_3 < ((rd_L1 l0 x5_1).length : Int)) = true := decide_eq_true c14
                                      clear c14
                                      by_cases c15 : 0 ≤ (rd (rd_L1 l0 x5_1) x7_3)
                                      · rw [if_pos c15] at H
                                        have c15b0 : decide (0 ≤ (rd (rd_L1 l0 x5_1) x7_3)) = true := decide_eq_true c15
                                        clear c15
                                        by_cases c16 : (rd (rd_L1 l0 x5_1) x7_3) < (l0.length : Int)
                                        · rw [if_pos c16] at H
                                          have c16b0 : decide ((rd (rd_L1 l0 x5_1) x7_3) < (l0.length : Int)) = true := decide_eq_true c16
                                          clear c16
                                          by_cases c17 : x6_2 < ((rd_L1 l0 (rd (rd_L1 l0 x5_1) x7_3)).length : Int)
                                          · rw [if_pos c17] at H
                                            have c17b0 : decide (x6_2 < ((rd_L1 l0 (rd (rd_L1 l0 x5_1) x7_3)).length : Int)) = true := decide_eq_true c17
                                            clear c17
                                            by_cases c18 : (rd (rd_L1 l0 (rd (rd_L1 l0 x5_1) x6_2)) x7_3) = (rd (rd_L1 l0 (rd (rd_L1 l0 x5_1) x7_3)) x6_2)
                                            · rw [if_pos c18] at H
                                              have c18b0 : ((rd (rd_L1 l0 (rd (rd_L1 l0 x5_1) x6_2)) x7_3) == (rd (rd_L1 l0 (rd (rd_L1 l0 x5_1) x7_3)) x6_2)) = true := beq_iff_eq.mpr c18
                                              have c18b1 : ((rd (rd_L1 l0 (rd (rd_L1 l0 x5_1) x6_2)) x7_3) != (rd (rd_L1 l0 (rd (rd_L1 l0 x5_1) x7_3)) x6_2)) = false := bne_eq_false_iff_eq.mpr c18
                                              clear c18
                                              simp only [Option.some.injEq, Prod.mk.injEq] at H
                                              obtain ⟨rfl, rfl, rfl, rfl⟩ := H
                                              have p341 : 0 ≤ (x5_1 : Int) := of_decide_eq_true (by first | (with_reducible assumption) | assumption)
                                              have q341 : x5_1 < (l0.length : Int) := of_decide_eq_true (by first | (with_reducible assumption) | assumption)
                                              obtain ⟨ad341, A341_0, c341_0, e341, hx341_0, hl341_0, hi341_0⟩ := at_L1 HR0.out x5_1 p341 q341
                                              cases e341
                                              replace hx341_0 := (HB.out.cell (World.block_lt_of_cell? w _ hx341_0)).trans hx341_0
                                              have HR341_0 := Aside0.mk hi341_0
                                              have HC341_0 := Aside0.mk hl341_0
                                              clear hi341_0 hl341_0
                                              replace p341 := eq_true p341
                                              replace q341 := eq_true q341
                                              have p342 : 0 ≤ (x6_2 : Int) := of_decide_eq_true (by first | (with_reducible assumption) | assumption)
                                              have q342 : x6_2 < ((rd_L1 l0 x5_1).length : Int) := of_decide_eq_true (by first | (with_reducible assumption) | assumption)
                                              obtain ⟨ad342, e342, hx342_0⟩ := Kd.at_int HR341_0.out x6_2 p342 q342
                                              cases e342
                                              replace hx342_0 := (HB.out.cell (World.block_lt_of_cell? w _ hx342_0)).trans hx342_0
                                              replace p342 := eq_true p342
                                              replace q342 := eq_true q342
                                              have p343 : 0 ≤ ((rd (rd_L1 l0 x5_1) x6_2) : Int) := of_decide_eq_true (by first | (with_reducible assumption) | assumption)
                                              have q343 : (rd (rd_L1 l0 x5_1) x6_2) < (l0.length : Int) := of_decide_eq_true (by first | (with_reducible assumption) | assumption)
                                              obtain ⟨ad343, A343_0, c343_0, e343, hx343_0, hl343_0, hi343_0⟩ := at_L1 HR0.out (rd (rd_L1 l0 x5_1) x6_2) p343 q343
                                              obtain rfl : ad341 = ad343 := (by injection e343)
                                              replace hx343_0 := (HB.out.cell (World.block_lt_of_cell? w _ hx343_0)).trans hx343_0
                                              have HR343_0 := Aside0.mk hi343_0
                                              have HC343_0 := Aside0.mk hl343_0
                                              clear hi343_0 hl343_0
                                              replace p343 := eq_true p343
                                              replace q343 := eq_true q343
                                              have p344 : 0 ≤ (x7_3 : Int) := of_decide_eq_true (by first | (with_reducible assumption) | assumption)
                                              have q344 : x7_3 < ((rd_L1 l0 (rd (rd_L1 l0 x5_1) x6_2)).length : Int) := of_decide_eq_true (by first | (with_reducible assumption) | assumption)
                                              obtain ⟨ad344, e344, hx344_0⟩ := Kd.at_int HR343_0.out x7_3 p344 q344
                                              cases e344
                                              replace hx344_0 := (HB.out.cell (World.block_lt_of_cell? w _ hx344_0)).trans hx344_0
                                              replace p344 := eq_true p344
                                              replace q344 := eq_true q344
                                              have p345 : 0 ≤ (x5_1 : Int) := of_decide_eq_true (by first | (with_reducible assumption) | assumption)
                                              have q345 : x5_1 < (l0.length : Int) := of_decide_eq_true (by first | (with_reducible assumption) | assumption)
                                              obtain ⟨ad345, A345_0, c345_0, e345, hx345_0, hl345_0, hi345_0⟩ := at_L1 HR0.out x5_1 p345 q345
                                              obtain rfl : ad341 = ad345 := (by injection e345)
                                              replace hx345_0 := (HB.out.cell (World.block_lt_of_cell? w _ hx345_0)).trans hx345_0
                                              have HR345_0 := Aside0.mk hi345_0
                                              have HC345_0 := Aside0.mk hl345_0
                                              clear hi345_0 hl345_0
                                              replace p345 := eq_true p345
                                              replace q345 := eq_true q345
                                              have ea_ := Option.some.inj (hx341_0.symm.trans hx345_0)
                                              injection ea_ with ea_ en_ ec_
                                              subst ea_
                                              subst ec_
                                              clear en_
                                              have p346 : 0 ≤ (x7_3 : Int) := of_decide_eq_true (by first | (with_reducible assumption) | assumption)
                                              have q346 : x7_3 < ((rd_L1 l0 x5_1).length : Int) := of_decide_eq_true (by first | (with_reducible assumption) | assumption)
                                              obtain ⟨ad346, e346, hx346_0⟩ := Kd.at_int HR345_0.out x7_3 p346 q346
                                              cases e346
                                              replace hx346_0 := (HB.out.cell (World.block_lt_of_cell? w _ hx346_0)).trans hx346_0
                                              replace p346 := eq_true p346
                                              replace q346 := eq_true q346
                                              have p347 : 0 ≤ ((rd (rd_L1 l0 x5_1) x7_3) : Int) := of_decide_eq_true (by first | (with_reducible assumption) | assumption)
                                              have q347 : (rd (rd_L1 l0 x5_1) x7_3) < (l0.length : Int) := of_decide_eq_true (by first | (with_reducible assumption) | assumption)
                                              obtain ⟨ad347, A347_0, c347_0, e347, hx347_0, hl347_0, hi347_0⟩ := at_L1 HR0.out (rd (rd_L1 l0 x5_1) x7_3) p347 q347
                                              obtain rfl : ad341 = ad347 := (by injection e347)
                                              replace hx347_0 := (HB.out.cell (World.block_lt_of_cell? w _ hx347_0)).trans hx347_0
                                              have HR347_0 := Aside0.mk hi347_0
                                              have HC347_0 := Aside0.mk hl347_0
                                              clear hi347_0 hl347_0
                                              replace p347 := eq_true p347
                                              replace q347 := eq_true q347
                                              have p348 : 0 ≤ (x6_2 : Int) := of_decide_eq_true (by first | (with_reducible assumption) | assumption)
                                              have q348 : x6_2 < ((rd_L1 l0 (rd (rd_L1 l0 x5_1) x7_3)).length : Int) := of_decide_eq_true (by first | (with_reducible assumption) | assumption)
                                              obtain ⟨ad348, e348, hx348_0⟩ := Kd.at_int HR347_0.out x6_2 p348 q348
                                              cases e348
                                              replace hx348_0 := (HB.out.cell (World.block_lt_of_cell? w _ hx348_0)).trans hx348_0
                                              replace p348 := eq_true p348
                                              replace q348 := eq_true q348
                                              have hcz19_0 : wr.cell? ⟨gb340, 0, none⟩ = some (.int .i64 x341000_3) := (blk_cell BK340.out 0).trans rfl
                                              have hcz19_1 : wr.cell? ⟨gb340, 1, none⟩ = some (.int .i64 x341001_3) := (blk_cell BK340.out 1).trans rfl
                                              have hcz19_2 : wr.cell? ⟨gb340, 2, none⟩ = some (.int .i64 x341002_3) := (blk_cell BK340.out 2).trans rfl
                                              have hfz19_0 := blk_frozen BK340.out 0
                                              have hfz19_1 := blk_frozen BK340.out 1
                                              have hfz19_2 := blk_frozen BK340.out 2
                                              go_wp2
                                              repeat (go_quiet (fail); try go_wp2)
                                              refine bodyPost_ret (results_ct rfl _ _ gb340 43 #[.int .i64 x5_1, .int .i64 x6_2, .int .i64 x7_3] (0, 0) _ rfl (by (with_reducible repeat (first | refine blk_drewN ?_ _ | refine blk_drew ?_ | refine blk_alloc ?_ _)); refine blk_put (cs := #[.int .i64 x5_1, .int .i64 x6_2, .int .i64 x341002_3]) ?_ 2 _ rfl; (with_reducible repeat (first | refine blk_drewN ?_ _ | refine blk_drew ?_ | refine blk_alloc ?_ _)); refine blk_put (cs := #[.int .i64 x5_1, .int .i64 x341001_3, .int .i64 x341002_3]) ?_ 1 _ rfl; (with_reducible repeat (first | refine blk_drewN ?_ _ | refine blk_drew ?_ | refine blk_alloc ?_ _)); refine blk_put (cs := #[.int .i64 x341000_3, .int .i64 x341001_3, .int .i64 x341002_3]) ?_ 0 _ rfl; (with_reducible repeat (first | refine blk_drewN ?_ _ | refine blk_drew ?_ | refine blk_alloc ?_ _)); exact BK340.out) Try.underlying43 rfl (by kernel_rfl)) rfl ?_
                                              exact ⟨by first | rfl | (simp [errW_none, errW_some] <;> rfl) | (simp [*, errW_none, errW_some] <;> rfl), by repeat (first | (with_reducible first | exact HB.out | apply below_alloc | apply pw_below_drewN | apply below_drew1 | refine below_set ?_ GE340.out) | exact HB.out)⟩
                                            · rw [if_neg c18] at H
                                              have c18b0 : ((rd (rd_L1 l0 (rd (rd_L1 l0 x5_1) x6_2)) x7_3) == (rd (rd_L1 l0 (rd (rd_L1 l0 x5_1) x7_3)) x6_2)) = false := beq_eq_false_iff_ne.mpr c18
                                              have c18b1 : ((rd (rd_L1 l0 (rd (rd_L1 l0 x5_1) x6_2)) x7_3) != (rd (rd_L1 l0 (rd (rd_L1 l0 x5_1) x7_3)) x6_2)) = true := bne_iff_ne.mpr c18
                                              have H' := Aside0.mk H
                                              clear H
                                              have p341 : 0 ≤ (x5_1 : Int) := of_decide_eq_true (by first | (with_reducible assumption) | assumption)
                                              have q341 : x5_1 < (l0.length : Int) := of_decide_eq_true (by first | (with_reducible assumption) | assumption)
                                              obtain ⟨ad341, A341_0, c341_0, e341, hx341_0, hl341_0, hi341_0⟩ := at_L1 HR0.out x5_1 p341 q341
                                              cases e341
                                              replace hx341_0 := (HB.out.cell (World.block_lt_of_cell? w _ hx341_0)).trans hx341_0
                                              have HR341_0 := Aside0.mk hi341_0
                                              have HC341_0 := Aside0.mk hl341_0
                                              clear hi341_0 hl341_0
                                              replace p341 := eq_true p341
                                              replace q341 := eq_true q341
                                              have p342 : 0 ≤ (x6_2 : Int) := of_decide_eq_true (by first | (with_reducible assumption) | assumption)
                                              have q342 : x6_2 < ((rd_L1 l0 x5_1).length : Int) := of_decide_eq_true (by first | (with_reducible assumption) | assumption)
                                              obtain ⟨ad342, e342, hx342_0⟩ := Kd.at_int HR341_0.out x6_2 p342 q342
                                              cases e342
                                              replace hx342_0 := (HB.out.cell (World.block_lt_of_cell? w _ hx342_0)).trans hx342_0
                                              replace p342 := eq_true p342
                                              replace q342 := eq_true q342
                                              have p343 : 0 ≤ ((rd (rd_L1 l0 x5_1) x6_2) : Int) := of_decide_eq_true (by first | (with_reducible assumption) | assumption)
                                              have q343 : (rd (rd_L1 l0 x5_1) x6_2) < (l0.length : Int) := of_decide_eq_true (by first | (with_reducible assumption) | assumption)
                                              obtain ⟨ad343, A343_0, c343_0, e343, hx343_0, hl343_0, hi343_0⟩ := at_L1 HR0.out (rd (rd_L1 l0 x5_1) x6_2) p343 q343
                                              obtain rfl : ad341 = ad343 := (by injection e343)
                                              replace hx343_0 := (HB.out.cell (World.block_lt_of_cell? w _ hx343_0)).trans hx343_0
                                              have HR343_0 := Aside0.mk hi343_0
                                              have HC343_0 := Aside0.mk hl343_0
                                              clear hi343_0 hl343_0
                                              replace p343 := eq_true p343
                                              replace q343 := eq_true q343
                                              have p344 : 0 ≤ (x7_3 : Int) := of_decide_eq_true (by first | (with_reducible assumption) | assumption)
                                              have q344 : x7_3 < ((rd_L1 l0 (rd (rd_L1 l0 x5_1) x6_2)).length : Int) := of_decide_eq_true (by first | (with_reducible assumption) | assumption)
                                              obtain ⟨ad344, e344, hx344_0⟩ := Kd.at_int HR343_0.out x7_3 p344 q344
                                              cases e344
                                              replace hx344_0 := (HB.out.cell (World.block_lt_of_cell? w _ hx344_0)).trans hx344_0
                                              replace p344 := eq_true p344
                                              replace q344 := eq_true q344
                                              have p345 : 0 ≤ (x5_1 : Int) := of_decide_eq_true (by first | (with_reducible assumption) | assumption)
                                              have q345 : x5_1 < (l0.length : Int) := of_decide_eq_true (by first | (with_reducible assumption) | assumption)
                                              obtain ⟨ad345, A345_0, c345_0, e345, hx345_0, hl345_0, hi345_0⟩ := at_L1 HR0.out x5_1 p345 q345
                                              obtain rfl : ad341 = ad345 := (by injection e345)
                                              replace hx345_0 := (HB.out.cell (World.block_lt_of_cell? w _ hx345_0)).trans hx345_0
                                              have HR345_0 := Aside0.mk hi345_0
                                              have HC345_0 := Aside0.mk hl345_0
                                              clear hi345_0 hl345_0
                                              replace p345 := eq_true p345
                                              replace q345 := eq_true q345
                                              have ea_ := Option.some.inj (hx341_0.symm.trans hx345_0)
                                              injection ea_ with ea_ en_ ec_
                                              subst ea_
                                              subst ec_
                                              clear en_
                                              have p346 : 0 ≤ (x7_3 : Int) := of_decide_eq_true (by first | (with_reducible assumption) | assumption)
                                              have q346 : x7_3 < ((rd_L1 l0 x5_1).length : Int) := of_decide_eq_true (by first | (with_reducible assumption) | assumption)
                                              obtain ⟨ad346, e346, hx346_0⟩ := Kd.at_int HR345_0.out x7_3 p346 q346
                                              cases e346
                                              replace hx346_0 := (HB.out.cell (World.block_lt_of_cell? w _ hx346_0)).trans hx346_0
                                              replace p346 := eq_true p346
                                              replace q346 := eq_true q346
                                              have p347 : 0 ≤ ((rd (rd_L1 l0 x5_1) x7_3) : Int) := of_decide_eq_true (by first | (with_reducible assumption) | assumption)
                                              have q347 : (rd (rd_L1 l0 x5_1) x7_3) < (l0.length : Int) := of_decide_eq_true (by first | (with_reducible assumption) | assumption)
                                              obtain ⟨ad347, A347_0, c347_0, e347, hx347_0, hl347_0, hi347_0⟩ := at_L1 HR0.out (rd (rd_L1 l0 x5_1) x7_3) p347 q347
                                              obtain rfl : ad341 = ad347 := (by injection e347)
                                              replace hx347_0 := (HB.out.cell (World.block_lt_of_cell? w _ hx347_0)).trans hx347_0
                                              have HR347_0 := Aside0.mk hi347_0
                                              have HC347_0 := Aside0.mk hl347_0
                                              clear hi347_0 hl347_0
                                              replace p347 := eq_true p347
                                              replace q347 := eq_true q347
                                              have p348 : 0 ≤ (x6_2 : Int) := of_decide_eq_true (by first | (with_reducible assumption) | assumption)
                                              have q348 : x6_2 < ((rd_L1 l0 (rd (rd_L1 l0 x5_1) x7_3)).length : Int) := of_decide_eq_true (by first | (with_reducible assumption) | assumption)
                                              obtain ⟨ad348, e348, hx348_0⟩ := Kd.at_int HR347_0.out x6_2 p348 q348
                                              cases e348
                                              replace hx348_0 := (HB.out.cell (World.block_lt_of_cell? w _ hx348_0)).trans hx348_0
                                              replace p348 := eq_true p348
                                              replace q348 := eq_true q348
                                              go_wp2
                                              repeat (go_quiet (fail); try go_wp2)
                                              go_roundg k3
                                              case measure => have := HK1.out; have := HK2.out; have := HK3.out; omega
                                              case rel => exact ⟨(wrap64 (x7_3 + 1)), (x341000_3), (x341001_3), (x341002_3), (by first | rfl | (simp; done) | (simp [*]; done)), H', ⟨by have := HK1.out; have := HK2.out; have := HK3.out; omega⟩, ⟨by (with_reducible repeat (first | refine blk_drewN ?_ _ | refine blk_drew ?_ | refine blk_alloc ?_ _)); exact BK340.out⟩, ⟨by repeat (first | (with_reducible first | exact HB.out | apply below_alloc | apply pw_below_drewN | apply below_drew1 | refine below_set ?_ GE340.out) | exact HB.out)⟩⟩
                                          · rw [if_neg c17] at H
                                            exact absurd H (by simp)
                                        · rw [if_neg c16] at H
                                          exact absurd H (by simp)
                                      · rw [if_neg c15] at H
                                        exact absurd H (by simp)
                                    · rw [if_neg c14] at H
                                      exact absurd H (by simp)
                                  · rw [if_neg c13] at H
                                    exact absurd H (by simp)
                                · rw [if_neg c12] at H
                                  exact absurd H (by simp)
                              · rw [if_neg c11] at H
                                exact absurd H (by simp)
                            · rw [if_neg c10] at H
                              exact absurd H (by simp)
                          · rw [if_neg c9] at H
                            exact absurd H (by simp)
                        · rw [if_neg c8] at H
                          exact absurd H (by simp)
                      · rw [if_neg c7] at H
                        exact absurd H (by simp)
                    · rw [if_neg c6] at H
                      exact absurd H (by simp)
                  · rw [if_neg c5] at H
                    have c5b0 : decide (x7_3 < (l0.length : Int)) = false := decide_eq_false c5
                    clear c5
                    have H' := Aside0.mk H
                    clear H
                    go_wp2
                    repeat (go_quiet (fail); try go_wp2)
                    go_roundg k3
                    case measure => have := HK1.out; have := HK2.out; have := HK3.out; omega
                    case rel => exact ⟨(wrap64 (x6_2 + 1)), (x341000_3), (x341001_3), (x341002_3), (by first | rfl | (simp; done) | (simp [*]; done)), H', ⟨by have := HK1.out; have := HK2.out; have := HK3.out; omega⟩, ⟨by (with_reducible repeat (first | refine blk_drewN ?_ _ | refine blk_drew ?_ | refine blk_alloc ?_ _)); exact BK340.out⟩, ⟨by repeat (first | (with_reducible first | exact HB.out | apply below_alloc | apply pw_below_drewN | apply below_drew1 | refine below_set ?_ GE340.out) | exact HB.out)⟩⟩
            · rw [if_neg c4] at H
              have c4b0 : decide (x6_2 < (l0.length : Int)) = false := decide_eq_false c4
              clear c4
              have H' := Aside0.mk H
              clear H
              go_wp2
              repeat (go_quiet (fail); try go_wp2)
              go_roundg k2
              case measure => have := HK1.out; have := HK2.out; omega
              case rel => exact ⟨(wrap64 (x5_1 + 1)), (x341000_2), (x341001_2), (x341002_2), (by first | rfl | (simp; done) | (simp [*]; done)), H', ⟨by have := HK1.out; have := HK2.out; omega⟩, ⟨by (with_reducible repeat (first | refine blk_drewN ?_ _ | refine blk_drew ?_ | refine blk_alloc ?_ _)); exact BK340.out⟩, ⟨by repeat (first | (with_reducible first | exact HB.out | apply below_alloc | apply pw_below_drewN | apply below_drew1 | refine below_set ?_ GE340.out) | exact HB.out)⟩⟩
      · rw [if_neg c3] at H
        have c3b0 : decide (x5_1 < (l0.length : Int)) = false := decide_eq_false c3
        clear c3
        simp only [Option.some.injEq, Prod.mk.injEq] at H
        obtain ⟨rfl, rfl, rfl, rfl⟩ := H
        have hcz20_0 : wr.cell? ⟨gb340, 0, none⟩ = some (.int .i64 x341000_1) := (blk_cell BK340.out 0).trans rfl
        have hcz20_1 : wr.cell? ⟨gb340, 1, none⟩ = some (.int .i64 x341001_1) := (blk_cell BK340.out 1).trans rfl
        have hcz20_2 : wr.cell? ⟨gb340, 2, none⟩ = some (.int .i64 x341002_1) := (blk_cell BK340.out 2).trans rfl
        have hfz20_0 := blk_frozen BK340.out 0
        have hfz20_1 := blk_frozen BK340.out 1
        have hfz20_2 := blk_frozen BK340.out 2
        go_wp2
        repeat (go_quiet (fail); try go_wp2)
        refine bodyPost_ret (results_ct rfl _ _ gb340 43 #[.int .i64 0, .int .i64 0, .int .i64 0] (0, 0) _ rfl (by (with_reducible repeat (first | refine blk_drewN ?_ _ | refine blk_drew ?_ | refine blk_alloc ?_ _)); refine blk_put (cs := #[.int .i64 0, .int .i64 0, .int .i64 x341002_1]) ?_ 2 _ rfl; (with_reducible repeat (first | refine blk_drewN ?_ _ | refine blk_drew ?_ | refine blk_alloc ?_ _)); refine blk_put (cs := #[.int .i64 0, .int .i64 x341001_1, .int .i64 x341002_1]) ?_ 1 _ rfl; (with_reducible repeat (first | refine blk_drewN ?_ _ | refine blk_drew ?_ | refine blk_alloc ?_ _)); refine blk_put (cs := #[.int .i64 x341000_1, .int .i64 x341001_1, .int .i64 x341002_1]) ?_ 0 _ rfl; (with_reducible repeat (first | refine blk_drewN ?_ _ | refine blk_drew ?_ | refine blk_alloc ?_ _)); exact BK340.out) Try.underlying43 rfl (by kernel_rfl)) rfl ?_
        exact ⟨by first | rfl | (simp [errW_none, errW_some] <;> rfl) | (simp [*, errW_none, errW_some] <;> rfl), by repeat (first | (with_reducible first | exact HB.out | apply below_alloc | apply pw_below_drewN | apply below_drew1 | refine below_set ?_ GE340.out) | exact HB.out)⟩

end Go.Proofs.Ytdkncfmlehcjmaa.X
