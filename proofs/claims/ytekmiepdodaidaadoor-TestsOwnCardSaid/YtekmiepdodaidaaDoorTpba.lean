/- Texts behind TestsOwn, part 27: contracts of the program's functions and the plain words for them. -/
import Derived.Test.YtekmiepdodaidaaDoorTpas
import Derived.Test.YtekmiepdodaidaaDoorTpaz
section
namespace Go.Proofs.YtekmiepdodaidaaDoor.X
open Go.RowKit Go.Proofs.YtekmiepdodaidaaDoorW.PrintWords Go.Proofs.YtekmiepdodaidaaDoorW.PrintLast Go.Proofs.YtekmiepdodaidaaDoorW.PrintMore
attribute [local go_sem] max2_int min2_int max_two min_two max_three min_three max_four min_four   -- for this text's walks alone
set_option linter.unusedVariables false
set_option linter.unusedSimpArgs false

mutual
def tickingref07_Alike.l0 : Nat → List (S53) → Int → List Int → List (List Int) → List Int → Option ((List (S53)))
 | 0, _, _, _, _, _ => none
 | k + 1, x3, x4, x102000, x102001, x102002 => if x4 < (x102000.length : Int) then (tickingref07_Alike.l1 k x3 x4 (wrap64 (x4 + 1)) x102000 x102001 x102002) else (some x3)
def tickingref07_Alike.l1 : Nat → List (S53) → Int → Int → List Int → List (List Int) → List Int → Option ((List (S53)))
 | 0, _, _, _, _, _, _ => none
 | k + 1, x3, x4, x5, x102000, x102001, x102002 => if x5 < (x102000.length : Int) then (tickingref07_Alike.l2 k x3 x4 x5 true 0 x102000 x102001 x102002) else (tickingref07_Alike.l0 k x3 (wrap64 (x4 + 1)) x102000 x102001 x102002)
def tickingref07_Alike.l2 : Nat → List (S53) → Int → Int → Bool → Int → List Int → List (List Int) → List Int → Option ((List (S53)))
 | 0, _, _, _, _, _, _, _, _ => none
 | k + 1, x3, x4, x5, x6, x7, x102000, x102001, x102002 => if x7 < (x102001.length : Int) then (if x6 = true then (if 0 ≤ x7 then (if 0 ≤ x4 then (if x4 < ((rd_L1 x102001 x7).length : Int) then (if 0 ≤ x5 then (if x5 < ((rd_L1 x102001 x7).length : Int) then (tickingref07_Alike.l2 k x3 x4 x5 ((rd (rd_L1 x102001 x7) x4) == (rd (rd_L1 x102001 x7) x5)) (wrap64 (x7 + 1)) x102000 x102001 x102002) else (none)) else (none)) else (none)) else (none)) else (none)) else (tickingref07_Alike.l2 k x3 x4 x5 false (wrap64 (x7 + 1)) x102000 x102001 x102002)) else (if x6 = true then (if x3.length < 8796093022208 then (tickingref07_Alike.l1 k (x3 ++ [(⟨x4, x5⟩ : S53)]) x4 (wrap64 (x5 + 1)) x102000 x102001 x102002) else (none)) else (tickingref07_Alike.l1 k x3 x4 (wrap64 (x5 + 1)) x102000 x102001 x102002))
end
def tickingref07_Alike.f (k : Nat) (l0_0 : List Int) (l0_1 : List (List Int)) (l0_2 : List Int) : Option ((List (S53))) := tickingref07_Alike.l0 k ([] : List (S53)) 0 l0_0 l0_1 l0_2
set_option maxHeartbeats 8000000 in
set_option maxRecDepth 100000 in
theorem tickingref07_Alike.calls (k : Nat) (A0_0 : Option Addr) (c0_0 : Nat) (l0_0 : List Int) (A0_1 : Option Addr) (c0_1 : Nat) (l0_1 : List (List Int)) (A0_2 : Option Addr) (c0_2 : Nat) (l0_2 : List Int) (r : List (S53)) (w : World) (hr0_0 : Kd.C (Kd.int .i64) w A0_0 l0_0.length l0_0) (hc0_0 : l0_0.length ≤ c0_0) (hr0_1 : Kd.C (Kd.slice 3 (Kd.int .i64)) w A0_1 l0_1.length l0_1) (hc0_1 : l0_1.length ≤ c0_1) (hr0_2 : Kd.C (Kd.int .i64) w A0_2 l0_2.length l0_2) (hc0_2 : l0_2.length ≤ c0_2) (h : tickingref07_Alike.f k l0_0 l0_1 l0_2 = some r) :
  Calls Tryd.prog 18 #[.agg #[.slice A0_0 l0_0.length c0_0, .slice A0_1 l0_1.length c0_1, .slice A0_2 l0_2.length c0_2]] w fun e w' => ∃ v0_ : Value, e = .returned (v0_) ∧ Kd.R k53 53 w' w.heap.size (fun _ => True) v0_ r ∧ Below w.heap.size w w' := by
 have hu25 := Tryd.underlying25
 have hu53 := Tryd.underlying53
 have HR0_0 := Aside0.mk hr0_0
 have HC0_0 := Aside0.mk hc0_0
 clear hr0_0 hc0_0
 have HR0_1 := Aside0.mk hr0_1
 have HC0_1 := Aside0.mk hc0_1
 clear hr0_1 hc0_1
 have HR0_2 := Aside0.mk hr0_2
 have HC0_2 := Aside0.mk hc0_2
 clear hr0_2 hc0_2
 have HB := Aside0.mk (Below.refl w.heap.size w)
 have H : (tickingref07_Alike.l0 k ([] : List (S53)) 0 l0_0 l0_1 l0_2) = some r := h
 clear h
 have H' := Aside0.mk H
 clear H
 go_enter Tryd.func18, Tryd.ntmps18
 go_wp2_with (first | ((with_reducible refine gate_dst (N := 1) rfl ?_); refine box_event ?hg (N := 1) ?hd (cs := #[.slice A0_0 l0_0.length c0_0, .slice A0_1 l0_1.length c0_1, .slice A0_2 l0_2.length c0_2]) (t := 25) ?hr ?_; (case hd => rfl); (case hg => rfl); (case hr => first | (go_simp; done) | (go_simp; rfl)); intro gb101 hg w2 hbox hb; have n0_ := Aside0.mk (below_step bz hb); have n1_ := Aside0.mk (hbox); have n2_ := Aside0.mk ((by rw [hg]; exact (below_size bz) : w.heap.size ≤ gb101)); have n3_ := Aside0.mk ((by rw [hg]; exact (below_size bz) : w.heap.size ≤ gb101)); clear HB; have HB := n0_; have BK101 := n1_; have GW101 := n2_; have GE101 := n3_; clear n0_ n1_ n2_ n3_; clear hb hbox hg))
 repeat (go_quiet (first | ((with_reducible refine gate_dst (N := 1) rfl ?_); refine box_event ?hg (N := 1) ?hd (cs := #[.slice A0_0 l0_0.length c0_0, .slice A0_1 l0_1.length c0_1, .slice A0_2 l0_2.length c0_2]) (t := 25) ?hr ?_; (case hd => rfl); (case hg => rfl); (case hr => first | (go_simp; done) | (go_simp; rfl)); intro gb101 hg w2 hbox hb; have n0_ := Aside0.mk (below_step bz hb); have n1_ := Aside0.mk (hbox); have n2_ := Aside0.mk ((by rw [hg]; exact (below_size bz) : w.heap.size ≤ gb101)); have n3_ := Aside0.mk ((by rw [hg]; exact (below_size bz) : w.heap.size ≤ gb101)); clear HB; have HB := n0_; have BK101 := n1_; have GW101 := n2_; have GE101 := n3_; clear n0_ n1_ n2_ n3_; clear hb hbox hg)); try go_wp2_with (first | ((with_reducible refine gate_dst (N := 1) rfl ?_); refine box_event ?hg (N := 1) ?hd (cs := #[.slice A0_0 l0_0.length c0_0, .slice A0_1 l0_1.length c0_1, .slice A0_2 l0_2.length c0_2]) (t := 25) ?hr ?_; (case hd => rfl); (case hg => rfl); (case hr => first | (go_simp; done) | (go_simp; rfl)); intro gb101 hg w2 hbox hb; have n0_ := Aside0.mk (below_step bz hb); have n1_ := Aside0.mk (hbox); have n2_ := Aside0.mk ((by rw [hg]; exact (below_size bz) : w.heap.size ≤ gb101)); have n3_ := Aside0.mk ((by rw [hg]; exact (below_size bz) : w.heap.size ≤ gb101)); clear HB; have HB := n0_; have BK101 := n1_; have GW101 := n2_; have GE101 := n3_; clear n0_ n1_ n2_ n3_; clear hb hbox hg)))
 go_loopg [3, 4] k (fun kq v3 v4 w' => ∃ (x3_1 : List (S53)) (x4_1 : Int), v4 = .int .i64 x4_1 ∧ Aside0 (tickingref07_Alike.l0 kq x3_1 x4_1 l0_0 l0_1 l0_2 = some r) ∧ Aside0 (kq ≤ k) ∧ Aside0 (Kd.R k53 53 w' w.heap.size (fun _ => True) v3 x3_1) ∧ Aside0 (w'.heap[gb101]? = some (.cells #[(.slice A0_0 l0_0.length c0_0), (.slice A0_1 l0_1.length c0_1), (.slice A0_2 l0_2.length c0_2)] 25 (0, 0))) ∧ Aside0 (Below w.heap.size w w'))
 case atStart => exact ⟨(([] : List (S53))), (0), (by first | rfl | (simp; done) | (simp [*]; done)), H', ⟨Nat.le_refl _⟩, ⟨by first | exact Kd.R_nil _ _ _ _ _ | exact Kd.N_nil _ _ _ _ _ | exact Kd.V_nil _ _ _ _ _ | exact Kd.Q_nil _ _ _ _ _ | exact Kd.S_nil _ _ _ _ _⟩, ⟨by (with_reducible repeat (first | refine blk_drewN ?_ _ | refine blk_drew ?_ | refine blk_alloc ?_ _)); exact BK101.out⟩, ⟨by repeat (first | (with_reducible first | exact HB.out | apply below_alloc | apply pw_below_drewN | apply below_drew1 | refine below_set ?_ GE101.out) | exact HB.out)⟩⟩
 case round =>
  clear H'
  try clear c1
  try clear p2
  obtain ⟨x3_1, x4_1, rfl, HA, HK1, HO_3, BK101, HB⟩ := hrel
  cases gk with
  | zero => exact absurd HA.out (by simp [tickingref07_Alike.l0])
  | succ k1 =>
   have H := HA.out
   clear HA
   simp only [tickingref07_Alike.l0] at H
   by_cases c3 : x4_1 < (l0_0.length : Int)
   ·rw [if_pos c3] at H
    have c3b0 : decide (x4_1 < (l0_0.length : Int)) = true := decide_eq_true c3
    clear c3
    have H' := Aside0.mk H
    clear H
    have hcz4_0 : wr.cell? ⟨gb101, 0, none⟩ = some (.slice A0_0 l0_0.length c0_0) := (blk_cell BK101.out 0).trans rfl
    have hcz4_1 : wr.cell? ⟨gb101, 1, none⟩ = some (.slice A0_1 l0_1.length c0_1) := (blk_cell BK101.out 1).trans rfl
    have hcz4_2 : wr.cell? ⟨gb101, 2, none⟩ = some (.slice A0_2 l0_2.length c0_2) := (blk_cell BK101.out 2).trans rfl
    have hfz4_0 := blk_frozen BK101.out 0
    have hfz4_1 := blk_frozen BK101.out 1
    have hfz4_2 := blk_frozen BK101.out 2
    go_wp2
    repeat (go_quiet (fail); try go_wp2)
    go_loopg [3, 5] k1 (fun kq v3 v5 w' => ∃ (x3_2 : List (S53)) (x5_2 : Int), v5 = .int .i64 x5_2 ∧ Aside0 (tickingref07_Alike.l1 kq x3_2 x4_1 x5_2 l0_0 l0_1 l0_2 = some r) ∧ Aside0 (kq ≤ k1) ∧ Aside0 (Kd.R k53 53 w' w.heap.size (fun _ => True) v3 x3_2) ∧ Aside0 (w'.heap[gb101]? = some (.cells #[(.slice A0_0 l0_0.length c0_0), (.slice A0_1 l0_1.length c0_1), (.slice A0_2 l0_2.length c0_2)] 25 (0, 0))) ∧ Aside0 (Below w.heap.size w w'))
    case atStart => exact ⟨(x3_1), (wrap64 (x4_1 + 1)), (by first | rfl | (simp; done) | (simp [*]; done)), H', ⟨Nat.le_refl _⟩, ⟨by (with_reducible repeat (first | apply Kd.R_alloc | apply Kd.R_drewN | apply Kd.R_drew)); exact HO_3.out⟩, ⟨by (with_reducible repeat (first | refine blk_drewN ?_ _ | refine blk_drew ?_ | refine blk_alloc ?_ _)); exact BK101.out⟩, ⟨by repeat (first | (with_reducible first | exact HB.out | apply below_alloc | apply pw_below_drewN | apply below_drew1 | refine below_set ?_ GE101.out) | exact HB.out)⟩⟩
    case round =>
     clear H'
     try clear c1
     try clear p2
     try clear c3
     try clear c3b0
     try clear hcz4_0
     try clear hcz4_1
     try clear hcz4_2
     try clear hfz4_0
     try clear hfz4_1
     try clear hfz4_2
     try clear p2
     obtain ⟨x3_2, x5_2, rfl, HA, HK2, HO_3, BK101, HB⟩ := hrel
     cases gk with
     | zero => exact absurd HA.out (by simp [tickingref07_Alike.l1])
     | succ k2 =>
      have H := HA.out
      clear HA
      simp only [tickingref07_Alike.l1] at H
      by_cases c5 : x5_2 < (l0_0.length : Int)
      ·rw [if_pos c5] at H
       have c5b0 : decide (x5_2 < (l0_0.length : Int)) = true := decide_eq_true c5
       clear c5
       have H' := Aside0.mk H
       clear H
       have hcz6_0 : wr.cell? ⟨gb101, 0, none⟩ = some (.slice A0_0 l0_0.length c0_0) := (blk_cell BK101.out 0).trans rfl
       have hcz6_1 : wr.cell? ⟨gb101, 1, none⟩ = some (.slice A0_1 l0_1.length c0_1) := (blk_cell BK101.out 1).trans rfl
       have hcz6_2 : wr.cell? ⟨gb101, 2, none⟩ = some (.slice A0_2 l0_2.length c0_2) := (blk_cell BK101.out 2).trans rfl
       have hfz6_0 := blk_frozen BK101.out 0
       have hfz6_1 := blk_frozen BK101.out 1
       have hfz6_2 := blk_frozen BK101.out 2
       go_wp2
       repeat (go_quiet (fail); try go_wp2)
       go_loopg [6, 7] k2 (fun kq v6 v7 w' => ∃ (x6_3 : Bool) (x7_3 : Int), v6 = .bool x6_3 ∧ v7 = .int .i64 x7_3 ∧ Aside0 (tickingref07_Alike.l2 kq x3_2 x4_1 x5_2 x6_3 x7_3 l0_0 l0_1 l0_2 = some r) ∧ Aside0 (kq ≤ k2) ∧ Aside0 (Kd.R k53 53 w' w.heap.size (fun _ => True) u3 x3_2) ∧ Aside0 (w'.heap[gb101]? = some (.cells #[(.slice A0_0 l0_0.length c0_0), (.slice A0_1 l0_1.length c0_1), (.slice A0_2 l0_2.length c0_2)] 25 (0, 0))) ∧ Aside0 (Below w.heap.size w w'))
       case atStart => exact ⟨(true), (0), (by first | rfl | (simp; done) | (simp [*]; done)), (by first | rfl | (simp; done) | (simp [*]; done)), H', ⟨Nat.le_refl _⟩, ⟨by (with_reducible repeat (first | apply Kd.R_alloc | apply Kd.R_drewN | apply Kd.R_drew)); exact HO_3.out⟩, ⟨by (with_reducible repeat (first | refine blk_drewN ?_ _ | refine blk_drew ?_ | refine blk_alloc ?_ _)); exact BK101.out⟩, ⟨by repeat (first | (with_reducible first | exact HB.out | apply below_alloc | apply pw_below_drewN | apply below_drew1 | refine below_set ?_ GE101.out) | exact HB.out)⟩⟩
       case round =>
        clear H'
        try clear c1
        try clear p2
        try clear c3
        try clear c3b0
        try clear c5
        try clear c5b0
        try clear p6
        try clear hcz4_0
        try clear hcz4_1
        try clear hcz4_2
        try clear hcz6_0
        try clear hcz6_1
        try clear hcz6_2
        try clear hfz4_0
        try clear hfz4_1
        try clear hfz4_2
        try clear hfz6_0
        try clear hfz6_1
        try clear hfz6_2
        try clear p2
        obtain ⟨x6_3, x7_3, rfl, rfl, HA, HK3, HO_3, BK101, HB⟩ := hrel
        cases gk with
        | zero => exact absurd HA.out (by simp [tickingref07_Alike.l2])
        | succ k3 =>
         have H := HA.out
         clear HA
         simp only [tickingref07_Alike.l2] at H
         by_cases c7 : x7_3 < (l0_1.length : Int)
         ·rw [if_pos c7] at H
          have c7b0 : decide (x7_3 < (l0_1.length : Int)) = true := decide_eq_true c7
          clear c7
          by_cases c8 : x6_3 = true
          ·subst c8
           have H1 : (if 0 ≤ x7_3 then (if 0 ≤ x4_1 then (if x4_1 < ((rd_L1 l0_1 x7_3).length : Int) then (if 0 ≤ x5_2 then (if x5_2 < ((rd_L1 l0_1 x7_3).length : Int) then (tickingref07_Alike.l2 k3 x3_2 x4_1 x5_2 ((rd (rd_L1 l0_1 x7_3) x4_1) == (rd (rd_L1 l0_1 x7_3) x5_2)) (wrap64 (x7_3 + 1)) l0_0 l0_1 l0_2) else (none)) else (none)) else (none)) else (none)) else (none)) = some r := by rw [if_pos rfl] at H; exact H
           clear H
           have H := H1
           clear H1
           by_cases c9 : 0 ≤ x7_3
           ·rw [if_pos c9] at H
            have c9b0 : decide (0 ≤ x7_3) = true := decide_eq_true c9
            clear c9
            by_cases c10 : 0 ≤ x4_1
            ·rw [if_pos c10] at H
             have c10b0 : decide (0 ≤ x4_1) = true := decide_eq_true c10
             clear c10
             by_cases c11 : x4_1 < ((rd_L1 l0_1 x7_3).length : Int)
             ·rw [if_pos c11] at H
              have c11b0 : decide (x4_1 < ((rd_L1 l0_1 x7_3).length : Int)) = true := decide_eq_true c11
              clear c11
              by_cases c12 : 0 ≤ x5_2
              ·rw [if_pos c12] at H
               have c12b0 : decide (0 ≤ x5_2) = true := decide_eq_true c12
               clear c12
               by_cases c13 : x5_2 < ((rd_L1 l0_1 x7_3).length : Int)
               ·rw [if_pos c13] at H
                have c13b0 : decide (x5_2 < ((rd_L1 l0_1 x7_3).length : Int)) = true := decide_eq_true c13
                clear c13
                have H' := Aside0.mk H
                clear H
                have hcz14_0 : wr.cell? ⟨gb101, 0, none⟩ = some (.slice A0_0 l0_0.length c0_0) := (blk_cell BK101.out 0).trans rfl
                have hcz14_1 : wr.cell? ⟨gb101, 1, none⟩ = some (.slice A0_1 l0_1.length c0_1) := (blk_cell BK101.out 1).trans rfl
                have hcz14_2 : wr.cell? ⟨gb101, 2, none⟩ = some (.slice A0_2 l0_2.length c0_2) := (blk_cell BK101.out 2).trans rfl
                have hfz14_0 := blk_frozen BK101.out 0
                have hfz14_1 := blk_frozen BK101.out 1
                have hfz14_2 := blk_frozen BK101.out 2
                have p102 : 0 ≤ (x7_3 : Int) := of_decide_eq_true az
                have q102 : x7_3 < (l0_1.length : Int) := of_decide_eq_true az
                obtain ⟨ad102, A102_0, c102_0, e102, hx102_0, hl102_0, hi102_0⟩ := at_L1 HR0_1.out x7_3 p102 q102
                cases e102
                replace hx102_0 := (HB.out.cell (World.block_lt_of_cell? w _ hx102_0)).trans hx102_0
                have HR102_0 := Aside0.mk hi102_0
                have HC102_0 := Aside0.mk hl102_0
                clear hi102_0 hl102_0
                replace p102 := eq_true p102
                replace q102 := eq_true q102
                have p103 : 0 ≤ (x4_1 : Int) := of_decide_eq_true az
                have q103 : x4_1 < ((rd_L1 l0_1 x7_3).length : Int) := of_decide_eq_true az
                obtain ⟨ad103, e103, hx103_0⟩ := Kd.at_int HR102_0.out x4_1 p103 q103
                cases e103
                replace hx103_0 := (HB.out.cell (World.block_lt_of_cell? w _ hx103_0)).trans hx103_0
                replace p103 := eq_true p103
                replace q103 := eq_true q103
                have p104 : 0 ≤ (x7_3 : Int) := of_decide_eq_true az
                have q104 : x7_3 < (l0_1.length : Int) := of_decide_eq_true az
                obtain ⟨ad104, A104_0, c104_0, e104, hx104_0, hl104_0, hi104_0⟩ := at_L1 HR0_1.out x7_3 p104 q104
                obtain rfl : ad102 = ad104 := (by injection e104)
                replace hx104_0 := (HB.out.cell (World.block_lt_of_cell? w _ hx104_0)).trans hx104_0
                have HR104_0 := Aside0.mk hi104_0
                have HC104_0 := Aside0.mk hl104_0
                clear hi104_0 hl104_0
                replace p104 := eq_true p104
                replace q104 := eq_true q104
                have ea_ := Option.some.inj (hx102_0.symm.trans hx104_0)
                injection ea_ with ea_ en_ ec_
                subst ea_
                subst ec_
                clear en_
                have p105 : 0 ≤ (x5_2 : Int) := of_decide_eq_true az
                have q105 : x5_2 < ((rd_L1 l0_1 x7_3).length : Int) := of_decide_eq_true az
                obtain ⟨ad105, e105, hx105_0⟩ := Kd.at_int HR104_0.out x5_2 p105 q105
                cases e105
                replace hx105_0 := (HB.out.cell (World.block_lt_of_cell? w _ hx105_0)).trans hx105_0
                replace p105 := eq_true p105
                replace q105 := eq_true q105
                go_wp2
                repeat (go_quiet (fail); try go_wp2)
                go_roundg k3
                case measure => have := HK1.out; have := HK2.out; have := HK3.out; omega
                case rel => exact ⟨(((rd (rd_L1 l0_1 x7_3) x4_1) == (rd (rd_L1 l0_1 x7_3) x5_2))), (wrap64 (x7_3 + 1)), (by first | rfl | (simp; done) | (simp [*]; done)), (by first | rfl | (simp; done) | (simp [*]; done)), H', ⟨by have := HK1.out; have := HK2.out; have := HK3.out; omega⟩, ⟨by (with_reducible repeat (first | apply Kd.R_alloc | apply Kd.R_drewN | apply Kd.R_drew)); exact HO_3.out⟩, ⟨by (with_reducible repeat (first | refine blk_drewN ?_ _ | refine blk_drew ?_ | refine blk_alloc ?_ _)); exact BK101.out⟩, ⟨by repeat (first | (with_reducible first | exact HB.out | apply below_alloc | apply pw_below_drewN | apply below_drew1 | refine below_set ?_ GE101.out) | exact HB.out)⟩⟩
               ·rw [if_neg c13] at H
                exact absurd H (by simp)
              ·rw [if_neg c12] at H
               exact absurd H (by simp)
             ·rw [if_neg c11] at H
              exact absurd H (by simp)
            ·rw [if_neg c10] at H
             exact absurd H (by simp)
           ·rw [if_neg c9] at H
            exact absurd H (by simp)
          ·replace c8 := Bool.eq_false_iff.mpr c8
           subst c8
           have H1 : (tickingref07_Alike.l2 k3 x3_2 x4_1 x5_2 false (wrap64 (x7_3 + 1)) l0_0 l0_1 l0_2) = some r := by rw [if_neg (show ¬ (false = true) by decide)] at H; exact H
           clear H
           have H := H1
           clear H1
           have H' := Aside0.mk H
           clear H
           have hcz15_0 : wr.cell? ⟨gb101, 0, none⟩ = some (.slice A0_0 l0_0.length c0_0) := (blk_cell BK101.out 0).trans rfl
           have hcz15_1 : wr.cell? ⟨gb101, 1, none⟩ = some (.slice A0_1 l0_1.length c0_1) := (blk_cell BK101.out 1).trans rfl
           have hcz15_2 : wr.cell? ⟨gb101, 2, none⟩ = some (.slice A0_2 l0_2.length c0_2) := (blk_cell BK101.out 2).trans rfl
           have hfz15_0 := blk_frozen BK101.out 0
           have hfz15_1 := blk_frozen BK101.out 1
           have hfz15_2 := blk_frozen BK101.out 2
           go_wp2
           repeat (go_quiet (fail); try go_wp2)
           go_roundg k3
           case measure => have := HK1.out; have := HK2.out; have := HK3.out; omega
           case rel => exact ⟨(false), (wrap64 (x7_3 + 1)), (by first | rfl | (simp; done) | (simp [*]; done)), (by first | rfl | (simp; done) | (simp [*]; done)), H', ⟨by have := HK1.out; have := HK2.out; have := HK3.out; omega⟩, ⟨by (with_reducible repeat (first | apply Kd.R_alloc | apply Kd.R_drewN | apply Kd.R_drew)); exact HO_3.out⟩, ⟨by (with_reducible repeat (first | refine blk_drewN ?_ _ | refine blk_drew ?_ | refine blk_alloc ?_ _)); exact BK101.out⟩, ⟨by repeat (first | (with_reducible first | exact HB.out | apply below_alloc | apply pw_below_drewN | apply below_drew1 | refine below_set ?_ GE101.out) | exact HB.out)⟩⟩
         ·rw [if_neg c7] at H
          have c7b0 : decide (x7_3 < (l0_1.length : Int)) = false := decide_eq_false c7
          clear c7
          by_cases c16 : x6_3 = true
          ·subst c16
           have H1 : (if x3_2.length < 8796093022208 then (tickingref07_Alike.l1 k3 (x3_2 ++ [(⟨x4_1, x5_2⟩ : S53)]) x4_1 (wrap64 (x5_2 + 1)) l0_0 l0_1 l0_2) else (none)) = some r := by rw [if_pos rfl] at H; exact H
           clear H
           have H := H1
           clear H1
           by_cases c17 : x3_2.length < 8796093022208
           ·rw [if_pos c17] at H
            have LMc17 := Aside0.mk c17
            clear c17
            obtain ⟨y106, hy106⟩ : ∃ y_ : List (S53), y_ = (x3_2 ++ [(⟨x4_1, x5_2⟩ : S53)]) := ⟨_, rfl⟩
            replace H : (tickingref07_Alike.l1 k3 y106 x4_1 (wrap64 (x5_2 + 1)) l0_0 l0_1 l0_2) = some r := by first | (rw [hy106]; with_reducible exact H) | (have H2_ := (Option.bind_some _ _).symm.trans H; rw [hy106]; with_reducible exact H2_) | (have H2_ := (Option.bind_some _ _).symm.trans H; with_reducible exact H2_) | with_reducible exact H | (rw [hy106]; exact H) | exact H
            have Ny106 := Aside0.mk hy106
            clear hy106
            have H' := Aside0.mk H
            clear H
            have hcz18_0 : wr.cell? ⟨gb101, 0, none⟩ = some (.slice A0_0 l0_0.length c0_0) := (blk_cell BK101.out 0).trans rfl
            have hcz18_1 : wr.cell? ⟨gb101, 1, none⟩ = some (.slice A0_1 l0_1.length c0_1) := (blk_cell BK101.out 1).trans rfl
            have hcz18_2 : wr.cell? ⟨gb101, 2, none⟩ = some (.slice A0_2 l0_2.length c0_2) := (blk_cell BK101.out 2).trans rfl
            have hfz18_0 := blk_frozen BK101.out 0
            have hfz18_1 := blk_frozen BK101.out 1
            have hfz18_2 := blk_frozen BK101.out 2
            go_wp2_with (first | ((with_reducible refine gate_builtin (b := .append) (xs := #[.tmp 52, .tmp 56]) rfl ?_); at_builtin; refine Kd.R_append k53 (w0 := w) w.heap.size rfl (.tmp 52) (.tmp 56) 33 53 (.agg #[(.int .i64 0), (.int .i64 0)]) 16 rfl Tryd.underlying33 info53 rfl (by decide) (by omega) u3 x3_2 (⟨x4_1, x5_2⟩ : S53) [.int .i64 x4_1, .int .i64 x5_2] (fun _ => True) (fun _ => False) rfl rfl ?aP (fun _ hk => hk.elim) ?aF ?aO ?aB ?aS ?aL ?_; (case aP => exact k53_mkM _ _ _ (⟨x4_1, x5_2⟩ : S53)); (case aB => exact bz); (case aF => exact (fun _ _ => trivial)); (case aO => exact (rz HO_3.out)); (case aS => exact (below_size bz)); (case aL => have := LMc17.out; omega); intro v107 w19 ho hb hg hat; rw [← Ny106.out] at ho; have n0_ := Aside0.mk (blk_grown (g := gb101) (o := .cells #[.slice A0_0 l0_0.length c0_0, .slice A0_1 l0_1.length c0_1, .slice A0_2 l0_2.length c0_2] 25 (0, 0)) (kz BK101.out) hg (Kd.R_ne HO_3.out BK101.out (by decide))); have n1_ := Aside0.mk (hb); have n2_ := Aside0.mk (ho); clear BK101; clear HB; clear HO_3; have BK101 := n0_; have HB := n1_; have HO108 := n2_; clear n0_ n1_ n2_; clear ho hb hg hat))
            repeat (go_quiet (first | ((with_reducible refine gate_builtin (b := .append) (xs := #[.tmp 52, .tmp 56]) rfl ?_); at_builtin; refine Kd.R_append k53 (w0 := w) w.heap.size rfl (.tmp 52) (.tmp 56) 33 53 (.agg #[(.int .i64 0), (.int .i64 0)]) 16 rfl Tryd.underlying33 info53 rfl (by decide) (by omega) u3 x3_2 (⟨x4_1, x5_2⟩ : S53) [.int .i64 x4_1, .int .i64 x5_2] (fun _ => True) (fun _ => False) rfl rfl ?aP (fun _ hk => hk.elim) ?aF ?aO ?aB ?aS ?aL ?_; (case aP => exact k53_mkM _ _ _ (⟨x4_1, x5_2⟩ : S53)); (case aB => exact bz); (case aF => exact (fun _ _ => trivial)); (case aO => exact (rz HO_3.out)); (case aS => exact (below_size bz)); (case aL => have := LMc17.out; omega); intro v107 w19 ho hb hg hat; rw [← Ny106.out] at ho; have n0_ := Aside0.mk (blk_grown (g := gb101) (o := .cells #[.slice A0_0 l0_0.length c0_0, .slice A0_1 l0_1.length c0_1, .slice A0_2 l0_2.length c0_2] 25 (0, 0)) (kz BK101.out) hg (Kd.R_ne HO_3.out BK101.out (by decide))); have n1_ := Aside0.mk (hb); have n2_ := Aside0.mk (ho); clear BK101; clear HB; clear HO_3; have BK101 := n0_; have HB := n1_; have HO108 := n2_; clear n0_ n1_ n2_; clear ho hb hg hat)); try go_wp2_with (first | ((with_reducible refine gate_builtin (b := .append) (xs := #[.tmp 52, .tmp 56]) rfl ?_); at_builtin; refine Kd.R_append k53 (w0 := w) w.heap.size rfl (.tmp 52) (.tmp 56) 33 53 (.agg #[(.int .i64 0), (.int .i64 0)]) 16 rfl Tryd.underlying33 info53 rfl (by decide) (by omega) u3 x3_2 (⟨x4_1, x5_2⟩ : S53) [.int .i64 x4_1, .int .i64 x5_2] (fun _ => True) (fun _ => False) rfl rfl ?aP (fun _ hk => hk.elim) ?aF ?aO ?aB ?aS ?aL ?_; (case aP => exact k53_mkM _ _ _ (⟨x4_1, x5_2⟩ : S53)); (case aB => exact bz); (case aF => exact (fun _ _ => trivial)); (case aO => exact (rz HO_3.out)); (case aS => exact (below_size bz)); (case aL => have := LMc17.out; omega); intro v107 w19 ho hb hg hat; rw [← Ny106.out] at ho; have n0_ := Aside0.mk (blk_grown (g := gb101) (o := .cells #[.slice A0_0 l0_0.length c0_0, .slice A0_1 l0_1.length c0_1, .slice A0_2 l0_2.length c0_2] 25 (0, 0)) (kz BK101.out) hg (Kd.R_ne HO_3.out BK101.out (by decide))); have n1_ := Aside0.mk (hb); have n2_ := Aside0.mk (ho); clear BK101; clear HB; clear HO_3; have BK101 := n0_; have HB := n1_; have HO108 := n2_; clear n0_ n1_ n2_; clear ho hb hg hat)))
            go_roundg k3
            case measure => have := HK1.out; have := HK2.out; have := HK3.out; omega
            case rel => exact ⟨(y106), (wrap64 (x5_2 + 1)), (by first | rfl | (simp; done) | (simp [*]; done)), H', ⟨by have := HK1.out; have := HK2.out; have := HK3.out; omega⟩, ⟨by (with_reducible repeat (first | apply Kd.R_alloc | apply Kd.R_drewN | apply Kd.R_drew)); exact HO108.out⟩, ⟨by (with_reducible repeat (first | refine blk_drewN ?_ _ | refine blk_drew ?_ | refine blk_alloc ?_ _)); exact BK101.out⟩, ⟨by repeat (first | (with_reducible first | exact HB.out | apply below_alloc | apply pw_below_drewN | apply below_drew1 | refine below_set ?_ GE101.out) | exact HB.out)⟩⟩
           ·rw [if_neg c17] at H
            exact absurd H (by simp)
          ·replace c16 := Bool.eq_false_iff.mpr c16
           subst c16
           have H1 : (tickingref07_Alike.l1 k3 x3_2 x4_1 (wrap64 (x5_2 + 1)) l0_0 l0_1 l0_2) = some r := by rw [if_neg (show ¬ (false = true) by decide)] at H; exact H
           clear H
           have H := H1
           clear H1
           have H' := Aside0.mk H
           clear H
           have hcz20_0 : wr.cell? ⟨gb101, 0, none⟩ = some (.slice A0_0 l0_0.length c0_0) := (blk_cell BK101.out 0).trans rfl
           have hcz20_1 : wr.cell? ⟨gb101, 1, none⟩ = some (.slice A0_1 l0_1.length c0_1) := (blk_cell BK101.out 1).trans rfl
           have hcz20_2 : wr.cell? ⟨gb101, 2, none⟩ = some (.slice A0_2 l0_2.length c0_2) := (blk_cell BK101.out 2).trans rfl
           have hfz20_0 := blk_frozen BK101.out 0
           have hfz20_1 := blk_frozen BK101.out 1
           have hfz20_2 := blk_frozen BK101.out 2
           go_wp2
           repeat (go_quiet (fail); try go_wp2)
           go_roundg k3
           case measure => have := HK1.out; have := HK2.out; have := HK3.out; omega
           case rel => exact ⟨(x3_2), (wrap64 (x5_2 + 1)), (by first | rfl | (simp; done) | (simp [*]; done)), H', ⟨by have := HK1.out; have := HK2.out; have := HK3.out; omega⟩, ⟨by (with_reducible repeat (first | apply Kd.R_alloc | apply Kd.R_drewN | apply Kd.R_drew)); exact HO_3.out⟩, ⟨by (with_reducible repeat (first | refine blk_drewN ?_ _ | refine blk_drew ?_ | refine blk_alloc ?_ _)); exact BK101.out⟩, ⟨by repeat (first | (with_reducible first | exact HB.out | apply below_alloc | apply pw_below_drewN | apply below_drew1 | refine below_set ?_ GE101.out) | exact HB.out)⟩⟩
      ·rw [if_neg c5] at H
       have c5b0 : decide (x5_2 < (l0_0.length : Int)) = false := decide_eq_false c5
       clear c5
       have H' := Aside0.mk H
       clear H
       have hcz21_0 : wr.cell? ⟨gb101, 0, none⟩ = some (.slice A0_0 l0_0.length c0_0) := (blk_cell BK101.out 0).trans rfl
       have hcz21_1 : wr.cell? ⟨gb101, 1, none⟩ = some (.slice A0_1 l0_1.length c0_1) := (blk_cell BK101.out 1).trans rfl
       have hcz21_2 : wr.cell? ⟨gb101, 2, none⟩ = some (.slice A0_2 l0_2.length c0_2) := (blk_cell BK101.out 2).trans rfl
       have hfz21_0 := blk_frozen BK101.out 0
       have hfz21_1 := blk_frozen BK101.out 1
       have hfz21_2 := blk_frozen BK101.out 2
       go_wp2
       repeat (go_quiet (fail); try go_wp2)
       go_roundg k2
       case measure => have := HK1.out; have := HK2.out; omega
       case rel => exact ⟨(x3_2), (wrap64 (x4_1 + 1)), (by first | rfl | (simp; done) | (simp [*]; done)), H', ⟨by have := HK1.out; have := HK2.out; omega⟩, ⟨by (with_reducible repeat (first | apply Kd.R_alloc | apply Kd.R_drewN | apply Kd.R_drew)); exact HO_3.out⟩, ⟨by (with_reducible repeat (first | refine blk_drewN ?_ _ | refine blk_drew ?_ | refine blk_alloc ?_ _)); exact BK101.out⟩, ⟨by repeat (first | (with_reducible first | exact HB.out | apply below_alloc | apply pw_below_drewN | apply below_drew1 | refine below_set ?_ GE101.out) | exact HB.out)⟩⟩
   ·rw [if_neg c3] at H
    have c3b0 : decide (x4_1 < (l0_0.length : Int)) = false := decide_eq_false c3
    clear c3
    obtain rfl := Option.some.inj H
    have hcz22_0 : wr.cell? ⟨gb101, 0, none⟩ = some (.slice A0_0 l0_0.length c0_0) := (blk_cell BK101.out 0).trans rfl
    have hcz22_1 : wr.cell? ⟨gb101, 1, none⟩ = some (.slice A0_1 l0_1.length c0_1) := (blk_cell BK101.out 1).trans rfl
    have hcz22_2 : wr.cell? ⟨gb101, 2, none⟩ = some (.slice A0_2 l0_2.length c0_2) := (blk_cell BK101.out 2).trans rfl
    have hfz22_0 := blk_frozen BK101.out 0
    have hfz22_1 := blk_frozen BK101.out 1
    have hfz22_2 := blk_frozen BK101.out 2
    go_wp2
    repeat (go_quiet (fail); try go_wp2)
    go_ret
    exact ⟨_, by first | rfl | (simp [errW_none, errW_some] <;> rfl) | (simp [*, errW_none, errW_some] <;> rfl), by (with_reducible repeat (first | apply Kd.R_alloc | apply Kd.R_drewN | apply Kd.R_drew)); exact HO_3.out, by repeat (first | (with_reducible first | exact HB.out | apply below_alloc | apply pw_below_drewN | apply below_drew1 | refine below_set ?_ GE101.out) | exact HB.out)⟩

end Go.Proofs.YtekmiepdodaidaaDoor.X
end

section
namespace Go.Proofs.YtekmiepdodaidaaDoor.X
open Go.RowKit Go.Proofs.YtekmiepdodaidaaDoorW.PrintWords Go.Proofs.YtekmiepdodaidaaDoorW.PrintLast Go.Proofs.YtekmiepdodaidaaDoorW.PrintMore
attribute [local go_sem] max2_int min2_int max_two min_two max_three min_three max_four min_four   -- for this text's walks alone
set_option linter.unusedVariables false
set_option linter.unusedSimpArgs false

def tickingref07_Best.T15 : Bool × List (List Nat × List Nat) := (true, [([], []), ([], []), ([], []), ([], []), ([2, 3], [2, 3]), ([4], [4]), ([], []), ([6], [6]), ([], []), ([7, 8], [7, 8]), ([9], [9]), ([], []), ([], []), ([11, 12], [11, 12]), ([10, 13], [10, 13]), ([], []), ([], []), ([15, 16], [15, 16]), ([17], [17]), ([14, 18], [14, 18]), ([], []), ([], []), ([20, 21], [20, 21]), ([22], [22]), ([19, 23], [19, 23]), ([5, 24], [5, 24]), ([0, 1, 0, 1, 2, 3, 4, 5, 6, 7, 8, 9, 10, 11, 12, 13, 14, 15, 16, 17, 18, 19, 20, 21, 22, 23, 24, 25], [0, 1]), ([26, 25, 13, 0, 1, 2, 3, 4, 5, 6, 7, 8, 9, 10, 11, 12, 13, 14, 15, 16, 17, 18, 19, 20, 21, 22, 23, 24, 25], [25, 26])])
def tickingref07_Best.B15 : List Nat := [0, 0, 0, 0, 12, 28, 0, 64, 0, 448, 960, 0, 0, 6144, 16320, 0, 0, 98304, 229376, 524224, 0, 0, 3145728, 7340032, 16777152, 33554428, 67108863, 134217727]
theorem tickingref07_Best.tab15 : rtab .any (opsOf Tryd.f19 15) = tickingref07_Best.T15 := by kernel_rfl
theorem tickingref07_Best.bits15 : waitsOk tickingref07_Best.T15.2 tickingref07_Best.B15 = true := by kernel_rfl
end Go.Proofs.YtekmiepdodaidaaDoor.X
end

section
/- Layer 7, plain: the reference's Alike and Best. -/
set_option linter.unusedVariables false
namespace Go.Proofs.YtekmiepdodaidaaDoor.X
open Go.RowKit Go.Proofs.YtekmiepdodaidaaDoorW.PrintWords Go.Proofs.YtekmiepdodaidaaDoorW.PrintLast Go.Proofs.YtekmiepdodaidaaDoorW.PrintMore

theorem onesOf_at (b : List (List Int)) (t : Nat) (ht : t < b.length) : (onesOf b).drop t = (rowV b[t] : Int) :: (onesOf b).drop (t + 1) := by
 have hl : t < (onesOf b).length := by unfold onesOf; rw [List.length_map]; exact ht
 rw [List.drop_eq_getElem_cons hl]
 simp [onesOf]
section
variable {a : List Int} {b : List (List Int)} {c : List Int}
theorem row_lt (h : CaseIs a b c) (t : Nat) (ht : t < b.length) : rowV b[t] < 1024 := by
 obtain ⟨h1, h2⟩ := row_at h t ht
 have := rowV_lt b[t] h2
 rw [h1] at this
 exact Nat.lt_of_lt_of_le this (Nat.le_trans (Nat.pow_le_pow_right (by omega) h.a10) (by decide))
/-- Two faults are alike in a test exactly if their results are equal. -/
theorem same_row (h : CaseIs a b c) (t : Nat) (ht : t < b.length) (x y : Nat) (hx : x < a.length) (hy : y < a.length) : sameB (x : Int) (y : Int) (rowV b[t] : Int) = (rd b[t] (x : Int) == rd b[t] (y : Int)) := by
 obtain ⟨h1, h2⟩ := row_at h t ht
 have hl := row_lt h t ht
 have ha := h.a10
 unfold sameB
 rw [hasB_nat _ _ hl, hasB_nat _ _ hl, rowV_bit _ h2, rowV_bit _ h2]
 have ex : b[t].getD x 0 = b[t][x] := by simp [List.getD_eq_getElem?_getD, List.getElem?_eq_getElem (show x < b[t].length by omega)]
 have ey : b[t].getD y 0 = b[t][y] := by simp [List.getD_eq_getElem?_getD, List.getElem?_eq_getElem (show y < b[t].length by omega)]
 rw [ex, ey, rd_at _ x (by omega), rd_at _ y (by omega)]
 have := h2 b[t][x] (List.getElem_mem _)
 have := h2 b[t][y] (List.getElem_mem _)
 rcases h2 b[t][x] (List.getElem_mem _) with e1 | e1 <;> rcases h2 b[t][y] (List.getElem_mem _) with e2 | e2 <;> rw [e1, e2] <;> decide
theorem ralike_l1 (h : CaseIs a b c) (x : Nat) (hx : x < a.length) (m : Nat) : ∀ (y : Nat) (acc : List S53) (R : List S53), y + m = a.length → acc.length + m < 1000 →
  Ev (fun k => tickingref07_Alike.l0 k (acc ++ pairsIn (onesOf b) x y m) ((x + 1 : Nat) : Int) a b c) R → Ev (fun k => tickingref07_Alike.l1 k acc (x : Int) (y : Int) a b c) R := by
 have ha := h.a10
 induction m with
 | zero =>
  intro y acc R hm hl hR
  refine Ev.step (fun k => ?_) hR
  simp only [tickingref07_Alike.l1]
  rw [if_neg (by omega), w1 x (by omega)]
  simp [pairsIn]
 | succ m ih =>
  intro y acc R hm hl hR
  have key : Ev (fun k => tickingref07_Alike.l2 k acc (x : Int) (y : Int) true 0 a b c) R := by
   by_cases hs : (onesOf b).all (sameB (x : Int) (y : Int)) = true
   ·have e1 := ih (y + 1) (acc ++ [⟨(x : Int), (y : Int)⟩]) R (by omega) (by simp; omega) (by simpa [pairsIn, hs, List.append_assoc] using hR)
    have : ∀ (m t : Nat), t + m = b.length → Ev (fun k => tickingref07_Alike.l2 k acc (x : Int) (y : Int) true (t : Int) a b c) R := by
     intro m
     induction m with
     | zero =>
      intro t ht
      refine Ev.step (fun k => ?_) e1
      simp only [tickingref07_Alike.l2]
      rw [if_neg (by omega), if_pos trivial, if_pos (by omega), w1 y (by omega)]
     | succ m ih2 =>
      intro t ht
      have htl : t < b.length := by omega
      obtain ⟨r1, r2⟩ := row_at h t htl
      have hb12 := h.b12
      have hsm : (rd b[t] (x : Int) == rd b[t] (y : Int)) = true := by
       rw [← same_row h t htl x y (by omega) (by omega)]
       exact List.all_eq_true.1 hs _ (by unfold onesOf; exact List.mem_map.2 ⟨b[t], List.getElem_mem htl, rfl⟩)
      refine Ev.step (fun k => ?_) (ih2 (t + 1) (by omega))
      show tickingref07_Alike.l2 (k + 1) acc (x : Int) (y : Int) true (t : Int) a b c = _
      simp only [tickingref07_Alike.l2]
      rw [if_pos (by omega), if_pos trivial, if_pos (by omega), if_pos (by omega), rd_L1_at b t htl, if_pos (by omega), if_pos (by omega), if_pos (by omega), w1 t (by omega), hsm]
    exact this b.length 0 (by omega)
   ·have e2 := ih (y + 1) acc R (by omega) (by omega) (by simpa [pairsIn, hs] using hR)
    have : ∀ (m t : Nat) (s : Bool), t + m = b.length → (s = false ∨ ((onesOf b).drop t).all (sameB (x : Int) (y : Int)) = false) → Ev (fun k => tickingref07_Alike.l2 k acc (x : Int) (y : Int) s (t : Int) a b c) R := by
     intro m
     induction m with
     | zero =>
      intro t s ht hns
      have hsf : s = false := by
       rcases hns with h | h
       ·exact h
       ·have e : (onesOf b).drop t = [] := by rw [List.drop_eq_nil_iff, onesOf_len]; omega
        rw [e] at h; simp at h
      subst hsf
      refine Ev.step (fun k => ?_) e2
      simp only [tickingref07_Alike.l2]
      rw [if_neg (by omega), if_neg (by decide), w1 y (by omega)]
     | succ m ih2 =>
      intro t s ht hns
      have htl : t < b.length := by omega
      obtain ⟨r1, r2⟩ := row_at h t htl
      have hb12 := h.b12
      cases s
      ·refine Ev.step (fun k => ?_) (ih2 (t + 1) false (by omega) (.inl rfl))
       show tickingref07_Alike.l2 (k + 1) acc (x : Int) (y : Int) false (t : Int) a b c = _
       simp only [tickingref07_Alike.l2]
       rw [if_pos (by omega), if_neg (by decide), w1 t (by omega)]
      ·have hns' : (rd b[t] (x : Int) == rd b[t] (y : Int)) = false ∨ ((onesOf b).drop (t + 1)).all (sameB (x : Int) (y : Int)) = false := by
        rcases hns with h' | h'
        ·cases h'
        ·rw [onesOf_at b t htl, List.all_cons, same_row h t htl x y (by omega) (by omega)] at h'
         exact Bool.and_eq_false_iff.1 h'
       refine Ev.step (fun k => ?_) (ih2 (t + 1) _ (by omega) hns')
       show tickingref07_Alike.l2 (k + 1) acc (x : Int) (y : Int) true (t : Int) a b c = _
       simp only [tickingref07_Alike.l2]
       rw [if_pos (by omega), if_pos trivial, if_pos (by omega), if_pos (by omega), rd_L1_at b t htl, if_pos (by omega), if_pos (by omega), if_pos (by omega), w1 t (by omega)]
    exact this b.length 0 true (by omega) (.inr (by simpa using hs))
  refine Ev.step (fun k => ?_) key
  show tickingref07_Alike.l1 (k + 1) acc (x : Int) (y : Int) a b c = _
  simp only [tickingref07_Alike.l1]
  rw [if_pos (by omega)]
theorem ralike_l0 (h : CaseIs a b c) (m : Nat) : ∀ (x : Nat) (acc : List S53), x + m = a.length → acc.length + m * a.length < 900 → Ev (fun k => tickingref07_Alike.l0 k acc (x : Int) a b c) (acc ++ pairsOut (onesOf b) a.length x m) := by
 have ha := h.a10
 induction m with
 | zero =>
  intro x acc hm hl
  refine Ev.step (f := fun _ => some _) (fun k => ?_) (Ev.now _)
  simp only [tickingref07_Alike.l0]
  rw [if_neg (by omega)]
  simp [pairsOut]
 | succ m ih =>
  intro x acc hm hl
  have hpl := pairsIn_len (onesOf b) x (a.length - (x + 1)) (x + 1)
  have e := ih (x + 1) (acc ++ pairsIn (onesOf b) x (x + 1) (a.length - (x + 1))) (by omega) (by rw [List.length_append]; rw [Nat.add_mul] at hl; omega)
  have e2 := ralike_l1 h x (by omega) (a.length - (x + 1)) (x + 1) acc _ (by omega) (by omega) e
  rw [List.append_assoc] at e2
  refine Ev.step (fun k => ?_) e2
  show tickingref07_Alike.l0 (k + 1) acc (x : Int) a b c = _
  simp only [tickingref07_Alike.l0]
  rw [if_pos (by omega), w1 x (by omega)]
theorem ralike_ev (h : CaseIs a b c) : Ev (fun k => tickingref07_Alike.f k a b c) (alikeL (onesOf b) a.length) := by
 have ha := h.a10
 have hm : a.length * a.length ≤ 10 * 10 := Nat.mul_le_mul ha ha
 have := ralike_l0 h a.length 0 [] (by omega) (by simp only [List.length_nil]; omega)
 simpa [tickingref07_Alike.f, alikeL] using this
end
end Go.Proofs.YtekmiepdodaidaaDoor.X
end

section
/- Layer 7, plain: the reference's Best. -/
set_option linter.unusedVariables false
namespace Go.Proofs.YtekmiepdodaidaaDoor.X
open Go.RowKit Go.Proofs.YtekmiepdodaidaaDoorW.PrintWords Go.Proofs.YtekmiepdodaidaaDoorW.PrintLast Go.Proofs.YtekmiepdodaidaaDoorW.PrintMore

/-- A measure that keeps within bounds. -/
def MfOk (n : Nat) (mf : Int → Int → Int → Int → Int) : Prop := ∀ (t : Nat) (s : Nat) (z o : Int), t < n → s < 1024 → 0 ≤ z → z ≤ 1099511627776 → 0 ≤ o → o ≤ 1099511627776 → 0 ≤ mf (t : Int) (s : Int) z o ∧ mf (t : Int) (s : Int) z o ≤ 1000000 + z + o
theorem pickB_val {c : Int → Int → Int} {s : Int} {P : Int → Prop} : ∀ (l : List Int) (k : Nat) (b : Int × Int), P b.2 → (∀ j x, l[j]? = some x → splitB s x = true → P (c ((k + j : Nat) : Int) x)) → P (pickB c s k l b).2
 | [], k, b, hb, _ => hb
 | x :: xs, k, b, hb, h => by
  unfold pickB
  have h0 := h 0 x rfl
  have ht : ∀ b', P b'.2 → P (pickB c s ((k : Int) + 1) xs b').2 := fun b' hb' => by
   have := pickB_val (c := c) (s := s) (P := P) xs (k + 1) b' hb' (fun j y hj hs => by
    have := h (j + 1) y (by simpa using hj) hs
    rwa [show k + 1 + j = k + (j + 1) by omega])
   simpa using this
  refine ht _ ?_
  by_cases hx : splitB s x = true
  ·rw [if_pos hx]
   split
   ·simpa using h0 hx
   ·exact hb
  ·rw [if_neg hx]; exact hb
section
variable {mf : Int → Int → Int → Int → Int} {ones : List Int}
theorem cst_bounds (ho : ∀ x ∈ ones, SetB x) (hm : MfOk ones.length mf) : ∀ (d : Nat) (s : Int), SetB s → 1 ≤ s → s.toNat ≤ d → 0 ≤ cstB (chs mf ones) s ∧ cstB (chs mf ones) s ≤ 1000000 * (s - 1) := by
 intro d
 induction d with
 | zero => intro s hs h1 h2; omega
 | succ d ih =>
  intro s hs h1 h2
  unfold cstB
  by_cases hp : pcount s = 1
  ·rw [if_pos hp]; omega
  ·rw [if_neg hp, chs_eq mf ones ho s hs]
   unfold chsStep
   refine pickB_val (P := fun z => 0 ≤ z ∧ z ≤ 1000000 * (s - 1)) ones 0 (-1, 0) ?_ ?_
   ·show (0 : Int) ≤ 0 ∧ (0 : Int) ≤ 1000000 * (s - 1)
    omega
   ·intro j x hj hsp
    have hx : x ∈ ones := List.mem_of_getElem? hj
    obtain ⟨⟨a1, a2⟩, b1, b2⟩ := split_parts hs (ho x hx) hsp
    have hadd := bSub_add hs (ho x hx)
    have hs' := hs
    unfold SetB at hs'
    have e1 := ih (bSub s x) (by unfold SetB; omega) b1 (by omega)
    have e2 := ih (bAnd s x) (by unfold SetB; omega) a1 (by omega)
    have hjl : j < ones.length := by
     rcases Nat.lt_or_ge j ones.length with h | h
     ·exact h
     ·rw [List.getElem?_eq_none h] at hj; cases hj
    have := hm j s.toNat (cstB (chs mf ones) (bSub s x)) (cstB (chs mf ones) (bAnd s x)) hjl (by omega) e1.1 (by omega) e2.1 (by omega)
    rw [show ((s.toNat : Nat) : Int) = s from by omega] at this
    show 0 ≤ mf ((0 + j : Nat) : Int) s _ _ ∧ _
    rw [Nat.zero_add]
    omega
theorem cst_box (ho : ∀ x ∈ ones, SetB x) (hm : MfOk ones.length mf) (s : Int) (hs : SetB s) (h1 : 1 ≤ s) : 0 ≤ cstB (chs mf ones) s ∧ cstB (chs mf ones) s ≤ 1024000000 := by
 have := cst_bounds ho hm s.toNat s hs h1 (Nat.le_refl _)
 unfold SetB at hs
 omega
end
section
variable {a : List Int} {b : List (List Int)} {c : List Int}
theorem mean_ok (h : CaseIs a b c) : MfOk (onesOf b).length (mfMean a b c) := by
 intro t s z o ht hs hz hz2 ho ho2
 rw [onesOf_len] at ht
 rw [mfMean_eq h t ht s hs z o ⟨hz, hz2⟩ ⟨ho, ho2⟩]
 have hk := cost_at h t ht
 have hw := wOf_bounds a s h.wa
 have ha := h.a10
 have := mul_box _ _ hk.1 hk.2 hw.1 (by omega)
 omega
theorem worst_ok (h : CaseIs a b c) : MfOk (onesOf b).length (mfWorst a b c) := by
 intro t s z o ht hs hz hz2 ho ho2
 rw [onesOf_len] at ht
 rw [mfWorst_eq h t ht s z o ⟨hz, hz2⟩ ⟨ho, ho2⟩]
 have hk := cost_at h t ht
 unfold mx
 split <;> omega
def far : Int := 1099511627776
theorem rd_set_ne (l : List Int) (s u : Nat) (x : Int) (h : u ≠ s) : rd (l.set s x) (u : Int) = rd l (u : Int) := by
 simp [rd, List.getD_eq_getElem?_getD, Ne.symm h]
theorem rd_set_eq (l : List Int) (s : Nat) (x : Int) (h : s < l.length) : rd (l.set s x) (s : Int) = x := by
 simp [rd, List.getD_eq_getElem?_getD, h]
def cN (mf : Int → Int → Int → Int → Int) (b : List (List Int)) (s : Int) : Int := cstB (chs mf (onesOf b)) s
end
end Go.Proofs.YtekmiepdodaidaaDoor.X
end

section
namespace Go.Proofs.YtekmiepdodaidaaDoor.X
open Go.RowKit Go.Proofs.YtekmiepdodaidaaDoorW.PrintWords Go.Proofs.YtekmiepdodaidaaDoorW.PrintLast Go.Proofs.YtekmiepdodaidaaDoorW.PrintMore
attribute [local go_sem] max2_int min2_int max_two min_two max_three min_three max_four min_four   -- for this text's walks alone
set_option linter.unusedVariables false
set_option linter.unusedSimpArgs false

def tickingref07_Way.l0 : Nat → List (S57) → Int → List Int → Int → List Int → List (List Int) → List Int → Option (List Int × Bool)
 | 0, _, _, _, _, _, _, _ => none
 | k + 1, x1, x2, x8, x9, x245000, x245001, x245002 => if 0 ≤ x9 then (if x9 < (x1.length : Int) then (if ((rd_T57 x1 x9).f0) ≥ 0 then (if x8.length < 17592186044416 then ((some (x8 ++ [(rd_T57 x1 x9).f0] : List Int)).bind fun y247 => (if 0 ≤ ((rd_T57 x1 x9).f0) then (if ((rd_T57 x1 x9).f0) < (x245001.length : Int) then (if 0 ≤ x2 then (if x2 < ((rd_L1 x245001 ((rd_T57 x1 x9).f0)).length : Int) then (if (rd (rd_L1 x245001 ((rd_T57 x1 x9).f0)) x2) = 1 then (tickingref07_Way.l0 k x1 x2 y247 ((rd_T57 x1 x9).f3) x245000 x245001 x245002) else (tickingref07_Way.l0 k x1 x2 y247 ((rd_T57 x1 x9).f2) x245000 x245001 x245002)) else (none)) else (none)) else (none)) else (none))) else (none)) else (some (x8, (((rd_T57 x1 x9).f1) == x2)))) else (none)) else (none)
def tickingref07_Way.f (k : Nat) (l0_0 : List Int) (l0_1 : List (List Int)) (l0_2 : List Int) (l1 : List (S57)) (a2 : Int) : Option (List Int × Bool) := tickingref07_Way.l0 k l1 a2 ([] : List Int) 0 l0_0 l0_1 l0_2
set_option maxHeartbeats 8000000 in
set_option maxRecDepth 100000 in
theorem tickingref07_Way.calls (k : Nat) (A0_0 : Option Addr) (c0_0 : Nat) (l0_0 : List Int) (A0_1 : Option Addr) (c0_1 : Nat) (l0_1 : List (List Int)) (A0_2 : Option Addr) (c0_2 : Nat) (l0_2 : List Int) (A1 : Option Addr) (c1 : Nat) (l1 : List (S57)) (a2 : Int) (r1 : List Int) (r2 : Bool) (w : World) (hr0_0 : Kd.C (Kd.int .i64) w A0_0 l0_0.length l0_0) (hc0_0 : l0_0.length ≤ c0_0) (hr0_1 : Kd.C (Kd.slice 3 (Kd.int .i64)) w A0_1 l0_1.length l0_1) (hc0_1 : l0_1.length ≤ c0_1) (hr0_2 : Kd.C (Kd.int .i64) w A0_2 l0_2.length l0_2) (hc0_2 : l0_2.length ≤ c0_2) (hr1 : Kd.C k57 w A1 l1.length l1) (hc1 : l1.length ≤ c1) (h : tickingref07_Way.f k l0_0 l0_1 l0_2 l1 a2 = some (r1, r2)) :
  Calls Tryd.prog 24 #[.agg #[.slice A0_0 l0_0.length c0_0, .slice A0_1 l0_1.length c0_1, .slice A0_2 l0_2.length c0_2], .slice A1 l1.length c1, .int .i64 a2] w fun e w' => ∃ v0_ : Value, e = .returned (.tuple #[v0_, .bool r2]) ∧ Kd.R (Kd.int .i64) 3 w' w.heap.size (fun _ => True) v0_ r1 ∧ Below w.heap.size w w' := by
 have hu25 := Tryd.underlying25
 have HR0_0 := Aside0.mk hr0_0
 have HC0_0 := Aside0.mk hc0_0
 clear hr0_0 hc0_0
 have HR0_1 := Aside0.mk hr0_1
 have HC0_1 := Aside0.mk hc0_1
 clear hr0_1 hc0_1
 have HR0_2 := Aside0.mk hr0_2
 have HC0_2 := Aside0.mk hc0_2
 clear hr0_2 hc0_2
 have HR1 := Aside0.mk hr1
 have HC1 := Aside0.mk hc1
 clear hr1 hc1
 have HB := Aside0.mk (Below.refl w.heap.size w)
 have H : (tickingref07_Way.l0 k l1 a2 ([] : List Int) 0 l0_0 l0_1 l0_2) = some (r1, r2) := h
 clear h
 have H' := Aside0.mk H
 clear H
 go_enter Tryd.func24, Tryd.ntmps24
 go_wp2_with (first | ((with_reducible refine gate_dst (N := 3) rfl ?_); refine box_event ?hg (N := 3) ?hd (cs := #[.slice A0_0 l0_0.length c0_0, .slice A0_1 l0_1.length c0_1, .slice A0_2 l0_2.length c0_2]) (t := 25) ?hr ?_; (case hd => rfl); (case hg => rfl); (case hr => first | (go_simp; done) | (go_simp; rfl)); intro gb244 hg w4 hbox hb; have n0_ := Aside0.mk (below_step bz hb); have n1_ := Aside0.mk (hbox); have n2_ := Aside0.mk ((by rw [hg]; exact (below_size bz) : w.heap.size ≤ gb244)); have n3_ := Aside0.mk ((by rw [hg]; exact (below_size bz) : w.heap.size ≤ gb244)); clear HB; have HB := n0_; have BK244 := n1_; have GW244 := n2_; have GE244 := n3_; clear n0_ n1_ n2_ n3_; clear hb hbox hg))
 repeat (go_quiet (first | ((with_reducible refine gate_dst (N := 3) rfl ?_); refine box_event ?hg (N := 3) ?hd (cs := #[.slice A0_0 l0_0.length c0_0, .slice A0_1 l0_1.length c0_1, .slice A0_2 l0_2.length c0_2]) (t := 25) ?hr ?_; (case hd => rfl); (case hg => rfl); (case hr => first | (go_simp; done) | (go_simp; rfl)); intro gb244 hg w4 hbox hb; have n0_ := Aside0.mk (below_step bz hb); have n1_ := Aside0.mk (hbox); have n2_ := Aside0.mk ((by rw [hg]; exact (below_size bz) : w.heap.size ≤ gb244)); have n3_ := Aside0.mk ((by rw [hg]; exact (below_size bz) : w.heap.size ≤ gb244)); clear HB; have HB := n0_; have BK244 := n1_; have GW244 := n2_; have GE244 := n3_; clear n0_ n1_ n2_ n3_; clear hb hbox hg)); try go_wp2_with (first | ((with_reducible refine gate_dst (N := 3) rfl ?_); refine box_event ?hg (N := 3) ?hd (cs := #[.slice A0_0 l0_0.length c0_0, .slice A0_1 l0_1.length c0_1, .slice A0_2 l0_2.length c0_2]) (t := 25) ?hr ?_; (case hd => rfl); (case hg => rfl); (case hr => first | (go_simp; done) | (go_simp; rfl)); intro gb244 hg w4 hbox hb; have n0_ := Aside0.mk (below_step bz hb); have n1_ := Aside0.mk (hbox); have n2_ := Aside0.mk ((by rw [hg]; exact (below_size bz) : w.heap.size ≤ gb244)); have n3_ := Aside0.mk ((by rw [hg]; exact (below_size bz) : w.heap.size ≤ gb244)); clear HB; have HB := n0_; have BK244 := n1_; have GW244 := n2_; have GE244 := n3_; clear n0_ n1_ n2_ n3_; clear hb hbox hg)))
 go_loopg [8, 9] k (fun kq v8 v9 w' => ∃ (x8_1 : List Int) (x9_1 : Int), v9 = .int .i64 x9_1 ∧ Aside0 (tickingref07_Way.l0 kq l1 a2 x8_1 x9_1 l0_0 l0_1 l0_2 = some (r1, r2)) ∧ Aside0 (kq ≤ k) ∧ Aside0 (Kd.R (Kd.int .i64) 3 w' w.heap.size (fun _ => True) v8 x8_1) ∧ Aside0 (w'.heap[gb244]? = some (.cells #[(.slice A0_0 l0_0.length c0_0), (.slice A0_1 l0_1.length c0_1), (.slice A0_2 l0_2.length c0_2)] 25 (0, 0))) ∧ Aside0 (Below w.heap.size w w'))
 case atStart => exact ⟨(([] : List Int)), (0), (by first | rfl | (simp; done) | (simp [*]; done)), H', ⟨Nat.le_refl _⟩, ⟨by first | exact Kd.R_nil _ _ _ _ _ | exact Kd.N_nil _ _ _ _ _ | exact Kd.V_nil _ _ _ _ _ | exact Kd.Q_nil _ _ _ _ _ | exact Kd.S_nil _ _ _ _ _⟩, ⟨by (with_reducible repeat (first | refine blk_drewN ?_ _ | refine blk_drew ?_ | refine blk_alloc ?_ _)); exact BK244.out⟩, ⟨by repeat (first | (with_reducible first | exact HB.out | apply below_alloc | apply pw_below_drewN | apply below_drew1 | refine below_set ?_ GE244.out) | exact HB.out)⟩⟩
 case round =>
  clear H'
  try clear c1
  try clear c2
  try clear p2
  obtain ⟨x8_1, x9_1, rfl, HA, HK1, HO_8, BK244, HB⟩ := hrel
  cases gk with
  | zero => exact absurd HA.out (by simp [tickingref07_Way.l0])
  | succ k1 =>
   have H := HA.out
   clear HA
   simp only [tickingref07_Way.l0] at H
   by_cases c5 : 0 ≤ x9_1
   ·rw [if_pos c5] at H
    have c5b0 : decide (0 ≤ x9_1) = true := decide_eq_true c5
    clear c5
    by_cases c6 : x9_1 < (l1.length : Int)
    ·rw [if_pos c6] at H
     have c6b0 : decide (x9_1 < (l1.length : Int)) = true := decide_eq_true c6
     clear c6
     by_cases c7 : ((rd_T57 l1 x9_1).f0) ≥ 0
     ·rw [if_pos c7] at H
      have c7b0 : decide (0 ≤ ((rd_T57 l1 x9_1).f0)) = true := decide_eq_true c7
      clear c7
      by_cases c8 : x8_1.length < 17592186044416
      ·rw [if_pos c8] at H
       have LMc8 := Aside0.mk c8
       clear c8
       obtain ⟨y247, hy247⟩ : ∃ y_ : List Int, y_ = (x8_1 ++ [(rd_T57 l1 x9_1).f0]) := ⟨_, rfl⟩
       replace H : (if 0 ≤ ((rd_T57 l1 x9_1).f0) then (if ((rd_T57 l1 x9_1).f0) < (l0_1.length : Int) then (if 0 ≤ a2 then (if a2 < ((rd_L1 l0_1 ((rd_T57 l1 x9_1).f0)).length : Int) then (if (rd (rd_L1 l0_1 ((rd_T57 l1 x9_1).f0)) a2) = 1 then (tickingref07_Way.l0 k1 l1 a2 y247 ((rd_T57 l1 x9_1).f3) l0_0 l0_1 l0_2) else (tickingref07_Way.l0 k1 l1 a2 y247 ((rd_T57 l1 x9_1).f2) l0_0 l0_1 l0_2)) else (none)) else (none)) else (none)) else (none)) = some (r1, r2) := by first | (rw [hy247]; with_reducible exact H) | (have H2_ := (Option.bind_some _ _).symm.trans H; rw [hy247]; with_reducible exact H2_) | (have H2_ := (Option.bind_some _ _).symm.trans H; with_reducible exact H2_) | with_reducible exact H | (rw [hy247]; exact H) | exact H
       have Ny247 := Aside0.mk hy247
       clear hy247
       by_cases c9 : 0 ≤ ((rd_T57 l1 x9_1).f0)
       ·rw [if_pos c9] at H
        have c9b0 : decide (0 ≤ ((rd_T57 l1 x9_1).f0)) = true := decide_eq_true c9
        clear c9
        by_cases c10 : ((rd_T57 l1 x9_1).f0) < (l0_1.length : Int)
        ·rw [if_pos c10] at H
         have c10b0 : decide (((rd_T57 l1 x9_1).f0) < (l0_1.length : Int)) = true := decide_eq_true c10
         clear c10
         by_cases c11 : 0 ≤ a2
         ·rw [if_pos c11] at H
          have c11b0 : decide (0 ≤ a2) = true := decide_eq_true c11
          clear c11
          by_cases c12 : a2 < ((rd_L1 l0_1 ((rd_T57 l1 x9_1).f0)).length : Int)
          ·rw [if_pos c12] at H
           have c12b0 : decide (a2 < ((rd_L1 l0_1 ((rd_T57 l1 x9_1).f0)).length : Int)) = true := decide_eq_true c12
           clear c12
           by_cases c13 : (rd (rd_L1 l0_1 ((rd_T57 l1 x9_1).f0)) a2) = 1
           ·rw [if_pos c13] at H
            have c13b0 : ((rd (rd_L1 l0_1 ((rd_T57 l1 x9_1).f0)) a2) == 1) = true := beq_iff_eq.mpr c13
            have c13b1 : ((rd (rd_L1 l0_1 ((rd_T57 l1 x9_1).f0)) a2) != 1) = false := bne_eq_false_iff_eq.mpr c13
            clear c13
            have H' := Aside0.mk H
            clear H
            have p245 : 0 ≤ (x9_1 : Int) := of_decide_eq_true az
            have q245 : x9_1 < (l1.length : Int) := of_decide_eq_true az
            obtain ⟨ad245, e245, hx245_0, hx245_1, hx245_2, hx245_3⟩ := at_T57 HR1.out x9_1 p245 q245
            cases e245
            replace hx245_0 := (HB.out.cell (World.block_lt_of_cell? w _ hx245_0)).trans hx245_0
            replace hx245_1 := (HB.out.cell (World.block_lt_of_cell? w _ hx245_1)).trans hx245_1
            replace hx245_2 := (HB.out.cell (World.block_lt_of_cell? w _ hx245_2)).trans hx245_2
            replace hx245_3 := (HB.out.cell (World.block_lt_of_cell? w _ hx245_3)).trans hx245_3
            replace p245 := eq_true p245
            replace q245 := eq_true q245
            have p246 : 0 ≤ (x9_1 : Int) := of_decide_eq_true az
            have q246 : x9_1 < (l1.length : Int) := of_decide_eq_true az
            obtain ⟨ad246, e246, hx246_0, hx246_1, hx246_2, hx246_3⟩ := at_T57 HR1.out x9_1 p246 q246
            obtain rfl : ad245 = ad246 := (by injection e246)
            replace hx246_0 := (HB.out.cell (World.block_lt_of_cell? w _ hx246_0)).trans hx246_0
            replace hx246_1 := (HB.out.cell (World.block_lt_of_cell? w _ hx246_1)).trans hx246_1
            replace hx246_2 := (HB.out.cell (World.block_lt_of_cell? w _ hx246_2)).trans hx246_2
            replace hx246_3 := (HB.out.cell (World.block_lt_of_cell? w _ hx246_3)).trans hx246_3
            replace p246 := eq_true p246
            replace q246 := eq_true q246
            go_wp2_with (first | ((with_reducible refine gate_builtin (b := .append) (xs := #[.tmp 22, .tmp 24]) rfl ?_); at_builtin; refine Kd.R_append (Kd.int .i64) (w0 := w) w.heap.size rfl (.tmp 22) (.tmp 24) 22 3 (.int .i64 0) 8 rfl Tryd.underlying22 info3 rfl (by decide) (by omega) u8 x8_1 ((rd_T57 l1 x9_1).f0) [.int .i64 ((rd_T57 l1 x9_1).f0)] (fun _ => True) (fun _ => False) rfl rfl ?aP (fun _ hk => hk.elim) ?aF ?aO ?aB ?aS ?aL ?_; (case aP => exact rfl); (case aB => exact bz); (case aF => exact (fun _ _ => trivial)); (case aO => exact (rz HO_8.out)); (case aS => exact (below_size bz)); (case aL => have := LMc8.out; omega); intro v248 w14 ho hb hg hat; rw [← Ny247.out] at ho; have n0_ := Aside0.mk (blk_grown (g := gb244) (o := .cells #[.slice A0_0 l0_0.length c0_0, .slice A0_1 l0_1.length c0_1, .slice A0_2 l0_2.length c0_2] 25 (0, 0)) (kz BK244.out) hg (Kd.R_ne HO_8.out BK244.out (by decide))); have n1_ := Aside0.mk (hb); have n2_ := Aside0.mk (ho); clear BK244; clear HB; clear HO_8; have BK244 := n0_; have HB := n1_; have HO249 := n2_; clear n0_ n1_ n2_; clear ho hb hg hat; have hcz15_0 : w14.cell? ⟨gb244, 0, none⟩ = some (.slice A0_0 l0_0.length c0_0) := (blk_cell BK244.out 0).trans rfl; have hcz15_1 : w14.cell? ⟨gb244, 1, none⟩ = some (.slice A0_1 l0_1.length c0_1) := (blk_cell BK244.out 1).trans rfl; have hcz15_2 : w14.cell? ⟨gb244, 2, none⟩ = some (.slice A0_2 l0_2.length c0_2) := (blk_cell BK244.out 2).trans rfl; have hfz15_0 := blk_frozen BK244.out 0; have hfz15_1 := blk_frozen BK244.out 1; have hfz15_2 := blk_frozen BK244.out 2; have p250 : 0 ≤ (((rd_T57 l1 x9_1).f0) : Int) := of_decide_eq_true az; have q250 : ((rd_T57 l1 x9_1).f0) < (l0_1.length : Int) := of_decide_eq_true az; obtain ⟨ad250, A250_0, c250_0, e250, hx250_0, hl250_0, hi250_0⟩ := at_L1 HR0_1.out ((rd_T57 l1 x9_1).f0) p250 q250; cases e250; replace hx250_0 := (HB.out.cell (World.block_lt_of_cell? w _ hx250_0)).trans hx250_0; have HR250_0 := Aside0.mk hi250_0; have HC250_0 := Aside0.mk hl250_0; clear hi250_0 hl250_0; replace p250 := eq_true p250; replace q250 := eq_true q250; have p251 : 0 ≤ (a2 : Int) := of_decide_eq_true az; have q251 : a2 < ((rd_L1 l0_1 ((rd_T57 l1 x9_1).f0)).length : Int) := of_decide_eq_true az; obtain ⟨ad251, e251, hx251_0⟩ := Kd.at_int HR250_0.out a2 p251 q251; cases e251; replace hx251_0 := (HB.out.cell (World.block_lt_of_cell? w _ hx251_0)).trans hx251_0; replace p251 := eq_true p251; replace q251 := eq_true q251; have p252 : 0 ≤ (x9_1 : Int) := of_decide_eq_true az; have q252 : x9_1 < (l1.length : Int) := of_decide_eq_true az; obtain ⟨ad252, e252, hx252_0, hx252_1, hx252_2, hx252_3⟩ := at_T57 HR1.out x9_1 p252 q252; obtain rfl : ad245 = ad252 := (by injection e252); replace hx252_0 := (HB.out.cell (World.block_lt_of_cell? w _ hx252_0)).trans hx252_0; replace hx252_1 := (HB.out.cell (World.block_lt_of_cell? w _ hx252_1)).trans hx252_1; replace hx252_2 := (HB.out.cell (World.block_lt_of_cell? w _ hx252_2)).trans hx252_2; replace hx252_3 := (HB.out.cell (World.block_lt_of_cell? w _ hx252_3)).trans hx252_3; replace p252 := eq_true p252; replace q252 := eq_true q252))
            repeat (go_quiet (first | ((with_reducible refine gate_builtin (b := .append) (xs := #[.tmp 22, .tmp 24]) rfl ?_); at_builtin; refine Kd.R_append (Kd.int .i64) (w0 := w) w.heap.size rfl (.tmp 22) (.tmp 24) 22 3 (.int .i64 0) 8 rfl Tryd.underlying22 info3 rfl (by decide) (by omega) u8 x8_1 ((rd_T57 l1 x9_1).f0) [.int .i64 ((rd_T57 l1 x9_1).f0)] (fun _ => True) (fun _ => False) rfl rfl ?aP (fun _ hk => hk.elim) ?aF ?aO ?aB ?aS ?aL ?_; (case aP => exact rfl); (case aB => exact bz); (case aF => exact (fun _ _ => trivial)); (case aO => exact (rz HO_8.out)); (case aS => exact (below_size bz)); (case aL => have := LMc8.out; omega); intro v248 w14 ho hb hg hat; rw [← Ny247.out] at ho; have n0_ := Aside0.mk (blk_grown (g := gb244) (o := .cells #[.slice A0_0 l0_0.length c0_0, .slice A0_1 l0_1.length c0_1, .slice A0_2 l0_2.length c0_2] 25 (0, 0)) (kz BK244.out) hg (Kd.R_ne HO_8.out BK244.out (by decide))); have n1_ := Aside0.mk (hb); have n2_ := Aside0.mk (ho); clear BK244; clear HB; clear HO_8; have BK244 := n0_; have HB := n1_; have HO249 := n2_; clear n0_ n1_ n2_; clear ho hb hg hat; have hcz15_0 : w14.cell? ⟨gb244, 0, none⟩ = some (.slice A0_0 l0_0.length c0_0) := (blk_cell BK244.out 0).trans rfl; have hcz15_1 : w14.cell? ⟨gb244, 1, none⟩ = some (.slice A0_1 l0_1.length c0_1) := (blk_cell BK244.out 1).trans rfl; have hcz15_2 : w14.cell? ⟨gb244, 2, none⟩ = some (.slice A0_2 l0_2.length c0_2) := (blk_cell BK244.out 2).trans rfl; have hfz15_0 := blk_frozen BK244.out 0; have hfz15_1 := blk_frozen BK244.out 1; have hfz15_2 := blk_frozen BK244.out 2; have p250 : 0 ≤ (((rd_T57 l1 x9_1).f0) : Int) := of_decide_eq_true az; have q250 : ((rd_T57 l1 x9_1).f0) < (l0_1.length : Int) := of_decide_eq_true az; obtain ⟨ad250, A250_0, c250_0, e250, hx250_0, hl250_0, hi250_0⟩ := at_L1 HR0_1.out ((rd_T57 l1 x9_1).f0) p250 q250; cases e250; replace hx250_0 := (HB.out.cell (World.block_lt_of_cell? w _ hx250_0)).trans hx250_0; have HR250_0 := Aside0.mk hi250_0; have HC250_0 := Aside0.mk hl250_0; clear hi250_0 hl250_0; replace p250 := eq_true p250; replace q250 := eq_true q250; have p251 : 0 ≤ (a2 : Int) := of_decide_eq_true az; have q251 : a2 < ((rd_L1 l0_1 ((rd_T57 l1 x9_1).f0)).length : Int) := of_decide_eq_true az; obtain ⟨ad251, e251, hx251_0⟩ := Kd.at_int HR250_0.out a2 p251 q251; cases e251; replace hx251_0 := (HB.out.cell (World.block_lt_of_cell? w _ hx251_0)).trans hx251_0; replace p251 := eq_true p251; replace q251 := eq_true q251; have p252 : 0 ≤ (x9_1 : Int) := of_decide_eq_true az; have q252 : x9_1 < (l1.length : Int) := of_decide_eq_true az; obtain ⟨ad252, e252, hx252_0, hx252_1, hx252_2, hx252_3⟩ := at_T57 HR1.out x9_1 p252 q252; obtain rfl : ad245 = ad252 := (by injection e252); replace hx252_0 := (HB.out.cell (World.block_lt_of_cell? w _ hx252_0)).trans hx252_0; replace hx252_1 := (HB.out.cell (World.block_lt_of_cell? w _ hx252_1)).trans hx252_1; replace hx252_2 := (HB.out.cell (World.block_lt_of_cell? w _ hx252_2)).trans hx252_2; replace hx252_3 := (HB.out.cell (World.block_lt_of_cell? w _ hx252_3)).trans hx252_3; replace p252 := eq_true p252; replace q252 := eq_true q252)); try go_wp2_with (first | ((with_reducible refine gate_builtin (b := .append) (xs := #[.tmp 22, .tmp 24]) rfl ?_); at_builtin; refine Kd.R_append (Kd.int .i64) (w0 := w) w.heap.size rfl (.tmp 22) (.tmp 24) 22 3 (.int .i64 0) 8 rfl Tryd.underlying22 info3 rfl (by decide) (by omega) u8 x8_1 ((rd_T57 l1 x9_1).f0) [.int .i64 ((rd_T57 l1 x9_1).f0)] (fun _ => True) (fun _ => False) rfl rfl ?aP (fun _ hk => hk.elim) ?aF ?aO ?aB ?aS ?aL ?_; (case aP => exact rfl); (case aB => exact bz); (case aF => exact (fun _ _ => trivial)); (case aO => exact (rz HO_8.out)); (case aS => exact (below_size bz)); (case aL => have := LMc8.out; omega); intro v248 w14 ho hb hg hat; rw [← Ny247.out] at ho; have n0_ := Aside0.mk (blk_grown (g := gb244) (o := .cells #[.slice A0_0 l0_0.length c0_0, .slice A0_1 l0_1.length c0_1, .slice A0_2 l0_2.length c0_2] 25 (0, 0)) (kz BK244.out) hg (Kd.R_ne HO_8.out BK244.out (by decide))); have n1_ := Aside0.mk (hb); have n2_ := Aside0.mk (ho); clear BK244; clear HB; clear HO_8; have BK244 := n0_; have HB := n1_; have HO249 := n2_; clear n0_ n1_ n2_; clear ho hb hg hat; have hcz15_0 : w14.cell? ⟨gb244, 0, none⟩ = some (.slice A0_0 l0_0.length c0_0) := (blk_cell BK244.out 0).trans rfl; have hcz15_1 : w14.cell? ⟨gb244, 1, none⟩ = some (.slice A0_1 l0_1.length c0_1) := (blk_cell BK244.out 1).trans rfl; have hcz15_2 : w14.cell? ⟨gb244, 2, none⟩ = some (.slice A0_2 l0_2.length c0_2) := (blk_cell BK244.out 2).trans rfl; have hfz15_0 := blk_frozen BK244.out 0; have hfz15_1 := blk_frozen BK244.out 1; have hfz15_2 := blk_frozen BK244.out 2; have p250 : 0 ≤ (((rd_T57 l1 x9_1).f0) : Int) := of_decide_eq_true az; have q250 : ((rd_T57 l1 x9_1).f0) < (l0_1.length : Int) := of_decide_eq_true az; obtain ⟨ad250, A250_0, c250_0, e250, hx250_0, hl250_0, hi250_0⟩ := at_L1 HR0_1.out ((rd_T57 l1 x9_1).f0) p250 q250; cases e250; replace hx250_0 := (HB.out.cell (World.block_lt_of_cell? w _ hx250_0)).trans hx250_0; have HR250_0 := Aside0.mk hi250_0; have HC250_0 := Aside0.mk hl250_0; clear hi250_0 hl250_0; replace p250 := eq_true p250; replace q250 := eq_true q250; have p251 : 0 ≤ (a2 : Int) := of_decide_eq_true az; have q251 : a2 < ((rd_L1 l0_1 ((rd_T57 l1 x9_1).f0)).length : Int) := of_decide_eq_true az; obtain ⟨ad251, e251, hx251_0⟩ := Kd.at_int HR250_0.out a2 p251 q251; cases e251; replace hx251_0 := (HB.out.cell (World.block_lt_of_cell? w _ hx251_0)).trans hx251_0; replace p251 := eq_true p251; replace q251 := eq_true q251; have p252 : 0 ≤ (x9_1 : Int) := of_decide_eq_true az; have q252 : x9_1 < (l1.length : Int) := of_decide_eq_true az; obtain ⟨ad252, e252, hx252_0, hx252_1, hx252_2, hx252_3⟩ := at_T57 HR1.out x9_1 p252 q252; obtain rfl : ad245 = ad252 := (by injection e252); replace hx252_0 := (HB.out.cell (World.block_lt_of_cell? w _ hx252_0)).trans hx252_0; replace hx252_1 := (HB.out.cell (World.block_lt_of_cell? w _ hx252_1)).trans hx252_1; replace hx252_2 := (HB.out.cell (World.block_lt_of_cell? w _ hx252_2)).trans hx252_2; replace hx252_3 := (HB.out.cell (World.block_lt_of_cell? w _ hx252_3)).trans hx252_3; replace p252 := eq_true p252; replace q252 := eq_true q252)))
            go_roundg k1
            case measure => have := HK1.out; omega
            case rel => exact ⟨(y247), ((rd_T57 l1 x9_1).f3), (by first | rfl | (simp; done) | (simp [*]; done)), H', ⟨by have := HK1.out; omega⟩, ⟨by (with_reducible repeat (first | apply Kd.R_alloc | apply Kd.R_drewN | apply Kd.R_drew)); exact HO249.out⟩, ⟨by (with_reducible repeat (first | refine blk_drewN ?_ _ | refine blk_drew ?_ | refine blk_alloc ?_ _)); exact BK244.out⟩, ⟨by repeat (first | (with_reducible first | exact HB.out | apply below_alloc | apply pw_below_drewN | apply below_drew1 | refine below_set ?_ GE244.out) | exact HB.out)⟩⟩
           ·rw [if_neg c13] at H
            have c13b0 : ((rd (rd_L1 l0_1 ((rd_T57 l1 x9_1).f0)) a2) == 1) = false := beq_eq_false_iff_ne.mpr c13
            have c13b1 : ((rd (rd_L1 l0_1 ((rd_T57 l1 x9_1).f0)) a2) != 1) = true := bne_iff_ne.mpr c13
            have H' := Aside0.mk H
            clear H
            have p245 : 0 ≤ (x9_1 : Int) := of_decide_eq_true az
            have q245 : x9_1 < (l1.length : Int) := of_decide_eq_true az
            obtain ⟨ad245, e245, hx245_0, hx245_1, hx245_2, hx245_3⟩ := at_T57 HR1.out x9_1 p245 q245
            cases e245
            replace hx245_0 := (HB.out.cell (World.block_lt_of_cell? w _ hx245_0)).trans hx245_0
            replace hx245_1 := (HB.out.cell (World.block_lt_of_cell? w _ hx245_1)).trans hx245_1
            replace hx245_2 := (HB.out.cell (World.block_lt_of_cell? w _ hx245_2)).trans hx245_2
            replace hx245_3 := (HB.out.cell (World.block_lt_of_cell? w _ hx245_3)).trans hx245_3
            replace p245 := eq_true p245
            replace q245 := eq_true q245
            have p246 : 0 ≤ (x9_1 : Int) := of_decide_eq_true az
            have q246 : x9_1 < (l1.length : Int) := of_decide_eq_true az
            obtain ⟨ad246, e246, hx246_0, hx246_1, hx246_2, hx246_3⟩ := at_T57 HR1.out x9_1 p246 q246
            obtain rfl : ad245 = ad246 := (by injection e246)
            replace hx246_0 := (HB.out.cell (World.block_lt_of_cell? w _ hx246_0)).trans hx246_0
            replace hx246_1 := (HB.out.cell (World.block_lt_of_cell? w _ hx246_1)).trans hx246_1
            replace hx246_2 := (HB.out.cell (World.block_lt_of_cell? w _ hx246_2)).trans hx246_2
            replace hx246_3 := (HB.out.cell (World.block_lt_of_cell? w _ hx246_3)).trans hx246_3
            replace p246 := eq_true p246
            replace q246 := eq_true q246
            go_wp2_with (first | ((with_reducible refine gate_builtin (b := .append) (xs := #[.tmp 22, .tmp 24]) rfl ?_); at_builtin; refine Kd.R_append (Kd.int .i64) (w0 := w) w.heap.size rfl (.tmp 22) (.tmp 24) 22 3 (.int .i64 0) 8 rfl Tryd.underlying22 info3 rfl (by decide) (by omega) u8 x8_1 ((rd_T57 l1 x9_1).f0) [.int .i64 ((rd_T57 l1 x9_1).f0)] (fun _ => True) (fun _ => False) rfl rfl ?aP (fun _ hk => hk.elim) ?aF ?aO ?aB ?aS ?aL ?_; (case aP => exact rfl); (case aB => exact bz); (case aF => exact (fun _ _ => trivial)); (case aO => exact (rz HO_8.out)); (case aS => exact (below_size bz)); (case aL => have := LMc8.out; omega); intro v248 w16 ho hb hg hat; rw [← Ny247.out] at ho; have n0_ := Aside0.mk (blk_grown (g := gb244) (o := .cells #[.slice A0_0 l0_0.length c0_0, .slice A0_1 l0_1.length c0_1, .slice A0_2 l0_2.length c0_2] 25 (0, 0)) (kz BK244.out) hg (Kd.R_ne HO_8.out BK244.out (by decide))); have n1_ := Aside0.mk (hb); have n2_ := Aside0.mk (ho); clear BK244; clear HB; clear HO_8; have BK244 := n0_; have HB := n1_; have HO249 := n2_; clear n0_ n1_ n2_; clear ho hb hg hat; have hcz17_0 : w16.cell? ⟨gb244, 0, none⟩ = some (.slice A0_0 l0_0.length c0_0) := (blk_cell BK244.out 0).trans rfl; have hcz17_1 : w16.cell? ⟨gb244, 1, none⟩ = some (.slice A0_1 l0_1.length c0_1) := (blk_cell BK244.out 1).trans rfl; have hcz17_2 : w16.cell? ⟨gb244, 2, none⟩ = some (.slice A0_2 l0_2.length c0_2) := (blk_cell BK244.out 2).trans rfl; have hfz17_0 := blk_frozen BK244.out 0; have hfz17_1 := blk_frozen BK244.out 1; have hfz17_2 := blk_frozen BK244.out 2; have p250 : 0 ≤ (((rd_T57 l1 x9_1).f0) : Int) := of_decide_eq_true az; have q250 : ((rd_T57 l1 x9_1).f0) < (l0_1.length : Int) := of_decide_eq_true az; obtain ⟨ad250, A250_0, c250_0, e250, hx250_0, hl250_0, hi250_0⟩ := at_L1 HR0_1.out ((rd_T57 l1 x9_1).f0) p250 q250; cases e250; replace hx250_0 := (HB.out.cell (World.block_lt_of_cell? w _ hx250_0)).trans hx250_0; have HR250_0 := Aside0.mk hi250_0; have HC250_0 := Aside0.mk hl250_0; clear hi250_0 hl250_0; replace p250 := eq_true p250; replace q250 := eq_true q250; have p251 : 0 ≤ (a2 : Int) := of_decide_eq_true az; have q251 : a2 < ((rd_L1 l0_1 ((rd_T57 l1 x9_1).f0)).length : Int) := of_decide_eq_true az; obtain ⟨ad251, e251, hx251_0⟩ := Kd.at_int HR250_0.out a2 p251 q251; cases e251; replace hx251_0 := (HB.out.cell (World.block_lt_of_cell? w _ hx251_0)).trans hx251_0; replace p251 := eq_true p251; replace q251 := eq_true q251; have p253 : 0 ≤ (x9_1 : Int) := of_decide_eq_true az; have q253 : x9_1 < (l1.length : Int) := of_decide_eq_true az; obtain ⟨ad253, e253, hx253_0, hx253_1, hx253_2, hx253_3⟩ := at_T57 HR1.out x9_1 p253 q253; obtain rfl : ad245 = ad253 := (by injection e253); replace hx253_0 := (HB.out.cell (World.block_lt_of_cell? w _ hx253_0)).trans hx253_0; replace hx253_1 := (HB.out.cell (World.block_lt_of_cell? w _ hx253_1)).trans hx253_1; replace hx253_2 := (HB.out.cell (World.block_lt_of_cell? w _ hx253_2)).trans hx253_2; replace hx253_3 := (HB.out.cell (World.block_lt_of_cell? w _ hx253_3)).trans hx253_3; replace p253 := eq_true p253; replace q253 := eq_true q253))
            repeat (go_quiet (first | ((with_reducible refine gate_builtin (b := .append) (xs := #[.tmp 22, .tmp 24]) rfl ?_); at_builtin; refine Kd.R_append (Kd.int .i64) (w0 := w) w.heap.size rfl (.tmp 22) (.tmp 24) 22 3 (.int .i64 0) 8 rfl Tryd.underlying22 info3 rfl (by decide) (by omega) u8 x8_1 ((rd_T57 l1 x9_1).f0) [.int .i64 ((rd_T57 l1 x9_1).f0)] (fun _ => True) (fun _ => False) rfl rfl ?aP (fun _ hk => hk.elim) ?aF ?aO ?aB ?aS ?aL ?_; (case aP => exact rfl); (case aB => exact bz); (case aF => exact (fun _ _ => trivial)); (case aO => exact (rz HO_8.out)); (case aS => exact (below_size bz)); (case aL => have := LMc8.out; omega); intro v248 w16 ho hb hg hat; rw [← Ny247.out] at ho; have n0_ := Aside0.mk (blk_grown (g := gb244) (o := .cells #[.slice A0_0 l0_0.length c0_0, .slice A0_1 l0_1.length c0_1, .slice A0_2 l0_2.length c0_2] 25 (0, 0)) (kz BK244.out) hg (Kd.R_ne HO_8.out BK244.out (by decide))); have n1_ := Aside0.mk (hb); have n2_ := Aside0.mk (ho); clear BK244; clear HB; clear HO_8; have BK244 := n0_; have HB := n1_; have HO249 := n2_; clear n0_ n1_ n2_; clear ho hb hg hat; have hcz17_0 : w16.cell? ⟨gb244, 0, none⟩ = some (.slice A0_0 l0_0.length c0_0) := (blk_cell BK244.out 0).trans rfl; have hcz17_1 : w16.cell? ⟨gb244, 1, none⟩ = some (.slice A0_1 l0_1.length c0_1) := (blk_cell BK244.out 1).trans rfl; have hcz17_2 : w16.cell? ⟨gb244, 2, none⟩ = some (.slice A0_2 l0_2.length c0_2) := (blk_cell BK244.out 2).trans rfl; have hfz17_0 := blk_frozen BK244.out 0; have hfz17_1 := blk_frozen BK244.out 1; have hfz17_2 := blk_frozen BK244.out 2; have p250 : 0 ≤ (((rd_T57 l1 x9_1).f0) : Int) := of_decide_eq_true az; have q250 : ((rd_T57 l1 x9_1).f0) < (l0_1.length : Int) := of_decide_eq_true az; obtain ⟨ad250, A250_0, c250_0, e250, hx250_0, hl250_0, hi250_0⟩ := at_L1 HR0_1.out ((rd_T57 l1 x9_1).f0) p250 q250; cases e250; replace hx250_0 := (HB.out.cell (World.block_lt_of_cell? w _ hx250_0)).trans hx250_0; have HR250_0 := Aside0.mk hi250_0; have HC250_0 := Aside0.mk hl250_0; clear hi250_0 hl250_0; replace p250 := eq_true p250; replace q250 := eq_true q250; have p251 : 0 ≤ (a2 : Int) := of_decide_eq_true az; have q251 : a2 < ((rd_L1 l0_1 ((rd_T57 l1 x9_1).f0)).length : Int) := of_decide_eq_true az; obtain ⟨ad251, e251, hx251_0⟩ := Kd.at_int HR250_0.out a2 p251 q251; cases e251; replace hx251_0 := (HB.out.cell (World.block_lt_of_cell? w _ hx251_0)).trans hx251_0; replace p251 := eq_true p251; replace q251 := eq_true q251; have p253 : 0 ≤ (x9_1 : Int) := of_decide_eq_true az; have q253 : x9_1 < (l1.length : Int) := of_decide_eq_true az; obtain ⟨ad253, e253, hx253_0, hx253_1, hx253_2, hx253_3⟩ := at_T57 HR1.out x9_1 p253 q253; obtain rfl : ad245 = ad253 := (by injection e253); replace hx253_0 := (HB.out.cell (World.block_lt_of_cell? w _ hx253_0)).trans hx253_0; replace hx253_1 := (HB.out.cell (World.block_lt_of_cell? w _ hx253_1)).trans hx253_1; replace hx253_2 := (HB.out.cell (World.block_lt_of_cell? w _ hx253_2)).trans hx253_2; replace hx253_3 := (HB.out.cell (World.block_lt_of_cell? w _ hx253_3)).trans hx253_3; replace p253 := eq_true p253; replace q253 := eq_true q253)); try go_wp2_with (first | ((with_reducible refine gate_builtin (b := .append) (xs := #[.tmp 22, .tmp 24]) rfl ?_); at_builtin; refine Kd.R_append (Kd.int .i64) (w0 := w) w.heap.size rfl (.tmp 22) (.tmp 24) 22 3 (.int .i64 0) 8 rfl Tryd.underlying22 info3 rfl (by decide) (by omega) u8 x8_1 ((rd_T57 l1 x9_1).f0) [.int .i64 ((rd_T57 l1 x9_1).f0)] (fun _ => True) (fun _ => False) rfl rfl ?aP (fun _ hk => hk.elim) ?aF ?aO ?aB ?aS ?aL ?_; (case aP => exact rfl); (case aB => exact bz); (case aF => exact (fun _ _ => trivial)); (case aO => exact (rz HO_8.out)); (case aS => exact (below_size bz)); (case aL => have := LMc8.out; omega); intro v248 w16 ho hb hg hat; rw [← Ny247.out] at ho; have n0_ := Aside0.mk (blk_grown (g := gb244) (o := .cells #[.slice A0_0 l0_0.length c0_0, .slice A0_1 l0_1.length c0_1, .slice A0_2 l0_2.length c0_2] 25 (0, 0)) (kz BK244.out) hg (Kd.R_ne HO_8.out BK244.out (by decide))); have n1_ := Aside0.mk (hb); have n2_ := Aside0.mk (ho); clear BK244; clear HB; clear HO_8; have BK244 := n0_; have HB := n1_; have HO249 := n2_; clear n0_ n1_ n2_; clear ho hb hg hat; have hcz17_0 : w16.cell? ⟨gb244, 0, none⟩ = some (.slice A0_0 l0_0.length c0_0) := (blk_cell BK244.out 0).trans rfl; have hcz17_1 : w16.cell? ⟨gb244, 1, none⟩ = some (.slice A0_1 l0_1.length c0_1) := (blk_cell BK244.out 1).trans rfl; have hcz17_2 : w16.cell? ⟨gb244, 2, none⟩ = some (.slice A0_2 l0_2.length c0_2) := (blk_cell BK244.out 2).trans rfl; have hfz17_0 := blk_frozen BK244.out 0; have hfz17_1 := blk_frozen BK244.out 1; have hfz17_2 := blk_frozen BK244.out 2; have p250 : 0 ≤ (((rd_T57 l1 x9_1).f0) : Int) := of_decide_eq_true az; have q250 : ((rd_T57 l1 x9_1).f0) < (l0_1.length : Int) := of_decide_eq_true az; obtain ⟨ad250, A250_0, c250_0, e250, hx250_0, hl250_0, hi250_0⟩ := at_L1 HR0_1.out ((rd_T57 l1 x9_1).f0) p250 q250; cases e250; replace hx250_0 := (HB.out.cell (World.block_lt_of_cell? w _ hx250_0)).trans hx250_0; have HR250_0 := Aside0.mk hi250_0; have HC250_0 := Aside0.mk hl250_0; clear hi250_0 hl250_0; replace p250 := eq_true p250; replace q250 := eq_true q250; have p251 : 0 ≤ (a2 : Int) := of_decide_eq_true az; have q251 : a2 < ((rd_L1 l0_1 ((rd_T57 l1 x9_1).f0)).length : Int) := of_decide_eq_true az; obtain ⟨ad251, e251, hx251_0⟩ := Kd.at_int HR250_0.out a2 p251 q251; cases e251; replace hx251_0 := (HB.out.cell (World.block_lt_of_cell? w _ hx251_0)).trans hx251_0; replace p251 := eq_true p251; replace q251 := eq_true q251; have p253 : 0 ≤ (x9_1 : Int) := of_decide_eq_true az; have q253 : x9_1 < (l1.length : Int) := of_decide_eq_true az; obtain ⟨ad253, e253, hx253_0, hx253_1, hx253_2, hx253_3⟩ := at_T57 HR1.out x9_1 p253 q253; obtain rfl : ad245 = ad253 := (by injection e253); replace hx253_0 := (HB.out.cell (World.block_lt_of_cell? w _ hx253_0)).trans hx253_0; replace hx253_1 := (HB.out.cell (World.block_lt_of_cell? w _ hx253_1)).trans hx253_1; replace hx253_2 := (HB.out.cell (World.block_lt_of_cell? w _ hx253_2)).trans hx253_2; replace hx253_3 := (HB.out.cell (World.block_lt_of_cell? w _ hx253_3)).trans hx253_3; replace p253 := eq_true p253; replace q253 := eq_true q253)))
            go_roundg k1
            case measure => have := HK1.out; omega
            case rel => exact ⟨(y247), ((rd_T57 l1 x9_1).f2), (by first | rfl | (simp; done) | (simp [*]; done)), H', ⟨by have := HK1.out; omega⟩, ⟨by (with_reducible repeat (first | apply Kd.R_alloc | apply Kd.R_drewN | apply Kd.R_drew)); exact HO249.out⟩, ⟨by (with_reducible repeat (first | refine blk_drewN ?_ _ | refine blk_drew ?_ | refine blk_alloc ?_ _)); exact BK244.out⟩, ⟨by repeat (first | (with_reducible first | exact HB.out | apply below_alloc | apply pw_below_drewN | apply below_drew1 | refine below_set ?_ GE244.out) | exact HB.out)⟩⟩
          ·rw [if_neg c12] at H
           exact absurd H (by simp)
         ·rw [if_neg c11] at H
          exact absurd H (by simp)
        ·rw [if_neg c10] at H
         exact absurd H (by simp)
       ·rw [if_neg c9] at H
        exact absurd H (by simp)
      ·rw [if_neg c8] at H
       exact absurd H (by simp)
     ·rw [if_neg c7] at H
      have c7b0 : decide (0 ≤ ((rd_T57 l1 x9_1).f0)) = false := decide_eq_false c7
      clear c7
      simp only [Option.some.injEq, Prod.mk.injEq] at H
      obtain ⟨rfl, rfl⟩ := H
      have p245 : 0 ≤ (x9_1 : Int) := of_decide_eq_true az
      have q245 : x9_1 < (l1.length : Int) := of_decide_eq_true az
      obtain ⟨ad245, e245, hx245_0, hx245_1, hx245_2, hx245_3⟩ := at_T57 HR1.out x9_1 p245 q245
      cases e245
      replace hx245_0 := (HB.out.cell (World.block_lt_of_cell? w _ hx245_0)).trans hx245_0
      replace hx245_1 := (HB.out.cell (World.block_lt_of_cell? w _ hx245_1)).trans hx245_1
      replace hx245_2 := (HB.out.cell (World.block_lt_of_cell? w _ hx245_2)).trans hx245_2
      replace hx245_3 := (HB.out.cell (World.block_lt_of_cell? w _ hx245_3)).trans hx245_3
      replace p245 := eq_true p245
      replace q245 := eq_true q245
      have p254 : 0 ≤ (x9_1 : Int) := of_decide_eq_true az
      have q254 : x9_1 < (l1.length : Int) := of_decide_eq_true az
      obtain ⟨ad254, e254, hx254_0, hx254_1, hx254_2, hx254_3⟩ := at_T57 HR1.out x9_1 p254 q254
      obtain rfl : ad245 = ad254 := (by injection e254)
      replace hx254_0 := (HB.out.cell (World.block_lt_of_cell? w _ hx254_0)).trans hx254_0
      replace hx254_1 := (HB.out.cell (World.block_lt_of_cell? w _ hx254_1)).trans hx254_1
      replace hx254_2 := (HB.out.cell (World.block_lt_of_cell? w _ hx254_2)).trans hx254_2
      replace hx254_3 := (HB.out.cell (World.block_lt_of_cell? w _ hx254_3)).trans hx254_3
      replace p254 := eq_true p254
      replace q254 := eq_true q254
      go_wp2
      repeat (go_quiet (fail); try go_wp2)
      go_ret2
      exact ⟨_, by first | rfl | (simp [errW_none, errW_some] <;> rfl) | (simp [*, errW_none, errW_some] <;> rfl), by (with_reducible repeat (first | apply Kd.R_alloc | apply Kd.R_drewN | apply Kd.R_drew)); exact HO_8.out, by repeat (first | (with_reducible first | exact HB.out | apply below_alloc | apply pw_below_drewN | apply below_drew1 | refine below_set ?_ GE244.out) | exact HB.out)⟩
    ·rw [if_neg c6] at H
     exact absurd H (by simp)
   ·rw [if_neg c5] at H
    exact absurd H (by simp)

end Go.Proofs.YtekmiepdodaidaaDoor.X
end
