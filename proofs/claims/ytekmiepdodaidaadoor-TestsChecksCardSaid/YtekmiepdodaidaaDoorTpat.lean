/- Texts behind TestsChecks, part 20: contracts of the program's functions and the plain words for them. -/
import Derived.Maps.OwnSet
import Derived.Maps.RangeWalk
import Derived.Shelf.Spec.TrailingZeros
import Derived.Laws.BitsAllLaws
import Derived.Test.YtekmiepdodaidaaDoorTpas
section
namespace Go.Proofs.YtekmiepdodaidaaDoor.X
open Go.RowKit Go.Proofs.YtekmiepdodaidaaDoorW.PrintWords Go.Proofs.YtekmiepdodaidaaDoorW.PrintLast Go.Proofs.YtekmiepdodaidaaDoorW.PrintMore
attribute [local go_sem] max2_int min2_int max_two min_two max_three min_three max_four min_four   -- for this text's walks alone
set_option linter.unusedVariables false
set_option linter.unusedSimpArgs false

mutual
def tickingref07_Case.j0 : Nat → Int → Bool → List Int → List (List Int) → List Int → Option (Bool)
 | 0, _, _, _, _, _ => none
 | k + 1, x3, x30, x138000, x138001, x138002 => if x30 = true then (some false) else (tickingref07_Case.l0 k x3 0 x138000 x138001 x138002)
def tickingref07_Case.l0 : Nat → Int → Int → List Int → List (List Int) → List Int → Option (Bool)
 | 0, _, _, _, _, _ => none
 | k + 1, x3, x4, x138000, x138001, x138002 => if x4 < x3 then (if 0 ≤ x4 then (if x4 < (x138000.length : Int) then (if (rd x138000 x4) < 1 then (some false) else (if (rd x138000 x4) > 1000 then (some false) else (tickingref07_Case.l0 k x3 (wrap64 (x4 + 1)) x138000 x138001 x138002))) else (none)) else (none)) else (tickingref07_Case.l1 k x3 0 x138000 x138001 x138002)
def tickingref07_Case.l1 : Nat → Int → Int → List Int → List (List Int) → List Int → Option (Bool)
 | 0, _, _, _, _, _ => none
 | k + 1, x3, x5, x138000, x138001, x138002 => if x5 < (x138001.length : Int) then (if 0 ≤ x5 then (if ((rd_L1 x138001 x5).length : Int) = x3 then (if x5 < (x138002.length : Int) then (if (rd x138002 x5) < 1 then (tickingref07_Case.j3 k x3 x5 true x138000 x138001 x138002) else (tickingref07_Case.j3 k x3 x5 (decide ((rd x138002 x5) > 100)) x138000 x138001 x138002)) else (none)) else (tickingref07_Case.j3 k x3 x5 true x138000 x138001 x138002)) else (none)) else (some true)
def tickingref07_Case.j3 : Nat → Int → Int → Bool → List Int → List (List Int) → List Int → Option (Bool)
 | 0, _, _, _, _, _, _ => none
 | k + 1, x3, x5, x80, x138000, x138001, x138002 => if x80 = true then (some false) else (tickingref07_Case.l2 k x3 x5 0 x138000 x138001 x138002)
def tickingref07_Case.l2 : Nat → Int → Int → Int → List Int → List (List Int) → List Int → Option (Bool)
 | 0, _, _, _, _, _, _ => none
 | k + 1, x3, x5, x6, x138000, x138001, x138002 => if x6 < x3 then (if 0 ≤ x5 then (if x5 < (x138001.length : Int) then (if 0 ≤ x6 then (if x6 < ((rd_L1 x138001 x5).length : Int) then (if (rd (rd_L1 x138001 x5) x6) < 0 then (some false) else (if (rd (rd_L1 x138001 x5) x6) > 1 then (some false) else (tickingref07_Case.l2 k x3 x5 (wrap64 (x6 + 1)) x138000 x138001 x138002))) else (none)) else (none)) else (none)) else (none)) else (tickingref07_Case.l1 k x3 (wrap64 (x5 + 1)) x138000 x138001 x138002)
end
def tickingref07_Case.f (k : Nat) (l0_0 : List Int) (l0_1 : List (List Int)) (l0_2 : List Int) : Option (Bool) := if (l0_0.length : Int) < 1 then (tickingref07_Case.j0 k (l0_0.length : Int) true l0_0 l0_1 l0_2) else (if (l0_0.length : Int) > 10 then (tickingref07_Case.j0 k (l0_0.length : Int) true l0_0 l0_1 l0_2) else (if (l0_1.length : Int) > 12 then (tickingref07_Case.j0 k (l0_0.length : Int) true l0_0 l0_1 l0_2) else (tickingref07_Case.j0 k (l0_0.length : Int) ((l0_2.length : Int) != (l0_1.length : Int)) l0_0 l0_1 l0_2)))
set_option maxHeartbeats 8000000 in
set_option maxRecDepth 100000 in
theorem tickingref07_Case.calls (k : Nat) (A0_0 : Option Addr) (c0_0 : Nat) (l0_0 : List Int) (A0_1 : Option Addr) (c0_1 : Nat) (l0_1 : List (List Int)) (A0_2 : Option Addr) (c0_2 : Nat) (l0_2 : List Int) (r : Bool) (w : World) (hr0_0 : Kd.C (Kd.int .i64) w A0_0 l0_0.length l0_0) (hc0_0 : l0_0.length ≤ c0_0) (hr0_1 : Kd.C (Kd.slice 3 (Kd.int .i64)) w A0_1 l0_1.length l0_1) (hc0_1 : l0_1.length ≤ c0_1) (hr0_2 : Kd.C (Kd.int .i64) w A0_2 l0_2.length l0_2) (hc0_2 : l0_2.length ≤ c0_2) (h : tickingref07_Case.f k l0_0 l0_1 l0_2 = some r) :
  Calls Tryd.prog 16 #[.agg #[.slice A0_0 l0_0.length c0_0, .slice A0_1 l0_1.length c0_1, .slice A0_2 l0_2.length c0_2]] w fun e w' => e = .returned (.bool r) ∧ Below w.heap.size w w' := by
 have hu25 := Tryd.underlying25
 have HR0_0 := Aside0.mk hr0_0
 have HC0_0 := Aside0.mk hc0_0
 clear hr0_0 hc0_0
 have HR0_1 := Aside0.mk hr0_1
 have HC0_1 := Aside0.mk hc0_1
 clear hr0_1 hc0_1
 have HR0_2 := Aside0.mk hr0_2
 have HC0_2 := Aside0.mk hc0_2
 clear hr0_2 hc0_2
 have HB := Aside0.mk (Below.refl w.heap.size w)
 have H : (if (l0_0.length : Int) < 1 then (tickingref07_Case.j0 k (l0_0.length : Int) true l0_0 l0_1 l0_2) else (if (l0_0.length : Int) > 10 then (tickingref07_Case.j0 k (l0_0.length : Int) true l0_0 l0_1 l0_2) else (if (l0_1.length : Int) > 12 then (tickingref07_Case.j0 k (l0_0.length : Int) true l0_0 l0_1 l0_2) else (tickingref07_Case.j0 k (l0_0.length : Int) ((l0_2.length : Int) != (l0_1.length : Int)) l0_0 l0_1 l0_2)))) = some r := h
 clear h
 have HC2 := Aside0.mk H
 clear H
 go_enter Tryd.func16, Tryd.ntmps16
 go_upto_region 2 with (first | ((with_reducible refine gate_dst (N := 1) rfl ?_); (try (refine gate_guard (by rfl) ?_; dsimp only)); refine box_event ?hg (N := 1) ?hd (cs := #[.slice A0_0 l0_0.length c0_0, .slice A0_1 l0_1.length c0_1, .slice A0_2 l0_2.length c0_2]) (t := 25) ?hr ?_; (case hd => rfl); (case hg => rfl); (case hr => first | (go_simp; done) | (go_simp; rfl)); intro gb137 hg w3 hbox hb; have n0_ := Aside0.mk (below_step bz hb); have n1_ := Aside0.mk (hbox); have n2_ := Aside0.mk ((by rw [hg]; exact (below_size bz) : w.heap.size ≤ gb137)); have n3_ := Aside0.mk ((by rw [hg]; exact (below_size bz) : w.heap.size ≤ gb137)); clear HB; have HB := n0_; have BK137 := n1_; have GW137 := n2_; have GE137 := n3_; clear n0_ n1_ n2_ n3_; clear hb hbox hg; have hcz4_0 : w3.cell? ⟨gb137, 0, none⟩ = some (.slice A0_0 l0_0.length c0_0) := (blk_cell BK137.out 0).trans rfl; have hcz4_1 : w3.cell? ⟨gb137, 1, none⟩ = some (.slice A0_1 l0_1.length c0_1) := (blk_cell BK137.out 1).trans rfl; have hcz4_2 : w3.cell? ⟨gb137, 2, none⟩ = some (.slice A0_2 l0_2.length c0_2) := (blk_cell BK137.out 2).trans rfl; have hfz4_0 := blk_frozen BK137.out 0; have hfz4_1 := blk_frozen BK137.out 1; have hfz4_2 := blk_frozen BK137.out 2))
 (try simp only [Act.put, List.setIfInBounds_toArray, List.set_cons_zero, List.set_cons_succ])
 go_cut [30] (fun v30 wc => ∃ (kq : Nat) (x30_1 : Bool), v30 = .bool x30_1 ∧ Aside0 (tickingref07_Case.j0 kq (l0_0.length : Int) x30_1 l0_0 l0_1 l0_2 = some r) ∧ Aside0 (kq ≤ k) ∧ Aside0 (wc.heap[gb137]? = some (.cells #[(.slice A0_0 l0_0.length c0_0), (.slice A0_1 l0_1.length c0_1), (.slice A0_2 l0_2.length c0_2)] 25 (0, 0))) ∧ Aside0 (Below w.heap.size w wc))
 case first =>
  have H := HC2.out
  clear HC2
  by_cases c5 : (l0_0.length : Int) < 1
  ·rw [if_pos c5] at H
   have c5b0 : decide ((l0_0.length : Int) < 1) = true := decide_eq_true c5
   have c5b1 : decide (l0_0.length < 1) = true := decide_eq_true (by omega)
   clear c5
   (first | rw [c5b0] | (simp only [i64_w, i32_w]; rw [c5b0]) | skip)
   have H' := Aside0.mk H
   clear H
   go_wp2
   go_meet
   case rel => exact ⟨_, (true), (by first | rfl | (simp; done) | (simp [*]; done)), H', ⟨by first | omega | exact Nat.le_refl _⟩, ⟨by (with_reducible repeat (first | refine blk_drewN ?_ _ | refine blk_drew ?_ | refine blk_alloc ?_ _)); exact BK137.out⟩, ⟨by repeat (first | (with_reducible first | exact HB.out | apply below_alloc | apply pw_below_drewN | apply below_drew1 | refine below_set ?_ GE137.out) | exact HB.out)⟩⟩
  ·rw [if_neg c5] at H
   have c5b0 : decide ((l0_0.length : Int) < 1) = false := decide_eq_false c5
   have c5b1 : decide (l0_0.length < 1) = false := decide_eq_false (by omega)
   clear c5
   (first | rw [c5b0] | (simp only [i64_w, i32_w]; rw [c5b0]) | skip)
   by_cases c6 : (l0_0.length : Int) > 10
   ·rw [if_pos c6] at H
    have c6b0 : decide (10 < (l0_0.length : Int)) = true := decide_eq_true c6
    have c6b1 : decide (10 < l0_0.length) = true := decide_eq_true (by omega)
    clear c6
    have H' := Aside0.mk H
    clear H
    go_wp2
    go_meet
    case rel => exact ⟨_, (true), (by first | rfl | (simp; done) | (simp [*]; done)), H', ⟨by first | omega | exact Nat.le_refl _⟩, ⟨by (with_reducible repeat (first | refine blk_drewN ?_ _ | refine blk_drew ?_ | refine blk_alloc ?_ _)); exact BK137.out⟩, ⟨by repeat (first | (with_reducible first | exact HB.out | apply below_alloc | apply pw_below_drewN | apply below_drew1 | refine below_set ?_ GE137.out) | exact HB.out)⟩⟩
   ·rw [if_neg c6] at H
    have c6b0 : decide (10 < (l0_0.length : Int)) = false := decide_eq_false c6
    have c6b1 : decide (10 < l0_0.length) = false := decide_eq_false (by omega)
    clear c6
    by_cases c7 : (l0_1.length : Int) > 12
    ·rw [if_pos c7] at H
     have c7b0 : decide (12 < (l0_1.length : Int)) = true := decide_eq_true c7
     have c7b1 : decide (12 < l0_1.length) = true := decide_eq_true (by omega)
     clear c7
     have H' := Aside0.mk H
     clear H
     have hcz8_0 : w3.cell? ⟨gb137, 0, none⟩ = some (.slice A0_0 l0_0.length c0_0) := (blk_cell BK137.out 0).trans rfl
     have hcz8_1 : w3.cell? ⟨gb137, 1, none⟩ = some (.slice A0_1 l0_1.length c0_1) := (blk_cell BK137.out 1).trans rfl
     have hcz8_2 : w3.cell? ⟨gb137, 2, none⟩ = some (.slice A0_2 l0_2.length c0_2) := (blk_cell BK137.out 2).trans rfl
     have hfz8_0 := blk_frozen BK137.out 0
     have hfz8_1 := blk_frozen BK137.out 1
     have hfz8_2 := blk_frozen BK137.out 2
     go_wp2
     go_meet
     case rel => exact ⟨_, (true), (by first | rfl | (simp; done) | (simp [*]; done)), H', ⟨by first | omega | exact Nat.le_refl _⟩, ⟨by (with_reducible repeat (first | refine blk_drewN ?_ _ | refine blk_drew ?_ | refine blk_alloc ?_ _)); exact BK137.out⟩, ⟨by repeat (first | (with_reducible first | exact HB.out | apply below_alloc | apply pw_below_drewN | apply below_drew1 | refine below_set ?_ GE137.out) | exact HB.out)⟩⟩
    ·rw [if_neg c7] at H
     have c7b0 : decide (12 < (l0_1.length : Int)) = false := decide_eq_false c7
     have c7b1 : decide (12 < l0_1.length) = false := decide_eq_false (by omega)
     clear c7
     have H' := Aside0.mk H
     clear H
     have hcz9_0 : w3.cell? ⟨gb137, 0, none⟩ = some (.slice A0_0 l0_0.length c0_0) := (blk_cell BK137.out 0).trans rfl
     have hcz9_1 : w3.cell? ⟨gb137, 1, none⟩ = some (.slice A0_1 l0_1.length c0_1) := (blk_cell BK137.out 1).trans rfl
     have hcz9_2 : w3.cell? ⟨gb137, 2, none⟩ = some (.slice A0_2 l0_2.length c0_2) := (blk_cell BK137.out 2).trans rfl
     have hfz9_0 := blk_frozen BK137.out 0
     have hfz9_1 := blk_frozen BK137.out 1
     have hfz9_2 := blk_frozen BK137.out 2
     go_wp2
     go_meet
     case rel => exact ⟨_, (((l0_2.length : Int) != (l0_1.length : Int))), (by first | rfl | (simp; done) | (simp [*]; done)), H', ⟨by first | omega | exact Nat.le_refl _⟩, ⟨by (with_reducible repeat (first | refine blk_drewN ?_ _ | refine blk_drew ?_ | refine blk_alloc ?_ _)); exact BK137.out⟩, ⟨by repeat (first | (with_reducible first | exact HB.out | apply below_alloc | apply pw_below_drewN | apply below_drew1 | refine below_set ?_ GE137.out) | exact HB.out)⟩⟩
 case rest =>
  clear HC2
  try clear c1
  try clear p2
  try clear c5
  try clear c5b0
  try clear c5b1
  try clear c6
  try clear c6b0
  try clear c6b1
  try clear c7
  try clear c7b0
  try clear c7b1
  try clear hcz4_0
  try clear hcz4_1
  try clear hcz4_2
  try clear hcz8_0
  try clear hcz8_1
  try clear hcz8_2
  try clear hcz9_0
  try clear hcz9_1
  try clear hcz9_2
  try clear hfz4_0
  try clear hfz4_1
  try clear hfz4_2
  try clear hfz8_0
  try clear hfz8_1
  try clear hfz8_2
  try clear hfz9_0
  try clear hfz9_1
  try clear hfz9_2
  obtain ⟨kq, x30_1, rfl, HA, HJ1, BK137, HB⟩ := hcut
  cases kq with
  | zero => exact absurd HA.out (by simp [tickingref07_Case.j0])
  | succ kj1 =>
   have H := HA.out
   clear HA
   simp only [tickingref07_Case.j0] at H
   by_cases c10 : x30_1 = true
   ·subst c10
    have H1 : (some false) = some r := by rw [if_pos rfl] at H; exact H
    clear H
    have H := H1
    clear H1
    obtain rfl := Option.some.inj H
    go_wp2
    go_ret
    exact ⟨by first | rfl | (simp [errW_none, errW_some] <;> rfl) | (simp [*, errW_none, errW_some] <;> rfl), by repeat (first | (with_reducible first | exact HB.out | apply below_alloc | apply pw_below_drewN | apply below_drew1 | refine below_set ?_ GE137.out) | exact HB.out)⟩
   ·replace c10 := Bool.eq_false_iff.mpr c10
    subst c10
    have H1 : (tickingref07_Case.l0 kj1 (l0_0.length : Int) 0 l0_0 l0_1 l0_2) = some r := by rw [if_neg (show ¬ (false = true) by decide)] at H; exact H
    clear H
    have H := H1
    clear H1
    have H' := Aside0.mk H
    clear H
    go_wp2
    go_loopg [4] kj1 (fun kq v4 w' => ∃ (x4_2 : Int), v4 = .int .i64 x4_2 ∧ Aside0 (tickingref07_Case.l0 kq (l0_0.length : Int) x4_2 l0_0 l0_1 l0_2 = some r) ∧ Aside0 (kq ≤ kj1) ∧ Aside0 (w'.heap[gb137]? = some (.cells #[(.slice A0_0 l0_0.length c0_0), (.slice A0_1 l0_1.length c0_1), (.slice A0_2 l0_2.length c0_2)] 25 (0, 0))) ∧ Aside0 (Below w.heap.size w w'))
    case atStart => exact ⟨(0), (by first | rfl | (simp; done) | (simp [*]; done)), H', ⟨Nat.le_refl _⟩, ⟨by (with_reducible repeat (first | refine blk_drewN ?_ _ | refine blk_drew ?_ | refine blk_alloc ?_ _)); exact BK137.out⟩, ⟨by repeat (first | (with_reducible first | exact HB.out | apply below_alloc | apply pw_below_drewN | apply below_drew1 | refine below_set ?_ GE137.out) | exact HB.out)⟩⟩
    case round =>
     clear H'
     try clear c1
     try clear p2
     try clear c5
     try clear c5b0
     try clear c5b1
     try clear c6
     try clear c6b0
     try clear c6b1
     try clear c7
     try clear c7b0
     try clear c7b1
     try clear c10
     try clear hcz4_0
     try clear hcz4_1
     try clear hcz4_2
     try clear hcz8_0
     try clear hcz8_1
     try clear hcz8_2
     try clear hcz9_0
     try clear hcz9_1
     try clear hcz9_2
     try clear hfz4_0
     try clear hfz4_1
     try clear hfz4_2
     try clear hfz8_0
     try clear hfz8_1
     try clear hfz8_2
     try clear hfz9_0
     try clear hfz9_1
     try clear hfz9_2
     try clear p2
     obtain ⟨x4_2, rfl, HA, HK2, BK137, HB⟩ := hrel
     cases gk with
     | zero => exact absurd HA.out (by simp [tickingref07_Case.l0])
     | succ k2 =>
      have H := HA.out
      clear HA
      simp only [tickingref07_Case.l0] at H
      by_cases c11 : x4_2 < (l0_0.length : Int)
      ·rw [if_pos c11] at H
       have c11b0 : decide (x4_2 < (l0_0.length : Int)) = true := decide_eq_true c11
       clear c11
       by_cases c12 : 0 ≤ x4_2
       ·rw [if_pos c12] at H
        have c12b0 : decide (0 ≤ x4_2) = true := decide_eq_true c12
        clear c12
        by_cases c13 : x4_2 < (l0_0.length : Int)
        ·rw [if_pos c13] at H
         have c13b0 : decide (x4_2 < (l0_0.length : Int)) = true := decide_eq_true c13
         clear c13
         by_cases c14 : (rd l0_0 x4_2) < 1
         ·rw [if_pos c14] at H
          have c14b0 : decide ((rd l0_0 x4_2) < 1) = true := decide_eq_true c14
          clear c14
          obtain rfl := Option.some.inj H
          have hcz15_0 : wr.cell? ⟨gb137, 0, none⟩ = some (.slice A0_0 l0_0.length c0_0) := (blk_cell BK137.out 0).trans rfl
          have hcz15_1 : wr.cell? ⟨gb137, 1, none⟩ = some (.slice A0_1 l0_1.length c0_1) := (blk_cell BK137.out 1).trans rfl
          have hcz15_2 : wr.cell? ⟨gb137, 2, none⟩ = some (.slice A0_2 l0_2.length c0_2) := (blk_cell BK137.out 2).trans rfl
          have hfz15_0 := blk_frozen BK137.out 0
          have hfz15_1 := blk_frozen BK137.out 1
          have hfz15_2 := blk_frozen BK137.out 2
          have p138 : 0 ≤ (x4_2 : Int) := of_decide_eq_true az
          have q138 : x4_2 < (l0_0.length : Int) := of_decide_eq_true az
          obtain ⟨ad138, e138, hx138_0⟩ := Kd.at_int HR0_0.out x4_2 p138 q138
          cases e138
          replace hx138_0 := (HB.out.cell (World.block_lt_of_cell? w _ hx138_0)).trans hx138_0
          replace p138 := eq_true p138
          replace q138 := eq_true q138
          go_wp2
          go_ret
          exact ⟨by first | rfl | (simp [errW_none, errW_some] <;> rfl) | (simp [*, errW_none, errW_some] <;> rfl), by repeat (first | (with_reducible first | exact HB.out | apply below_alloc | apply pw_below_drewN | apply below_drew1 | refine below_set ?_ GE137.out) | exact HB.out)⟩
         ·rw [if_neg c14] at H
          have c14b0 : decide ((rd l0_0 x4_2) < 1) = false := decide_eq_false c14
          clear c14
          by_cases c16 : (rd l0_0 x4_2) > 1000
          ·rw [if_pos c16] at H
           have c16b0 : decide (1000 < (rd l0_0 x4_2)) = true := decide_eq_true c16
           clear c16
           obtain rfl := Option.some.inj H
           have hcz17_0 : wr.cell? ⟨gb137, 0, none⟩ = some (.slice A0_0 l0_0.length c0_0) := (blk_cell BK137.out 0).trans rfl
           have hcz17_1 : wr.cell? ⟨gb137, 1, none⟩ = some (.slice A0_1 l0_1.length c0_1) := (blk_cell BK137.out 1).trans rfl
           have hcz17_2 : wr.cell? ⟨gb137, 2, none⟩ = some (.slice A0_2 l0_2.length c0_2) := (blk_cell BK137.out 2).trans rfl
           have hfz17_0 := blk_frozen BK137.out 0
           have hfz17_1 := blk_frozen BK137.out 1
           have hfz17_2 := blk_frozen BK137.out 2
           have p138 : 0 ≤ (x4_2 : Int) := of_decide_eq_true az
           have q138 : x4_2 < (l0_0.length : Int) := of_decide_eq_true az
           obtain ⟨ad138, e138, hx138_0⟩ := Kd.at_int HR0_0.out x4_2 p138 q138
           cases e138
           replace hx138_0 := (HB.out.cell (World.block_lt_of_cell? w _ hx138_0)).trans hx138_0
           replace p138 := eq_true p138
           replace q138 := eq_true q138
           have p139 : 0 ≤ (x4_2 : Int) := of_decide_eq_true az
           have q139 : x4_2 < (l0_0.length : Int) := of_decide_eq_true az
           obtain ⟨ad139, e139, hx139_0⟩ := Kd.at_int HR0_0.out x4_2 p139 q139
           obtain rfl : ad138 = ad139 := (by injection e139)
           replace hx139_0 := (HB.out.cell (World.block_lt_of_cell? w _ hx139_0)).trans hx139_0
           replace p139 := eq_true p139
           replace q139 := eq_true q139
           go_wp2
           go_ret
           exact ⟨by first | rfl | (simp [errW_none, errW_some] <;> rfl) | (simp [*, errW_none, errW_some] <;> rfl), by repeat (first | (with_reducible first | exact HB.out | apply below_alloc | apply pw_below_drewN | apply below_drew1 | refine below_set ?_ GE137.out) | exact HB.out)⟩
          ·rw [if_neg c16] at H
           have c16b0 : decide (1000 < (rd l0_0 x4_2)) = false := decide_eq_false c16
           clear c16
           have H' := Aside0.mk H
           clear H
           have hcz18_0 : wr.cell? ⟨gb137, 0, none⟩ = some (.slice A0_0 l0_0.length c0_0) := (blk_cell BK137.out 0).trans rfl
           have hcz18_1 : wr.cell? ⟨gb137, 1, none⟩ = some (.slice A0_1 l0_1.length c0_1) := (blk_cell BK137.out 1).trans rfl
           have hcz18_2 : wr.cell? ⟨gb137, 2, none⟩ = some (.slice A0_2 l0_2.length c0_2) := (blk_cell BK137.out 2).trans rfl
           have hfz18_0 := blk_frozen BK137.out 0
           have hfz18_1 := blk_frozen BK137.out 1
           have hfz18_2 := blk_frozen BK137.out 2
           have p138 : 0 ≤ (x4_2 : Int) := of_decide_eq_true az
           have q138 : x4_2 < (l0_0.length : Int) := of_decide_eq_true az
           obtain ⟨ad138, e138, hx138_0⟩ := Kd.at_int HR0_0.out x4_2 p138 q138
           cases e138
           replace hx138_0 := (HB.out.cell (World.block_lt_of_cell? w _ hx138_0)).trans hx138_0
           replace p138 := eq_true p138
           replace q138 := eq_true q138
           have p139 : 0 ≤ (x4_2 : Int) := of_decide_eq_true az
           have q139 : x4_2 < (l0_0.length : Int) := of_decide_eq_true az
           obtain ⟨ad139, e139, hx139_0⟩ := Kd.at_int HR0_0.out x4_2 p139 q139
           obtain rfl : ad138 = ad139 := (by injection e139)
           replace hx139_0 := (HB.out.cell (World.block_lt_of_cell? w _ hx139_0)).trans hx139_0
           replace p139 := eq_true p139
           replace q139 := eq_true q139
           go_wp2
           go_roundg k2
           case measure => have := HJ1.out; have := HK2.out; omega
           case rel => exact ⟨(wrap64 (x4_2 + 1)), (by first | rfl | (simp; done) | (simp [*]; done)), H', ⟨by have := HJ1.out; have := HK2.out; omega⟩, ⟨by (with_reducible repeat (first | refine blk_drewN ?_ _ | refine blk_drew ?_ | refine blk_alloc ?_ _)); exact BK137.out⟩, ⟨by repeat (first | (with_reducible first | exact HB.out | apply below_alloc | apply pw_below_drewN | apply below_drew1 | refine below_set ?_ GE137.out) | exact HB.out)⟩⟩
        ·rw [if_neg c13] at H
         exact absurd H (by simp)
       ·rw [if_neg c12] at H
        exact absurd H (by simp)
      ·rw [if_neg c11] at H
       have c11b0 : decide (x4_2 < (l0_0.length : Int)) = false := decide_eq_false c11
       clear c11
       have H' := Aside0.mk H
       clear H
       go_wp2
       go_loopg [5] k2 (fun kq v5 w' => ∃ (x5_3 : Int), v5 = .int .i64 x5_3 ∧ Aside0 (tickingref07_Case.l1 kq (l0_0.length : Int) x5_3 l0_0 l0_1 l0_2 = some r) ∧ Aside0 (kq ≤ k2) ∧ Aside0 (w'.heap[gb137]? = some (.cells #[(.slice A0_0 l0_0.length c0_0), (.slice A0_1 l0_1.length c0_1), (.slice A0_2 l0_2.length c0_2)] 25 (0, 0))) ∧ Aside0 (Below w.heap.size w w'))
       case atStart => exact ⟨(0), (by first | rfl | (simp; done) | (simp [*]; done)), H', ⟨Nat.le_refl _⟩, ⟨by (with_reducible repeat (first | refine blk_drewN ?_ _ | refine blk_drew ?_ | refine blk_alloc ?_ _)); exact BK137.out⟩, ⟨by repeat (first | (with_reducible first | exact HB.out | apply below_alloc | apply pw_below_drewN | apply below_drew1 | refine below_set ?_ GE137.out) | exact HB.out)⟩⟩
       case round =>
        clear H'
        try clear c1
        try clear p1
        try clear q1
        try clear hx1
        try clear p2
        try clear c5
        try clear c5b0
        try clear c5b1
        try clear c6
        try clear c6b0
        try clear c6b1
        try clear p6
        try clear c7
        try clear c7b0
        try clear c7b1
        try clear c10
        try clear c11
        try clear c11b0
        try clear c12
        try clear c12b0
        try clear c13
        try clear c13b0
        try clear p13
        try clear q13
        try clear hx13
        try clear c14
        try clear c14b0
        try clear c16
        try clear c16b0
        try clear hcz15_0
        try clear hcz15_1
        try clear hcz15_2
        try clear hcz17_0
        try clear hcz17_1
        try clear hcz17_2
        try clear hcz18_0
        try clear hcz18_1
        try clear hcz18_2
        try clear hcz4_0
        try clear hcz4_1
        try clear hcz4_2
        try clear hcz8_0
        try clear hcz8_1
        try clear hcz8_2
        try clear hcz9_0
        try clear hcz9_1
        try clear hcz9_2
        try clear hfz15_0
        try clear hfz15_1
        try clear hfz15_2
        try clear hfz17_0
        try clear hfz17_1
        try clear hfz17_2
        try clear hfz18_0
        try clear hfz18_1
        try clear hfz18_2
        try clear hfz4_0
        try clear hfz4_1
        try clear hfz4_2
        try clear hfz8_0
        try clear hfz8_1
        try clear hfz8_2
        try clear hfz9_0
        try clear hfz9_1
        try clear hfz9_2
        try clear hx138_0
        try clear hx139_0
        try clear p138
        try clear p139
        try clear p2
        try clear q138
        try clear q139
        obtain ⟨x5_3, rfl, HA, HK3, BK137, HB⟩ := hrel
        cases gk with
        | zero => exact absurd HA.out (by simp [tickingref07_Case.l1])
        | succ k3 =>
         have H := HA.out
         clear HA
         simp only [tickingref07_Case.l1] at H
         by_cases c19 : x5_3 < (l0_1.length : Int)
         ·rw [if_pos c19] at H
          have c19b0 : decide (x5_3 < (l0_1.length : Int)) = true := decide_eq_true c19
          clear c19
          have HC20 := Aside0.mk H
          clear H
          have hcz21_0 : wr.cell? ⟨gb137, 0, none⟩ = some (.slice A0_0 l0_0.length c0_0) := (blk_cell BK137.out 0).trans rfl
          have hcz21_1 : wr.cell? ⟨gb137, 1, none⟩ = some (.slice A0_1 l0_1.length c0_1) := (blk_cell BK137.out 1).trans rfl
          have hcz21_2 : wr.cell? ⟨gb137, 2, none⟩ = some (.slice A0_2 l0_2.length c0_2) := (blk_cell BK137.out 2).trans rfl
          have hfz21_0 := blk_frozen BK137.out 0
          have hfz21_1 := blk_frozen BK137.out 1
          have hfz21_2 := blk_frozen BK137.out 2
          go_upto_region 12 with (fail)
          go_cut [80] (fun v80 wc => ∃ (kq : Nat) (x80_19 : Bool), v80 = .bool x80_19 ∧ Aside0 (tickingref07_Case.j3 kq (l0_0.length : Int) x5_3 x80_19 l0_0 l0_1 l0_2 = some r) ∧ Aside0 (kq ≤ k3) ∧ Aside0 (wc.heap[gb137]? = some (.cells #[(.slice A0_0 l0_0.length c0_0), (.slice A0_1 l0_1.length c0_1), (.slice A0_2 l0_2.length c0_2)] 25 (0, 0))) ∧ Aside0 (Below w.heap.size w wc))
          case first =>
           have H := HC20.out
           clear HC20
           by_cases c22 : 0 ≤ x5_3
           ·rw [if_pos c22] at H
            have c22b0 : decide (0 ≤ x5_3) = true := decide_eq_true c22
            clear c22
            (first | rw [c22b0] | (simp only [i64_w, i32_w]; rw [c22b0]) | skip)
            by_cases c23 : ((rd_L1 l0_1 x5_3).length : Int) = (l0_0.length : Int)
            ·rw [if_pos c23] at H
             have c23b0 : (((rd_L1 l0_1 x5_3).length : Int) == (l0_0.length : Int)) = true := beq_iff_eq.mpr c23
             have c23b1 : (((rd_L1 l0_1 x5_3).length : Int) != (l0_0.length : Int)) = false := bne_eq_false_iff_eq.mpr c23
             have c23b2 : ((rd_L1 l0_1 x5_3).length == l0_0.length) = true := by first | simpa using c23 | (simp at c23 ⊢; omega)
             clear c23
             by_cases c24 : x5_3 < (l0_2.length : Int)
             ·rw [if_pos c24] at H
              have c24b0 : decide (x5_3 < (l0_2.length : Int)) = true := decide_eq_true c24
              clear c24
              by_cases c25 : (rd l0_2 x5_3) < 1
              ·rw [if_pos c25] at H
               have c25b0 : decide ((rd l0_2 x5_3) < 1) = true := decide_eq_true c25
               clear c25
               have H' := Aside0.mk H
               clear H
               have hcz26_0 : wr.cell? ⟨gb137, 0, none⟩ = some (.slice A0_0 l0_0.length c0_0) := (blk_cell BK137.out 0).trans rfl
               have hcz26_1 : wr.cell? ⟨gb137, 1, none⟩ = some (.slice A0_1 l0_1.length c0_1) := (blk_cell BK137.out 1).trans rfl
               have hcz26_2 : wr.cell? ⟨gb137, 2, none⟩ = some (.slice A0_2 l0_2.length c0_2) := (blk_cell BK137.out 2).trans rfl
               have hfz26_0 := blk_frozen BK137.out 0
               have hfz26_1 := blk_frozen BK137.out 1
               have hfz26_2 := blk_frozen BK137.out 2
               have p140 : 0 ≤ (x5_3 : Int) := of_decide_eq_true az
               have q140 : x5_3 < (l0_1.length : Int) := of_decide_eq_true az
               obtain ⟨ad140, A140_0, c140_0, e140, hx140_0, hl140_0, hi140_0⟩ := at_L1 HR0_1.out x5_3 p140 q140
               cases e140
               replace hx140_0 := (HB.out.cell (World.block_lt_of_cell? w _ hx140_0)).trans hx140_0
               have HR140_0 := Aside0.mk hi140_0
               have HC140_0 := Aside0.mk hl140_0
               clear hi140_0 hl140_0
               replace p140 := eq_true p140
               replace q140 := eq_true q140
               have p141 : 0 ≤ (x5_3 : Int) := of_decide_eq_true az
               have q141 : x5_3 < (l0_2.length : Int) := of_decide_eq_true az
               obtain ⟨ad141, e141, hx141_0⟩ := Kd.at_int HR0_2.out x5_3 p141 q141
               cases e141
               replace hx141_0 := (HB.out.cell (World.block_lt_of_cell? w _ hx141_0)).trans hx141_0
               replace p141 := eq_true p141
               replace q141 := eq_true q141
               go_wp2
               go_meet
               case rel => exact ⟨_, (true), (by first | rfl | (simp; done) | (simp [*]; done)), H', ⟨by have := HJ1.out; have := HK2.out; have := HK3.out; first | omega | exact Nat.le_refl _⟩, ⟨by (with_reducible repeat (first | refine blk_drewN ?_ _ | refine blk_drew ?_ | refine blk_alloc ?_ _)); exact BK137.out⟩, ⟨by repeat (first | (with_reducible first | exact HB.out | apply below_alloc | apply pw_below_drewN | apply below_drew1 | refine below_set ?_ GE137.out) | exact HB.out)⟩⟩
              ·rw [if_neg c25] at H
               have c25b0 : decide ((rd l0_2 x5_3) < 1) = false := decide_eq_false c25
               clear c25
               have H' := Aside0.mk H
               clear H
               have hcz27_0 : wr.cell? ⟨gb137, 0, none⟩ = some (.slice A0_0 l0_0.length c0_0) := (blk_cell BK137.out 0).trans rfl
               have hcz27_1 : wr.cell? ⟨gb137, 1, none⟩ = some (.slice A0_1 l0_1.length c0_1) := (blk_cell BK137.out 1).trans rfl
               have hcz27_2 : wr.cell? ⟨gb137, 2, none⟩ = some (.slice A0_2 l0_2.length c0_2) := (blk_cell BK137.out 2).trans rfl
               have hfz27_0 := blk_frozen BK137.out 0
               have hfz27_1 := blk_frozen BK137.out 1
               have hfz27_2 := blk_frozen BK137.out 2
               have p140 : 0 ≤ (x5_3 : Int) := of_decide_eq_true az
               have q140 : x5_3 < (l0_1.length : Int) := of_decide_eq_true az
               obtain ⟨ad140, A140_0, c140_0, e140, hx140_0, hl140_0, hi140_0⟩ := at_L1 HR0_1.out x5_3 p140 q140
               cases e140
               replace hx140_0 := (HB.out.cell (World.block_lt_of_cell? w _ hx140_0)).trans hx140_0
               have HR140_0 := Aside0.mk hi140_0
               have HC140_0 := Aside0.mk hl140_0
               clear hi140_0 hl140_0
               replace p140 := eq_true p140
               replace q140 := eq_true q140
               have p141 : 0 ≤ (x5_3 : Int) := of_decide_eq_true az
               have q141 : x5_3 < (l0_2.length : Int) := of_decide_eq_true az
               obtain ⟨ad141, e141, hx141_0⟩ := Kd.at_int HR0_2.out x5_3 p141 q141
               cases e141
               replace hx141_0 := (HB.out.cell (World.block_lt_of_cell? w _ hx141_0)).trans hx141_0
               replace p141 := eq_true p141
               replace q141 := eq_true q141
               have p142 : 0 ≤ (x5_3 : Int) := of_decide_eq_true az
               have q142 : x5_3 < (l0_2.length : Int) := of_decide_eq_true az
               obtain ⟨ad142, e142, hx142_0⟩ := Kd.at_int HR0_2.out x5_3 p142 q142
               obtain rfl : ad141 = ad142 := (by injection e142)
               replace hx142_0 := (HB.out.cell (World.block_lt_of_cell? w _ hx142_0)).trans hx142_0
               replace p142 := eq_true p142
               replace q142 := eq_true q142
               go_wp2
               go_meet
               case rel => exact ⟨_, (decide ((rd l0_2 x5_3) > 100)), (by first | rfl | (simp; done) | (simp [*]; done)), H', ⟨by have := HJ1.out; have := HK2.out; have := HK3.out; first | omega | exact Nat.le_refl _⟩, ⟨by (with_reducible repeat (first | refine blk_drewN ?_ _ | refine blk_drew ?_ | refine blk_alloc ?_ _)); exact BK137.out⟩, ⟨by repeat (first | (with_reducible first | exact HB.out | apply below_alloc | apply pw_below_drewN | apply below_drew1 | refine below_set ?_ GE137.out) | exact HB.out)⟩⟩
             ·rw [if_neg c24] at H
              exact absurd H (by simp)
            ·rw [if_neg c23] at H
             have c23b0 : (((rd_L1 l0_1 x5_3).length : Int) == (l0_0.length : Int)) = false := beq_eq_false_iff_ne.mpr c23
             have c23b1 : (((rd_L1 l0_1 x5_3).length : Int) != (l0_0.length : Int)) = true := bne_iff_ne.mpr c23
             have c23b2 : ((rd_L1 l0_1 x5_3).length == l0_0.length) = false := by first | simpa using c23 | (simp at c23 ⊢; omega)
             have H' := Aside0.mk H
             clear H
             have hcz28_0 : wr.cell? ⟨gb137, 0, none⟩ = some (.slice A0_0 l0_0.length c0_0) := (blk_cell BK137.out 0).trans rfl
             have hcz28_1 : wr.cell? ⟨gb137, 1, none⟩ = some (.slice A0_1 l0_1.length c0_1) := (blk_cell BK137.out 1).trans rfl
             have hcz28_2 : wr.cell? ⟨gb137, 2, none⟩ = some (.slice A0_2 l0_2.length c0_2) := (blk_cell BK137.out 2).trans rfl
             have hfz28_0 := blk_frozen BK137.out 0
             have hfz28_1 := blk_frozen BK137.out 1
             have hfz28_2 := blk_frozen BK137.out 2
             have p140 : 0 ≤ (x5_3 : Int) := of_decide_eq_true az
             have q140 : x5_3 < (l0_1.length : Int) := of_decide_eq_true az
             obtain ⟨ad140, A140_0, c140_0, e140, hx140_0, hl140_0, hi140_0⟩ := at_L1 HR0_1.out x5_3 p140 q140
             cases e140
             replace hx140_0 := (HB.out.cell (World.block_lt_of_cell? w _ hx140_0)).trans hx140_0
             have HR140_0 := Aside0.mk hi140_0
             have HC140_0 := Aside0.mk hl140_0
             clear hi140_0 hl140_0
             replace p140 := eq_true p140
             replace q140 := eq_true q140
             go_wp2
             go_meet
             case rel => exact ⟨_, (true), (by first | rfl | (simp; done) | (simp [*]; done)), H', ⟨by have := HJ1.out; have := HK2.out; have := HK3.out; first | omega | exact Nat.le_refl _⟩, ⟨by (with_reducible repeat (first | refine blk_drewN ?_ _ | refine blk_drew ?_ | refine blk_alloc ?_ _)); exact BK137.out⟩, ⟨by repeat (first | (with_reducible first | exact HB.out | apply below_alloc | apply pw_below_drewN | apply below_drew1 | refine below_set ?_ GE137.out) | exact HB.out)⟩⟩
           ·rw [if_neg c22] at H
            exact absurd H (by simp)
          case rest =>
           clear HC20
           try clear c1
           try clear p1
           try clear q1
           try clear hx1
           try clear c2
           try clear p2
           try clear c5
           try clear c5b0
           try clear c5b1
           try clear c6
           try clear c6b0
           try clear c6b1
           try clear p6
           try clear c7
           try clear c7b0
           try clear c7b1
           try clear c10
           try clear c11
           try clear c11b0
           try clear c12
           try clear c12b0
           try clear c13
           try clear c13b0
           try clear p13
           try clear q13
           try clear hx13
           try clear c14
           try clear c14b0
           try clear p14
           try clear q14
           try clear hx14
           try clear c16
           try clear c16b0
           try clear c19
           try clear c19b0
           try clear c22
           try clear c22b0
           try clear c23
           try clear c23b0
           try clear c23b1
           try clear c23b2
           try clear c24
           try clear c24b0
           try clear c25
           try clear c25b0
           try clear hcz15_0
           try clear hcz15_1
           try clear hcz15_2
           try clear hcz17_0
           try clear hcz17_1
           try clear hcz17_2
           try clear hcz18_0
           try clear hcz18_1
           try clear hcz18_2
           try clear hcz21_0
           try clear hcz21_1
           try clear hcz21_2
           try clear hcz26_0
           try clear hcz26_1
           try clear hcz26_2
           try clear hcz27_0
           try clear hcz27_1
           try clear hcz27_2
           try clear hcz28_0
           try clear hcz28_1
           try clear hcz28_2
           try clear hcz4_0
           try clear hcz4_1
           try clear hcz4_2
           try clear hcz8_0
           try clear hcz8_1
           try clear hcz8_2
           try clear hcz9_0
           try clear hcz9_1
           try clear hcz9_2
           try clear hfz15_0
           try clear hfz15_1
           try clear hfz15_2
           try clear hfz17_0
           try clear hfz17_1
           try clear hfz17_2
           try clear hfz18_0
           try clear hfz18_1
           try clear hfz18_2
           try clear hfz21_0
           try clear hfz21_1
           try clear hfz21_2
           try clear hfz26_0
           try clear hfz26_1
           try clear hfz26_2
           try clear hfz27_0
           try clear hfz27_1
           try clear hfz27_2
           try clear hfz28_0
           try clear hfz28_1
           try clear hfz28_2
           try clear hfz4_0
           try clear hfz4_1
           try clear hfz4_2
           try clear hfz8_0
           try clear hfz8_1
           try clear hfz8_2
           try clear hfz9_0
           try clear hfz9_1
           try clear hfz9_2
           try clear hx138_0
           try clear hx139_0
           try clear hx140_0
           try clear hx141_0
           try clear hx142_0
           try clear p1
           try clear p13
           try clear p138
           try clear p139
           try clear p140
           try clear p141
           try clear p142
           try clear p2
           try clear p6
           try clear q1
           try clear q13
           try clear q138
           try clear q139
           try clear q140
           try clear q141
           try clear q142
           obtain ⟨kq, x80_19, rfl, HA, HJ19, BK137, HB⟩ := hcut
           cases kq with
           | zero => exact absurd HA.out (by simp [tickingref07_Case.j3])
           | succ kj19 =>
            have H := HA.out
            clear HA
            simp only [tickingref07_Case.j3] at H
            by_cases c29 : x80_19 = true
            ·subst c29
             have H1 : (some false) = some r := by rw [if_pos rfl] at H; exact H
             clear H
             have H := H1
             clear H1
             obtain rfl := Option.some.inj H
             go_wp2
             go_ret
             exact ⟨by first | rfl | (simp [errW_none, errW_some] <;> rfl) | (simp [*, errW_none, errW_some] <;> rfl), by repeat (first | (with_reducible first | exact HB.out | apply below_alloc | apply pw_below_drewN | apply below_drew1 | refine below_set ?_ GE137.out) | exact HB.out)⟩
            ·replace c29 := Bool.eq_false_iff.mpr c29
             subst c29
             have H1 : (tickingref07_Case.l2 kj19 (l0_0.length : Int) x5_3 0 l0_0 l0_1 l0_2) = some r := by rw [if_neg (show ¬ (false = true) by decide)] at H; exact H
             clear H
             have H := H1
             clear H1
             have H' := Aside0.mk H
             clear H
             go_wp2
             go_loopg [6] kj19 (fun kq v6 w' => ∃ (x6_5 : Int), v6 = .int .i64 x6_5 ∧ Aside0 (tickingref07_Case.l2 kq (l0_0.length : Int) x5_3 x6_5 l0_0 l0_1 l0_2 = some r) ∧ Aside0 (kq ≤ kj19) ∧ Aside0 (w'.heap[gb137]? = some (.cells #[(.slice A0_0 l0_0.length c0_0), (.slice A0_1 l0_1.length c0_1), (.slice A0_2 l0_2.length c0_2)] 25 (0, 0))) ∧ Aside0 (Below w.heap.size w w'))
             case atStart => exact ⟨(0), (by first | rfl | (simp; done) | (simp [*]; done)), H', ⟨Nat.le_refl _⟩, ⟨by (with_reducible repeat (first | refine blk_drewN ?_ _ | refine blk_drew ?_ | refine blk_alloc ?_ _)); exact BK137.out⟩, ⟨by repeat (first | (with_reducible first | exact HB.out | apply below_alloc | apply pw_below_drewN | apply below_drew1 | refine below_set ?_ GE137.out) | exact HB.out)⟩⟩
             case round =>
              clear H'
              try clear c1
              try clear p1
              try clear q1
              try clear hx1
              try clear c2
              try clear p2
              try clear c5
              try clear c5b0
              try clear c5b1
              try clear c6
              try clear c6b0
              try clear c6b1
              try clear p6
              try clear c7
              try clear c7b0
              try clear c7b1
              try clear c10
              try clear c11
              try clear c11b0
              try clear c12
              try clear c12b0
              try clear c13
              try clear c13b0
              try clear p13
              try clear q13
              try clear hx13
              try clear c14
              try clear c14b0
              try clear p14
              try clear q14
              try clear hx14
              try clear c16
              try clear c16b0
              try clear c19
              try clear c19b0
              try clear c22
              try clear c22b0
              try clear c23
              try clear c23b0
              try clear c23b1
              try clear c23b2
              try clear c24
              try clear c24b0
              try clear c25
              try clear c25b0
              try clear c29
              try clear hcz15_0
              try clear hcz15_1
              try clear hcz15_2
              try clear hcz17_0
              try clear hcz17_1
              try clear hcz17_2
              try clear hcz18_0
              try clear hcz18_1
              try clear hcz18_2
              try clear hcz21_0
              try clear hcz21_1
              try clear hcz21_2
              try clear hcz26_0
              try clear hcz26_1
              try clear hcz26_2
              try clear hcz27_0
              try clear hcz27_1
              try clear hcz27_2
              try clear hcz28_0
              try clear hcz28_1
              try clear hcz28_2
              try clear hcz4_0
              try clear hcz4_1
              try clear hcz4_2
              try clear hcz8_0
              try clear hcz8_1
              try clear hcz8_2
              try clear hcz9_0
              try clear hcz9_1
              try clear hcz9_2
              try clear hfz15_0
              try clear hfz15_1
              try clear hfz15_2
              try clear hfz17_0
              try clear hfz17_1
              try clear hfz17_2
              try clear hfz18_0
              try clear hfz18_1
              try clear hfz18_2
              try clear hfz21_0
              try clear hfz21_1
              try clear hfz21_2
              try clear hfz26_0
              try clear hfz26_1
              try clear hfz26_2
              try clear hfz27_0
              try clear hfz27_1
              try clear hfz27_2
              try clear hfz28_0
              try clear hfz28_1
              try clear hfz28_2
              try clear hfz4_0
              try clear hfz4_1
              try clear hfz4_2
              try clear hfz8_0
              try clear hfz8_1
              try clear hfz8_2
              try clear hfz9_0
              try clear hfz9_1
              try clear hfz9_2
              try clear hx138_0
              try clear hx139_0
              try clear hx140_0
              try clear hx141_0
              try clear hx142_0
              try clear p1
              try clear p13
              try clear p138
              try clear p139
              try clear p14
              try clear p140
              try clear p141
              try clear p142
              try clear p2
              try clear p6
              try clear q1
              try clear q13
              try clear q138
              try clear q139
              try clear q14
              try clear q140
              try clear q141
              try clear q142
              obtain ⟨x6_5, rfl, HA, HK5, BK137, HB⟩ := hrel
              cases gk with
              | zero => exact absurd HA.out (by simp [tickingref07_Case.l2])
              | succ k5 =>
               have H := HA.out
               clear HA
               simp only [tickingref07_Case.l2] at H
               by_cases c30 : x6_5 < (l0_0.length : Int)
               ·rw [if_pos c30] at H
                have c30b0 : decide (x6_5 < (l0_0.length : Int)) = true := decide_eq_true c30
                clear c30
                by_cases c31 : 0 ≤ x5_3
                ·rw [if_pos c31] at H
                 have c31b0 : decide (0 ≤ x5_3) = true := decide_eq_true c31
                 clear c31
                 by_cases c32 : x5_3 < (l0_1.length : Int)
                 ·rw [if_pos c32] at H
                  have c32b0 : decide (x5_3 < (l0_1.length : Int)) = true := decide_eq_true c32
                  clear c32
                  by_cases c33 : 0 ≤ x6_5
                  ·rw [if_pos c33] at H
                   have c33b0 : decide (0 ≤ x6_5) = true := decide_eq_true c33
                   clear c33
                   by_cases c34 : x6_5 < ((rd_L1 l0_1 x5_3).length : Int)
                   ·rw [if_pos c34] at H
                    have c34b0 : decide (x6_5 < ((rd_L1 l0_1 x5_3).length : Int)) = true := decide_eq_true c34
                    clear c34
                    by_cases c35 : (rd (rd_L1 l0_1 x5_3) x6_5) < 0
                    ·rw [if_pos c35] at H
                     have c35b0 : decide ((rd (rd_L1 l0_1 x5_3) x6_5) < 0) = true := decide_eq_true c35
                     clear c35
                     obtain rfl := Option.some.inj H
                     have hcz36_0 : wr.cell? ⟨gb137, 0, none⟩ = some (.slice A0_0 l0_0.length c0_0) := (blk_cell BK137.out 0).trans rfl
                     have hcz36_1 : wr.cell? ⟨gb137, 1, none⟩ = some (.slice A0_1 l0_1.length c0_1) := (blk_cell BK137.out 1).trans rfl
                     have hcz36_2 : wr.cell? ⟨gb137, 2, none⟩ = some (.slice A0_2 l0_2.length c0_2) := (blk_cell BK137.out 2).trans rfl
                     have hfz36_0 := blk_frozen BK137.out 0
                     have hfz36_1 := blk_frozen BK137.out 1
                     have hfz36_2 := blk_frozen BK137.out 2
                     have p143 : 0 ≤ (x5_3 : Int) := of_decide_eq_true az
                     have q143 : x5_3 < (l0_1.length : Int) := of_decide_eq_true az
                     obtain ⟨ad143, A143_0, c143_0, e143, hx143_0, hl143_0, hi143_0⟩ := at_L1 HR0_1.out x5_3 p143 q143
                     cases e143
                     replace hx143_0 := (HB.out.cell (World.block_lt_of_cell? w _ hx143_0)).trans hx143_0
                     have HR143_0 := Aside0.mk hi143_0
                     have HC143_0 := Aside0.mk hl143_0
                     clear hi143_0 hl143_0
                     replace p143 := eq_true p143
                     replace q143 := eq_true q143
                     have p144 : 0 ≤ (x6_5 : Int) := of_decide_eq_true az
                     have q144 : x6_5 < ((rd_L1 l0_1 x5_3).length : Int) := of_decide_eq_true az
                     obtain ⟨ad144, e144, hx144_0⟩ := Kd.at_int HR143_0.out x6_5 p144 q144
                     cases e144
                     replace hx144_0 := (HB.out.cell (World.block_lt_of_cell? w _ hx144_0)).trans hx144_0
                     replace p144 := eq_true p144
                     replace q144 := eq_true q144
                     go_wp2
                     go_ret
                     exact ⟨by first | rfl | (simp [errW_none, errW_some] <;> rfl) | (simp [*, errW_none, errW_some] <;> rfl), by repeat (first | (with_reducible first | exact HB.out | apply below_alloc | apply pw_below_drewN | apply below_drew1 | refine below_set ?_ GE137.out) | exact HB.out)⟩
                    ·rw [if_neg c35] at H
                     have c35b0 : decide ((rd (rd_L1 l0_1 x5_3) x6_5) < 0) = false := decide_eq_false c35
                     clear c35
                     by_cases c37 : (rd (rd_L1 l0_1 x5_3) x6_5) > 1
                     ·rw [if_pos c37] at H
                      have c37b0 : decide (1 < (rd (rd_L1 l0_1 x5_3) x6_5)) = true := decide_eq_true c37
                      clear c37
                      obtain rfl := Option.some.inj H
                      have hcz38_0 : wr.cell? ⟨gb137, 0, none⟩ = some (.slice A0_0 l0_0.length c0_0) := (blk_cell BK137.out 0).trans rfl
                      have hcz38_1 : wr.cell? ⟨gb137, 1, none⟩ = some (.slice A0_1 l0_1.length c0_1) := (blk_cell BK137.out 1).trans rfl
                      have hcz38_2 : wr.cell? ⟨gb137, 2, none⟩ = some (.slice A0_2 l0_2.length c0_2) := (blk_cell BK137.out 2).trans rfl
                      have hfz38_0 := blk_frozen BK137.out 0
                      have hfz38_1 := blk_frozen BK137.out 1
                      have hfz38_2 := blk_frozen BK137.out 2
                      have p143 : 0 ≤ (x5_3 : Int) := of_decide_eq_true az
                      have q143 : x5_3 < (l0_1.length : Int) := of_decide_eq_true az
                      obtain ⟨ad143, A143_0, c143_0, e143, hx143_0, hl143_0, hi143_0⟩ := at_L1 HR0_1.out x5_3 p143 q143
                      cases e143
                      replace hx143_0 := (HB.out.cell (World.block_lt_of_cell? w _ hx143_0)).trans hx143_0
                      have HR143_0 := Aside0.mk hi143_0
                      have HC143_0 := Aside0.mk hl143_0
                      clear hi143_0 hl143_0
                      replace p143 := eq_true p143
                      replace q143 := eq_true q143
                      have p144 : 0 ≤ (x6_5 : Int) := of_decide_eq_true az
                      have q144 : x6_5 < ((rd_L1 l0_1 x5_3).length : Int) := of_decide_eq_true az
                      obtain ⟨ad144, e144, hx144_0⟩ := Kd.at_int HR143_0.out x6_5 p144 q144
                      cases e144
                      replace hx144_0 := (HB.out.cell (World.block_lt_of_cell? w _ hx144_0)).trans hx144_0
                      replace p144 := eq_true p144
                      replace q144 := eq_true q144
                      have p145 : 0 ≤ (x5_3 : Int) := of_decide_eq_true az
                      have q145 : x5_3 < (l0_1.length : Int) := of_decide_eq_true az
                      obtain ⟨ad145, A145_0, c145_0, e145, hx145_0, hl145_0, hi145_0⟩ := at_L1 HR0_1.out x5_3 p145 q145
                      obtain rfl : ad143 = ad145 := (by injection e145)
                      replace hx145_0 := (HB.out.cell (World.block_lt_of_cell? w _ hx145_0)).trans hx145_0
                      have HR145_0 := Aside0.mk hi145_0
                      have HC145_0 := Aside0.mk hl145_0
                      clear hi145_0 hl145_0
                      replace p145 := eq_true p145
                      replace q145 := eq_true q145
                      have ea_ := Option.some.inj (hx143_0.symm.trans hx145_0)
                      injection ea_ with ea_ en_ ec_
                      subst ea_
                      subst ec_
                      clear en_
                      have p146 : 0 ≤ (x6_5 : Int) := of_decide_eq_true az
                      have q146 : x6_5 < ((rd_L1 l0_1 x5_3).length : Int) := of_decide_eq_true az
                      obtain ⟨ad146, e146, hx146_0⟩ := Kd.at_int HR145_0.out x6_5 p146 q146
                      cases e146
                      replace hx146_0 := (HB.out.cell (World.block_lt_of_cell? w _ hx146_0)).trans hx146_0
                      replace p146 := eq_true p146
                      replace q146 := eq_true q146
                      go_wp2
                      go_ret
                      exact ⟨by first | rfl | (simp [errW_none, errW_some] <;> rfl) | (simp [*, errW_none, errW_some] <;> rfl), by repeat (first | (with_reducible first | exact HB.out | apply below_alloc | apply pw_below_drewN | apply below_drew1 | refine below_set ?_ GE137.out) | exact HB.out)⟩
                     ·rw [if_neg c37] at H
                      have c37b0 : decide (1 < (rd (rd_L1 l0_1 x5_3) x6_5)) = false := decide_eq_false c37
                      clear c37
                      have H' := Aside0.mk H
                      clear H
                      have hcz39_0 : wr.cell? ⟨gb137, 0, none⟩ = some (.slice A0_0 l0_0.length c0_0) := (blk_cell BK137.out 0).trans rfl
                      have hcz39_1 : wr.cell? ⟨gb137, 1, none⟩ = some (.slice A0_1 l0_1.length c0_1) := (blk_cell BK137.out 1).trans rfl
                      have hcz39_2 : wr.cell? ⟨gb137, 2, none⟩ = some (.slice A0_2 l0_2.length c0_2) := (blk_cell BK137.out 2).trans rfl
                      have hfz39_0 := blk_frozen BK137.out 0
                      have hfz39_1 := blk_frozen BK137.out 1
                      have hfz39_2 := blk_frozen BK137.out 2
                      have p143 : 0 ≤ (x5_3 : Int) := of_decide_eq_true az
                      have q143 : x5_3 < (l0_1.length : Int) := of_decide_eq_true az
                      obtain ⟨ad143, A143_0, c143_0, e143, hx143_0, hl143_0, hi143_0⟩ := at_L1 HR0_1.out x5_3 p143 q143
                      cases e143
                      replace hx143_0 := (HB.out.cell (World.block_lt_of_cell? w _ hx143_0)).trans hx143_0
                      have HR143_0 := Aside0.mk hi143_0
                      have HC143_0 := Aside0.mk hl143_0
                      clear hi143_0 hl143_0
                      replace p143 := eq_true p143
                      replace q143 := eq_true q143
                      have p144 : 0 ≤ (x6_5 : Int) := of_decide_eq_true az
                      have q144 : x6_5 < ((rd_L1 l0_1 x5_3).length : Int) := of_decide_eq_true az
                      obtain ⟨ad144, e144, hx144_0⟩ := Kd.at_int HR143_0.out x6_5 p144 q144
                      cases e144
                      replace hx144_0 := (HB.out.cell (World.block_lt_of_cell? w _ hx144_0)).trans hx144_0
                      replace p144 := eq_true p144
                      replace q144 := eq_true q144
                      have p145 : 0 ≤ (x5_3 : Int) := of_decide_eq_true az
                      have q145 : x5_3 < (l0_1.length : Int) := of_decide_eq_true az
                      obtain ⟨ad145, A145_0, c145_0, e145, hx145_0, hl145_0, hi145_0⟩ := at_L1 HR0_1.out x5_3 p145 q145
                      obtain rfl : ad143 = ad145 := (by injection e145)
                      replace hx145_0 := (HB.out.cell (World.block_lt_of_cell? w _ hx145_0)).trans hx145_0
                      have HR145_0 := Aside0.mk hi145_0
                      have HC145_0 := Aside0.mk hl145_0
                      clear hi145_0 hl145_0
                      replace p145 := eq_true p145
                      replace q145 := eq_true q145
                      have ea_ := Option.some.inj (hx143_0.symm.trans hx145_0)
                      injection ea_ with ea_ en_ ec_
                      subst ea_
                      subst ec_
                      clear en_
                      have p146 : 0 ≤ (x6_5 : Int) := of_decide_eq_true az
                      have q146 : x6_5 < ((rd_L1 l0_1 x5_3).length : Int) := of_decide_eq_true az
                      obtain ⟨ad146, e146, hx146_0⟩ := Kd.at_int HR145_0.out x6_5 p146 q146
                      cases e146
                      replace hx146_0 := (HB.out.cell (World.block_lt_of_cell? w _ hx146_0)).trans hx146_0
                      replace p146 := eq_true p146
                      replace q146 := eq_true q146
                      go_wp2
                      go_roundg k5
                      case measure => have := HJ1.out; have := HK2.out; have := HK3.out; have := HJ19.out; have := HK5.out; omega
                      case rel => exact ⟨(wrap64 (x6_5 + 1)), (by first | rfl | (simp; done) | (simp [*]; done)), H', ⟨by have := HJ1.out; have := HK2.out; have := HK3.out; have := HJ19.out; have := HK5.out; omega⟩, ⟨by (with_reducible repeat (first | refine blk_drewN ?_ _ | refine blk_drew ?_ | refine blk_alloc ?_ _)); exact BK137.out⟩, ⟨by repeat (first | (with_reducible first | exact HB.out | apply below_alloc | apply pw_below_drewN | apply below_drew1 | refine below_set ?_ GE137.out) | exact HB.out)⟩⟩
                   ·rw [if_neg c34] at H
                    exact absurd H (by simp)
                  ·rw [if_neg c33] at H
                   exact absurd H (by simp)
                 ·rw [if_neg c32] at H
                  exact absurd H (by simp)
                ·rw [if_neg c31] at H
                 exact absurd H (by simp)
               ·rw [if_neg c30] at H
                have c30b0 : decide (x6_5 < (l0_0.length : Int)) = false := decide_eq_false c30
                clear c30
                have H' := Aside0.mk H
                clear H
                go_wp2
                go_roundg k5
                case measure => have := HJ1.out; have := HK2.out; have := HK3.out; have := HJ19.out; have := HK5.out; omega
                case rel => exact ⟨(wrap64 (x5_3 + 1)), (by first | rfl | (simp; done) | (simp [*]; done)), H', ⟨by have := HJ1.out; have := HK2.out; have := HK3.out; have := HJ19.out; have := HK5.out; omega⟩, ⟨by (with_reducible repeat (first | refine blk_drewN ?_ _ | refine blk_drew ?_ | refine blk_alloc ?_ _)); exact BK137.out⟩, ⟨by repeat (first | (with_reducible first | exact HB.out | apply below_alloc | apply pw_below_drewN | apply below_drew1 | refine below_set ?_ GE137.out) | exact HB.out)⟩⟩
         ·rw [if_neg c19] at H
          have c19b0 : decide (x5_3 < (l0_1.length : Int)) = false := decide_eq_false c19
          clear c19
          obtain rfl := Option.some.inj H
          have hcz40_0 : wr.cell? ⟨gb137, 0, none⟩ = some (.slice A0_0 l0_0.length c0_0) := (blk_cell BK137.out 0).trans rfl
          have hcz40_1 : wr.cell? ⟨gb137, 1, none⟩ = some (.slice A0_1 l0_1.length c0_1) := (blk_cell BK137.out 1).trans rfl
          have hcz40_2 : wr.cell? ⟨gb137, 2, none⟩ = some (.slice A0_2 l0_2.length c0_2) := (blk_cell BK137.out 2).trans rfl
          have hfz40_0 := blk_frozen BK137.out 0
          have hfz40_1 := blk_frozen BK137.out 1
          have hfz40_2 := blk_frozen BK137.out 2
          go_wp2
          go_ret
          exact ⟨by first | rfl | (simp [errW_none, errW_some] <;> rfl) | (simp [*, errW_none, errW_some] <;> rfl), by repeat (first | (with_reducible first | exact HB.out | apply below_alloc | apply pw_below_drewN | apply below_drew1 | refine below_set ?_ GE137.out) | exact HB.out)⟩

end Go.Proofs.YtekmiepdodaidaaDoor.X
end

section
/- A map's block, told key by key: what is at each key, whatever the elements are. -/
set_option linter.unusedVariables false
set_option linter.unusedSimpArgs false
namespace Go.Proofs.YtekmiepdodaidaaDoor.X
open Go.RowKit Go.Proofs.YtekmiepdodaidaaDoorW.PrintWords Go.Proofs.YtekmiepdodaidaaDoorW.PrintLast Go.Proofs.YtekmiepdodaidaaDoorW.PrintMore
open Go.Maps (Keyed)

/-- Any element: it reads as itself. -/
def anyElem (v : Value) : Option (DataW Value × List MemPlace) := some (.held v, [])
/-- What stands at each key. -/
abbrev KMap := Lit → Option Value
def KMap.put (f : KMap) (k : Lit) (v : Value) : KMap := fun k' => if k'.sameKey k = true then some v else f k'
def KMap.empty : KMap := fun _ => none
theorem KMap.put_same (f : KMap) {k : Lit} (hk : WideAt.IsKeyLit k) (v : Value) : f.put k v k = some v := by unfold KMap.put; rw [if_pos (WideAt.sameKey_self hk)]
theorem KMap.put_other (f : KMap) {k k' : Lit} (h : k' ≠ k) (v : Value) : f.put k v k' = f k' := by unfold KMap.put; rw [if_neg (fun e => h (WideAt.sameKey_eq e))]

/-- Block B of w is a map of at most n entries with f k at each key k. -/
structure MapIs (P : Program) (kt : TypeId) (w : World) (B n : Nat) (f : KMap) : Prop where mk ::
 ex : ∃ D, w.ownsMap P kt anyElem B n D ∧ (∀ kl, Maps.has D kl = (f kl).isSome) ∧ ∀ kl z, D.atKey kl (.held z) = .held ((f kl).getD z)
section
variable {P : Program} {kt : TypeId} {w w' : World} {B n : Nat} {f : KMap}
theorem MapIs.made (w : World) (P : Program) (kt : TypeId) : MapIs P kt (w.alloc (.map #[] 0)) w.heap.size 0 KMap.empty :=
 ⟨⟨.map [], World.ownsMap_made w P kt anyElem, fun _ => rfl, fun _ _ => rfl⟩⟩
theorem MapIs.mono (h : MapIs P kt w B n f) {n' : Nat} (hn : n ≤ n') : MapIs P kt w B n' f := by
 obtain ⟨D, h1, h2⟩ := h.ex
 exact ⟨⟨D, h1.mono hn, h2⟩⟩
theorem MapIs.lt (h : MapIs P kt w B n f) : B < w.heap.size := by
 obtain ⟨D, h1, h2⟩ := h.ex
 exact h1.lt
theorem MapIs.kept (h : MapIs P kt w B n f) {row : Option Nat} (hg : w.grownBy w' row) (hne : some B ≠ row) : MapIs P kt w' B n f := by
 obtain ⟨D, h1, h2⟩ := h.ex
 exact ⟨⟨D, h1.kept hg hne, h2⟩⟩
theorem MapIs.block (h : MapIs P kt w B n f) (hb : w'.heap[B]? = w.heap[B]?) : MapIs P kt w' B n f := by
 obtain ⟨D, ⟨es, clock, he, F⟩, h2⟩ := h.ex
 exact ⟨⟨D, ⟨es, clock, hb.trans he, F⟩, h2⟩⟩
theorem MapIs.below (h : MapIs P kt w B n f) (hb : Below w.heap.size w w') : MapIs P kt w' B n f := h.kept (grown_of_below hb none) (by simp)
theorem MapIs.alloc (h : MapIs P kt w B n f) (o : Obj) : MapIs P kt (w.alloc o) B n f := h.below (below_alloc (Below.refl _ _) o)
theorem MapIs.drewN (h : MapIs P kt w B n f) (m : Nat) : MapIs P kt (w.drewN m) B n f := h.below (pw_below_drewN (Below.refl _ _) m)
theorem MapIs.setCell (h : MapIs P kt w B n f) {a : Addr} (ha : B ≠ a.block) (u : Value) : MapIs P kt (w.setCell a u) B n f := by
 obtain ⟨D, h1, h2⟩ := h.ex
 exact ⟨⟨D, h1.setCell ha u, h2⟩⟩
/-- A map's block is no row of cells. -/
theorem MapIs.ne (h : MapIs P kt w B n f) {g : Nat} {cs : Array Value} {t : TypeId} {m : Nat × Nat} (hg : w.heap[g]? = some (.cells cs t m)) : B ≠ g := by
 obtain ⟨D, ⟨es, clock, hb, _⟩, _⟩ := h.ex
 intro e
 subst e
 rw [hb] at hg
 cases hg
theorem nodup_len {α : Type} : ∀ (l L : List α), l.Pairwise (fun a b => a ≠ b) → (∀ x ∈ l, x ∈ L) → l.length ≤ L.length
 | [], _, _, _ => Nat.zero_le _
 | x :: r, L, h, hs => by
  classical
  obtain ⟨h1, h2⟩ := List.pairwise_cons.1 h
  have hx := hs x (by simp)
  have := nodup_len r (L.erase x) h2 (fun y hy => (List.mem_erase_of_ne (fun e => h1 y hy e.symm)).2 (hs y (by simp [hy])))
  rw [List.length_erase_of_mem hx] at this
  have hp := List.length_pos_of_mem hx
  simp; omega
theorem MapIs.size_le (h : MapIs P kt w B n f) (K : Keyed P kt) (L : List Lit) (hL : ∀ kl, (f kl).isSome = true → kl ∈ L) : MapIs P kt w B L.length f := by
 obtain ⟨D, h1, h2, h3⟩ := h.ex
 refine ⟨⟨D, ?_, h2, h3⟩⟩
 obtain ⟨es', rfl, hp⟩ := h1.tidy K
 obtain ⟨es, clock, hb, F, hs, hD⟩ := h1
 refine ⟨es, clock, hb, F, ?_, hD⟩
 injection hD with hD
 have e1 : es'.length = es.size := by rw [hD, length_sorted]; simp
 have := nodup_len (es'.map (·.1)) L (by rw [List.pairwise_map]; exact hp) (by
  intro x hx
  obtain ⟨p, hp', rfl⟩ := List.mem_map.1 hx
  apply hL
  rw [← h2]
  obtain ⟨y, hy⟩ : ∃ y, (es'.map (·.1))[y]? = some p.1 := by
   obtain ⟨i, hi, e⟩ := List.getElem_of_mem hx
   exact ⟨i, by rw [List.getElem?_eq_getElem hi, e]⟩
  rw [Maps.has_eq, List.any_eq_true]
  refine ⟨p, hp', WideAt.sameKey_self ?_⟩
  have hc := (show w.ownsMap P kt anyElem B n (.map es') from ⟨es, clock, hb, F, hs, by rw [hD]⟩)
  have hk := Maps.fit_keys F
  have hp2 : p ∈ es.toList.map (WideElems.rg P kt anyElem) := by
   have := hD ▸ hp'
   exact (WideShapes.sorted_perm _).mem_iff.1 this
  obtain ⟨v, hv⟩ := hk p hp2
  exact K.key hv)
 rw [List.length_map] at this
 omega
/-- m[k]. -/
theorem MapIs.look (h : MapIs P kt w B n f) {t e : TypeId} (K : Keyed P kt) (ht : P.underlying t = some (.map kt e)) {z : Value} (hz : (zeroValue e).run P w = .ok z w) {key : Value} {kl : Lit} (hkey : keyOf P kt key = some kl) :
  (Instr.lookup t (.map (some B)) key false).run P w = .ok ((f kl).getD z) w := by
 obtain ⟨D, h1, h2, h3⟩ := h.ex
 obtain ⟨v, ps, hrun, hv⟩ := h1.lookup K ht hz (zd := .held z) (zp := []) rfl hkey
 rw [h3] at hv
 injection hv with hv
 injection hv with hv _
 injection hv with hv
 rw [hrun, hv]
theorem MapIs.look_ok (h : MapIs P kt w B n f) {t e : TypeId} (K : Keyed P kt) (ht : P.underlying t = some (.map kt e)) {z : Value} (hz : (zeroValue e).run P w = .ok z w) {key : Value} {kl : Lit} (hkey : keyOf P kt key = some kl) :
  (Instr.lookup t (.map (some B)) key true).run P w = .ok (.tuple #[(f kl).getD z, .bool (f kl).isSome]) w := by
 obtain ⟨D, h1, h2, h3⟩ := h.ex
 obtain ⟨v, ps, hrun, hv⟩ := h1.look_ok K ht hz (zd := .held z) (zp := []) rfl hkey
 rw [h3] at hv
 injection hv with hv
 injection hv with hv _
 injection hv with hv
 rw [hrun, hv, h2]
/-- m[k] = v. -/
theorem MapIs.store (h : MapIs P kt w B n f) {t e : TypeId} (K : Keyed P kt) (ht : P.underlying t = some (.map kt e)) (hn : n < maxLen) {key val : Value} {kl : Lit} (hkey : keyOf P kt key = some kl) :
  ∃ w', (Instr.mapUpdate t (.map (some B)) key val).run P w = .ok () w' ∧ MapIs P kt w' B (n + 1) (f.put kl val) ∧ w.grownBy w' (some B) := by
 obtain ⟨D, h1, h2, h3⟩ := h.ex
 obtain ⟨w', hrun, r1, r2⟩ := h1.update K ht hn hkey (val := val) (d := .held val) (ps := []) rfl
 refine ⟨w', hrun, ⟨⟨_, r1, fun k' => ?_, fun k' z => ?_⟩⟩, r2⟩
 ·by_cases e : k' = kl
  ·subst e
   rw [Maps.has_put_same h1.isMap (K.key hkey), KMap.put_same f (K.key hkey)]; rfl
  ·rw [Maps.has_put_other e, KMap.put_other f e, h2]
 ·by_cases e : k' = kl
  ·subst e
   rw [Maps.atKey_put_same h1.isMap (K.key hkey), KMap.put_same f (K.key hkey)]; rfl
  ·rw [Maps.atKey_put_other e, KMap.put_other f e, h3]
/-- len(m). -/
theorem MapIs.len (h : MapIs P kt w B n f) {t e : TypeId} (K : Keyed P kt) (ht : P.underlying t = some (.map kt e)) (ty : TypeId) :
  ∃ m : Nat, (Builtin.len_ #[t] ty #[.map (some B)]).run P w = .ok (.int .i64 m) w ∧ ∀ L : List Lit, L.Pairwise (fun a b => a ≠ b) → (∀ kl, (f kl).isSome = true ↔ kl ∈ L) → m = L.length := by
 obtain ⟨D, h1, h2, h3⟩ := h.ex
 refine ⟨Maps.size D, h1.len ht ty, fun L hL hiff => ?_⟩
 have hc := h1
 obtain ⟨es', rfl, hp⟩ := h1.tidy K
 have hkey : ∀ p ∈ es', WideAt.IsKeyLit p.1 := by
  intro p hp'
  obtain ⟨es, clock, hb, F, hs, hD⟩ := hc
  injection hD with hD
  have hk := Maps.fit_keys F
  have hp2 : p ∈ es.toList.map (WideElems.rg P kt anyElem) := by
   have := hD ▸ hp'
   exact (WideShapes.sorted_perm _).mem_iff.1 this
  obtain ⟨v, hv⟩ := hk p hp2
  exact K.key hv
 have a1 := nodup_len (es'.map (·.1)) L (by rw [List.pairwise_map]; exact hp) (by
  intro x hx
  obtain ⟨p, hp', rfl⟩ := List.mem_map.1 hx
  rw [← hiff, ← h2, Maps.has_eq, List.any_eq_true]
  exact ⟨p, hp', WideAt.sameKey_self (hkey p hp')⟩)
 have a2 := nodup_len L (es'.map (·.1)) hL (by
  intro x hx
  rw [← hiff, ← h2, Maps.has_eq, List.any_eq_true] at hx
  obtain ⟨p, hp', hs⟩ := hx
  exact List.mem_map.2 ⟨p, hp', WideAt.sameKey_eq hs⟩)
 rw [Maps.size_eq]
 rw [List.length_map] at a1 a2
 omega
end
section
variable {P : Program} (w : World) {ops : Array Oper} {rest : List Oper} {o : Oper} {a : Act} {Q : Exit → Act → World → Prop}
theorem wpList_put_is (hg : o.guard = none) (m x v : Operand) (t : TypeId) (hop : o.op = Op.mapUpdate t m x v) (k e : TypeId) (K : Keyed P k) (ht : P.underlying t = some (.map k e))
  (B n : Nat) (f : KMap) (hm : a.eval m = .map (some B)) (hown : MapIs P k w B n f) (hn : n < maxLen) (key val : Value) (kl : Lit) (hx : a.eval x = key) (hv : a.eval v = val) (hkey : keyOf P k key = some kl)
  (hK : ∀ w', MapIs P k w' B (n + 1) (f.put kl val) → w.grownBy w' (some B) → wpList P ops Q rest (a.put o.dst undef) w') : wpList P ops Q (o :: rest) a w := by
 refine wpList_plain hg fun K' hK' => ?_
 obtain ⟨w', hrun, r1, r2⟩ := hown.store K ht hn hkey (val := val)
 unfold Oper.wp
 simp [execOp, hop, hm, hx, hv, hrun, Result.andThen]
 exact hK' _ _ (hK w' r1 r2)
end
end Go.Proofs.YtekmiepdodaidaaDoor.X
end

section
/- math/bits: OnesCount and TrailingZeros. -/
set_option linter.unusedVariables false
set_option linter.unusedSimpArgs false
namespace Go.Proofs.YtekmiepdodaidaaDoor.X
open Go.RowKit Go.Proofs.YtekmiepdodaidaaDoorW.PrintWords Go.Proofs.YtekmiepdodaidaaDoorW.PrintLast Go.Proofs.YtekmiepdodaidaaDoorW.PrintMore

def pc1 (s : Int) : Int := IntKind.u64.wrap (Go.bits .and .u64 (s / 2) 6148914691236517205 + Go.bits .and .u64 s 6148914691236517205)
def pc2 (s : Int) : Int := IntKind.u64.wrap (Go.bits .and .u64 (s / 4) 3689348814741910323 + Go.bits .and .u64 s 3689348814741910323)
def pc3 (s : Int) : Int := Go.bits .and .u64 (IntKind.u64.wrap (s / 16 + s)) 1085102592571150095
def pc4 (s : Int) : Int := IntKind.u64.wrap (s + s / 256)
def pc5 (s : Int) : Int := IntKind.u64.wrap (s + s / 65536)
def pc6 (s : Int) : Int := IntKind.u64.wrap (s + s / 4294967296)
def pc7 (s : Int) : Int := Go.bits .and .i64 (wrap64 s) 127
/-- How many faults a set has. -/
def pcount (s : Int) : Int := pc7 (pc6 (pc5 (pc4 (pc3 (pc2 (pc1 s))))))

set_option maxRecDepth 100000 in
theorem ones77 (s : Int) (w : World) : Calls Tryd.prog 77 #[.int .u64 s] w fun e w' => e = .returned (.int .i64 (pcount s)) ∧ w = w' := by
 go_enter Tryd.func77, Tryd.ntmps77
 go_wp2
 go_ret
 exact ⟨rfl, rfl⟩
theorem ones_n (s : Int) (hs : IntKind.u64.wrap s = s) (w : World) : Calls Tryd.prog 69 #[.int .u64 s] w fun e w' => e = .returned (.int .i64 (pcount s)) ∧ w = w' := by
 have hs' := hs
 go_enter Tryd.func69, Tryd.ntmps69
 go_wp2_with (go_at_call 77; refine (ones77 _ _).mono ?_; rintro e w' ⟨rfl, rfl⟩)
 go_ret
 exact ⟨rfl, rfl⟩
set_option maxRecDepth 100000 in
theorem tz79 (s : Int) (w : World) (k idx : Nat) (hx0 : (s == 0) = false) (key : IntKind.u64.wrap (bits BinOp.and IntKind.u64 s (IntKind.u64.wrap (-s)) * 285870213051353865) / 288230376151711744 = (idx : Int))
  (hi : idx < 64) (hk : k < 64) (hcell : w.cell? ⟨1, idx, none⟩ = some (.int .u8 k)) : Calls Tryd.prog 79 #[.int .u64 s] w fun e w' => e = .returned (.int .i64 k) ∧ w = w' := by
 go_enter Tryd.func79, Tryd.ntmps79
 go_wp2_with (simp only [key])
 go_ret
 exact ⟨rfl, rfl⟩
/-- The library's table lies in its variable. -/
def Tab (w : World) : Prop := TabAt 1 Lib.deBruijn64tab w ∧ 2 ≤ w.heap.size
theorem Tab.below {w W : World} (h : Tab w) (hb : Below w.heap.size w W) : Tab W :=
 ⟨fun j hj => pw_cell_below hb (h.1 j hj), Nat.le_trans h.2 hb.size⟩
theorem tz_n (x : Nat) (hx : x < 18446744073709551616) (h0 : x ≠ 0) (w : World) (hT : Tab w) : Calls Tryd.prog 70 #[.int .u64 x] w fun e w' => e = .returned (.int .i64 (Lib.ctz 64 x)) ∧ w = w' := by
 obtain ⟨hlow, hk⟩ := Lib.lowest_bit 64 x h0 hx
 obtain ⟨hi, htab⟩ := Lib.deBruijn64_at _ hk
 have hcell := hT.1 _ (by rw [show Lib.deBruijn64tab.length = 64 from by decide]; exact hi)
 rw [htab] at hcell
 have hK := Aside0.mk (tz64_key x _ hx h0 hlow)
 have hCell := Aside0.mk hcell
 have hI := Aside0.mk hi
 have hw : IntKind.u64.wrap (x : Int) = (x : Int) := by rw [IntKind.wrap_u64]; omega
 clear hcell hi htab hlow
 obtain ⟨k, hkk⟩ : ∃ k, k = Lib.ctz 64 x := ⟨_, rfl⟩
 rw [← hkk] at hK hCell hk hI ⊢
 go_enter Tryd.func70, Tryd.ntmps70
 go_wp2_with (go_at_call 79; refine (tz79 (x : Int) w k _ (by simp; omega) hK.out hI.out hk hCell.out).mono ?_; rintro e w' ⟨rfl, rfl⟩)
 go_ret
 exact ⟨by rw [hkk]; rfl, rfl⟩
end Go.Proofs.YtekmiepdodaidaaDoor.X
end

section
/- Layer 7, plain: sets of faults as numbers; the best test of a set. -/
set_option linter.unusedVariables false
namespace Go.Proofs.YtekmiepdodaidaaDoor.X
open Go.RowKit Go.Proofs.YtekmiepdodaidaaDoorW.PrintWords Go.Proofs.YtekmiepdodaidaaDoorW.PrintLast Go.Proofs.YtekmiepdodaidaaDoorW.PrintMore

def bAnd (s x : Int) : Int := Go.bits .and .u64 s x
def bSub (s x : Int) : Int := Go.bits .andNot .u64 s x
/-- Does a test divide a set? -/
def splitB (s x : Int) : Bool := !(bAnd s x == 0) && !(bSub s x == 0)
/-- A set of at most ten faults. -/
def SetB (s : Int) : Prop := 0 ≤ s ∧ s < 1024
/-- The first best test of those from number k on. -/
def pickB (c : Int → Int → Int) (s : Int) : Int → List Int → Int × Int → Int × Int
 | _, [], b => b
 | k, x :: xs, b => pickB c s (k + 1) xs (if splitB s x = true then (if b.1 < 0 ∨ c k x < b.2 then (k, c k x) else b) else b)
def cstB (chs : Int → Int × Int) (s : Int) : Int := if pcount s = 1 then 0 else (chs s).2
/-- The choice at a set, by the choices at smaller ones. -/
def chsStep (mf : Int → Int → Int → Int → Int) (ones : List Int) (chs : Int → Int × Int) (s : Int) : Int × Int :=
 pickB (fun k x => mf k s (cstB chs (bSub s x)) (cstB chs (bAnd s x))) s 0 ones (-1, 0)
def chsF (mf : Int → Int → Int → Int → Int) (ones : List Int) : Nat → Int → Int × Int
 | 0, _ => (-1, 0)
 | d + 1, s => chsStep mf ones (chsF mf ones d) s
def chs (mf : Int → Int → Int → Int → Int) (ones : List Int) (s : Int) : Int × Int := chsF mf ones (s.toNat + 1) s

theorem and_sub_nat : ∀ (n a b : Nat), a < 2 ^ n → b < 2 ^ n → (a &&& b) + (a &&& (2 ^ n - 1 - b)) = a
 | 0, a, b, ha, hb => by simp at ha hb; subst ha hb; rfl
 | n + 1, a, b, ha, hb => by
  have hp : 2 ^ (n + 1) = 2 * 2 ^ n := by rw [Nat.pow_succ]; omega
  have ih := and_sub_nat n (a / 2) (b / 2) (by omega) (by omega)
  have e1 : (a &&& b) / 2 = a / 2 &&& b / 2 := Nat.and_div_two
  have e2 : (a &&& (2 ^ (n + 1) - 1 - b)) / 2 = a / 2 &&& (2 ^ (n + 1) - 1 - b) / 2 := Nat.and_div_two
  have e3 : (2 ^ (n + 1) - 1 - b) / 2 = 2 ^ n - 1 - b / 2 := by omega
  rw [e3] at e2
  have m1 : (a &&& b) % 2 = 1 ↔ a % 2 = 1 ∧ b % 2 = 1 := Nat.and_mod_two_eq_one
  have m2 : (a &&& (2 ^ (n + 1) - 1 - b)) % 2 = 1 ↔ a % 2 = 1 ∧ (2 ^ (n + 1) - 1 - b) % 2 = 1 := Nat.and_mod_two_eq_one
  generalize a &&& b = p at *
  generalize a &&& (2 ^ (n + 1) - 1 - b) = q at *
  generalize a / 2 &&& b / 2 = p2 at *
  generalize a / 2 &&& (2 ^ n - 1 - b / 2) = q2 at *
  omega
theorem bAnd_nat {s x : Int} (hs : SetB s) (hx : SetB x) : bAnd s x = ((s.toNat &&& x.toNat : Nat) : Int) := by
 unfold SetB at hs hx; exact u64_and s x (by omega) (by omega) (by omega) (by omega)
theorem bSub_add {s x : Int} (hs : SetB s) (hx : SetB x) : bAnd s x + bSub s x = s := by
 rw [bAnd_nat hs hx]
 unfold SetB at hs hx
 unfold bSub
 rw [u64_andNot s x (by omega) (by omega) (by omega) (by omega)]
 have := and_sub_nat 64 s.toNat x.toNat (by omega) (by omega)
 simp at this
 omega
theorem bAnd_le {s x : Int} (hs : SetB s) (hx : SetB x) : 0 ≤ bAnd s x ∧ bAnd s x ≤ s := by
 rw [bAnd_nat hs hx]
 have := Nat.and_le_left (n := s.toNat) (m := x.toNat)
 unfold SetB at hs hx
 omega
/-- The two parts of a divided set are sets, smaller ones. -/
theorem split_parts {s x : Int} (hs : SetB s) (hx : SetB x) (h : splitB s x = true) : (1 ≤ bAnd s x ∧ bAnd s x < s) ∧ (1 ≤ bSub s x ∧ bSub s x < s) := by
 have h1 := bSub_add hs hx
 have h2 := bAnd_le hs hx
 unfold splitB at h
 simp at h
 omega
theorem pickB_congr {c c' : Int → Int → Int} {s : Int} : ∀ (l : List Int) (k : Int) (b : Int × Int), (∀ x ∈ l, splitB s x = true → ∀ k, c k x = c' k x) → pickB c s k l b = pickB c' s k l b
 | [], _, _, _ => rfl
 | x :: xs, k, b, h => by
  unfold pickB
  by_cases hx : splitB s x = true
  ·rw [if_pos hx, if_pos hx, h x (by simp) hx k]
   exact pickB_congr xs _ _ (fun y hy => h y (by simp [hy]))
  ·rw [if_neg hx, if_neg hx]
   exact pickB_congr xs _ _ (fun y hy => h y (by simp [hy]))
theorem chsF_stable (mf : Int → Int → Int → Int → Int) (ones : List Int) (ho : ∀ x ∈ ones, SetB x) : ∀ (d : Nat) (s : Int), SetB s → s.toNat < d → chsF mf ones d s = chsF mf ones (d + 1) s
 | 0, s, _, h => absurd h (Nat.not_lt_zero _)
 | d + 1, s, hs, h => by
  show chsStep mf ones (chsF mf ones d) s = chsStep mf ones (chsF mf ones (d + 1)) s
  unfold chsStep
  refine pickB_congr ones _ _ (fun x hx hsp k => ?_)
  obtain ⟨⟨a1, a2⟩, b1, b2⟩ := split_parts hs (ho x hx) hsp
  have hs' := hs
  unfold SetB at hs'
  unfold cstB
  rw [chsF_stable mf ones ho d (bSub s x) (by unfold SetB; omega) (by omega), chsF_stable mf ones ho d (bAnd s x) (by unfold SetB; omega) (by omega)]
theorem chsF_more (mf : Int → Int → Int → Int → Int) (ones : List Int) (ho : ∀ x ∈ ones, SetB x) (s : Int) (hs : SetB s) (d : Nat) (hd : s.toNat < d) : chsF mf ones d s = chs mf ones s := by
 unfold chs
 obtain ⟨e, rfl⟩ : ∃ e, d = s.toNat + 1 + e := ⟨d - (s.toNat + 1), by omega⟩
 clear hd
 induction e with
 | zero => rfl
 | succ e ih => rw [← ih]; exact (chsF_stable mf ones ho (s.toNat + 1 + e) s hs (by omega)).symm
theorem chs_eq (mf : Int → Int → Int → Int → Int) (ones : List Int) (ho : ∀ x ∈ ones, SetB x) (s : Int) (hs : SetB s) : chs mf ones s = chsStep mf ones (chs mf ones) s := by
 show chsStep mf ones (chsF mf ones s.toNat) s = _
 unfold chsStep
 refine pickB_congr ones _ _ (fun x hx hsp k => ?_)
 obtain ⟨⟨a1, a2⟩, b1, b2⟩ := split_parts hs (ho x hx) hsp
 have hs' := hs
 unfold SetB at hs'
 have k1 : (bSub s x).toNat < s.toNat := by omega
 have k2 : (bAnd s x).toNat < s.toNat := by omega
 unfold cstB
 rw [chsF_more mf ones ho (bSub s x) (by unfold SetB; omega) s.toNat k1, chsF_more mf ones ho (bAnd s x) (by unfold SetB; omega) s.toNat k2]
end Go.Proofs.YtekmiepdodaidaaDoor.X
end
