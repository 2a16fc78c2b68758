/- Texts behind TestsBest, part 24: contracts of the program's functions and the plain words for them. -/
import Derived.Test.YtekmiepdodaidaaDoorTpar
import Derived.Test.YtekmiepdodaidaaDoorTpau
section
namespace Go.Proofs.YtekmiepdodaidaaDoor.X
open Go.RowKit Go.Proofs.YtekmiepdodaidaaDoorW.PrintWords Go.Proofs.YtekmiepdodaidaaDoorW.PrintLast Go.Proofs.YtekmiepdodaidaaDoorW.PrintMore
attribute [local go_sem] max2_int min2_int max_two min_two max_three min_three max_four min_four   -- for this text's walks alone
set_option linter.unusedVariables false
set_option linter.unusedSimpArgs false

mutual
def tickingref07_Case.j0 : Nat → Int → Bool → List Int → List (List Int) → List Int → Option (Bool)
 | 0, _, _, _, _, _ => none
 | k + 1, x3, x30, x138000, x138001, x138002 => if x30 = true then (some false) else (tickingref07_Case.l0 k x3 0 x138000 x138001 x138002)
def tickingref07_Case.l0 : Nat → Int → Int → List Int → List (List Int) → List Int → Option (Bool)
 | 0, _, _, _, _, _ => none
 | k + 1, x3, x4, x138000, x138001, x138002 => if x4 < x3 then (if 0 ≤ x4 then (if x4 < (x138000.length : Int) then (if (rd x138000 x4) < 1 then (some false) else (if (rd x138000 x4) > 1000 then (some false) else (tickingref07_Case.l0 k x3 (wrap64 (x4 + 1)) x138000 x138001 x138002))) else (none)) else (none)) else (tickingref07_Case.l1 k x3 0 x138000 x138001 x138002)
def tickingref07_Case.l1 : Nat → Int → Int → List Int → List (List Int) → List Int → Option (Bool)
 | 0, _, _, _, _, _ => none
 | k + 1, x3, x5, x138000, x138001, x138002 => if x5 < (x138001.length : Int) then (if 0 ≤ x5 then (if ((rd_L1 x138001 x5).length : Int) = x3 then (if x5 < (x138002.length : Int) then (if (rd x138002 x5) < 1 then (tickingref07_Case.j3 k x3 x5 true x138000 x138001 x138002) else (tickingref07_Case.j3 k x3 x5 (decide ((rd x138002 x5) > 100)) x138000 x138001 x138002)) else (none)) else (tickingref07_Case.j3 k x3 x5 true x138000 x138001 x138002)) else (none)) else (some true)
def tickingref07_Case.j3 : Nat → Int → Int → Bool → List Int → List (List Int) → List Int → Option (Bool)
 | 0, _, _, _, _, _, _ => none
 | k + 1, x3, x5, x80, x138000, x138001, x138002 => if x80 = true then (some false) else (tickingref07_Case.l2 k x3 x5 0 x138000 x138001 x138002)
def tickingref07_Case.l2 : Nat → Int → Int → Int → List Int → List (List Int) → List Int → Option (Bool)
 | 0, _, _, _, _, _, _ => none
 | k + 1, x3, x5, x6, x138000, x138001, x138002 => if x6 < x3 then (if 0 ≤ x5 then (if x5 < (x138001.length : Int) then (if 0 ≤ x6 then (if x6 < ((rd_L1 x138001 x5).length : Int) then (if (rd (rd_L1 x138001 x5) x6) < 0 then (some false) else (if (rd (rd_L1 x138001 x5) x6) > 1 then (some false) else (tickingref07_Case.l2 k x3 x5 (wrap64 (x6 + 1)) x138000 x138001 x138002))) else (none)) else (none)) else (none)) else (none)) else (tickingref07_Case.l1 k x3 (wrap64 (x5 + 1)) x138000 x138001 x138002)
end
def tickingref07_Case.f (k : Nat) (l0_0 : List Int) (l0_1 : List (List Int)) (l0_2 : List Int) : Option (Bool) := if (l0_0.length : Int) < 1 then (tickingref07_Case.j0 k (l0_0.length : Int) true l0_0 l0_1 l0_2) else (if (l0_0.length : Int) > 10 then (tickingref07_Case.j0 k (l0_0.length : Int) true l0_0 l0_1 l0_2) else (if (l0_1.length : Int) > 12 then (tickingref07_Case.j0 k (l0_0.length : Int) true l0_0 l0_1 l0_2) else (tickingref07_Case.j0 k (l0_0.length : Int) ((l0_2.length : Int) != (l0_1.length : Int)) l0_0 l0_1 l0_2)))
set_option maxHeartbeats 8000000 in
set_option maxRecDepth 100000 in
theorem tickingref07_Case.calls (k : Nat) (A0_0 : Option Addr) (c0_0 : Nat) (l0_0 : List Int) (A0_1 : Option Addr) (c0_1 : Nat) (l0_1 : List (List Int)) (A0_2 : Option Addr) (c0_2 : Nat) (l0_2 : List Int) (r : Bool) (w : World) (hr0_0 : Kd.C (Kd.int .i64) w A0_0 l0_0.length l0_0) (hc0_0 : l0_0.length ≤ c0_0) (hr0_1 : Kd.C (Kd.slice 3 (Kd.int .i64)) w A0_1 l0_1.length l0_1) (hc0_1 : l0_1.length ≤ c0_1) (hr0_2 : Kd.C (Kd.int .i64) w A0_2 l0_2.length l0_2) (hc0_2 : l0_2.length ≤ c0_2) (h : tickingref07_Case.f k l0_0 l0_1 l0_2 = some r) :
  Calls Tryd.prog 16 #[.agg #[.slice A0_0 l0_0.length c0_0, .slice A0_1 l0_1.length c0_1, .slice A0_2 l0_2.length c0_2]] w fun e w' => e = .returned (.bool r) ∧ Below w.heap.size w w' := by
 have hu25 := Tryd.underlying25
 have HR0_0 := Aside0.mk hr0_0
 have HC0_0 := Aside0.mk hc0_0
 clear hr0_0 hc0_0
 have HR0_1 := Aside0.mk hr0_1
 have HC0_1 := Aside0.mk hc0_1
 clear hr0_1 hc0_1
 have HR0_2 := Aside0.mk hr0_2
 have HC0_2 := Aside0.mk hc0_2
 clear hr0_2 hc0_2
 have HB := Aside0.mk (Below.refl w.heap.size w)
 have H : (if (l0_0.length : Int) < 1 then (tickingref07_Case.j0 k (l0_0.length : Int) true l0_0 l0_1 l0_2) else (if (l0_0.length : Int) > 10 then (tickingref07_Case.j0 k (l0_0.length : Int) true l0_0 l0_1 l0_2) else (if (l0_1.length : Int) > 12 then (tickingref07_Case.j0 k (l0_0.length : Int) true l0_0 l0_1 l0_2) else (tickingref07_Case.j0 k (l0_0.length : Int) ((l0_2.length : Int) != (l0_1.length : Int)) l0_0 l0_1 l0_2)))) = some r := h
 clear h
 have HC2 := Aside0.mk H
 clear H
 go_enter Tryd.func16, Tryd.ntmps16
 go_upto_region 2 with (first | ((with_reducible refine gate_dst (N := 1) rfl ?_); (try (refine gate_guard (by rfl) ?_; dsimp only)); refine box_event ?hg (N := 1) ?hd (cs := #[.slice A0_0 l0_0.length c0_0, .slice A0_1 l0_1.length c0_1, .slice A0_2 l0_2.length c0_2]) (t := 25) ?hr ?_; (case hd => rfl); (case hg => rfl); (case hr => first | (go_simp; done) | (go_simp; rfl)); intro gb137 hg w3 hbox hb; have n0_ := Aside0.mk (below_step bz hb); have n1_ := Aside0.mk (hbox); have n2_ := Aside0.mk ((by rw [hg]; exact (below_size bz) : w.heap.size ≤ gb137)); have n3_ := Aside0.mk ((by rw [hg]; exact (below_size bz) : w.heap.size ≤ gb137)); clear HB; have HB := n0_; have BK137 := n1_; have GW137 := n2_; have GE137 := n3_; clear n0_ n1_ n2_ n3_; clear hb hbox hg; have hcz4_0 : w3.cell? ⟨gb137, 0, none⟩ = some (.slice A0_0 l0_0.length c0_0) := (blk_cell BK137.out 0).trans rfl; have hcz4_1 : w3.cell? ⟨gb137, 1, none⟩ = some (.slice A0_1 l0_1.length c0_1) := (blk_cell BK137.out 1).trans rfl; have hcz4_2 : w3.cell? ⟨gb137, 2, none⟩ = some (.slice A0_2 l0_2.length c0_2) := (blk_cell BK137.out 2).trans rfl; have hfz4_0 := blk_frozen BK137.out 0; have hfz4_1 := blk_frozen BK137.out 1; have hfz4_2 := blk_frozen BK137.out 2))
 (try simp only [Act.put, List.setIfInBounds_toArray, List.set_cons_zero, List.set_cons_succ])
 go_cut [30] (fun v30 wc => ∃ (kq : Nat) (x30_1 : Bool), v30 = .bool x30_1 ∧ Aside0 (tickingref07_Case.j0 kq (l0_0.length : Int) x30_1 l0_0 l0_1 l0_2 = some r) ∧ Aside0 (kq ≤ k) ∧ Aside0 (wc.heap[gb137]? = some (.cells #[(.slice A0_0 l0_0.length c0_0), (.slice A0_1 l0_1.length c0_1), (.slice A0_2 l0_2.length c0_2)] 25 (0, 0))) ∧ Aside0 (Below w.heap.size w wc))
 case first =>
  have H := HC2.out
  clear HC2
  by_cases c5 : (l0_0.length : Int) < 1
  ·rw [if_pos c5] at H
   have c5b0 : decide ((l0_0.length : Int) < 1) = true := decide_eq_true c5
   have c5b1 : decide (l0_0.length < 1) = true := decide_eq_true (by omega)
   clear c5
   (first | rw [c5b0] | (simp only [i64_w, i32_w]; rw [c5b0]) | skip)
   have H' := Aside0.mk H
   clear H
   go_wp2
   go_meet
   case rel => exact ⟨_, (true), (by first | rfl | (simp; done) | (simp [*]; done)), H', ⟨by first | omega | exact Nat.le_refl _⟩, ⟨by (with_reducible repeat (first | refine blk_drewN ?_ _ | refine blk_drew ?_ | refine blk_alloc ?_ _)); exact BK137.out⟩, ⟨by repeat (first | (with_reducible first | exact HB.out | apply below_alloc | apply pw_below_drewN | apply below_drew1 | refine below_set ?_ GE137.out) | exact HB.out)⟩⟩
  ·rw [if_neg c5] at H
   have c5b0 : decide ((l0_0.length : Int) < 1) = false := decide_eq_false c5
   have c5b1 : decide (l0_0.length < 1) = false := decide_eq_false (by omega)
   clear c5
   (first | rw [c5b0] | (simp only [i64_w, i32_w]; rw [c5b0]) | skip)
   by_cases c6 : (l0_0.length : Int) > 10
   ·rw [if_pos c6] at H
    have c6b0 : decide (10 < (l0_0.length : Int)) = true := decide_eq_true c6
    have c6b1 : decide (10 < l0_0.length) = true := decide_eq_true (by omega)
    clear c6
    have H' := Aside0.mk H
    clear H
    go_wp2
    go_meet
    case rel => exact ⟨_, (true), (by first | rfl | (simp; done) | (simp [*]; done)), H', ⟨by first | omega | exact Nat.le_refl _⟩, ⟨by (with_reducible repeat (first | refine blk_drewN ?_ _ | refine blk_drew ?_ | refine blk_alloc ?_ _)); exact BK137.out⟩, ⟨by repeat (first | (with_reducible first | exact HB.out | apply below_alloc | apply pw_below_drewN | apply below_drew1 | refine below_set ?_ GE137.out) | exact HB.out)⟩⟩
   ·rw [if_neg c6] at H
    have c6b0 : decide (10 < (l0_0.length : Int)) = false := decide_eq_false c6
    have c6b1 : decide (10 < l0_0.length) = false := decide_eq_false (by omega)
    clear c6
    by_cases c7 : (l0_1.length : Int) > 12
    ·rw [if_pos c7] at H
     have c7b0 : decide (12 < (l0_1.length : Int)) = true := decide_eq_true c7
     have c7b1 : decide (12 < l0_1.length) = true := decide_eq_true (by omega)
     clear c7
     have H' := Aside0.mk H
     clear H
     have hcz8_0 : w3.cell? ⟨gb137, 0, none⟩ = some (.slice A0_0 l0_0.length c0_0) := (blk_cell BK137.out 0).trans rfl
     have hcz8_1 : w3.cell? ⟨gb137, 1, none⟩ = some (.slice A0_1 l0_1.length c0_1) := (blk_cell BK137.out 1).trans rfl
     have hcz8_2 : w3.cell? ⟨gb137, 2, none⟩ = some (.slice A0_2 l0_2.length c0_2) := (blk_cell BK137.out 2).trans rfl
     have hfz8_0 := blk_frozen BK137.out 0
     have hfz8_1 := blk_frozen BK137.out 1
     have hfz8_2 := blk_frozen BK137.out 2
     go_wp2
     go_meet
     case rel => exact ⟨_, (true), (by first | rfl | (simp; done) | (simp [*]; done)), H', ⟨by first | omega | exact Nat.le_refl _⟩, ⟨by (with_reducible repeat (first | refine blk_drewN ?_ _ | refine blk_drew ?_ | refine blk_alloc ?_ _)); exact BK137.out⟩, ⟨by repeat (first | (with_reducible first | exact HB.out | apply below_alloc | apply pw_below_drewN | apply below_drew1 | refine below_set ?_ GE137.out) | exact HB.out)⟩⟩
    ·rw [if_neg c7] at H
     have c7b0 : decide (12 < (l0_1.length : Int)) = false := decide_eq_false c7
     have c7b1 : decide (12 < l0_1.length) = false := decide_eq_false (by omega)
     clear c7
     have H' := Aside0.mk H
     clear H
     have hcz9_0 : w3.cell? ⟨gb137, 0, none⟩ = some (.slice A0_0 l0_0.length c0_0) := (blk_cell BK137.out 0).trans rfl
     have hcz9_1 : w3.cell? ⟨gb137, 1, none⟩ = some (.slice A0_1 l0_1.length c0_1) := (blk_cell BK137.out 1).trans rfl
     have hcz9_2 : w3.cell? ⟨gb137, 2, none⟩ = some (.slice A0_2 l0_2.length c0_2) := (blk_cell BK137.out 2).trans rfl
     have hfz9_0 := blk_frozen BK137.out 0
     have hfz9_1 := blk_frozen BK137.out 1
     have hfz9_2 := blk_frozen BK137.out 2
     go_wp2
     go_meet
     case rel => exact ⟨_, (((l0_2.length : Int) != (l0_1.length : Int))), (by first | rfl | (simp; done) | (simp [*]; done)), H', ⟨by first | omega | exact Nat.le_refl _⟩, ⟨by (with_reducible repeat (first | refine blk_drewN ?_ _ | refine blk_drew ?_ | refine blk_alloc ?_ _)); exact BK137.out⟩, ⟨by repeat (first | (with_reducible first | exact HB.out | apply below_alloc | apply pw_below_drewN | apply below_drew1 | refine below_set ?_ GE137.out) | exact HB.out)⟩⟩
 case rest =>
  clear HC2
  try clear c1
  try clear p2
  try clear c5
  try clear c5b0
  try clear c5b1
  try clear c6
  try clear c6b0
  try clear c6b1
  try clear c7
  try clear c7b0
  try clear c7b1
  try clear hcz4_0
  try clear hcz4_1
  try clear hcz4_2
  try clear hcz8_0
  try clear hcz8_1
  try clear hcz8_2
  try clear hcz9_0
  try clear hcz9_1
  try clear hcz9_2
  try clear hfz4_0
  try clear hfz4_1
  try clear hfz4_2
  try clear hfz8_0
  try clear hfz8_1
  try clear hfz8_2
  try clear hfz9_0
  try clear hfz9_1
  try clear hfz9_2
  obtain ⟨kq, x30_1, rfl, HA, HJ1, BK137, HB⟩ := hcut
  cases kq with
  | zero => exact absurd HA.out (by simp [tickingref07_Case.j0])
  | succ kj1 =>
   have H := HA.out
   clear HA
   simp only [tickingref07_Case.j0] at H
   by_cases c10 : x30_1 = true
   ·subst c10
    have H1 : (some false) = some r := by rw [if_pos rfl] at H; exact H
    clear H
    have H := H1
    clear H1
    obtain rfl := Option.some.inj H
    go_wp2
    go_ret
    exact ⟨by first | rfl | (simp [errW_none, errW_some] <;> rfl) | (simp [*, errW_none, errW_some] <;> rfl), by repeat (first | (with_reducible first | exact HB.out | apply below_alloc | apply pw_below_drewN | apply below_drew1 | refine below_set ?_ GE137.out) | exact HB.out)⟩
   ·replace c10 := Bool.eq_false_iff.mpr c10
    subst c10
    have H1 : (tickingref07_Case.l0 kj1 (l0_0.length : Int) 0 l0_0 l0_1 l0_2) = some r := by rw [if_neg (show ¬ (false = true) by decide)] at H; exact H
    clear H
    have H := H1
    clear H1
    have H' := Aside0.mk H
    clear H
    go_wp2
    go_loopg [4] kj1 (fun kq v4 w' => ∃ (x4_2 : Int), v4 = .int .i64 x4_2 ∧ Aside0 (tickingref07_Case.l0 kq (l0_0.length : Int) x4_2 l0_0 l0_1 l0_2 = some r) ∧ Aside0 (kq ≤ kj1) ∧ Aside0 (w'.heap[gb137]? = some (.cells #[(.slice A0_0 l0_0.length c0_0), (.slice A0_1 l0_1.length c0_1), (.slice A0_2 l0_2.length c0_2)] 25 (0, 0))) ∧ Aside0 (Below w.heap.size w w'))
    case atStart => exact ⟨(0), (by first | rfl | (simp; done) | (simp [*]; done)), H', ⟨Nat.le_refl _⟩, ⟨by (with_reducible repeat (first | refine blk_drewN ?_ _ | refine blk_drew ?_ | refine blk_alloc ?_ _)); exact BK137.out⟩, ⟨by repeat (first | (with_reducible first | exact HB.out | apply below_alloc | apply pw_below_drewN | apply below_drew1 | refine below_set ?_ GE137.out) | exact HB.out)⟩⟩
    case round =>
     clear H'
     try clear c1
     try clear p2
     try clear c5
     try clear c5b0
     try clear c5b1
     try clear c6
     try clear c6b0
     try clear c6b1
     try clear c7
     try clear c7b0
     try clear c7b1
     try clear c10
     try clear hcz4_0
     try clear hcz4_1
     try clear hcz4_2
     try clear hcz8_0
     try clear hcz8_1
     try clear hcz8_2
     try clear hcz9_0
     try clear hcz9_1
     try clear hcz9_2
     try clear hfz4_0
     try clear hfz4_1
     try clear hfz4_2
     try clear hfz8_0
     try clear hfz8_1
     try clear hfz8_2
     try clear hfz9_0
     try clear hfz9_1
     try clear hfz9_2
     try clear p2
     obtain ⟨x4_2, rfl, HA, HK2, BK137, HB⟩ := hrel
     cases gk with
     | zero => exact absurd HA.out (by simp [tickingref07_Case.l0])
     | succ k2 =>
      have H := HA.out
      clear HA
      simp only [tickingref07_Case.l0] at H
      by_cases c11 : x4_2 < (l0_0.length : Int)
      ·rw [if_pos c11] at H
       have c11b0 : decide (x4_2 < (l0_0.length : Int)) = true := decide_eq_true c11
       clear c11
       by_cases c12 : 0 ≤ x4_2
       ·rw [if_pos c12] at H
        have c12b0 : decide (0 ≤ x4_2) = true := decide_eq_true c12
        clear c12
        by_cases c13 : x4_2 < (l0_0.length : Int)
        ·rw [if_pos c13] at H
         have c13b0 : decide (x4_2 < (l0_0.length : Int)) = true := decide_eq_true c13
         clear c13
         by_cases c14 : (rd l0_0 x4_2) < 1
         ·rw [if_pos c14] at H
          have c14b0 : decide ((rd l0_0 x4_2) < 1) = true := decide_eq_true c14
          clear c14
          obtain rfl := Option.some.inj H
          have hcz15_0 : wr.cell? ⟨gb137, 0, none⟩ = some (.slice A0_0 l0_0.length c0_0) := (blk_cell BK137.out 0).trans rfl
          have hcz15_1 : wr.cell? ⟨gb137, 1, none⟩ = some (.slice A0_1 l0_1.length c0_1) := (blk_cell BK137.out 1).trans rfl
          have hcz15_2 : wr.cell? ⟨gb137, 2, none⟩ = some (.slice A0_2 l0_2.length c0_2) := (blk_cell BK137.out 2).trans rfl
          have hfz15_0 := blk_frozen BK137.out 0
          have hfz15_1 := blk_frozen BK137.out 1
          have hfz15_2 := blk_frozen BK137.out 2
          have p138 : 0 ≤ (x4_2 : Int) := of_decide_eq_true az
          have q138 : x4_2 < (l0_0.length : Int) := of_decide_eq_true az
          obtain ⟨ad138, e138, hx138_0⟩ := Kd.at_int HR0_0.out x4_2 p138 q138
          cases e138
          replace hx138_0 := (HB.out.cell (World.block_lt_of_cell? w _ hx138_0)).trans hx138_0
          replace p138 := eq_true p138
          replace q138 := eq_true q138
          go_wp2
          go_ret
          exact ⟨by first | rfl | (simp [errW_none, errW_some] <;> rfl) | (simp [*, errW_none, errW_some] <;> rfl), by repeat (first | (with_reducible first | exact HB.out | apply below_alloc | apply pw_below_drewN | apply below_drew1 | refine below_set ?_ GE137.out) | exact HB.out)⟩
         ·rw [if_neg c14] at H
          have c14b0 : decide ((rd l0_0 x4_2) < 1) = false := decide_eq_false c14
          clear c14
          by_cases c16 : (rd l0_0 x4_2) > 1000
          ·rw [if_pos c16] at H
           have c16b0 : decide (1000 < (rd l0_0 x4_2)) = true := decide_eq_true c16
           clear c16
           obtain rfl := Option.some.inj H
           have hcz17_0 : wr.cell? ⟨gb137, 0, none⟩ = some (.slice A0_0 l0_0.length c0_0) := (blk_cell BK137.out 0).trans rfl
           have hcz17_1 : wr.cell? ⟨gb137, 1, none⟩ = some (.slice A0_1 l0_1.length c0_1) := (blk_cell BK137.out 1).trans rfl
           have hcz17_2 : wr.cell? ⟨gb137, 2, none⟩ = some (.slice A0_2 l0_2.length c0_2) := (blk_cell BK137.out 2).trans rfl
           have hfz17_0 := blk_frozen BK137.out 0
           have hfz17_1 := blk_frozen BK137.out 1
           have hfz17_2 := blk_frozen BK137.out 2
           have p138 : 0 ≤ (x4_2 : Int) := of_decide_eq_true az
           have q138 : x4_2 < (l0_0.length : Int) := of_decide_eq_true az
           obtain ⟨ad138, e138, hx138_0⟩ := Kd.at_int HR0_0.out x4_2 p138 q138
           cases e138
           replace hx138_0 := (HB.out.cell (World.block_lt_of_cell? w _ hx138_0)).trans hx138_0
           replace p138 := eq_true p138
           replace q138 := eq_true q138
           have p139 : 0 ≤ (x4_2 : Int) := of_decide_eq_true az
           have q139 : x4_2 < (l0_0.length : Int) := of_decide_eq_true az
           obtain ⟨ad139, e139, hx139_0⟩ := Kd.at_int HR0_0.out x4_2 p139 q139
           obtain rfl : ad138 = ad139 := (by injection e139)
           replace hx139_0 := (HB.out.cell (World.block_lt_of_cell? w _ hx139_0)).trans hx139_0
           replace p139 := eq_true p139
           replace q139 := eq_true q139
           go_wp2
           go_ret
           exact ⟨by first | rfl | (simp [errW_none, errW_some] <;> rfl) | (simp [*, errW_none, errW_some] <;> rfl), by repeat (first | (with_reducible first | exact HB.out | apply below_alloc | apply pw_below_drewN | apply below_drew1 | refine below_set ?_ GE137.out) | exact HB.out)⟩
          ·rw [if_neg c16] at H
           have c16b0 : decide (1000 < (rd l0_0 x4_2)) = false := decide_eq_false c16
           clear c16
           have H' := Aside0.mk H
           clear H
           have hcz18_0 : wr.cell? ⟨gb137, 0, none⟩ = some (.slice A0_0 l0_0.length c0_0) := (blk_cell BK137.out 0).trans rfl
           have hcz18_1 : wr.cell? ⟨gb137, 1, none⟩ = some (.slice A0_1 l0_1.length c0_1) := (blk_cell BK137.out 1).trans rfl
           have hcz18_2 : wr.cell? ⟨gb137, 2, none⟩ = some (.slice A0_2 l0_2.length c0_2) := (blk_cell BK137.out 2).trans rfl
           have hfz18_0 := blk_frozen BK137.out 0
           have hfz18_1 := blk_frozen BK137.out 1
           have hfz18_2 := blk_frozen BK137.out 2
           have p138 : 0 ≤ (x4_2 : Int) := of_decide_eq_true az
           have q138 : x4_2 < (l0_0.length : Int) := of_decide_eq_true az
           obtain ⟨ad138, e138, hx138_0⟩ := Kd.at_int HR0_0.out x4_2 p138 q138
           cases e138
           replace hx138_0 := (HB.out.cell (World.block_lt_of_cell? w _ hx138_0)).trans hx138_0
           replace p138 := eq_true p138
           replace q138 := eq_true q138
           have p139 : 0 ≤ (x4_2 : Int) := of_decide_eq_true az
           have q139 : x4_2 < (l0_0.length : Int) := of_decide_eq_true az
           obtain ⟨ad139, e139, hx139_0⟩ := Kd.at_int HR0_0.out x4_2 p139 q139
           obtain rfl : ad138 = ad139 := (by injection e139)
           replace hx139_0 := (HB.out.cell (World.block_lt_of_cell? w _ hx139_0)).trans hx139_0
           replace p139 := eq_true p139
           replace q139 := eq_true q139
           go_wp2
           go_roundg k2
           case measure => have := HJ1.out; have := HK2.out; omega
           case rel => exact ⟨(wrap64 (x4_2 + 1)), (by first | rfl | (simp; done) | (simp [*]; done)), H', ⟨by have := HJ1.out; have := HK2.out; omega⟩, ⟨by (with_reducible repeat (first | refine blk_drewN ?_ _ | refine blk_drew ?_ | refine blk_alloc ?_ _)); exact BK137.out⟩, ⟨by repeat (first | (with_reducible first | exact HB.out | apply below_alloc | apply pw_below_drewN | apply below_drew1 | refine below_set ?_ GE137.out) | exact HB.out)⟩⟩
        ·rw [if_neg c13] at H
         exact absurd H (by simp)
       ·rw [if_neg c12] at H
        exact absurd H (by simp)
      ·rw [if_neg c11] at H
       have c11b0 : decide (x4_2 < (l0_0.length : Int)) = false := decide_eq_false c11
       clear c11
       have H' := Aside0.mk H
       clear H
       go_wp2
       go_loopg [5] k2 (fun kq v5 w' => ∃ (x5_3 : Int), v5 = .int .i64 x5_3 ∧ Aside0 (tickingref07_Case.l1 kq (l0_0.length : Int) x5_3 l0_0 l0_1 l0_2 = some r) ∧ Aside0 (kq ≤ k2) ∧ Aside0 (w'.heap[gb137]? = some (.cells #[(.slice A0_0 l0_0.length c0_0), (.slice A0_1 l0_1.length c0_1), (.slice A0_2 l0_2.length c0_2)] 25 (0, 0))) ∧ Aside0 (Below w.heap.size w w'))
       case atStart => exact ⟨(0), (by first | rfl | (simp; done) | (simp [*]; done)), H', ⟨Nat.le_refl _⟩, ⟨by (with_reducible repeat (first | refine blk_drewN ?_ _ | refine blk_drew ?_ | refine blk_alloc ?_ _)); exact BK137.out⟩, ⟨by repeat (first | (with_reducible first | exact HB.out | apply below_alloc | apply pw_below_drewN | apply below_drew1 | refine below_set ?_ GE137.out) | exact HB.out)⟩⟩
       case round =>
        clear H'
        try clear c1
        try clear p1
        try clear q1
        try clear hx1
        try clear p2
        try clear c5
        try clear c5b0
        try clear c5b1
        try clear c6
        try clear c6b0
        try clear c6b1
        try clear p6
        try clear c7
        try clear c7b0
        try clear c7b1
        try clear c10
        try clear c11
        try clear c11b0
        try clear c12
        try clear c12b0
        try clear c13
        try clear c13b0
        try clear p13
        try clear q13
        try clear hx13
        try clear c14
        try clear c14b0
        try clear c16
        try clear c16b0
        try clear hcz15_0
        try clear hcz15_1
        try clear hcz15_2
        try clear hcz17_0
        try clear hcz17_1
        try clear hcz17_2
        try clear hcz18_0
        try clear hcz18_1
        try clear hcz18_2
        try clear hcz4_0
        try clear hcz4_1
        try clear hcz4_2
        try clear hcz8_0
        try clear hcz8_1
        try clear hcz8_2
        try clear hcz9_0
        try clear hcz9_1
        try clear hcz9_2
        try clear hfz15_0
        try clear hfz15_1
        try clear hfz15_2
        try clear hfz17_0
        try clear hfz17_1
        try clear hfz17_2
        try clear hfz18_0
        try clear hfz18_1
        try clear hfz18_2
        try clear hfz4_0
        try clear hfz4_1
        try clear hfz4_2
        try clear hfz8_0
        try clear hfz8_1
        try clear hfz8_2
        try clear hfz9_0
        try clear hfz9_1
        try clear hfz9_2
        try clear hx138_0
        try clear hx139_0
        try clear p138
        try clear p139
        try clear p2
        try clear q138
        try clear q139
        obtain ⟨x5_3, rfl, HA, HK3, BK137, HB⟩ := hrel
        cases gk with
        | zero => exact absurd HA.out (by simp [tickingref07_Case.l1])
        | succ k3 =>
         have H := HA.out
         clear HA
         simp only [tickingref07_Case.l1] at H
         by_cases c19 : x5_3 < (l0_1.length : Int)
         ·rw [if_pos c19] at H
          have c19b0 : decide (x5_3 < (l0_1.length : Int)) = true := decide_eq_true c19
          clear c19
          have HC20 := Aside0.mk H
          clear H
          have hcz21_0 : wr.cell? ⟨gb137, 0, none⟩ = some (.slice A0_0 l0_0.length c0_0) := (blk_cell BK137.out 0).trans rfl
          have hcz21_1 : wr.cell? ⟨gb137, 1, none⟩ = some (.slice A0_1 l0_1.length c0_1) := (blk_cell BK137.out 1).trans rfl
          have hcz21_2 : wr.cell? ⟨gb137, 2, none⟩ = some (.slice A0_2 l0_2.length c0_2) := (blk_cell BK137.out 2).trans rfl
          have hfz21_0 := blk_frozen BK137.out 0
          have hfz21_1 := blk_frozen BK137.out 1
          have hfz21_2 := blk_frozen BK137.out 2
          go_upto_region 12 with (fail)
          go_cut [80] (fun v80 wc => ∃ (kq : Nat) (x80_19 : Bool), v80 = .bool x80_19 ∧ Aside0 (tickingref07_Case.j3 kq (l0_0.length : Int) x5_3 x80_19 l0_0 l0_1 l0_2 = some r) ∧ Aside0 (kq ≤ k3) ∧ Aside0 (wc.heap[gb137]? = some (.cells #[(.slice A0_0 l0_0.length c0_0), (.slice A0_1 l0_1.length c0_1), (.slice A0_2 l0_2.length c0_2)] 25 (0, 0))) ∧ Aside0 (Below w.heap.size w wc))
          case first =>
           have H := HC20.out
           clear HC20
           by_cases c22 : 0 ≤ x5_3
           ·rw [if_pos c22] at H
            have c22b0 : decide (0 ≤ x5_3) = true := decide_eq_true c22
            clear c22
            (first | rw [c22b0] | (simp only [i64_w, i32_w]; rw [c22b0]) | skip)
            by_cases c23 : ((rd_L1 l0_1 x5_3).length : Int) = (l0_0.length : Int)
            ·rw [if_pos c23] at H
             have c23b0 : (((rd_L1 l0_1 x5_3).length : Int) == (l0_0.length : Int)) = true := beq_iff_eq.mpr c23
             have c23b1 : (((rd_L1 l0_1 x5_3).length : Int) != (l0_0.length : Int)) = false := bne_eq_false_iff_eq.mpr c23
             have c23b2 : ((rd_L1 l0_1 x5_3).length == l0_0.length) = true := by first | simpa using c23 | (simp at c23 ⊢; omega)
             clear c23
             by_cases c24 : x5_3 < (l0_2.length : Int)
             ·rw [if_pos c24] at H
              have c24b0 : decide (x5_3 < (l0_2.length : Int)) = true := decide_eq_true c24
              clear c24
              by_cases c25 : (rd l0_2 x5_3) < 1
              ·rw [if_pos c25] at H
               have c25b0 : decide ((rd l0_2 x5_3) < 1) = true := decide_eq_true c25
               clear c25
               have H' := Aside0.mk H
               clear H
               have hcz26_0 : wr.cell? ⟨gb137, 0, none⟩ = some (.slice A0_0 l0_0.length c0_0) := (blk_cell BK137.out 0).trans rfl
               have hcz26_1 : wr.cell? ⟨gb137, 1, none⟩ = some (.slice A0_1 l0_1.length c0_1) := (blk_cell BK137.out 1).trans rfl
               have hcz26_2 : wr.cell? ⟨gb137, 2, none⟩ = some (.slice A0_2 l0_2.length c0_2) := (blk_cell BK137.out 2).trans rfl
               have hfz26_0 := blk_frozen BK137.out 0
               have hfz26_1 := blk_frozen BK137.out 1
               have hfz26_2 := blk_frozen BK137.out 2
               have p140 : 0 ≤ (x5_3 : Int) := of_decide_eq_true az
               have q140 : x5_3 < (l0_1.length : Int) := of_decide_eq_true az
               obtain ⟨ad140, A140_0, c140_0, e140, hx140_0, hl140_0, hi140_0⟩ := at_L1 HR0_1.out x5_3 p140 q140
               cases e140
               replace hx140_0 := (HB.out.cell (World.block_lt_of_cell? w _ hx140_0)).trans hx140_0
               have HR140_0 := Aside0.mk hi140_0
               have HC140_0 := Aside0.mk hl140_0
               clear hi140_0 hl140_0
               replace p140 := eq_true p140
               replace q140 := eq_true q140
               have p141 : 0 ≤ (x5_3 : Int) := of_decide_eq_true az
               have q141 : x5_3 < (l0_2.length : Int) := of_decide_eq_true az
               obtain ⟨ad141, e141, hx141_0⟩ := Kd.at_int HR0_2.out x5_3 p141 q141
               cases e141
               replace hx141_0 := (HB.out.cell (World.block_lt_of_cell? w _ hx141_0)).trans hx141_0
               replace p141 := eq_true p141
               replace q141 := eq_true q141
               go_wp2
               go_meet
               case rel => exact ⟨_, (true), (by first | rfl | (simp; done) | (simp [*]; done)), H', ⟨by have := HJ1.out; have := HK2.out; have := HK3.out; first | omega | exact Nat.le_refl _⟩, ⟨by (with_reducible repeat (first | refine blk_drewN ?_ _ | refine blk_drew ?_ | refine blk_alloc ?_ _)); exact BK137.out⟩, ⟨by repeat (first | (with_reducible first | exact HB.out | apply below_alloc | apply pw_below_drewN | apply below_drew1 | refine below_set ?_ GE137.out) | exact HB.out)⟩⟩
              ·rw [if_neg c25] at H
               have c25b0 : decide ((rd l0_2 x5_3) < 1) = false := decide_eq_false c25
               clear c25
               have H' := Aside0.mk H
               clear H
               have hcz27_0 : wr.cell? ⟨gb137, 0, none⟩ = some (.slice A0_0 l0_0.length c0_0) := (blk_cell BK137.out 0).trans rfl
               have hcz27_1 : wr.cell? ⟨gb137, 1, none⟩ = some (.slice A0_1 l0_1.length c0_1) := (blk_cell BK137.out 1).trans rfl
               have hcz27_2 : wr.cell? ⟨gb137, 2, none⟩ = some (.slice A0_2 l0_2.length c0_2) := (blk_cell BK137.out 2).trans rfl
               have hfz27_0 := blk_frozen BK137.out 0
               have hfz27_1 := blk_frozen BK137.out 1
               have hfz27_2 := blk_frozen BK137.out 2
               have p140 : 0 ≤ (x5_3 : Int) := of_decide_eq_true az
               have q140 : x5_3 < (l0_1.length : Int) := of_decide_eq_true az
               obtain ⟨ad140, A140_0, c140_0, e140, hx140_0, hl140_0, hi140_0⟩ := at_L1 HR0_1.out x5_3 p140 q140
               cases e140
               replace hx140_0 := (HB.out.cell (World.block_lt_of_cell? w _ hx140_0)).trans hx140_0
               have HR140_0 := Aside0.mk hi140_0
               have HC140_0 := Aside0.mk hl140_0
               clear hi140_0 hl140_0
               replace p140 := eq_true p140
               replace q140 := eq_true q140
               have p141 : 0 ≤ (x5_3 : Int) := of_decide_eq_true az
               have q141 : x5_3 < (l0_2.length : Int) := of_decide_eq_true az
               obtain ⟨ad141, e141, hx141_0⟩ := Kd.at_int HR0_2.out x5_3 p141 q141
               cases e141
               replace hx141_0 := (HB.out.cell (World.block_lt_of_cell? w _ hx141_0)).trans hx141_0
               replace p141 := eq_true p141
               replace q141 := eq_true q141
               have p142 : 0 ≤ (x5_3 : Int) := of_decide_eq_true az
               have q142 : x5_3 < (l0_2.length : Int) := of_decide_eq_true az
               obtain ⟨ad142, e142, hx142_0⟩ := Kd.at_int HR0_2.out x5_3 p142 q142
               obtain rfl : ad141 = ad142 := (by injection e142)
               replace hx142_0 := (HB.out.cell (World.block_lt_of_cell? w _ hx142_0)).trans hx142_0
               replace p142 := eq_true p142
               replace q142 := eq_true q142
               go_wp2
               go_meet
               case rel => exact ⟨_, (decide ((rd l0_2 x5_3) > 100)), (by first | rfl | (simp; done) | (simp [*]; done)), H', ⟨by have := HJ1.out; have := HK2.out; have := HK3.out; first | omega | exact Nat.le_refl _⟩, ⟨by (with_reducible repeat (first | refine blk_drewN ?_ _ | refine blk_drew ?_ | refine blk_alloc ?_ _)); exact BK137.out⟩, ⟨by repeat (first | (with_reducible first | exact HB.out | apply below_alloc | apply pw_below_drewN | apply below_drew1 | refine below_set ?_ GE137.out) | exact HB.out)⟩⟩
             ·rw [if_neg c24] at H
              exact absurd H (by simp)
            ·rw [if_neg c23] at H
             have c23b0 : (((rd_L1 l0_1 x5_3).length : Int) == (l0_0.length : Int)) = false := beq_eq_false_iff_ne.mpr c23
             have c23b1 : (((rd_L1 l0_1 x5_3).length : Int) != (l0_0.length : Int)) = true := bne_iff_ne.mpr c23
             have c23b2 : ((rd_L1 l0_1 x5_3).length == l0_0.length) = false := by first | simpa using c23 | (simp at c23 ⊢; omega)
             have H' := Aside0.mk H
             clear H
             have hcz28_0 : wr.cell? ⟨gb137, 0, none⟩ = some (.slice A0_0 l0_0.length c0_0) := (blk_cell BK137.out 0).trans rfl
             have hcz28_1 : wr.cell? ⟨gb137, 1, none⟩ = some (.slice A0_1 l0_1.length c0_1) := (blk_cell BK137.out 1).trans rfl
             have hcz28_2 : wr.cell? ⟨gb137, 2, none⟩ = some (.slice A0_2 l0_2.length c0_2) := (blk_cell BK137.out 2).trans rfl
             have hfz28_0 := blk_frozen BK137.out 0
             have hfz28_1 := blk_frozen BK137.out 1
             have hfz28_2 := blk_frozen BK137.out 2
             have p140 : 0 ≤ (x5_3 : Int) := of_decide_eq_true az
             have q140 : x5_3 < (l0_1.length : Int) := of_decide_eq_true az
             obtain ⟨ad140, A140_0, c140_0, e140, hx140_0, hl140_0, hi140_0⟩ := at_L1 HR0_1.out x5_3 p140 q140
             cases e140
             replace hx140_0 := (HB.out.cell (World.block_lt_of_cell? w _ hx140_0)).trans hx140_0
             have HR140_0 := Aside0.mk hi140_0
             have HC140_0 := Aside0.mk hl140_0
             clear hi140_0 hl140_0
             replace p140 := eq_true p140
             replace q140 := eq_true q140
             go_wp2
             go_meet
             case rel => exact ⟨_, (true), (by first | rfl | (simp; done) | (simp [*]; done)), H', ⟨by have := HJ1.out; have := HK2.out; have := HK3.out; first | omega | exact Nat.le_refl _⟩, ⟨by (with_reducible repeat (first | refine blk_drewN ?_ _ | refine blk_drew ?_ | refine blk_alloc ?_ _)); exact BK137.out⟩, ⟨by repeat (first | (with_reducible first | exact HB.out | apply below_alloc | apply pw_below_drewN | apply below_drew1 | refine below_set ?_ GE137.out) | exact HB.out)⟩⟩
           ·rw [if_neg c22] at H
            exact absurd H (by simp)
          case rest =>
           clear HC20
           try clear c1
           try clear p1
           try clear q1
           try clear hx1
           try clear c2
           try clear p2
           try clear c5
           try clear c5b0
           try clear c5b1
           try clear c6
           try clear c6b0
           try clear c6b1
           try clear p6
           try clear c7
           try clear c7b0
           try clear c7b1
           try clear c10
           try clear c11
           try clear c11b0
           try clear c12
           try clear c12b0
           try clear c13
           try clear c13b0
           try clear p13
           try clear q13
           try clear hx13
           try clear c14
           try clear c14b0
           try clear p14
           try clear q14
           try clear hx14
           try clear c16
           try clear c16b0
           try clear c19
           try clear c19b0
           try clear c22
           try clear c22b0
           try clear c23
           try clear c23b0
           try clear c23b1
           try clear c23b2
           try clear c24
           try clear c24b0
           try clear c25
           try clear c25b0
           try clear hcz15_0
           try clear hcz15_1
           try clear hcz15_2
           try clear hcz17_0
           try clear hcz17_1
           try clear hcz17_2
           try clear hcz18_0
           try clear hcz18_1
           try clear hcz18_2
           try clear hcz21_0
           try clear hcz21_1
           try clear hcz21_2
           try clear hcz26_0
           try clear hcz26_1
           try clear hcz26_2
           try clear hcz27_0
           try clear hcz27_1
           try clear hcz27_2
           try clear hcz28_0
           try clear hcz28_1
           try clear hcz28_2
           try clear hcz4_0
           try clear hcz4_1
           try clear hcz4_2
           try clear hcz8_0
           try clear hcz8_1
           try clear hcz8_2
           try clear hcz9_0
           try clear hcz9_1
           try clear hcz9_2
           try clear hfz15_0
           try clear hfz15_1
           try clear hfz15_2
           try clear hfz17_0
           try clear hfz17_1
           try clear hfz17_2
           try clear hfz18_0
           try clear hfz18_1
           try clear hfz18_2
           try clear hfz21_0
           try clear hfz21_1
           try clear hfz21_2
           try clear hfz26_0
           try clear hfz26_1
           try clear hfz26_2
           try clear hfz27_0
           try clear hfz27_1
           try clear hfz27_2
           try clear hfz28_0
           try clear hfz28_1
           try clear hfz28_2
           try clear hfz4_0
           try clear hfz4_1
           try clear hfz4_2
           try clear hfz8_0
           try clear hfz8_1
           try clear hfz8_2
           try clear hfz9_0
           try clear hfz9_1
           try clear hfz9_2
           try clear hx138_0
           try clear hx139_0
           try clear hx140_0
           try clear hx141_0
           try clear hx142_0
           try clear p1
           try clear p13
           try clear p138
           try clear p139
           try clear p140
           try clear p141
           try clear p142
           try clear p2
           try clear p6
           try clear q1
           try clear q13
           try clear q138
           try clear q139
           try clear q140
           try clear q141
           try clear q142
           obtain ⟨kq, x80_19, rfl, HA, HJ19, BK137, HB⟩ := hcut
           cases kq with
           | zero => exact absurd HA.out (by simp [tickingref07_Case.j3])
           | succ kj19 =>
            have H := HA.out
            clear HA
            simp only [tickingref07_Case.j3] at H
            by_cases c29 : x80_19 = true
            ·subst c29
             have H1 : (some false) = some r := by rw [if_pos rfl] at H; exact H
             clear H
             have H := H1
             clear H1
             obtain rfl := Option.some.inj H
             go_wp2
             go_ret
             exact ⟨by first | rfl | (simp [errW_none, errW_some] <;> rfl) | (simp [*, errW_none, errW_some] <;> rfl), by repeat (first | (with_reducible first | exact HB.out | apply below_alloc | apply pw_below_drewN | apply below_drew1 | refine below_set ?_ GE137.out) | exact HB.out)⟩
            ·replace c29 := Bool.eq_false_iff.mpr c29
             subst c29
             have H1 : (tickingref07_Case.l2 kj19 (l0_0.length : Int) x5_3 0 l0_0 l0_1 l0_2) = some r := by rw [if_neg (show ¬ (false = true) by decide)] at H; exact H
             clear H
             have H := H1
             clear H1
             have H' := Aside0.mk H
             clear H
             go_wp2
             go_loopg [6] kj19 (fun kq v6 w' => ∃ (x6_5 : Int), v6 = .int .i64 x6_5 ∧ Aside0 (tickingref07_Case.l2 kq (l0_0.length : Int) x5_3 x6_5 l0_0 l0_1 l0_2 = some r) ∧ Aside0 (kq ≤ kj19) ∧ Aside0 (w'.heap[gb137]? = some (.cells #[(.slice A0_0 l0_0.length c0_0), (.slice A0_1 l0_1.length c0_1), (.slice A0_2 l0_2.length c0_2)] 25 (0, 0))) ∧ Aside0 (Below w.heap.size w w'))
             case atStart => exact ⟨(0), (by first | rfl | (simp; done) | (simp [*]; done)), H', ⟨Nat.le_refl _⟩, ⟨by (with_reducible repeat (first | refine blk_drewN ?_ _ | refine blk_drew ?_ | refine blk_alloc ?_ _)); exact BK137.out⟩, ⟨by repeat (first | (with_reducible first | exact HB.out | apply below_alloc | apply pw_below_drewN | apply below_drew1 | refine below_set ?_ GE137.out) | exact HB.out)⟩⟩
             case round =>
              clear H'
              try clear c1
              try clear p1
              try clear q1
              try clear hx1
              try clear c2
              try clear p2
              try clear c5
              try clear c5b0
              try clear c5b1
              try clear c6
              try clear c6b0
              try clear c6b1
              try clear p6
              try clear c7
              try clear c7b0
              try clear c7b1
              try clear c10
              try clear c11
              try clear c11b0
              try clear c12
              try clear c12b0
              try clear c13
              try clear c13b0
              try clear p13
              try clear q13
              try clear hx13
              try clear c14
              try clear c14b0
              try clear p14
              try clear q14
              try clear hx14
              try clear c16
              try clear c16b0
              try clear c19
              try clear c19b0
              try clear c22
              try clear c22b0
              try clear c23
              try clear c23b0
              try clear c23b1
              try clear c23b2
              try clear c24
              try clear c24b0
              try clear c25
              try clear c25b0
              try clear c29
              try clear hcz15_0
              try clear hcz15_1
              try clear hcz15_2
              try clear hcz17_0
              try clear hcz17_1
              try clear hcz17_2
              try clear hcz18_0
              try clear hcz18_1
              try clear hcz18_2
              try clear hcz21_0
              try clear hcz21_1
              try clear hcz21_2
              try clear hcz26_0
              try clear hcz26_1
              try clear hcz26_2
              try clear hcz27_0
              try clear hcz27_1
              try clear hcz27_2
              try clear hcz28_0
              try clear hcz28_1
              try clear hcz28_2
              try clear hcz4_0
              try clear hcz4_1
              try clear hcz4_2
              try clear hcz8_0
              try clear hcz8_1
              try clear hcz8_2
              try clear hcz9_0
              try clear hcz9_1
              try clear hcz9_2
              try clear hfz15_0
              try clear hfz15_1
              try clear hfz15_2
              try clear hfz17_0
              try clear hfz17_1
              try clear hfz17_2
              try clear hfz18_0
              try clear hfz18_1
              try clear hfz18_2
              try clear hfz21_0
              try clear hfz21_1
              try clear hfz21_2
              try clear hfz26_0
              try clear hfz26_1
              try clear hfz26_2
              try clear hfz27_0
              try clear hfz27_1
              try clear hfz27_2
              try clear hfz28_0
              try clear hfz28_1
              try clear hfz28_2
              try clear hfz4_0
              try clear hfz4_1
              try clear hfz4_2
              try clear hfz8_0
              try clear hfz8_1
              try clear hfz8_2
              try clear hfz9_0
              try clear hfz9_1
              try clear hfz9_2
              try clear hx138_0
              try clear hx139_0
              try clear hx140_0
              try clear hx141_0
              try clear hx142_0
              try clear p1
              try clear p13
              try clear p138
              try clear p139
              try clear p14
              try clear p140
              try clear p141
              try clear p142
              try clear p2
              try clear p6
              try clear q1
              try clear q13
              try clear q138
              try clear q139
              try clear q14
              try clear q140
              try clear q141
              try clear q142
              obtain ⟨x6_5, rfl, HA, HK5, BK137, HB⟩ := hrel
              cases gk with
              | zero => exact absurd HA.out (by simp [tickingref07_Case.l2])
              | succ k5 =>
               have H := HA.out
               clear HA
               simp only [tickingref07_Case.l2] at H
               by_cases c30 : x6_5 < (l0_0.length : Int)
               ·rw [if_pos c30] at H
                have c30b0 : decide (x6_5 < (l0_0.length : Int)) = true := decide_eq_true c30
                clear c30
                by_cases c31 : 0 ≤ x5_3
                ·rw [if_pos c31] at H
                 have c31b0 : decide (0 ≤ x5_3) = true := decide_eq_true c31
                 clear c31
                 by_cases c32 : x5_3 < (l0_1.length : Int)
                 ·rw [if_pos c32] at H
                  have c32b0 : decide (x5_3 < (l0_1.length : Int)) = true := decide_eq_true c32
                  clear c32
                  by_cases c33 : 0 ≤ x6_5
                  ·rw [if_pos c33] at H
                   have c33b0 : decide (0 ≤ x6_5) = true := decide_eq_true c33
                   clear c33
                   by_cases c34 : x6_5 < ((rd_L1 l0_1 x5_3).length : Int)
                   ·rw [if_pos c34] at H
                    have c34b0 : decide (x6_5 < ((rd_L1 l0_1 x5_3).length : Int)) = true := decide_eq_true c34
                    clear c34
                    by_cases c35 : (rd (rd_L1 l0_1 x5_3) x6_5) < 0
                    ·rw [if_pos c35] at H
                     have c35b0 : decide ((rd (rd_L1 l0_1 x5_3) x6_5) < 0) = true := decide_eq_true c35
                     clear c35
                     obtain rfl := Option.some.inj H
                     have hcz36_0 : wr.cell? ⟨gb137, 0, none⟩ = some (.slice A0_0 l0_0.length c0_0) := (blk_cell BK137.out 0).trans rfl
                     have hcz36_1 : wr.cell? ⟨gb137, 1, none⟩ = some (.slice A0_1 l0_1.length c0_1) := (blk_cell BK137.out 1).trans rfl
                     have hcz36_2 : wr.cell? ⟨gb137, 2, none⟩ = some (.slice A0_2 l0_2.length c0_2) := (blk_cell BK137.out 2).trans rfl
                     have hfz36_0 := blk_frozen BK137.out 0
                     have hfz36_1 := blk_frozen BK137.out 1
                     have hfz36_2 := blk_frozen BK137.out 2
                     have p143 : 0 ≤ (x5_3 : Int) := of_decide_eq_true az
                     have q143 : x5_3 < (l0_1.length : Int) := of_decide_eq_true az
                     obtain ⟨ad143, A143_0, c143_0, e143, hx143_0, hl143_0, hi143_0⟩ := at_L1 HR0_1.out x5_3 p143 q143
                     cases e143
                     replace hx143_0 := (HB.out.cell (World.block_lt_of_cell? w _ hx143_0)).trans hx143_0
                     have HR143_0 := Aside0.mk hi143_0
                     have HC143_0 := Aside0.mk hl143_0
                     clear hi143_0 hl143_0
                     replace p143 := eq_true p143
                     replace q143 := eq_true q143
                     have p144 : 0 ≤ (x6_5 : Int) := of_decide_eq_true az
                     have q144 : x6_5 < ((rd_L1 l0_1 x5_3).length : Int) := of_decide_eq_true az
                     obtain ⟨ad144, e144, hx144_0⟩ := Kd.at_int HR143_0.out x6_5 p144 q144
                     cases e144
                     replace hx144_0 := (HB.out.cell (World.block_lt_of_cell? w _ hx144_0)).trans hx144_0
                     replace p144 := eq_true p144
                     replace q144 := eq_true q144
                     go_wp2
                     go_ret
                     exact ⟨by first | rfl | (simp [errW_none, errW_some] <;> rfl) | (simp [*, errW_none, errW_some] <;> rfl), by repeat (first | (with_reducible first | exact HB.out | apply below_alloc | apply pw_below_drewN | apply below_drew1 | refine below_set ?_ GE137.out) | exact HB.out)⟩
                    ·rw [if_neg c35] at H
                     have c35b0 : decide ((rd (rd_L1 l0_1 x5_3) x6_5) < 0) = false := decide_eq_false c35
                     clear c35
                     by_cases c37 : (rd (rd_L1 l0_1 x5_3) x6_5) > 1
                     ·rw [if_pos c37] at H
                      have c37b0 : decide (1 < (rd (rd_L1 l0_1 x5_3) x6_5)) = true := decide_eq_true c37
                      clear c37
                      obtain rfl := Option.some.inj H
                      have hcz38_0 : wr.cell? ⟨gb137, 0, none⟩ = some (.slice A0_0 l0_0.length c0_0) := (blk_cell BK137.out 0).trans rfl
                      have hcz38_1 : wr.cell? ⟨gb137, 1, none⟩ = some (.slice A0_1 l0_1.length c0_1) := (blk_cell BK137.out 1).trans rfl
                      have hcz38_2 : wr.cell? ⟨gb137, 2, none⟩ = some (.slice A0_2 l0_2.length c0_2) := (blk_cell BK137.out 2).trans rfl
                      have hfz38_0 := blk_frozen BK137.out 0
                      have hfz38_1 := blk_frozen BK137.out 1
                      have hfz38_2 := blk_frozen BK137.out 2
                      have p143 : 0 ≤ (x5_3 : Int) := of_decide_eq_true az
                      have q143 : x5_3 < (l0_1.length : Int) := of_decide_eq_true az
                      obtain ⟨ad143, A143_0, c143_0, e143, hx143_0, hl143_0, hi143_0⟩ := at_L1 HR0_1.out x5_3 p143 q143
                      cases e143
                      replace hx143_0 := (HB.out.cell (World.block_lt_of_cell? w _ hx143_0)).trans hx143_0
                      have HR143_0 := Aside0.mk hi143_0
                      have HC143_0 := Aside0.mk hl143_0
                      clear hi143_0 hl143_0
                      replace p143 := eq_true p143
                      replace q143 := eq_true q143
                      have p144 : 0 ≤ (x6_5 : Int) := of_decide_eq_true az
                      have q144 : x6_5 < ((rd_L1 l0_1 x5_3).length : Int) := of_decide_eq_true az
                      obtain ⟨ad144, e144, hx144_0⟩ := Kd.at_int HR143_0.out x6_5 p144 q144
                      cases e144
                      replace hx144_0 := (HB.out.cell (World.block_lt_of_cell? w _ hx144_0)).trans hx144_0
                      replace p144 := eq_true p144
                      replace q144 := eq_true q144
                      have p145 : 0 ≤ (x5_3 : Int) := of_decide_eq_true az
                      have q145 : x5_3 < (l0_1.length : Int) := of_decide_eq_true az
                      obtain ⟨ad145, A145_0, c145_0, e145, hx145_0, hl145_0, hi145_0⟩ := at_L1 HR0_1.out x5_3 p145 q145
                      obtain rfl : ad143 = ad145 := (by injection e145)
                      replace hx145_0 := (HB.out.cell (World.block_lt_of_cell? w _ hx145_0)).trans hx145_0
                      have HR145_0 := Aside0.mk hi145_0
                      have HC145_0 := Aside0.mk hl145_0
                      clear hi145_0 hl145_0
                      replace p145 := eq_true p145
                      replace q145 := eq_true q145
                      have ea_ := Option.some.inj (hx143_0.symm.trans hx145_0)
                      injection ea_ with ea_ en_ ec_
                      subst ea_
                      subst ec_
                      clear en_
                      have p146 : 0 ≤ (x6_5 : Int) := of_decide_eq_true az
                      have q146 : x6_5 < ((rd_L1 l0_1 x5_3).length : Int) := of_decide_eq_true az
                      obtain ⟨ad146, e146, hx146_0⟩ := Kd.at_int HR145_0.out x6_5 p146 q146
                      cases e146
                      replace hx146_0 := (HB.out.cell (World.block_lt_of_cell? w _ hx146_0)).trans hx146_0
                      replace p146 := eq_true p146
                      replace q146 := eq_true q146
                      go_wp2
                      go_ret
                      exact ⟨by first | rfl | (simp [errW_none, errW_some] <;> rfl) | (simp [*, errW_none, errW_some] <;> rfl), by repeat (first | (with_reducible first | exact HB.out | apply below_alloc | apply pw_below_drewN | apply below_drew1 | refine below_set ?_ GE137.out) | exact HB.out)⟩
                     ·rw [if_neg c37] at H
                      have c37b0 : decide (1 < (rd (rd_L1 l0_1 x5_3) x6_5)) = false := decide_eq_false c37
                      clear c37
                      have H' := Aside0.mk H
                      clear H
                      have hcz39_0 : wr.cell? ⟨gb137, 0, none⟩ = some (.slice A0_0 l0_0.length c0_0) := (blk_cell BK137.out 0).trans rfl
                      have hcz39_1 : wr.cell? ⟨gb137, 1, none⟩ = some (.slice A0_1 l0_1.length c0_1) := (blk_cell BK137.out 1).trans rfl
                      have hcz39_2 : wr.cell? ⟨gb137, 2, none⟩ = some (.slice A0_2 l0_2.length c0_2) := (blk_cell BK137.out 2).trans rfl
                      have hfz39_0 := blk_frozen BK137.out 0
                      have hfz39_1 := blk_frozen BK137.out 1
                      have hfz39_2 := blk_frozen BK137.out 2
                      have p143 : 0 ≤ (x5_3 : Int) := of_decide_eq_true az
                      have q143 : x5_3 < (l0_1.length : Int) := of_decide_eq_true az
                      obtain ⟨ad143, A143_0, c143_0, e143, hx143_0, hl143_0, hi143_0⟩ := at_L1 HR0_1.out x5_3 p143 q143
                      cases e143
                      replace hx143_0 := (HB.out.cell (World.block_lt_of_cell? w _ hx143_0)).trans hx143_0
                      have HR143_0 := Aside0.mk hi143_0
                      have HC143_0 := Aside0.mk hl143_0
                      clear hi143_0 hl143_0
                      replace p143 := eq_true p143
                      replace q143 := eq_true q143
                      have p144 : 0 ≤ (x6_5 : Int) := of_decide_eq_true az
                      have q144 : x6_5 < ((rd_L1 l0_1 x5_3).length : Int) := of_decide_eq_true az
                      obtain ⟨ad144, e144, hx144_0⟩ := Kd.at_int HR143_0.out x6_5 p144 q144
                      cases e144
                      replace hx144_0 := (HB.out.cell (World.block_lt_of_cell? w _ hx144_0)).trans hx144_0
                      replace p144 := eq_true p144
                      replace q144 := eq_true q144
                      have p145 : 0 ≤ (x5_3 : Int) := of_decide_eq_true az
                      have q145 : x5_3 < (l0_1.length : Int) := of_decide_eq_true az
                      obtain ⟨ad145, A145_0, c145_0, e145, hx145_0, hl145_0, hi145_0⟩ := at_L1 HR0_1.out x5_3 p145 q145
                      obtain rfl : ad143 = ad145 := (by injection e145)
                      replace hx145_0 := (HB.out.cell (World.block_lt_of_cell? w _ hx145_0)).trans hx145_0
                      have HR145_0 := Aside0.mk hi145_0
                      have HC145_0 := Aside0.mk hl145_0
                      clear hi145_0 hl145_0
                      replace p145 := eq_true p145
                      replace q145 := eq_true q145
                      have ea_ := Option.some.inj (hx143_0.symm.trans hx145_0)
                      injection ea_ with ea_ en_ ec_
                      subst ea_
                      subst ec_
                      clear en_
                      have p146 : 0 ≤ (x6_5 : Int) := of_decide_eq_true az
                      have q146 : x6_5 < ((rd_L1 l0_1 x5_3).length : Int) := of_decide_eq_true az
                      obtain ⟨ad146, e146, hx146_0⟩ := Kd.at_int HR145_0.out x6_5 p146 q146
                      cases e146
                      replace hx146_0 := (HB.out.cell (World.block_lt_of_cell? w _ hx146_0)).trans hx146_0
                      replace p146 := eq_true p146
                      replace q146 := eq_true q146
                      go_wp2
                      go_roundg k5
                      case measure => have := HJ1.out; have := HK2.out; have := HK3.out; have := HJ19.out; have := HK5.out; omega
                      case rel => exact ⟨(wrap64 (x6_5 + 1)), (by first | rfl | (simp; done) | (simp [*]; done)), H', ⟨by have := HJ1.out; have := HK2.out; have := HK3.out; have := HJ19.out; have := HK5.out; omega⟩, ⟨by (with_reducible repeat (first | refine blk_drewN ?_ _ | refine blk_drew ?_ | refine blk_alloc ?_ _)); exact BK137.out⟩, ⟨by repeat (first | (with_reducible first | exact HB.out | apply below_alloc | apply pw_below_drewN | apply below_drew1 | refine below_set ?_ GE137.out) | exact HB.out)⟩⟩
                   ·rw [if_neg c34] at H
                    exact absurd H (by simp)
                  ·rw [if_neg c33] at H
                   exact absurd H (by simp)
                 ·rw [if_neg c32] at H
                  exact absurd H (by simp)
                ·rw [if_neg c31] at H
                 exact absurd H (by simp)
               ·rw [if_neg c30] at H
                have c30b0 : decide (x6_5 < (l0_0.length : Int)) = false := decide_eq_false c30
                clear c30
                have H' := Aside0.mk H
                clear H
                go_wp2
                go_roundg k5
                case measure => have := HJ1.out; have := HK2.out; have := HK3.out; have := HJ19.out; have := HK5.out; omega
                case rel => exact ⟨(wrap64 (x5_3 + 1)), (by first | rfl | (simp; done) | (simp [*]; done)), H', ⟨by have := HJ1.out; have := HK2.out; have := HK3.out; have := HJ19.out; have := HK5.out; omega⟩, ⟨by (with_reducible repeat (first | refine blk_drewN ?_ _ | refine blk_drew ?_ | refine blk_alloc ?_ _)); exact BK137.out⟩, ⟨by repeat (first | (with_reducible first | exact HB.out | apply below_alloc | apply pw_below_drewN | apply below_drew1 | refine below_set ?_ GE137.out) | exact HB.out)⟩⟩
         ·rw [if_neg c19] at H
          have c19b0 : decide (x5_3 < (l0_1.length : Int)) = false := decide_eq_false c19
          clear c19
          obtain rfl := Option.some.inj H
          have hcz40_0 : wr.cell? ⟨gb137, 0, none⟩ = some (.slice A0_0 l0_0.length c0_0) := (blk_cell BK137.out 0).trans rfl
          have hcz40_1 : wr.cell? ⟨gb137, 1, none⟩ = some (.slice A0_1 l0_1.length c0_1) := (blk_cell BK137.out 1).trans rfl
          have hcz40_2 : wr.cell? ⟨gb137, 2, none⟩ = some (.slice A0_2 l0_2.length c0_2) := (blk_cell BK137.out 2).trans rfl
          have hfz40_0 := blk_frozen BK137.out 0
          have hfz40_1 := blk_frozen BK137.out 1
          have hfz40_2 := blk_frozen BK137.out 2
          go_wp2
          go_ret
          exact ⟨by first | rfl | (simp [errW_none, errW_some] <;> rfl) | (simp [*, errW_none, errW_some] <;> rfl), by repeat (first | (with_reducible first | exact HB.out | apply below_alloc | apply pw_below_drewN | apply below_drew1 | refine below_set ?_ GE137.out) | exact HB.out)⟩

end Go.Proofs.YtekmiepdodaidaaDoor.X
end

section
/- (trial).divides, by hand: do the tests of a list tell all faults apart? -/
set_option linter.unusedVariables false
set_option linter.unusedSimpArgs false
namespace Go.Proofs.YtekmiepdodaidaaDoor.X
open Go.RowKit Go.Proofs.YtekmiepdodaidaaDoorW.PrintWords Go.Proofs.YtekmiepdodaidaaDoorW.PrintLast Go.Proofs.YtekmiepdodaidaaDoorW.PrintMore
open Go.Maps (Keyed)

theorem keyed3 : Keyed Tryd.prog 3 := Maps.int_keyed Tryd.underlying3
theorem zero4 (w : World) : (zeroValue 4).run Tryd.prog w = .ok (.bool false) w := by kernel_rfl
def ki (s : Int) : Lit := .int .i64 s
theorem ki_of {s : Int} (h : 0 ≤ s ∧ s ≤ 1000000) : keyOf Tryd.prog 3 (.int .i64 s) = some (ki s) := Maps.keyOf_int_mk Tryd.underlying3 (WalkArith.wf_i64 (by omega))
theorem ki_inj {s u : Int} (h : ki s = ki u) : s = u := by unfold ki at h; injection h
/-- The results of a fault in the tests of a list, as one number. -/
def resB (ones : List Int) (f : Nat) : List Int → Nat → Nat
 | [], r => r
 | k :: l, r => resB ones f l (2 * r + (if hasB (rd ones k) f = true then 1 else 0))
/-- No two of the first m faults have the same results. -/
def apartB (ones : List Int) (l : List Int) (m : Nat) : Bool := decide (((List.range m).map fun f => resB ones f l 0).Nodup)
theorem resB_lt (ones : List Int) (f : Nat) : ∀ (l : List Int) (r n : Nat), r < 2 ^ n → resB ones f l r < 2 ^ (n + l.length)
 | [], r, n, h => by simpa [resB] using h
 | k :: l, r, n, h => by
  have := resB_lt ones f l (2 * r + (if hasB (rd ones k) f = true then 1 else 0)) (n + 1) (by rw [Nat.pow_succ]; split <;> omega)
  rw [List.length_cons, show n + (l.length + 1) = n + 1 + l.length by omega]
  exact this
theorem resB_snoc (ones : List Int) (f : Nat) : ∀ (l : List Int) (k : Int) (r : Nat), resB ones f (l ++ [k]) r = 2 * resB ones f l r + (if hasB (rd ones k) f = true then 1 else 0)
 | [], k, r => rfl
 | x :: l, k, r => by
  show resB ones f (l ++ [k]) _ = _
  rw [resB_snoc ones f l k]; rfl
theorem apartB_zero (ones l : List Int) : apartB ones l 0 = true := rfl
theorem apartB_snoc (ones l : List Int) (m : Nat) : apartB ones l (m + 1) = (apartB ones l m && decide (∀ f, f < m → resB ones f l 0 ≠ resB ones m l 0)) := by
 unfold apartB
 rw [List.range_succ, List.map_append, List.map_cons, List.map_nil]
 rw [Bool.eq_iff_iff]
 simp only [Bool.and_eq_true, decide_eq_true_eq, List.nodup_append, List.mem_map, List.mem_range, List.mem_singleton]
 constructor
 ·rintro ⟨h1, _, h3⟩
  exact ⟨h1, fun f hf e => h3 _ ⟨f, hf, rfl⟩ _ rfl e⟩
 ·rintro ⟨h1, h2⟩
  refine ⟨h1, by simp, ?_⟩
  rintro x ⟨f, hf, rfl⟩ y rfl
  exact h2 f hf
theorem apartB_le (ones l : List Int) {m n : Nat} (h : m ≤ n) (hf : apartB ones l m = false) : apartB ones l n = false := by
 obtain ⟨d, rfl⟩ : ∃ d, n = m + d := ⟨n - m, by omega⟩
 clear h
 induction d with
 | zero => exact hf
 | succ d ih => rw [show m + (d + 1) = (m + d) + 1 by omega, apartB_snoc, ih]; rfl
theorem or_step (x : Int) (hx : SetB x) (r f : Nat) (hr : r < 4096) (hf : f < 10) : Go.bits .or .i64 (wrap64 ((r : Int) * 2)) (wrap64 (Go.bits .and .u64 (x / 2 ^ f) 1)) = ((2 * r + (if hasB x f = true then 1 else 0) : Nat) : Int) := by
 unfold SetB at hx
 obtain ⟨v, rfl⟩ : ∃ v : Nat, x = v := ⟨x.toNat, by omega⟩
 rw [hasB_nat v f (by omega), Nat.testBit_eq_decide_div_mod_eq]
 have hq : (v : Int) / 2 ^ f = ((v / 2 ^ f : Nat) : Int) := by simp
 have hle : v / 2 ^ f ≤ v := Nat.div_le_self _ _
 rw [hq]
 generalize v / 2 ^ f = q at hle ⊢
 clear hq
 rw [u64_and (q : Int) 1 (by omega) (by omega) (by omega) (by omega)]
 simp only [Int.toNat_natCast, Int.toNat_one]
 rw [Nat.and_one_is_mod]
 have e1 : wrap64 ((r : Int) * 2) = ((2 * r : Nat) : Int) := by unfold wrap64; omega
 have e2 : wrap64 ((q % 2 : Nat) : Int) = ((q % 2 : Nat) : Int) := by unfold wrap64; omega
 rw [e1, e2, (bits_nat .i64 20 (by decide) (fun n h0 h1 => by rw [IntKind.wrap_i64]; omega) (2 * r) (q % 2) (by omega) (by omega)).2]
 have h2 := Nat.two_pow_add_eq_or_of_lt (b := q % 2) (i := 1) (by omega) r
 rw [Nat.pow_one] at h2
 rw [← h2]
 by_cases h1 : q % 2 = 1
 ·simp [h1]
 ·have h0 : q % 2 = 0 := by omega
  simp [h0]
/-- The map of what was seen, when f faults are done. -/
structure SeenAt (ones l : List Int) (w w' : World) (B f : Nat) : Prop where mk ::
 ex : ∃ g, MapIs Tryd.prog 3 w' B f g ∧ (∀ r : Nat, r < 4096 → (g (ki r) = some (.bool true) ∨ g (ki r) = none) ∧ (g (ki r) = some (.bool true) ↔ ∃ f', f' < f ∧ resB ones f' l 0 = r)) ∧ Below w.heap.size w w' ∧ w.heap.size ≤ B
theorem seen_next {ones l : List Int} {w w1 : World} {B f r : Nat} {g : KMap} (hm : MapIs Tryd.prog 3 w1 B (f + 1) (g.put (ki r) (.bool true))) (hg : ∀ r : Nat, r < 4096 → (g (ki r) = some (.bool true) ∨ g (ki r) = none) ∧ (g (ki r) = some (.bool true) ↔ ∃ f', f' < f ∧ resB ones f' l 0 = r)) (hr : resB ones f l 0 = r) (hb : Below w.heap.size w w1) (hB : w.heap.size ≤ B) : SeenAt ones l w w1 B (f + 1) := by
 refine ⟨⟨_, hm, fun q hq => ?_, hb, hB⟩⟩
 by_cases e : q = r
 ·subst e
  have hp : g.put (ki q) (.bool true) (ki q) = some (.bool true) := KMap.put_same g (show WideAt.IsKeyLit (ki q) from trivial) _
  exact ⟨.inl hp, fun _ => ⟨f, Nat.lt_succ_self _, hr⟩, fun _ => hp⟩
 ·have hp : g.put (ki r) (.bool true) (ki q) = g (ki q) := KMap.put_other g (fun h => e (by have := ki_inj h; omega)) _
  rw [hp]
  refine ⟨(hg q hq).1, ?_⟩
  rw [(hg q hq).2]
  constructor
  ·rintro ⟨f', h1, h2⟩; exact ⟨f', by omega, h2⟩
  ·rintro ⟨f', h1, h2⟩
   by_cases ef : f' = f
   ·subst ef; exact absurd (h2.symm.trans hr) (fun h => e h)
   ·exact ⟨f', by omega, h2⟩
set_option maxHeartbeats 8000000 in
set_option maxRecDepth 100000 in
theorem divides_n {A0 : Option Addr} {c0 : Nat} {a : List Int} {A1 : Option Addr} {c1 : Nat} {b : List (List Int)} {A2 : Option Addr} {c2 : Nat} {c : List Int} {w : World} (h : CaseAt w A0 c0 a A1 c1 b A2 c2 c) (ha : a.length ≤ 10) (A3 : Option Addr) (c3 : Nat) (ones : List Int) (al : Int)
  (r3 : Kd.C (Kd.int .u64) w A3 ones.length ones) (n3 : ones.length ≤ c3) (ho : ∀ x ∈ ones, SetB x) (AL : Option Addr) (cl : Nat) (l : List Int) (rl : Kd.C (Kd.int .i64) w AL l.length l) (hl : l.length ≤ 12) (hk : ∀ k ∈ l, 0 ≤ k ∧ k < ones.length) :
  Calls Tryd.prog 53 #[.agg #[.slice A0 a.length c0, .slice A1 b.length c1, .slice A2 c.length c2, .slice A3 ones.length c3, .int .u64 al], .slice AL l.length cl] w fun e w' => e = .returned (.bool (apartB ones l a.length)) ∧ Below w.heap.size w w' := by
 have H := Aside0.mk h
 have R3 := Aside0.mk r3
 have HO := Aside0.mk ho
 have RL := Aside0.mk rl
 have HK := Aside0.mk hk
 have hm3 := Kd.C_max r3
 have hml := Kd.C_max rl
 have hmm := @run_makeMap Tryd.prog
 clear h r3 ho rl hk
 go_enter Tryd.func53, Tryd.ntmps53
 go_wp2
 go_loopg [15] a.length (fun kq v15 w' => ∃ f : Nat, v15 = .int .i64 f ∧ Aside0 (kq + f = a.length) ∧ Aside0 (apartB ones l f = true) ∧ Aside0 (SeenAt ones l (w.alloc (.cells #[.slice A0 a.length c0, .slice A1 b.length c1, .slice A2 c.length c2, .slice A3 ones.length c3, .int .u64 al] 77 (0, 0))) w' (w.heap.size + 1) f))
 case atStart =>
  refine ⟨0, rfl, ⟨by omega⟩, ⟨apartB_zero ones l⟩, ⟨⟨⟨KMap.empty, ?_, fun r _ => ⟨.inr rfl, ⟨fun h => (by cases h), fun ⟨_, h, _⟩ => absurd h (Nat.not_lt_zero _)⟩⟩, below_alloc (Below.refl _ _) _, (by rw [size_alloc']; omega)⟩⟩⟩⟩
  have := MapIs.made (w.alloc (.cells #[.slice A0 a.length c0, .slice A1 b.length c1, .slice A2 c.length c2, .slice A3 ones.length c3, .int .u64 al] 77 (0, 0))) Tryd.prog 3
  rwa [size_alloc'] at this
 case round =>
  obtain ⟨f, rfl, HKQ, HAP, HSE⟩ := hrel
  obtain ⟨k1, rfl⟩ : ∃ k1, k1 = gk := ⟨_, rfl⟩
  by_cases hf : f < a.length
  ·have hbx : wr.heap[w.heap.size]? = some (.cells #[.slice A0 a.length c0, .slice A1 b.length c1, .slice A2 c.length c2, .slice A3 ones.length c3, .int .u64 al] 77 (0, 0)) := by
    obtain ⟨g, _, _, hb, _⟩ := HSE.out.ex
    exact blk_below (blk_new w _) hb
   have HBX := Aside0.mk hbx
   have hcz : wr.cell? ⟨w.heap.size, 3, none⟩ = some (.slice A3 ones.length c3) := (blk_cell hbx 3).trans rfl
   have R3W := Aside0.mk (show Kd.C (Kd.int .u64) wr A3 ones.length ones by obtain ⟨g, _, _, hb, _⟩ := HSE.out.ex; exact Kd.C_below (Kd.C_alloc R3.out _) hb)
   have RLW := Aside0.mk (show Kd.C (Kd.int .i64) wr AL l.length l by obtain ⟨g, _, _, hb, _⟩ := HSE.out.ex; exact Kd.C_below (Kd.C_alloc RL.out _) hb)
   clear hbx
   go_upto_region 7 with (fail)
   go_loopg [20, 7] l.length (fun kq v20 v7 w' => ∃ j r : Nat, v20 = .int .i64 j ∧ v7 = .int .i64 r ∧ w' = wr ∧ Aside0 (kq + j = l.length) ∧ Aside0 (resB ones f (l.take j) 0 = r))
   case atStart => exact ⟨0, 0, rfl, rfl, rfl, ⟨by omega⟩, ⟨rfl⟩⟩
   case round =>
    obtain ⟨j, r, rfl, rfl, rfl, HJ, HR⟩ := hrel
    obtain ⟨k2, rfl⟩ : ∃ k2, k2 = gk := ⟨_, rfl⟩
    by_cases hj : j < l.length
    ·obtain ⟨adl, e1, hx⟩ := Kd.at_int RLW.out (j : Int) (by omega) (by omega)
     cases e1
     simp only [Int.toNat_natCast] at hx
     have hmem : rd l (j : Int) ∈ l := by simp [rd, List.getD_eq_getElem?_getD, List.getElem?_eq_getElem hj]
     obtain ⟨hk0, hk1⟩ := HK.out _ hmem
     obtain ⟨kn, hkn⟩ : ∃ kn : Nat, rd l (j : Int) = kn := ⟨(rd l (j : Int)).toNat, by omega⟩
     have HKN := Aside0.mk hkn
     rw [hkn] at hx hk1
     clear hmem hk0 hkn
     have hkn' : kn < ones.length := by omega
     obtain ⟨ad3, e3, hx3⟩ := Kd.at_int R3W.out (kn : Int) (by omega) (by omega)
     cases e3
     simp only [Int.toNat_natCast] at hx3
     obtain ⟨x, hxn⟩ : ∃ x, rd ones (kn : Int) = x := ⟨_, rfl⟩
     rw [hxn] at hx3
     have hSX : SetB x := by
      rw [← hxn]; refine HO.out _ ?_
      simp only [rd, Int.toNat_natCast, List.getD_eq_getElem?_getD, List.getElem?_eq_getElem hkn', Option.getD_some]; exact List.getElem_mem hkn'
     have hlt : (l.take j).length = j := by rw [List.length_take]; omega
     have hr4 : r < 4096 := by
      have h1 := resB_lt ones f (l.take j) 0 0 (by simp)
      rw [HR.out, hlt, Nat.zero_add] at h1
      have h2 : 2 ^ j ≤ 2 ^ 11 := Nat.pow_le_pow_right (by omega) (by omega)
      omega
     have HST := Aside0.mk (or_step x hSX r f hr4 (by omega))
     have hts : l.take (j + 1) = l.take j ++ [rd l (j : Int)] := by
      rw [List.take_succ_eq_append_getElem hj]; simp [rd, List.getD_eq_getElem?_getD, List.getElem?_eq_getElem hj]
     have HR2 := Aside0.mk (show resB ones f (l.take (j + 1)) 0 = 2 * r + (if hasB x f = true then 1 else 0) by rw [hts, resB_snoc, HR.out, HKN.out, hxn])
     clear hSX hlt hr4 hts hxn
     go_wp2
     go_roundg (k2 - 1)
     case measure => have := HJ.out; omega
     case rel => exact ⟨j + 1, 2 * r + (if hasB x f = true then 1 else 0), by go_num, by rw [HST.out], rfl, ⟨by have := HJ.out; omega⟩, HR2⟩
    ·obtain rfl : j = l.length := by have := HJ.out; omega
     have hR := HR.out
     rw [List.take_length] at hR
     have HRR := Aside0.mk hR
     have hr4 : r < 4096 := by
      have h1 := resB_lt ones f l 0 0 (by simp)
      rw [hR, Nat.zero_add] at h1
      have h2 : 2 ^ l.length ≤ 2 ^ 12 := Nat.pow_le_pow_right (by omega) (by omega)
      omega
     obtain ⟨g, hmp, hg, hb, hB⟩ := HSE.out.ex
     have HMP := Aside0.mk hmp
     have HG := Aside0.mk hg
     have HBL := Aside0.mk hb
     have HBB := Aside0.mk hB
     obtain ⟨hg1, hg2⟩ := hg r hr4
     have HG2 := Aside0.mk hg2
     have hlook := hmp.look (t := 102) (e := 4) keyed3 Tryd.underlying102 (zero4 _) (ki_of (s := (r : Int)) (by omega))
     have HKY := Aside0.mk (ki_of (s := (r : Int)) (by omega))
     have hfl : f < maxLen := by unfold maxLen; omega
     clear hR hmp hg hb hB hg2 hj
     rcases hg1 with hg1 | hg1
     ·rw [hg1] at hlook
      simp only [Option.getD_some] at hlook
      have hno : apartB ones l a.length = false := by
       obtain ⟨f', hf', he⟩ := HG2.out.1 hg1
       refine apartB_le ones l (show f + 1 ≤ a.length by omega) ?_
       rw [apartB_snoc, decide_eq_false (fun h => h f' hf' (by rw [he, HRR.out])), Bool.and_false]
      have HNO := Aside0.mk hno
      clear hg1 hno
      go_wp2
      go_ret
      exact ⟨by rw [HNO.out]; rfl, below_step (below_alloc (Below.refl _ _) _) HBL.out⟩
     ·rw [hg1] at hlook
      simp only [Option.getD_none] at hlook
      have hnew : ∀ f', f' < f → resB ones f' l 0 ≠ r := fun f' hf' he => by
       have := HG2.out.2 ⟨f', hf', he⟩
       rw [hg1] at this; cases this
      have hap : apartB ones l (f + 1) = true := by rw [apartB_snoc, HAP.out, Bool.true_and]; exact decide_eq_true (fun f' hf' e => hnew f' hf' (e.trans HRR.out))
      have HAP2 := Aside0.mk hap
      clear hg1 hnew hap
      go_wp2_with (at_mapUpdate; refine wpList_put_is _ rfl _ _ _ 102 rfl 3 4 keyed3 Tryd.underlying102 (w.heap.size + 1) f g rfl HMP.out hfl (.int .i64 r) _ (ki r) rfl rfl HKY.out ?_; intro w1 hown1 hgrow1; have HO1 := Aside0.mk hown1; have HG1 := Aside0.mk hgrow1; clear hown1 hgrow1)
      go_roundg (k1 - 1)
      case measure => have := HKQ.out; omega
      case rel => exact ⟨f + 1, by go_num, ⟨by have := HKQ.out; omega⟩, HAP2, ⟨seen_next HO1.out HG.out HRR.out (HBL.out.grown HG1.out HBL.out.size (fun k e => by injection e with e; subst e; exact HBB.out)) HBB.out⟩⟩
  ·obtain rfl : f = a.length := by have := HKQ.out; omega
   have HBL := Aside0.mk (show Below w.heap.size w wr by obtain ⟨g, _, _, hb, _⟩ := HSE.out.ex; exact below_step (below_alloc (Below.refl _ _) _) hb)
   go_wp2
   go_ret
   exact ⟨by rw [HAP.out]; rfl, HBL.out⟩
end Go.Proofs.YtekmiepdodaidaaDoor.X
end

section
namespace Go.Proofs.YtekmiepdodaidaaDoor.X
open Go.RowKit Go.Proofs.YtekmiepdodaidaaDoorW.PrintWords Go.Proofs.YtekmiepdodaidaaDoorW.PrintLast Go.Proofs.YtekmiepdodaidaaDoorW.PrintMore
attribute [local go_sem] max2_int min2_int max_two min_two max_three min_three max_four min_four   -- for this text's walks alone
set_option linter.unusedVariables false
set_option linter.unusedSimpArgs false

def cmp_Or_int.l0 : Nat → Int → List Int → Int → Int → Option (Int)
 | 0, _, _, _, _ => none
 | k + 1, x3, x6, x7, x8 => if x8 < x7 then (if 0 ≤ x8 then (if x8 < (x6.length : Int) then (if (rd x6 x8) = x3 then (cmp_Or_int.l0 k x3 x6 x7 (wrap64 (x8 + 1))) else (some (rd x6 x8))) else (none)) else (none)) else (some x3)
def cmp_Or_int.f (k : Nat) (l0 : List Int) : Option (Int) := cmp_Or_int.l0 k 0 l0 (l0.length : Int) 0
set_option maxHeartbeats 8000000 in
set_option maxRecDepth 100000 in
theorem cmp_Or_int.calls (k : Nat) (A0 : Option Addr) (c0 : Nat) (l0 : List Int) (r : Int) (w : World) (hr0 : Kd.C (Kd.int .i64) w A0 l0.length l0) (hc0 : l0.length ≤ c0) (h : cmp_Or_int.f k l0 = some r) :
  Calls Tryd.prog 54 #[.slice A0 l0.length c0] w fun e w' => e = .returned (.int .i64 r) ∧ Drawn0 w w' := by
 have HR0 := Aside0.mk hr0
 have HC0 := Aside0.mk hc0
 clear hr0 hc0
 have H : (cmp_Or_int.l0 k 0 l0 (l0.length : Int) 0) = some r := h
 clear h
 have H' := Aside0.mk H
 clear H
 go_enter Tryd.func54, Tryd.ntmps54
 go_wp2
 go_loopg [8] k (fun kq v8 w' => ∃ (x8_1 : Int), v8 = .int .i64 x8_1 ∧ Aside0 (cmp_Or_int.l0 kq 0 l0 (l0.length : Int) x8_1 = some r) ∧ Aside0 (kq ≤ k) ∧ Drawn0 w w')
 case atStart => exact ⟨(0), (by first | rfl | (simp; done) | (simp [*]; done)), H', ⟨Nat.le_refl _⟩, by repeat (first | exact Drawn0.refl _ | apply Drawn0.step)⟩
 case round =>
  clear H'
  obtain ⟨x8_1, rfl, HA, HK1, ⟨m1, rfl⟩⟩ := hrel
  cases gk with
  | zero => exact absurd HA.out (by simp [cmp_Or_int.l0])
  | succ k1 =>
   have H := HA.out
   clear HA
   simp only [cmp_Or_int.l0] at H
   by_cases c2 : x8_1 < (l0.length : Int)
   ·rw [if_pos c2] at H
    have c2b0 : decide (x8_1 < (l0.length : Int)) = true := decide_eq_true c2
    clear c2
    by_cases c3 : 0 ≤ x8_1
    ·rw [if_pos c3] at H
     have c3b0 : decide (0 ≤ x8_1) = true := decide_eq_true c3
     clear c3
     by_cases c4 : x8_1 < (l0.length : Int)
     ·rw [if_pos c4] at H
      have c4b0 : decide (x8_1 < (l0.length : Int)) = true := decide_eq_true c4
      clear c4
      by_cases c5 : (rd l0 x8_1) = 0
      ·rw [if_pos c5] at H
       have c5b0 : ((rd l0 x8_1) == 0) = true := beq_iff_eq.mpr c5
       have c5b1 : ((rd l0 x8_1) != 0) = false := bne_eq_false_iff_eq.mpr c5
       clear c5
       have H' := Aside0.mk H
       clear H
       have p168 : 0 ≤ (x8_1 : Int) := of_decide_eq_true az
       have q168 : x8_1 < (l0.length : Int) := of_decide_eq_true az
       obtain ⟨ad168, e168, hx168_0⟩ := Kd.at_int HR0.out x8_1 p168 q168
       cases e168
       replace p168 := eq_true p168
       replace q168 := eq_true q168
       go_wp2
       go_roundg k1
       case measure => have := HK1.out; omega
       case rel => exact ⟨(wrap64 (x8_1 + 1)), (by first | rfl | (simp; done) | (simp [*]; done)), H', ⟨by have := HK1.out; omega⟩, by repeat (first | exact Drawn0.refl _ | apply Drawn0.step)⟩
      ·rw [if_neg c5] at H
       have c5b0 : ((rd l0 x8_1) == 0) = false := beq_eq_false_iff_ne.mpr c5
       have c5b1 : ((rd l0 x8_1) != 0) = true := bne_iff_ne.mpr c5
       obtain rfl := Option.some.inj H
       have p168 : 0 ≤ (x8_1 : Int) := of_decide_eq_true az
       have q168 : x8_1 < (l0.length : Int) := of_decide_eq_true az
       obtain ⟨ad168, e168, hx168_0⟩ := Kd.at_int HR0.out x8_1 p168 q168
       cases e168
       replace p168 := eq_true p168
       replace q168 := eq_true q168
       go_wp2
       go_ret
       exact ⟨by first | rfl | (simp; done) | (simp [*]; done), by repeat (first | exact Drawn0.refl _ | apply Drawn0.step)⟩
     ·rw [if_neg c4] at H
      exact absurd H (by simp)
    ·rw [if_neg c3] at H
     exact absurd H (by simp)
   ·rw [if_neg c2] at H
    have c2b0 : decide (x8_1 < (l0.length : Int)) = false := decide_eq_false c2
    clear c2
    obtain rfl := Option.some.inj H
    go_wp2
    go_ret
    exact ⟨by first | rfl | (simp; done) | (simp [*]; done), by repeat (first | exact Drawn0.refl _ | apply Drawn0.step)⟩

end Go.Proofs.YtekmiepdodaidaaDoor.X
end

section
namespace Go.Proofs.YtekmiepdodaidaaDoor.X
open Go.RowKit Go.Proofs.YtekmiepdodaidaaDoorW.PrintWords Go.Proofs.YtekmiepdodaidaaDoorW.PrintLast Go.Proofs.YtekmiepdodaidaaDoorW.PrintMore
attribute [local go_sem] max2_int min2_int max_two min_two max_three min_three max_four min_four   -- for this text's walks alone
set_option linter.unusedVariables false
set_option linter.unusedSimpArgs false

def cmp_isNaN_int.f (a0 : Int) : Option (Bool) := some (a0 != a0)
set_option maxHeartbeats 8000000 in
set_option maxRecDepth 100000 in
theorem cmp_isNaN_int.calls (a0 : Int) (r : Bool) (w : World) (h : cmp_isNaN_int.f a0 = some r) :
  Calls Tryd.prog 71 #[.int .i64 a0] w fun e w' => e = .returned (.bool r) ∧ Drawn0 w w' := by
 have H : (some (a0 != a0)) = some r := h
 clear h
 obtain rfl := Option.some.inj H
 go_enter Tryd.func71, Tryd.ntmps71
 go_wp2
 go_ret
 exact ⟨by first | rfl | (simp; done) | (simp [*]; done), by repeat (first | exact Drawn0.refl _ | apply Drawn0.step)⟩

end Go.Proofs.YtekmiepdodaidaaDoor.X
end

section
namespace Go.Proofs.YtekmiepdodaidaaDoor.X
open Go.RowKit Go.Proofs.YtekmiepdodaidaaDoorW.PrintWords Go.Proofs.YtekmiepdodaidaaDoorW.PrintLast Go.Proofs.YtekmiepdodaidaaDoorW.PrintMore
attribute [local go_sem] max2_int min2_int max_two min_two max_three min_three max_four min_four   -- for this text's walks alone
set_option linter.unusedVariables false
set_option linter.unusedSimpArgs false

def cmp_Compare_int.f (a0 : Int) (a1 : Int) : Option (Int) := (cmp_isNaN_int.f a0).bind fun t169 => ((cmp_isNaN_int.f a1).bind fun t170 => (if t169 = true then (if t170 = true then (some 0) else (some (-1))) else (if t170 = true then (some 1) else (if a0 < a1 then (some (-1)) else (if a0 > a1 then (some 1) else (some 0))))))
set_option maxHeartbeats 8000000 in
set_option maxRecDepth 100000 in
theorem cmp_Compare_int.calls (a0 : Int) (a1 : Int) (r : Int) (w : World) (h : cmp_Compare_int.f a0 a1 = some r) :
  Calls Tryd.prog 55 #[.int .i64 a0, .int .i64 a1] w fun e w' => e = .returned (.int .i64 r) ∧ Drawn0 w w' := by
 have H : ((cmp_isNaN_int.f a0).bind fun t169 => ((cmp_isNaN_int.f a1).bind fun t170 => (if t169 = true then (if t170 = true then (some 0) else (some (-1))) else (if t170 = true then (some 1) else (if a0 < a1 then (some (-1)) else (if a0 > a1 then (some 1) else (some 0))))))) = some r := h
 clear h
 replace H := Option.bind_eq_some_iff.mp H
 obtain ⟨t169, A30, H⟩ := H
 replace H : ((cmp_isNaN_int.f a1).bind fun t170 => (if t169 = true then (if t170 = true then (some 0) else (some (-1))) else (if t170 = true then (some 1) else (if a0 < a1 then (some (-1)) else (if a0 > a1 then (some 1) else (some 0)))))) = some r := H
 have A3 := Aside0.mk A30
 clear A30
 replace H := Option.bind_eq_some_iff.mp H
 obtain ⟨t170, A40, H⟩ := H
 replace H : (if t169 = true then (if t170 = true then (some 0) else (some (-1))) else (if t170 = true then (some 1) else (if a0 < a1 then (some (-1)) else (if a0 > a1 then (some 1) else (some 0))))) = some r := H
 have A4 := Aside0.mk A40
 clear A40
 by_cases c5 : t169 = true
 ·subst c5
  have H1 : (if t170 = true then (some 0) else (some (-1))) = some r := by rw [if_pos rfl] at H; exact H
  clear H
  have H := H1
  clear H1
  go_enter Tryd.func55, Tryd.ntmps55
  go_wp2_with (first | ((with_reducible refine gate_callee (f := 71) rfl ?_); refine goesL_ (some 8) rfl rfl Tryd.func71 (by kernel_rfl) rfl #[.int .i64 a0] rfl dz ?_; (with_reducible refine (cmp_isNaN_int.calls a0 true _ A3.out).mono ?_); rintro e w' ⟨rfl, ⟨nd, rfl⟩⟩; refine ⟨_, rfl, ?_⟩; refine hold_ ?_; intro P_ hP_))
  refine hP_.out ?_
  clear hP_ P_
  by_cases c6 : t170 = true
  ·subst c6
   have H1 : (some 0) = some r := by rw [if_pos rfl] at H; exact H
   clear H
   have H := H1
   clear H1
   obtain rfl := Option.some.inj H
   go_wp2_with (first | ((with_reducible refine gate_callee (f := 71) rfl ?_); refine goesL_ (some 10) rfl rfl Tryd.func71 (by kernel_rfl) rfl #[.int .i64 a1] rfl dz ?_; (with_reducible refine (cmp_isNaN_int.calls a1 true _ A4.out).mono ?_); rintro e w' ⟨rfl, ⟨nd, rfl⟩⟩; refine ⟨_, rfl, ?_⟩))
   go_ret
   exact ⟨by first | rfl | (simp; done) | (simp [*]; done), by repeat (first | exact Drawn0.refl _ | apply Drawn0.step)⟩
  ·replace c6 := Bool.eq_false_iff.mpr c6
   subst c6
   have H1 : (some (-1)) = some r := by rw [if_neg (show ¬ (false = true) by decide)] at H; exact H
   clear H
   have H := H1
   clear H1
   obtain rfl := Option.some.inj H
   go_wp2_with (first | ((with_reducible refine gate_callee (f := 71) rfl ?_); refine goesL_ (some 10) rfl rfl Tryd.func71 (by kernel_rfl) rfl #[.int .i64 a1] rfl dz ?_; (with_reducible refine (cmp_isNaN_int.calls a1 false _ A4.out).mono ?_); rintro e w' ⟨rfl, ⟨nd, rfl⟩⟩; refine ⟨_, rfl, ?_⟩))
   go_ret
   exact ⟨by first | rfl | (simp; done) | (simp [*]; done), by repeat (first | exact Drawn0.refl _ | apply Drawn0.step)⟩
 ·replace c5 := Bool.eq_false_iff.mpr c5
  subst c5
  have H1 : (if t170 = true then (some 1) else (if a0 < a1 then (some (-1)) else (if a0 > a1 then (some 1) else (some 0)))) = some r := by rw [if_neg (show ¬ (false = true) by decide)] at H; exact H
  clear H
  have H := H1
  clear H1
  go_enter Tryd.func55, Tryd.ntmps55
  go_wp2_with (first | ((with_reducible refine gate_callee (f := 71) rfl ?_); refine goesL_ (some 8) rfl rfl Tryd.func71 (by kernel_rfl) rfl #[.int .i64 a0] rfl dz ?_; (with_reducible refine (cmp_isNaN_int.calls a0 false _ A3.out).mono ?_); rintro e w' ⟨rfl, ⟨nd, rfl⟩⟩; refine ⟨_, rfl, ?_⟩; refine hold_ ?_; intro P_ hP_))
  refine hP_.out ?_
  clear hP_ P_
  by_cases c7 : t170 = true
  ·subst c7
   have H1 : (some 1) = some r := by rw [if_pos rfl] at H; exact H
   clear H
   have H := H1
   clear H1
   obtain rfl := Option.some.inj H
   go_wp2_with (first | ((with_reducible refine gate_callee (f := 71) rfl ?_); refine goesL_ (some 10) rfl rfl Tryd.func71 (by kernel_rfl) rfl #[.int .i64 a1] rfl dz ?_; (with_reducible refine (cmp_isNaN_int.calls a1 true _ A4.out).mono ?_); rintro e w' ⟨rfl, ⟨nd, rfl⟩⟩; refine ⟨_, rfl, ?_⟩))
   go_ret
   exact ⟨by first | rfl | (simp; done) | (simp [*]; done), by repeat (first | exact Drawn0.refl _ | apply Drawn0.step)⟩
  ·replace c7 := Bool.eq_false_iff.mpr c7
   subst c7
   have H1 : (if a0 < a1 then (some (-1)) else (if a0 > a1 then (some 1) else (some 0))) = some r := by rw [if_neg (show ¬ (false = true) by decide)] at H; exact H
   clear H
   have H := H1
   clear H1
   go_wp2_with (first | ((with_reducible refine gate_callee (f := 71) rfl ?_); refine goesL_ (some 10) rfl rfl Tryd.func71 (by kernel_rfl) rfl #[.int .i64 a1] rfl dz ?_; (with_reducible refine (cmp_isNaN_int.calls a1 false _ A4.out).mono ?_); rintro e w' ⟨rfl, ⟨nd, rfl⟩⟩; refine ⟨_, rfl, ?_⟩; refine hold_ ?_; intro P_ hP_))
   refine hP_.out ?_
   clear hP_ P_
   by_cases c8 : a0 < a1
   ·rw [if_pos c8] at H
    have c8b0 : decide (a0 < a1) = true := decide_eq_true c8
    clear c8
    obtain rfl := Option.some.inj H
    go_wp2_with fail
    go_ret
    exact ⟨by first | rfl | (simp; done) | (simp [*]; done), by repeat (first | exact Drawn0.refl _ | apply Drawn0.step)⟩
   ·rw [if_neg c8] at H
    have c8b0 : decide (a0 < a1) = false := decide_eq_false c8
    clear c8
    by_cases c9 : a0 > a1
    ·rw [if_pos c9] at H
     have c9b0 : decide (a1 < a0) = true := decide_eq_true c9
     clear c9
     obtain rfl := Option.some.inj H
     go_wp2_with fail
     go_ret
     exact ⟨by first | rfl | (simp; done) | (simp [*]; done), by repeat (first | exact Drawn0.refl _ | apply Drawn0.step)⟩
    ·rw [if_neg c9] at H
     have c9b0 : decide (a1 < a0) = false := decide_eq_false c9
     clear c9
     obtain rfl := Option.some.inj H
     go_wp2_with fail
     go_ret
     exact ⟨by first | rfl | (simp; done) | (simp [*]; done), by repeat (first | exact Drawn0.refl _ | apply Drawn0.step)⟩

end Go.Proofs.YtekmiepdodaidaaDoor.X
end
