/- Texts behind TestsMore, part 21: contracts of the program's functions and the plain words for them. -/
import Derived.Test.YtekmiepdodaidaaDoorTpas
import Derived.Test.YtekmiepdodaidaaDoorTpat
section
namespace Go.Proofs.YtekmiepdodaidaaDoor.X
open Go.RowKit Go.Proofs.YtekmiepdodaidaaDoorW.PrintWords Go.Proofs.YtekmiepdodaidaaDoorW.PrintLast Go.Proofs.YtekmiepdodaidaaDoorW.PrintMore
attribute [local go_sem] max2_int min2_int max_two min_two max_three min_three max_four min_four   -- for this text's walks alone
set_option linter.unusedVariables false
set_option linter.unusedSimpArgs false

theorem info75t : (Tryd.prog.info? 75).map (fun i => (i.zero, i.size, i.bytes)) = some (some (.int .u64 0), 1, 8) := by kernel_rfl
/-- What newTrial hands back of its case: the case's own slices, or none. -/
def TrialRes (r : Int) (v0 v1 v2 p0 p1 p2 : Value) : Prop := (r = 0 ∧ v0 = p0 ∧ v1 = p1 ∧ v2 = p2) ∨ (r = 2 ∧ v0 = .slice none 0 0 ∧ v1 = .slice none 0 0 ∧ v2 = .slice none 0 0)
mutual
def tests_newTrialA.j0 : Nat → Int → Bool → List Int → List (List Int) → List Int → Option (List Int × (List (List Int)) × List Int × List Int × Int × Int)
 | 0, _, _, _, _, _ => none
 | k + 1, x4, x31, x130000, x130001, x130002 => if x31 = true then (some (([] : List Int), ([] : List (List Int)), ([] : List Int), ([] : List Int), 0, 2)) else ((tests_newTrial_1.f x130000).bind fun t132 => (if t132 = true then (tests_newTrialA.j1 k x4 true x130000 x130001 x130002) else ((tests_newTrial_2.f x130002).bind fun t133 => (tests_newTrialA.j1 k x4 t133 x130000 x130001 x130002))))
def tests_newTrialA.j1 : Nat → Int → Bool → List Int → List (List Int) → List Int → Option (List Int × (List (List Int)) × List Int × List Int × Int × Int)
 | 0, _, _, _, _, _ => none
 | k + 1, x4, x40, x130000, x130001, x130002 => if x40 = true then (some (([] : List Int), ([] : List (List Int)), ([] : List Int), ([] : List Int), 0, 2)) else (if 0 ≤ x4 then (tests_newTrialA.l0 k x4 x130001 (x130001.length : Int) 0 ([] : List Int) (IntKind.u64.wrap ((shl .u64 1 x4) - 1))) else (none))
def tests_newTrialA.l0 : Nat → Int → List (List Int) → Int → Int → List Int → Int → Option (List Int × (List (List Int)) × List Int × List Int × Int × Int)
 | 0, _, _, _, _, _, _ => none
 | k + 1, x4, x48, x49, x50, x135003, x135004 => if x50 < x49 then (if 0 ≤ x50 then (if x50 < (x48.length : Int) then (if ((rd_L1 x48 x50).length : Int) = x4 then ((tests_newTrial_3.f (rd_L1 x48 x50)).bind fun t136 => (tests_newTrialA.j3 k x4 (rd_L1 x48 x50) x48 x49 x50 t136 x135003 x135004)) else (tests_newTrialA.j3 k x4 (rd_L1 x48 x50) x48 x49 x50 true x135003 x135004)) else (none)) else (none)) else (some (([] : List Int), ([] : List (List Int)), ([] : List Int), x135003, x135004, 0))
def tests_newTrialA.j3 : Nat → Int → List Int → List (List Int) → Int → Int → Bool → List Int → Int → Option (List Int × (List (List Int)) × List Int × List Int × Int × Int)
 | 0, _, _, _, _, _, _, _, _ => none
 | k + 1, x4, x7, x48, x49, x50, x61, x135003, x135004 => if x61 = true then (some (([] : List Int), ([] : List (List Int)), ([] : List Int), ([] : List Int), 0, 2)) else (tests_newTrialA.l1 k x4 0 x48 x49 x50 x7 (x7.length : Int) 0 x135003 x135004)
def tests_newTrialA.l1 : Nat → Int → Int → List (List Int) → Int → Int → List Int → Int → Int → List Int → Int → Option (List Int × (List (List Int)) × List Int × List Int × Int × Int)
 | 0, _, _, _, _, _, _, _, _, _, _ => none
 | k + 1, x4, x8, x48, x49, x50, x63, x64, x65, x135003, x135004 => if x65 < x64 then (if 0 ≤ x65 then (if x65 < (x63.length : Int) then (tests_newTrialA.l1 k x4 (Go.bits .or .u64 x8 (shl .u64 (IntKind.u64.wrap (rd x63 x65)) x65)) x48 x49 x50 x63 x64 (wrap64 (x65 + 1)) x135003 x135004) else (none)) else (none)) else (if x135003.length < 17592186044416 then (tests_newTrialA.l0 k x4 x48 x49 (wrap64 (x50 + 1)) (x135003 ++ [x8]) x135004) else (none))
end
def tests_newTrialA.f (k : Nat) (l0_0 : List Int) (l0_1 : List (List Int)) (l0_2 : List Int) : Option (List Int × (List (List Int)) × List Int × List Int × Int × Int) := (tests_within.f (l0_0.length : Int) 1 10).bind fun t131 => (if t131 = true then (if (l0_1.length : Int) > 12 then (tests_newTrialA.j0 k (l0_0.length : Int) true l0_0 l0_1 l0_2) else (tests_newTrialA.j0 k (l0_0.length : Int) ((l0_2.length : Int) != (l0_1.length : Int)) l0_0 l0_1 l0_2)) else (tests_newTrialA.j0 k (l0_0.length : Int) true l0_0 l0_1 l0_2))
set_option maxHeartbeats 8000000 in
set_option maxRecDepth 100000 in
theorem tests_newTrialA.calls (k : Nat) (A0_0 : Option Addr) (c0_0 : Nat) (l0_0 : List Int) (A0_1 : Option Addr) (c0_1 : Nat) (l0_1 : List (List Int)) (A0_2 : Option Addr) (c0_2 : Nat) (l0_2 : List Int) (r1 : List Int) (r2 : List (List Int)) (r3 : List Int) (r4 : List Int) (r5 : Int) (r6 : Int) (w : World) (hr0_0 : Kd.C (Kd.int .i64) w A0_0 l0_0.length l0_0) (hc0_0 : l0_0.length ≤ c0_0) (hr0_1 : Kd.C (Kd.slice 3 (Kd.int .i64)) w A0_1 l0_1.length l0_1) (hc0_1 : l0_1.length ≤ c0_1) (hr0_2 : Kd.C (Kd.int .i64) w A0_2 l0_2.length l0_2) (hc0_2 : l0_2.length ≤ c0_2) (h : tests_newTrialA.f k l0_0 l0_1 l0_2 = some (r1, r2, r3, r4, r5, r6)) :
  Calls Tryd.prog 45 #[.agg #[.slice A0_0 l0_0.length c0_0, .slice A0_1 l0_1.length c0_1, .slice A0_2 l0_2.length c0_2]] w fun e w' => ∃ v0_ v1_ v2_ v3_ : Value, e = .returned (.tuple #[.agg #[v0_, v1_, v2_, v3_, .int .u64 r5], .int .i64 r6]) ∧ TrialRes r6 v0_ v1_ v2_ (.slice A0_0 l0_0.length c0_0) (.slice A0_1 l0_1.length c0_1) (.slice A0_2 l0_2.length c0_2) ∧ Kd.R (Kd.int .u64) 75 w' w.heap.size (fun _ => True) v3_ r4 ∧ Below w.heap.size w w' := by
 have hu25 := Tryd.underlying25
 have hu77 := Tryd.underlying77
 have HR0_0 := Aside0.mk hr0_0
 have HC0_0 := Aside0.mk hc0_0
 clear hr0_0 hc0_0
 have HR0_1 := Aside0.mk hr0_1
 have HC0_1 := Aside0.mk hc0_1
 clear hr0_1 hc0_1
 have HR0_2 := Aside0.mk hr0_2
 have HC0_2 := Aside0.mk hc0_2
 clear hr0_2 hc0_2
 have HB := Aside0.mk (Below.refl w.heap.size w)
 have H : ((tests_within.f (l0_0.length : Int) 1 10).bind fun t131 => (if t131 = true then (if (l0_1.length : Int) > 12 then (tests_newTrialA.j0 k (l0_0.length : Int) true l0_0 l0_1 l0_2) else (tests_newTrialA.j0 k (l0_0.length : Int) ((l0_2.length : Int) != (l0_1.length : Int)) l0_0 l0_1 l0_2)) else (tests_newTrialA.j0 k (l0_0.length : Int) true l0_0 l0_1 l0_2))) = some (r1, r2, r3, r4, r5, r6) := h
 clear h
 have HC2 := Aside0.mk H
 clear H
 go_enter Tryd.func45, Tryd.ntmps45
 go_upto_region 2 with (first | ((with_reducible refine gate_dst (N := 1) rfl ?_); (try (refine gate_guard (by rfl) ?_; dsimp only)); refine box_event ?hg (N := 1) ?hd (cs := #[.slice A0_0 l0_0.length c0_0, .slice A0_1 l0_1.length c0_1, .slice A0_2 l0_2.length c0_2]) (t := 25) ?hr ?_; (case hd => rfl); (case hg => rfl); (case hr => first | (go_simp; done) | (go_simp; rfl)); intro gb129 hg w3 hbox hb; have n0_ := Aside0.mk (below_step bz hb); have n1_ := Aside0.mk (hbox); have n2_ := Aside0.mk ((by rw [hg]; exact (below_size bz) : w.heap.size ≤ gb129)); have n3_ := Aside0.mk ((by rw [hg]; exact (below_size bz) : w.heap.size ≤ gb129)); clear HB; have HB := n0_; have BK129 := n1_; have GW129 := n2_; have GE129 := n3_; clear n0_ n1_ n2_ n3_; clear hb hbox hg) | ((with_reducible refine gate_dst (N := 2) rfl ?_); (try (refine gate_guard (by rfl) ?_; dsimp only)); refine box_event ?hg (N := 2) ?hd (cs := #[.slice none 0 0, .slice none 0 0, .slice none 0 0, .slice none 0 0, .int .u64 0]) (t := 77) ?hr ?_; (case hd => rfl); (case hg => rfl); (case hr => first | (go_simp; done) | (go_simp; rfl)); intro gb130 hg w4 hbox hb; have n0_ := Aside0.mk (kb BK129.out hb); have n1_ := Aside0.mk (below_step bz hb); have n2_ := Aside0.mk (hbox); have n3_ := Aside0.mk ((by rw [hg]; exact (below_size bz) : w.heap.size ≤ gb130)); have n4_ := Aside0.mk ((by rw [hg]; exact (below_size bz) : w.heap.size ≤ gb130)); have n5_ := Aside0.mk ((by rw [hg]; exact Nat.ne_of_lt (kl BK129.out) : gb129 ≠ gb130)); have n6_ := Aside0.mk ((by rw [hg]; exact Nat.ne_of_gt (kl BK129.out) : gb130 ≠ gb129)); clear BK129; clear HB; have BK129 := n0_; have HB := n1_; have BK130 := n2_; have GW130 := n3_; have GE130 := n4_; have NB129_130 := n5_; have NB130_129 := n6_; clear n0_ n1_ n2_ n3_ n4_ n5_ n6_; clear hb hbox hg; have hnb5 := NB129_130.out; have hnc5 := NB130_129.out; have hcz6_0 : w4.cell? ⟨gb129, 0, none⟩ = some (.slice A0_0 l0_0.length c0_0) := (blk_cell BK129.out 0).trans rfl; have hcz6_1 : w4.cell? ⟨gb129, 1, none⟩ = some (.slice A0_1 l0_1.length c0_1) := (blk_cell BK129.out 1).trans rfl; have hcz6_2 : w4.cell? ⟨gb129, 2, none⟩ = some (.slice A0_2 l0_2.length c0_2) := (blk_cell BK129.out 2).trans rfl; have hfz6_0 := blk_frozen BK129.out 0; have hfz6_1 := blk_frozen BK129.out 1; have hfz6_2 := blk_frozen BK129.out 2))
 (try simp only [Act.put, List.setIfInBounds_toArray, List.set_cons_zero, List.set_cons_succ])
 go_cut [31] (fun v31 wc => ∃ (kq : Nat) (x31_1 : Bool), v31 = .bool x31_1 ∧ Aside0 (tests_newTrialA.j0 kq (l0_0.length : Int) x31_1 l0_0 l0_1 l0_2 = some (r1, r2, r3, r4, r5, r6)) ∧ Aside0 (kq ≤ k) ∧ Aside0 (wc.heap[gb129]? = some (.cells #[(.slice A0_0 l0_0.length c0_0), (.slice A0_1 l0_1.length c0_1), (.slice A0_2 l0_2.length c0_2)] 25 (0, 0))) ∧ Aside0 (wc.heap[gb130]? = some (.cells #[(.slice none 0 0), (.slice none 0 0), (.slice none 0 0), (.slice none 0 0), .int .u64 0] 77 (0, 0))) ∧ Aside0 (Below w.heap.size w wc))
 case first =>
  have H := HC2.out
  clear HC2
  replace H := Option.bind_eq_some_iff.mp H
  obtain ⟨t131, A70, H⟩ := H
  replace H : (if t131 = true then (if (l0_1.length : Int) > 12 then (tests_newTrialA.j0 k (l0_0.length : Int) true l0_0 l0_1 l0_2) else (tests_newTrialA.j0 k (l0_0.length : Int) ((l0_2.length : Int) != (l0_1.length : Int)) l0_0 l0_1 l0_2)) else (tests_newTrialA.j0 k (l0_0.length : Int) true l0_0 l0_1 l0_2)) = some (r1, r2, r3, r4, r5, r6) := H
  have A7 := Aside0.mk A70
  clear A70
  by_cases c8 : t131 = true
  ·subst c8
   have H1 : (if (l0_1.length : Int) > 12 then (tests_newTrialA.j0 k (l0_0.length : Int) true l0_0 l0_1 l0_2) else (tests_newTrialA.j0 k (l0_0.length : Int) ((l0_2.length : Int) != (l0_1.length : Int)) l0_0 l0_1 l0_2)) = some (r1, r2, r3, r4, r5, r6) := by rw [if_pos rfl] at H; exact H
   clear H
   have H := H1
   clear H1
   by_cases c9 : (l0_1.length : Int) > 12
   ·rw [if_pos c9] at H
    have c9b0 : decide (12 < (l0_1.length : Int)) = true := decide_eq_true c9
    have c9b1 : decide (12 < l0_1.length) = true := decide_eq_true (by omega)
    clear c9
    (first | rw [c9b0] | (simp only [i64_w, i32_w]; rw [c9b0]) | skip)
    have H' := Aside0.mk H
    clear H
    go_wp2_with (first | ((with_reducible refine gate_callee (f := 47) rfl ?_); refine goesL_ (some 15) rfl rfl Tryd.func47 (by kernel_rfl) rfl #[.int .i64 (l0_0.length : Int), .int .i64 1, .int .i64 10] rfl dz ?_; (with_reducible refine (tests_within.calls (l0_0.length : Int) 1 10 true _ A7.out).mono ?_); rintro e w' ⟨rfl, ⟨nd, rfl⟩⟩; refine ⟨_, rfl, ?_⟩; have hnb10 := NB129_130.out; have hnc10 := NB130_129.out; have hcz11_0 : w4.cell? ⟨gb129, 0, none⟩ = some (.slice A0_0 l0_0.length c0_0) := (blk_cell BK129.out 0).trans rfl; have hcz11_1 : w4.cell? ⟨gb129, 1, none⟩ = some (.slice A0_1 l0_1.length c0_1) := (blk_cell BK129.out 1).trans rfl; have hcz11_2 : w4.cell? ⟨gb129, 2, none⟩ = some (.slice A0_2 l0_2.length c0_2) := (blk_cell BK129.out 2).trans rfl; have hfz11_0 := blk_frozen BK129.out 0; have hfz11_1 := blk_frozen BK129.out 1; have hfz11_2 := blk_frozen BK129.out 2))
    go_meet
    case rel => exact ⟨_, (true), (by first | rfl | (simp; done) | (simp [*]; done)), H', ⟨by first | omega | exact Nat.le_refl _⟩, ⟨by (with_reducible repeat (first | refine blk_drewN ?_ _ | refine blk_drew ?_ | refine blk_alloc ?_ _)); exact BK129.out⟩, ⟨by (with_reducible repeat (first | refine blk_drewN ?_ _ | refine blk_drew ?_ | refine blk_alloc ?_ _)); exact BK130.out⟩, ⟨by repeat (first | (with_reducible first | exact HB.out | apply below_alloc | apply pw_below_drewN | apply below_drew1 | refine below_set ?_ GE129.out | refine below_set ?_ GE130.out) | exact HB.out)⟩⟩
   ·rw [if_neg c9] at H
    have c9b0 : decide (12 < (l0_1.length : Int)) = false := decide_eq_false c9
    have c9b1 : decide (12 < l0_1.length) = false := decide_eq_false (by omega)
    clear c9
    (first | rw [c9b0] | (simp only [i64_w, i32_w]; rw [c9b0]) | skip)
    have H' := Aside0.mk H
    clear H
    go_wp2_with (first | ((with_reducible refine gate_callee (f := 47) rfl ?_); refine goesL_ (some 15) rfl rfl Tryd.func47 (by kernel_rfl) rfl #[.int .i64 (l0_0.length : Int), .int .i64 1, .int .i64 10] rfl dz ?_; (with_reducible refine (tests_within.calls (l0_0.length : Int) 1 10 true _ A7.out).mono ?_); rintro e w' ⟨rfl, ⟨nd, rfl⟩⟩; refine ⟨_, rfl, ?_⟩; have hnb12 := NB129_130.out; have hnc12 := NB130_129.out; have hcz13_0 : w4.cell? ⟨gb129, 0, none⟩ = some (.slice A0_0 l0_0.length c0_0) := (blk_cell BK129.out 0).trans rfl; have hcz13_1 : w4.cell? ⟨gb129, 1, none⟩ = some (.slice A0_1 l0_1.length c0_1) := (blk_cell BK129.out 1).trans rfl; have hcz13_2 : w4.cell? ⟨gb129, 2, none⟩ = some (.slice A0_2 l0_2.length c0_2) := (blk_cell BK129.out 2).trans rfl; have hfz13_0 := blk_frozen BK129.out 0; have hfz13_1 := blk_frozen BK129.out 1; have hfz13_2 := blk_frozen BK129.out 2))
    go_meet
    case rel => exact ⟨_, (((l0_2.length : Int) != (l0_1.length : Int))), (by first | rfl | (simp; done) | (simp [*]; done)), H', ⟨by first | omega | exact Nat.le_refl _⟩, ⟨by (with_reducible repeat (first | refine blk_drewN ?_ _ | refine blk_drew ?_ | refine blk_alloc ?_ _)); exact BK129.out⟩, ⟨by (with_reducible repeat (first | refine blk_drewN ?_ _ | refine blk_drew ?_ | refine blk_alloc ?_ _)); exact BK130.out⟩, ⟨by repeat (first | (with_reducible first | exact HB.out | apply below_alloc | apply pw_below_drewN | apply below_drew1 | refine below_set ?_ GE129.out | refine below_set ?_ GE130.out) | exact HB.out)⟩⟩
  ·replace c8 := Bool.eq_false_iff.mpr c8
   subst c8
   have H1 : (tests_newTrialA.j0 k (l0_0.length : Int) true l0_0 l0_1 l0_2) = some (r1, r2, r3, r4, r5, r6) := by rw [if_neg (show ¬ (false = true) by decide)] at H; exact H
   clear H
   have H := H1
   clear H1
   have H' := Aside0.mk H
   clear H
   go_wp2_with (first | ((with_reducible refine gate_callee (f := 47) rfl ?_); refine goesL_ (some 15) rfl rfl Tryd.func47 (by kernel_rfl) rfl #[.int .i64 (l0_0.length : Int), .int .i64 1, .int .i64 10] rfl dz ?_; (with_reducible refine (tests_within.calls (l0_0.length : Int) 1 10 false _ A7.out).mono ?_); rintro e w' ⟨rfl, ⟨nd, rfl⟩⟩; refine ⟨_, rfl, ?_⟩))
   go_meet
   case rel => exact ⟨_, (true), (by first | rfl | (simp; done) | (simp [*]; done)), H', ⟨by first | omega | exact Nat.le_refl _⟩, ⟨by (with_reducible repeat (first | refine blk_drewN ?_ _ | refine blk_drew ?_ | refine blk_alloc ?_ _)); exact BK129.out⟩, ⟨by (with_reducible repeat (first | refine blk_drewN ?_ _ | refine blk_drew ?_ | refine blk_alloc ?_ _)); exact BK130.out⟩, ⟨by repeat (first | (with_reducible first | exact HB.out | apply below_alloc | apply pw_below_drewN | apply below_drew1 | refine below_set ?_ GE129.out | refine below_set ?_ GE130.out) | exact HB.out)⟩⟩
 case rest =>
  clear HC2
  try clear c1
  try clear p2
  try clear c4
  try clear c5
  try clear c8
  try clear c9
  try clear c9b0
  try clear c9b1
  try clear c10
  try clear c12
  try clear hcz11_0
  try clear hcz11_1
  try clear hcz11_2
  try clear hcz13_0
  try clear hcz13_1
  try clear hcz13_2
  try clear hcz6_0
  try clear hcz6_1
  try clear hcz6_2
  try clear hfz11_0
  try clear hfz11_1
  try clear hfz11_2
  try clear hfz13_0
  try clear hfz13_1
  try clear hfz13_2
  try clear hfz6_0
  try clear hfz6_1
  try clear hfz6_2
  obtain ⟨kq, x31_1, rfl, HA, HJ1, BK129, BK130, HB⟩ := hcut
  cases kq with
  | zero => exact absurd HA.out (by simp [tests_newTrialA.j0])
  | succ kj1 =>
   have H := HA.out
   clear HA
   simp only [tests_newTrialA.j0] at H
   by_cases c14 : x31_1 = true
   ·subst c14
    have H1 : (some (([] : List Int), ([] : List (List Int)), ([] : List Int), ([] : List Int), 0, 2)) = some (r1, r2, r3, r4, r5, r6) := by rw [if_pos rfl] at H; exact H
    clear H
    have H := H1
    clear H1
    simp only [Option.some.injEq, Prod.mk.injEq] at H
    obtain ⟨rfl, rfl, rfl, rfl, rfl, rfl⟩ := H
    have hnb15 := NB130_129.out
    have hnc15 := NB129_130.out
    have hcz16_0 : wc.cell? ⟨gb130, 0, none⟩ = some (.slice none 0 0) := (blk_cell BK130.out 0).trans rfl
    have hcz16_1 : wc.cell? ⟨gb130, 1, none⟩ = some (.slice none 0 0) := (blk_cell BK130.out 1).trans rfl
    have hcz16_2 : wc.cell? ⟨gb130, 2, none⟩ = some (.slice none 0 0) := (blk_cell BK130.out 2).trans rfl
    have hcz16_3 : wc.cell? ⟨gb130, 3, none⟩ = some (.slice none 0 0) := (blk_cell BK130.out 3).trans rfl
    have hcz16_4 : wc.cell? ⟨gb130, 4, none⟩ = some (.int .u64 0) := (blk_cell BK130.out 4).trans rfl
    have hfz16_0 := blk_frozen BK130.out 0
    have hfz16_1 := blk_frozen BK130.out 1
    have hfz16_2 := blk_frozen BK130.out 2
    have hfz16_3 := blk_frozen BK130.out 3
    have hfz16_4 := blk_frozen BK130.out 4
    go_wp2
    refine bodyPost_ret (results_ct rfl _ _ gb130 77 #[.slice none 0 0, .slice none 0 0, .slice none 0 0, .slice none 0 0, .int .u64 0] (0, 0) _ rfl (by (with_reducible repeat (first | refine blk_drewN ?_ _ | refine blk_drew ?_ | refine blk_alloc ?_ _)); refine blk_put (cs := #[.slice none 0 0, .slice none 0 0, .slice none 0 0, .slice none 0 0, .int .u64 0]) ?_ 4 _ rfl; (with_reducible repeat (first | refine blk_drewN ?_ _ | refine blk_drew ?_ | refine blk_alloc ?_ _)); refine blk_put (cs := #[.slice none 0 0, .slice none 0 0, .slice none 0 0, .slice none 0 0, .int .u64 0]) ?_ 3 _ rfl; (with_reducible repeat (first | refine blk_drewN ?_ _ | refine blk_drew ?_ | refine blk_alloc ?_ _)); refine blk_put (cs := #[.slice none 0 0, .slice none 0 0, .slice none 0 0, .slice none 0 0, .int .u64 0]) ?_ 2 _ rfl; (with_reducible repeat (first | refine blk_drewN ?_ _ | refine blk_drew ?_ | refine blk_alloc ?_ _)); refine blk_put (cs := #[.slice none 0 0, .slice none 0 0, .slice none 0 0, .slice none 0 0, .int .u64 0]) ?_ 1 _ rfl; (with_reducible repeat (first | refine blk_drewN ?_ _ | refine blk_drew ?_ | refine blk_alloc ?_ _)); refine blk_put (cs := #[.slice none 0 0, .slice none 0 0, .slice none 0 0, .slice none 0 0, .int .u64 0]) ?_ 0 _ rfl; (with_reducible repeat (first | refine blk_drewN ?_ _ | refine blk_drew ?_ | refine blk_alloc ?_ _)); exact BK130.out) Tryd.underlying77 rfl (by kernel_rfl)) rfl ?_
    exact ⟨_, _, _, _, by first | rfl | (simp [errW_none, errW_some] <;> rfl) | (simp [*, errW_none, errW_some] <;> rfl), .inr ⟨rfl, rfl, rfl, rfl⟩, by first | exact Kd.R_nil _ _ _ _ _ | exact Kd.N_nil _ _ _ _ _ | exact Kd.V_nil _ _ _ _ _ | exact Kd.Q_nil _ _ _ _ _ | exact Kd.S_nil _ _ _ _ _, by repeat (first | (with_reducible first | exact HB.out | apply below_alloc | apply pw_below_drewN | apply below_drew1 | refine below_set ?_ GE129.out | refine below_set ?_ GE130.out) | exact HB.out)⟩
   ·replace c14 := Bool.eq_false_iff.mpr c14
    subst c14
    have H1 : ((tests_newTrial_1.f l0_0).bind fun t132 => (if t132 = true then (tests_newTrialA.j1 kj1 (l0_0.length : Int) true l0_0 l0_1 l0_2) else ((tests_newTrial_2.f l0_2).bind fun t133 => (tests_newTrialA.j1 kj1 (l0_0.length : Int) t133 l0_0 l0_1 l0_2)))) = some (r1, r2, r3, r4, r5, r6) := by rw [if_neg (show ¬ (false = true) by decide)] at H; exact H
    clear H
    have H := H1
    clear H1
    have HC17 := Aside0.mk H
    clear H
    go_upto_region 4 with (fail)
    go_cut [40] (fun v40 wc => ∃ (kq : Nat) (x40_16 : Bool), v40 = .bool x40_16 ∧ Aside0 (tests_newTrialA.j1 kq (l0_0.length : Int) x40_16 l0_0 l0_1 l0_2 = some (r1, r2, r3, r4, r5, r6)) ∧ Aside0 (kq ≤ kj1) ∧ Aside0 (wc.heap[gb129]? = some (.cells #[(.slice A0_0 l0_0.length c0_0), (.slice A0_1 l0_1.length c0_1), (.slice A0_2 l0_2.length c0_2)] 25 (0, 0))) ∧ Aside0 (wc.heap[gb130]? = some (.cells #[(.slice none 0 0), (.slice none 0 0), (.slice none 0 0), (.slice none 0 0), .int .u64 0] 77 (0, 0))) ∧ Aside0 (Below w.heap.size w wc))
    case first =>
     have H := HC17.out
     clear HC17
     replace H := Option.bind_eq_some_iff.mp H
     obtain ⟨t132, A180, H⟩ := H
     replace H : (if t132 = true then (tests_newTrialA.j1 kj1 (l0_0.length : Int) true l0_0 l0_1 l0_2) else ((tests_newTrial_2.f l0_2).bind fun t133 => (tests_newTrialA.j1 kj1 (l0_0.length : Int) t133 l0_0 l0_1 l0_2))) = some (r1, r2, r3, r4, r5, r6) := H
     have A18 := Aside0.mk A180
     clear A180
     by_cases c19 : t132 = true
     ·subst c19
      have H1 : (tests_newTrialA.j1 kj1 (l0_0.length : Int) true l0_0 l0_1 l0_2) = some (r1, r2, r3, r4, r5, r6) := by rw [if_pos rfl] at H; exact H
      clear H
      have H := H1
      clear H1
      have H' := Aside0.mk H
      clear H
      have hnb20 := NB129_130.out
      have hnc20 := NB130_129.out
      have hcz21_0 : wc.cell? ⟨gb129, 0, none⟩ = some (.slice A0_0 l0_0.length c0_0) := (blk_cell BK129.out 0).trans rfl
      have hcz21_1 : wc.cell? ⟨gb129, 1, none⟩ = some (.slice A0_1 l0_1.length c0_1) := (blk_cell BK129.out 1).trans rfl
      have hcz21_2 : wc.cell? ⟨gb129, 2, none⟩ = some (.slice A0_2 l0_2.length c0_2) := (blk_cell BK129.out 2).trans rfl
      have hfz21_0 := blk_frozen BK129.out 0
      have hfz21_1 := blk_frozen BK129.out 1
      have hfz21_2 := blk_frozen BK129.out 2
      go_wp2_with (first | ((with_reducible refine gate_callee (f := 61) rfl ?_); refine goesL_ (some 35) rfl rfl Tryd.func61 (by kernel_rfl) rfl #[.slice A0_0 l0_0.length c0_0, .func (.func 62) #[] #[]] rfl dz ?_; (with_reducible refine (tests_newTrial_1.calls _ _ l0_0 true _ ?side1 ?side2 A18.out).mono ?_); (case side1 => exact cz ((Kd.C_below HR0_0.out HB.out))); (case side2 => exact HC0_0.out); rintro e w' ⟨rfl, ⟨nd, rfl⟩⟩; refine ⟨_, rfl, ?_⟩))
      go_meet
      case rel => exact ⟨_, (true), (by first | rfl | (simp; done) | (simp [*]; done)), H', ⟨by have := HJ1.out; first | omega | exact Nat.le_refl _⟩, ⟨by (with_reducible repeat (first | refine blk_drewN ?_ _ | refine blk_drew ?_ | refine blk_alloc ?_ _)); exact BK129.out⟩, ⟨by (with_reducible repeat (first | refine blk_drewN ?_ _ | refine blk_drew ?_ | refine blk_alloc ?_ _)); exact BK130.out⟩, ⟨by repeat (first | (with_reducible first | exact HB.out | apply below_alloc | apply pw_below_drewN | apply below_drew1 | refine below_set ?_ GE129.out | refine below_set ?_ GE130.out) | exact HB.out)⟩⟩
     ·replace c19 := Bool.eq_false_iff.mpr c19
      subst c19
      have H1 : ((tests_newTrial_2.f l0_2).bind fun t133 => (tests_newTrialA.j1 kj1 (l0_0.length : Int) t133 l0_0 l0_1 l0_2)) = some (r1, r2, r3, r4, r5, r6) := by rw [if_neg (show ¬ (false = true) by decide)] at H; exact H
      clear H
      have H := H1
      clear H1
      replace H := Option.bind_eq_some_iff.mp H
      obtain ⟨t133, A220, H⟩ := H
      replace H : (tests_newTrialA.j1 kj1 (l0_0.length : Int) t133 l0_0 l0_1 l0_2) = some (r1, r2, r3, r4, r5, r6) := H
      have A22 := Aside0.mk A220
      clear A220
      have H' := Aside0.mk H
      clear H
      have hnb23 := NB129_130.out
      have hnc23 := NB130_129.out
      have hcz24_0 : wc.cell? ⟨gb129, 0, none⟩ = some (.slice A0_0 l0_0.length c0_0) := (blk_cell BK129.out 0).trans rfl
      have hcz24_1 : wc.cell? ⟨gb129, 1, none⟩ = some (.slice A0_1 l0_1.length c0_1) := (blk_cell BK129.out 1).trans rfl
      have hcz24_2 : wc.cell? ⟨gb129, 2, none⟩ = some (.slice A0_2 l0_2.length c0_2) := (blk_cell BK129.out 2).trans rfl
      have hfz24_0 := blk_frozen BK129.out 0
      have hfz24_1 := blk_frozen BK129.out 1
      have hfz24_2 := blk_frozen BK129.out 2
      go_wp2_with (first | ((with_reducible refine gate_callee (f := 61) rfl ?_); refine goesL_ (some 35) rfl rfl Tryd.func61 (by kernel_rfl) rfl #[.slice A0_0 l0_0.length c0_0, .func (.func 62) #[] #[]] rfl dz ?_; (with_reducible refine (tests_newTrial_1.calls _ _ l0_0 false _ ?side1 ?side2 A18.out).mono ?_); (case side1 => exact cz ((Kd.C_below HR0_0.out HB.out))); (case side2 => exact HC0_0.out); rintro e w' ⟨rfl, ⟨nd, rfl⟩⟩; refine ⟨_, rfl, ?_⟩) | (go_at_call 61; (with_reducible refine (tests_newTrial_2.calls _ _ l0_2 t133 _ ?side1 ?side2 A22.out).mono ?_); (case side1 => exact cz ((Kd.C_below HR0_2.out bz))); (case side2 => exact HC0_2.out); rintro e w' ⟨rfl, ⟨nd, rfl⟩⟩))
      go_meet
      case rel => exact ⟨_, (t133), (by first | rfl | (simp; done) | (simp [*]; done)), H', ⟨by have := HJ1.out; first | omega | exact Nat.le_refl _⟩, ⟨by (with_reducible repeat (first | refine blk_drewN ?_ _ | refine blk_drew ?_ | refine blk_alloc ?_ _)); exact BK129.out⟩, ⟨by (with_reducible repeat (first | refine blk_drewN ?_ _ | refine blk_drew ?_ | refine blk_alloc ?_ _)); exact BK130.out⟩, ⟨by repeat (first | (with_reducible first | exact HB.out | apply below_alloc | apply pw_below_drewN | apply below_drew1 | refine below_set ?_ GE129.out | refine below_set ?_ GE130.out) | exact HB.out)⟩⟩
    case rest =>
     clear HC17
     try clear c1
     try clear c2
     try clear p2
     try clear c4
     try clear c5
     try clear c6
     try clear c8
     try clear c9
     try clear c9b0
     try clear c9b1
     try clear c10
     try clear c12
     try clear c14
     try clear c15
     try clear c19
     try clear c20
     try clear c23
     try clear hcz11_0
     try clear hcz11_1
     try clear hcz11_2
     try clear hcz13_0
     try clear hcz13_1
     try clear hcz13_2
     try clear hcz16_0
     try clear hcz16_1
     try clear hcz16_2
     try clear hcz16_3
     try clear hcz16_4
     try clear hcz21_0
     try clear hcz21_1
     try clear hcz21_2
     try clear hcz24_0
     try clear hcz24_1
     try clear hcz24_2
     try clear hcz6_0
     try clear hcz6_1
     try clear hcz6_2
     try clear hfz11_0
     try clear hfz11_1
     try clear hfz11_2
     try clear hfz13_0
     try clear hfz13_1
     try clear hfz13_2
     try clear hfz16_0
     try clear hfz16_1
     try clear hfz16_2
     try clear hfz16_3
     try clear hfz16_4
     try clear hfz21_0
     try clear hfz21_1
     try clear hfz21_2
     try clear hfz24_0
     try clear hfz24_1
     try clear hfz24_2
     try clear hfz6_0
     try clear hfz6_1
     try clear hfz6_2
     try clear p2
     obtain ⟨kq, x40_16, rfl, HA, HJ16, BK129, BK130, HB⟩ := hcut
     cases kq with
     | zero => exact absurd HA.out (by simp [tests_newTrialA.j1])
     | succ kj16 =>
      have H := HA.out
      clear HA
      simp only [tests_newTrialA.j1] at H
      by_cases c25 : x40_16 = true
      ·subst c25
       have H1 : (some (([] : List Int), ([] : List (List Int)), ([] : List Int), ([] : List Int), 0, 2)) = some (r1, r2, r3, r4, r5, r6) := by rw [if_pos rfl] at H; exact H
       clear H
       have H := H1
       clear H1
       simp only [Option.some.injEq, Prod.mk.injEq] at H
       obtain ⟨rfl, rfl, rfl, rfl, rfl, rfl⟩ := H
       have hnb26 := NB130_129.out
       have hnc26 := NB129_130.out
       have hcz27_0 : wc.cell? ⟨gb130, 0, none⟩ = some (.slice none 0 0) := (blk_cell BK130.out 0).trans rfl
       have hcz27_1 : wc.cell? ⟨gb130, 1, none⟩ = some (.slice none 0 0) := (blk_cell BK130.out 1).trans rfl
       have hcz27_2 : wc.cell? ⟨gb130, 2, none⟩ = some (.slice none 0 0) := (blk_cell BK130.out 2).trans rfl
       have hcz27_3 : wc.cell? ⟨gb130, 3, none⟩ = some (.slice none 0 0) := (blk_cell BK130.out 3).trans rfl
       have hcz27_4 : wc.cell? ⟨gb130, 4, none⟩ = some (.int .u64 0) := (blk_cell BK130.out 4).trans rfl
       have hfz27_0 := blk_frozen BK130.out 0
       have hfz27_1 := blk_frozen BK130.out 1
       have hfz27_2 := blk_frozen BK130.out 2
       have hfz27_3 := blk_frozen BK130.out 3
       have hfz27_4 := blk_frozen BK130.out 4
       go_wp2
       refine bodyPost_ret (results_ct rfl _ _ gb130 77 #[.slice none 0 0, .slice none 0 0, .slice none 0 0, .slice none 0 0, .int .u64 0] (0, 0) _ rfl (by (with_reducible repeat (first | refine blk_drewN ?_ _ | refine blk_drew ?_ | refine blk_alloc ?_ _)); refine blk_put (cs := #[.slice none 0 0, .slice none 0 0, .slice none 0 0, .slice none 0 0, .int .u64 0]) ?_ 4 _ rfl; (with_reducible repeat (first | refine blk_drewN ?_ _ | refine blk_drew ?_ | refine blk_alloc ?_ _)); refine blk_put (cs := #[.slice none 0 0, .slice none 0 0, .slice none 0 0, .slice none 0 0, .int .u64 0]) ?_ 3 _ rfl; (with_reducible repeat (first | refine blk_drewN ?_ _ | refine blk_drew ?_ | refine blk_alloc ?_ _)); refine blk_put (cs := #[.slice none 0 0, .slice none 0 0, .slice none 0 0, .slice none 0 0, .int .u64 0]) ?_ 2 _ rfl; (with_reducible repeat (first | refine blk_drewN ?_ _ | refine blk_drew ?_ | refine blk_alloc ?_ _)); refine blk_put (cs := #[.slice none 0 0, .slice none 0 0, .slice none 0 0, .slice none 0 0, .int .u64 0]) ?_ 1 _ rfl; (with_reducible repeat (first | refine blk_drewN ?_ _ | refine blk_drew ?_ | refine blk_alloc ?_ _)); refine blk_put (cs := #[.slice none 0 0, .slice none 0 0, .slice none 0 0, .slice none 0 0, .int .u64 0]) ?_ 0 _ rfl; (with_reducible repeat (first | refine blk_drewN ?_ _ | refine blk_drew ?_ | refine blk_alloc ?_ _)); exact BK130.out) Tryd.underlying77 rfl (by kernel_rfl)) rfl ?_
       exact ⟨_, _, _, _, by first | rfl | (simp [errW_none, errW_some] <;> rfl) | (simp [*, errW_none, errW_some] <;> rfl), .inr ⟨rfl, rfl, rfl, rfl⟩, by first | exact Kd.R_nil _ _ _ _ _ | exact Kd.N_nil _ _ _ _ _ | exact Kd.V_nil _ _ _ _ _ | exact Kd.Q_nil _ _ _ _ _ | exact Kd.S_nil _ _ _ _ _, by repeat (first | (with_reducible first | exact HB.out | apply below_alloc | apply pw_below_drewN | apply below_drew1 | refine below_set ?_ GE129.out | refine below_set ?_ GE130.out) | exact HB.out)⟩
      ·replace c25 := Bool.eq_false_iff.mpr c25
       subst c25
       have H1 : (if 0 ≤ (l0_0.length : Int) then (tests_newTrialA.l0 kj16 (l0_0.length : Int) l0_1 (l0_1.length : Int) 0 ([] : List Int) (IntKind.u64.wrap ((shl .u64 1 (l0_0.length : Int)) - 1))) else (none)) = some (r1, r2, r3, r4, r5, r6) := by rw [if_neg (show ¬ (false = true) by decide)] at H; exact H
       clear H
       have H := H1
       clear H1
       by_cases c28 : 0 ≤ (l0_0.length : Int)
       ·rw [if_pos c28] at H
        have c28b0 := eq_true c28
        have c28b1 : decide (0 ≤ (l0_0.length : Int)) = true := decide_eq_true c28
        clear c28
        obtain ⟨ji29, hji29⟩ : ∃ j_ : Int, (shl .u64 1 (l0_0.length : Int)) = j_ := ⟨_, rfl⟩
        replace H : (tests_newTrialA.l0 kj16 (l0_0.length : Int) l0_1 (l0_1.length : Int) 0 ([] : List Int) (IntKind.u64.wrap ((ji29) - 1))) = some (r1, r2, r3, r4, r5, r6) := by first | (rw [hji29] at H; exact H) | (simp only [hji29] at H ⊢; exact H)
        have hji29_ : (IntKind.u64.wrap (1 * 2 ^ min (l0_0.length : Int).toNat 64)) = ji29 := hji29
        have hji29z : (l0_0.length : Int) ≤ 64 → (IntKind.u64.wrap (1 * 2 ^ (l0_0.length : Int).toNat)) = ji29 := shl_small hji29
        have hji29p : (IntKind.u64.wrap (1 * 2 ^ min l0_0.length 64)) = ji29 := hji29_
        have hji29q : (l0_0.length : Int) ≤ 64 → (IntKind.u64.wrap (1 * 2 ^ l0_0.length)) = ji29 := hji29z
        have hji29r : (IntKind.u64.wrap (2 ^ min l0_0.length 64)) = ji29 := by have h_ := hji29p; rw [Int.one_mul] at h_; exact h_
        have hji29s : (l0_0.length : Int) ≤ 64 → (IntKind.u64.wrap (2 ^ l0_0.length)) = ji29 := fun hle_ => by have h_ := hji29q hle_; rw [Int.one_mul] at h_; exact h_
        have hji29u : (IntKind.u64.wrap (2 ^ min (l0_0.length : Int).toNat 64)) = ji29 := by have h_ := hji29_; rw [Int.one_mul] at h_; exact h_
        have hji29v : (l0_0.length : Int) ≤ 64 → (IntKind.u64.wrap (2 ^ (l0_0.length : Int).toNat)) = ji29 := fun hle_ => by have h_ := hji29z hle_; rw [Int.one_mul] at h_; exact h_
        have H' := Aside0.mk H
        clear H
        try go_wp2
        have n0_ := Aside0.mk (blk_drew BK129.out)
        have n1_ := Aside0.mk (blk_drew BK130.out)
        have n2_ := Aside0.mk (below_drew1 HB.out)
        clear BK129
        clear BK130
        clear HB
        have BK129 := n0_
        have BK130 := n1_
        have HB := n2_
        clear n0_ n1_ n2_
        refine start_ (n := 7) (S := fun w' => w'.cell? ⟨gb129, 0, none⟩ = some (.slice A0_0 l0_0.length c0_0) ∧ w'.cell? ⟨gb129, 1, none⟩ = some (.slice A0_1 l0_1.length c0_1) ∧ w'.cell? ⟨gb129, 2, none⟩ = some (.slice A0_2 l0_2.length c0_2)) (ds := []) #[false, false, false, false, false, false, false] (by kernel_rfl) rfl rfl ⟨(blk_cell BK129.out 0).trans rfl, (blk_cell BK129.out 1).trans rfl, (blk_cell BK129.out 2).trans rfl⟩ (fun hHeld => ?_)
        generalize wc.drew = w30 at BK129 BK130 HB hHeld ⊢
        refine pure_ (i := 1) (N := some 43) (v := ?_) (a' := ?_) #[false, true, false, false, false, false, false] rfl rfl (by kernel_rfl) (fun _ _ _ h => h) (Or.inl ⟨by rfl, ?_⟩) ?_ ?_
        rotate_left
        ·intro w'
         go_simp
         with_reducible rfl
        rotate_left
        ·simp only [Act.put, List.setIfInBounds_toArray, List.set_cons_zero, List.set_cons_succ, i64_w, i32_w]
         rfl
        refine pure_ (i := 2) (N := some 44) (v := ?_) (a' := ?_) #[false, true, true, false, false, false, false] rfl rfl (by kernel_rfl) (fun _ _ _ h => h) (Or.inl ⟨by rfl, ?_⟩) ?_ ?_
        rotate_left
        ·intro w'
         go_simp
         with_reducible rfl
        rotate_left
        ·simp only [Act.put, List.setIfInBounds_toArray, List.set_cons_zero, List.set_cons_succ, i64_w, i32_w]
         rfl
        refine pure_ (i := 3) (N := some 45) (v := ?_) (a' := ?_) #[false, true, true, true, false, false, false] rfl rfl (by kernel_rfl) (fun _ _ _ h => h) (Or.inl ⟨by rfl, ?_⟩) ?_ ?_
        rotate_left
        ·intro w'
         go_simp
         with_reducible rfl
        rotate_left
        ·simp only [Act.put, List.setIfInBounds_toArray, List.set_cons_zero, List.set_cons_succ, i64_w, i32_w]
         rfl
        refine take_ (i := 0) (N := some 42) (v := ?_) (a' := ?_) #[true, true, true, true, false, false, false] rfl rfl (by kernel_rfl) (fun _ _ _ h => h) (Or.inl ⟨by rfl, ?_⟩) hHeld ?_ ?_
        rotate_left
        ·rintro w' ⟨s0, s1, s2⟩
         go_simp
         with_reducible rfl
        rotate_left
        ·simp only [Act.put, List.setIfInBounds_toArray, List.set_cons_zero, List.set_cons_succ, i64_w, i32_w]
         rfl
        refine pure_ (i := 4) (N := some 46) (v := ?_) (a' := ?_) #[true, true, true, true, true, false, false] rfl rfl (by kernel_rfl) (fun _ _ _ h => h) (Or.inl ⟨by rfl, ?_⟩) ?_ ?_
        rotate_left
        ·intro w'
         go_simp
         with_reducible rfl
        rotate_left
        ·simp only [Act.put, List.setIfInBounds_toArray, List.set_cons_zero, List.set_cons_succ, i64_w, i32_w]
         rfl
        refine one_ (i := 5) (N := some 5) #[true, true, true, true, true, true, false] rfl rfl (by kernel_rfl) (by decide) (fun K hK => ?_)
        refine box_step ?hg (N := 5) ?hd (cs := #[.slice none 0 0, .slice none 0 0, .slice none 0 0, .slice none 0 0, .int .u64 0]) (t := 77) ?hr ?_; (case hd => rfl); (case hg => rfl); (case hr => first | (go_simp; done) | (go_simp; rfl))
        intro gb134 hg w31 hbox hb
        have n0_ := Aside0.mk (kb BK129.out hb)
        have n1_ := Aside0.mk (kb BK130.out hb)
        have n2_ := Aside0.mk (below_step bz hb)
        have n3_ := Aside0.mk (hbox)
        have n4_ := Aside0.mk ((by rw [hg]; exact (below_size bz) : w.heap.size ≤ gb134))
        have n5_ := Aside0.mk ((by rw [hg]; exact (below_size bz) : w.heap.size ≤ gb134))
        have n6_ := Aside0.mk ((by rw [hg]; exact Nat.ne_of_lt (kl BK129.out) : gb129 ≠ gb134))
        have n7_ := Aside0.mk ((by rw [hg]; exact Nat.ne_of_gt (kl BK129.out) : gb134 ≠ gb129))
        have n8_ := Aside0.mk ((by rw [hg]; exact Nat.ne_of_lt (kl BK130.out) : gb130 ≠ gb134))
        have n9_ := Aside0.mk ((by rw [hg]; exact Nat.ne_of_gt (kl BK130.out) : gb134 ≠ gb130))
        clear BK129
        clear BK130
        clear HB
        have BK129 := n0_
        have BK130 := n1_
        have HB := n2_
        have BK134 := n3_
        have GW134 := n4_
        have GE134 := n5_
        have NB129_134 := n6_
        have NB134_129 := n7_
        have NB130_134 := n8_
        have NB134_130 := n9_
        clear n0_ n1_ n2_ n3_ n4_ n5_ n6_ n7_ n8_ n9_
        clear hb hbox hg
        refine hK.out _ _ ⟨(blk_cell BK129.out 0).trans rfl, (blk_cell BK129.out 1).trans rfl, (blk_cell BK129.out 2).trans rfl⟩ (fun hHeld => ?_)
        clear hK K
        refine norm_ (a' := ?_) ?_ ?_
        rotate_left
        ·show Act.put _ (some 5) _ = _
         simp only [Act.put, List.setIfInBounds_toArray, List.set_cons_zero, List.set_cons_succ, i64_w, i32_w]
         rfl
        refine one_ (i := 6) (N := none) #[true, true, true, true, true, true, true] rfl rfl (by kernel_rfl) (by decide) (fun K hK => ?_)
        have hs32 : w31.cell? ⟨gb134, 0, none⟩ = some (.slice none 0 0) := (blk_cell BK134.out 0).trans rfl
        have hfs32 := blk_frozen BK134.out 0
        have hns32_0 := NB129_134.out
        have hns32_1 := NB130_134.out
        have hms32_0 := NB134_129.out
        have hms32_1 := NB134_130.out
        have hs33 : w31.cell? ⟨gb134, 1, none⟩ = some (.slice none 0 0) := (blk_cell BK134.out 1).trans rfl
        have hfs33 := blk_frozen BK134.out 1
        have hns33_0 := NB129_134.out
        have hns33_1 := NB130_134.out
        have hms33_0 := NB134_129.out
        have hms33_1 := NB134_130.out
        have hs34 : w31.cell? ⟨gb134, 2, none⟩ = some (.slice none 0 0) := (blk_cell BK134.out 2).trans rfl
        have hfs34 := blk_frozen BK134.out 2
        have hns34_0 := NB129_134.out
        have hns34_1 := NB130_134.out
        have hms34_0 := NB134_129.out
        have hms34_1 := NB134_130.out
        have hs35 : w31.cell? ⟨gb134, 3, none⟩ = some (.slice none 0 0) := (blk_cell BK134.out 3).trans rfl
        have hfs35 := blk_frozen BK134.out 3
        have hns35_0 := NB129_134.out
        have hns35_1 := NB130_134.out
        have hms35_0 := NB134_129.out
        have hms35_1 := NB134_130.out
        have hs36 : w31.cell? ⟨gb134, 4, none⟩ = some (.int .u64 0) := (blk_cell BK134.out 4).trans rfl
        have hfs36 := blk_frozen BK134.out 4
        have hns36_0 := NB129_134.out
        have hns36_1 := NB130_134.out
        have hms36_0 := NB134_129.out
        have hms36_1 := NB134_130.out
        refine skip_ (w1 := ?_) (by rfl) rfl ?_ ?_
        rotate_left
        ·go_simp
         rfl
        refine hK.out _ _ ⟨((cell_far (p := ⟨gb134, _, none⟩) NB129_134.out _).trans (((cell_far (p := ⟨gb134, _, none⟩) NB129_134.out _).trans (((cell_far (p := ⟨gb134, _, none⟩) NB129_134.out _).trans (((cell_far (p := ⟨gb134, _, none⟩) NB129_134.out _).trans (((cell_far (p := ⟨gb134, _, none⟩) NB129_134.out _).trans (hHeld.1)))))))))), ((cell_far (p := ⟨gb134, _, none⟩) NB129_134.out _).trans (((cell_far (p := ⟨gb134, _, none⟩) NB129_134.out _).trans (((cell_far (p := ⟨gb134, _, none⟩) NB129_134.out _).trans (((cell_far (p := ⟨gb134, _, none⟩) NB129_134.out _).trans (((cell_far (p := ⟨gb134, _, none⟩) NB129_134.out _).trans (hHeld.2.1)))))))))), ((cell_far (p := ⟨gb134, _, none⟩) NB129_134.out _).trans (((cell_far (p := ⟨gb134, _, none⟩) NB129_134.out _).trans (((cell_far (p := ⟨gb134, _, none⟩) NB129_134.out _).trans (((cell_far (p := ⟨gb134, _, none⟩) NB129_134.out _).trans (((cell_far (p := ⟨gb134, _, none⟩) NB129_134.out _).trans (hHeld.2.2))))))))))⟩ (fun hHeld => ?_)
        clear hK K
        refine done_ (by kernel_rfl) ?_
        have hnb37 := NB129_130.out
        have hnc37 := NB130_129.out
        have hnb38 := NB129_134.out
        have hnc38 := NB134_129.out
        have hcz39_0 : w31.cell? ⟨gb129, 0, none⟩ = some (.slice A0_0 l0_0.length c0_0) := (blk_cell BK129.out 0).trans rfl
        have hcz39_1 : w31.cell? ⟨gb129, 1, none⟩ = some (.slice A0_1 l0_1.length c0_1) := (blk_cell BK129.out 1).trans rfl
        have hcz39_2 : w31.cell? ⟨gb129, 2, none⟩ = some (.slice A0_2 l0_2.length c0_2) := (blk_cell BK129.out 2).trans rfl
        have hfz39_0 := blk_frozen BK129.out 0
        have hfz39_1 := blk_frozen BK129.out 1
        have hfz39_2 := blk_frozen BK129.out 2
        try go_wp2
        go_loopg [50] kj16 (fun kq v50 w' => ∃ (x50_3 : Int) (x131004_3 : Int) (x135003_3 : List Int) (u135003 : Value), v50 = .int .i64 x50_3 ∧ Aside0 (tests_newTrialA.l0 kq (l0_0.length : Int) l0_1 (l0_1.length : Int) x50_3 x135003_3 (IntKind.u64.wrap ((ji29) - 1)) = some (r1, r2, r3, r4, r5, r6)) ∧ Aside0 (kq ≤ kj16) ∧ Aside0 (Kd.R (Kd.int .u64) 75 w' w.heap.size (fun _ => True) u135003 x135003_3) ∧ Aside0 (w'.heap[gb129]? = some (.cells #[(.slice A0_0 l0_0.length c0_0), (.slice A0_1 l0_1.length c0_1), (.slice A0_2 l0_2.length c0_2)] 25 (0, 0))) ∧ Aside0 (w'.heap[gb130]? = some (.cells #[(.slice none 0 0), (.slice none 0 0), (.slice none 0 0), (.slice none 0 0), .int .u64 x131004_3] 77 (0, 0))) ∧ Aside0 (w'.heap[gb134]? = some (.cells #[.slice A0_0 l0_0.length c0_0, .slice A0_1 l0_1.length c0_1, .slice A0_2 l0_2.length c0_2, u135003, .int .u64 (IntKind.u64.wrap ((ji29) - 1))] 77 (0, 0))) ∧ Aside0 (Below w.heap.size w w'))
        case atStart => exact ⟨(0), (0), (([] : List Int)), (.slice none 0 0), (by first | rfl | (simp; done) | (simp [*]; done)), H', ⟨Nat.le_refl _⟩, ⟨by first | exact Kd.R_nil _ _ _ _ _ | exact Kd.N_nil _ _ _ _ _ | exact Kd.V_nil _ _ _ _ _ | exact Kd.Q_nil _ _ _ _ _ | exact Kd.S_nil _ _ _ _ _⟩, ⟨by (with_reducible repeat (first | refine blk_drewN ?_ _ | refine blk_drew ?_ | refine blk_alloc ?_ _)); refine blk_far ?_ NB129_134.out _; (with_reducible repeat (first | refine blk_drewN ?_ _ | refine blk_drew ?_ | refine blk_alloc ?_ _)); refine blk_far ?_ NB129_134.out _; (with_reducible repeat (first | refine blk_drewN ?_ _ | refine blk_drew ?_ | refine blk_alloc ?_ _)); refine blk_far ?_ NB129_134.out _; (with_reducible repeat (first | refine blk_drewN ?_ _ | refine blk_drew ?_ | refine blk_alloc ?_ _)); refine blk_far ?_ NB129_134.out _; (with_reducible repeat (first | refine blk_drewN ?_ _ | refine blk_drew ?_ | refine blk_alloc ?_ _)); refine blk_far ?_ NB129_134.out _; (with_reducible repeat (first | refine blk_drewN ?_ _ | refine blk_drew ?_ | refine blk_alloc ?_ _)); exact BK129.out⟩, ⟨by (with_reducible repeat (first | refine blk_drewN ?_ _ | refine blk_drew ?_ | refine blk_alloc ?_ _)); refine blk_far ?_ NB130_134.out _; (with_reducible repeat (first | refine blk_drewN ?_ _ | refine blk_drew ?_ | refine blk_alloc ?_ _)); refine blk_far ?_ NB130_134.out _; (with_reducible repeat (first | refine blk_drewN ?_ _ | refine blk_drew ?_ | refine blk_alloc ?_ _)); refine blk_far ?_ NB130_134.out _; (with_reducible repeat (first | refine blk_drewN ?_ _ | refine blk_drew ?_ | refine blk_alloc ?_ _)); refine blk_far ?_ NB130_134.out _; (with_reducible repeat (first | refine blk_drewN ?_ _ | refine blk_drew ?_ | refine blk_alloc ?_ _)); refine blk_far ?_ NB130_134.out _; (with_reducible repeat (first | refine blk_drewN ?_ _ | refine blk_drew ?_ | refine blk_alloc ?_ _)); exact BK130.out⟩, ⟨by (with_reducible repeat (first | refine blk_drewN ?_ _ | refine blk_drew ?_ | refine blk_alloc ?_ _)); refine blk_put (cs := #[.slice A0_0 l0_0.length c0_0, .slice A0_1 l0_1.length c0_1, .slice A0_2 l0_2.length c0_2, .slice none 0 0, .int .u64 0]) ?_ 4 _ rfl; (with_reducible repeat (first | refine blk_drewN ?_ _ | refine blk_drew ?_ | refine blk_alloc ?_ _)); refine blk_put (cs := #[.slice A0_0 l0_0.length c0_0, .slice A0_1 l0_1.length c0_1, .slice A0_2 l0_2.length c0_2, .slice none 0 0, .int .u64 0]) ?_ 3 _ rfl; (with_reducible repeat (first | refine blk_drewN ?_ _ | refine blk_drew ?_ | refine blk_alloc ?_ _)); refine blk_put (cs := #[.slice A0_0 l0_0.length c0_0, .slice A0_1 l0_1.length c0_1, .slice none 0 0, .slice none 0 0, .int .u64 0]) ?_ 2 _ rfl; (with_reducible repeat (first | refine blk_drewN ?_ _ | refine blk_drew ?_ | refine blk_alloc ?_ _)); refine blk_put (cs := #[.slice A0_0 l0_0.length c0_0, .slice none 0 0, .slice none 0 0, .slice none 0 0, .int .u64 0]) ?_ 1 _ rfl; (with_reducible repeat (first | refine blk_drewN ?_ _ | refine blk_drew ?_ | refine blk_alloc ?_ _)); refine blk_put (cs := #[.slice none 0 0, .slice none 0 0, .slice none 0 0, .slice none 0 0, .int .u64 0]) ?_ 0 _ rfl; (with_reducible repeat (first | refine blk_drewN ?_ _ | refine blk_drew ?_ | refine blk_alloc ?_ _)); exact BK134.out⟩, ⟨by repeat (first | (with_reducible first | exact HB.out | apply below_alloc | apply pw_below_drewN | apply below_drew1 | refine below_set ?_ GE129.out | refine below_set ?_ GE130.out | refine below_set ?_ GE134.out) | exact HB.out)⟩⟩
        case round =>
         clear H'
         try clear c1
         try clear c2
         try clear p2
         try clear c3
         try clear c4
         try clear c5
         try clear c6
         try clear c8
         try clear c9
         try clear c9b0
         try clear c9b1
         try clear c10
         try clear c12
         try clear c14
         try clear c15
         try clear c19
         try clear c20
         try clear c23
         try clear c25
         try clear c26
         try clear c28
         try clear c28b0
         try clear c28b1
         try clear c37
         try clear c38
         try clear hcz11_0
         try clear hcz11_1
         try clear hcz11_2
         try clear hcz13_0
         try clear hcz13_1
         try clear hcz13_2
         try clear hcz16_0
         try clear hcz16_1
         try clear hcz16_2
         try clear hcz16_3
         try clear hcz16_4
         try clear hcz21_0
         try clear hcz21_1
         try clear hcz21_2
         try clear hcz24_0
         try clear hcz24_1
         try clear hcz24_2
         try clear hcz27_0
         try clear hcz27_1
         try clear hcz27_2
         try clear hcz27_3
         try clear hcz27_4
         try clear hcz39_0
         try clear hcz39_1
         try clear hcz39_2
         try clear hcz6_0
         try clear hcz6_1
         try clear hcz6_2
         try clear hfz11_0
         try clear hfz11_1
         try clear hfz11_2
         try clear hfz13_0
         try clear hfz13_1
         try clear hfz13_2
         try clear hfz16_0
         try clear hfz16_1
         try clear hfz16_2
         try clear hfz16_3
         try clear hfz16_4
         try clear hfz21_0
         try clear hfz21_1
         try clear hfz21_2
         try clear hfz24_0
         try clear hfz24_1
         try clear hfz24_2
         try clear hfz27_0
         try clear hfz27_1
         try clear hfz27_2
         try clear hfz27_3
         try clear hfz27_4
         try clear hfz39_0
         try clear hfz39_1
         try clear hfz39_2
         try clear hfz6_0
         try clear hfz6_1
         try clear hfz6_2
         try clear p2
         obtain ⟨x50_3, x131004_3, x135003_3, u135003, rfl, HA, HK3, HO_135003, BK129, BK130, BK134, HB⟩ := hrel
         cases gk with
         | zero => exact absurd HA.out (by simp [tests_newTrialA.l0])
         | succ k3 =>
          have H := HA.out
          clear HA
          simp only [tests_newTrialA.l0] at H
          by_cases c40 : x50_3 < (l0_1.length : Int)
          ·rw [if_pos c40] at H
           have c40b0 : decide (x50_3 < (l0_1.length : Int)) = true := decide_eq_true c40
           clear c40
           by_cases c41 : 0 ≤ x50_3
           ·rw [if_pos c41] at H
            have c41b0 : decide (0 ≤ x50_3) = true := decide_eq_true c41
            clear c41
            by_cases c42 : x50_3 < (l0_1.length : Int)
            ·rw [if_pos c42] at H
             have c42b0 : decide (x50_3 < (l0_1.length : Int)) = true := decide_eq_true c42
             clear c42
             have HC43 := Aside0.mk H
             clear H
             have p135 : 0 ≤ (x50_3 : Int) := of_decide_eq_true az
             have q135 : x50_3 < (l0_1.length : Int) := of_decide_eq_true az
             obtain ⟨ad135, A135_0, c135_0, e135, hx135_0, hl135_0, hi135_0⟩ := at_L1 HR0_1.out x50_3 p135 q135
             cases e135
             replace hx135_0 := (HB.out.cell (World.block_lt_of_cell? w _ hx135_0)).trans hx135_0
             have HR135_0 := Aside0.mk hi135_0
             have HC135_0 := Aside0.mk hl135_0
             clear hi135_0 hl135_0
             replace p135 := eq_true p135
             replace q135 := eq_true q135
             go_upto_region 10 with (fail)
             go_cut [61] (fun v61 wc => ∃ (kq : Nat) (x61_42 : Bool), v61 = .bool x61_42 ∧ Aside0 (tests_newTrialA.j3 kq (l0_0.length : Int) (rd_L1 l0_1 x50_3) l0_1 (l0_1.length : Int) x50_3 x61_42 x135003_3 (IntKind.u64.wrap ((ji29) - 1)) = some (r1, r2, r3, r4, r5, r6)) ∧ Aside0 (kq ≤ k3) ∧ Aside0 (Kd.R (Kd.int .u64) 75 wc w.heap.size (fun _ => True) u135003 x135003_3) ∧ Aside0 (wc.heap[gb129]? = some (.cells #[(.slice A0_0 l0_0.length c0_0), (.slice (some ad135) l0_1.length c0_1), (.slice A0_2 l0_2.length c0_2)] 25 (0, 0))) ∧ Aside0 (wc.heap[gb130]? = some (.cells #[(.slice none 0 0), (.slice none 0 0), (.slice none 0 0), (.slice none 0 0), .int .u64 x131004_3] 77 (0, 0))) ∧ Aside0 (wc.heap[gb134]? = some (.cells #[.slice A0_0 l0_0.length c0_0, .slice (some ad135) l0_1.length c0_1, .slice A0_2 l0_2.length c0_2, u135003, .int .u64 (IntKind.u64.wrap ((ji29) - 1))] 77 (0, 0))) ∧ Aside0 (Below w.heap.size w wc))
             case first =>
              have H := HC43.out
              clear HC43
              by_cases c44 : ((rd_L1 l0_1 x50_3).length : Int) = (l0_0.length : Int)
              ·rw [if_pos c44] at H
               have c44b0 : (((rd_L1 l0_1 x50_3).length : Int) == (l0_0.length : Int)) = true := beq_iff_eq.mpr c44
               have c44b1 : (((rd_L1 l0_1 x50_3).length : Int) != (l0_0.length : Int)) = false := bne_eq_false_iff_eq.mpr c44
               have c44b2 : ((rd_L1 l0_1 x50_3).length == l0_0.length) = true := by first | simpa using c44 | (simp at c44 ⊢; omega)
               clear c44
               (first | rw [c44b0] | (simp only [i64_w, i32_w]; rw [c44b0]) | skip)
               replace H := Option.bind_eq_some_iff.mp H
               obtain ⟨t136, A450, H⟩ := H
               replace H : (tests_newTrialA.j3 k3 (l0_0.length : Int) (rd_L1 l0_1 x50_3) l0_1 (l0_1.length : Int) x50_3 t136 x135003_3 (IntKind.u64.wrap ((ji29) - 1))) = some (r1, r2, r3, r4, r5, r6) := H
               have A45 := Aside0.mk A450
               clear A450
               have H' := Aside0.mk H
               clear H
               go_wp2_with (first | (go_at_call 61; (with_reducible refine (tests_newTrial_3.calls _ _ (rd_L1 l0_1 x50_3) t136 _ ?side1 ?side2 A45.out).mono ?_); (case side1 => exact cz ((Kd.C_below HR135_0.out HB.out))); (case side2 => exact HC135_0.out); rintro e w' ⟨rfl, ⟨nd, rfl⟩⟩))
               go_meet
               case rel => exact ⟨_, (t136), (by first | rfl | (simp; done) | (simp [*]; done)), H', ⟨by have := HJ1.out; have := HJ16.out; have := HK3.out; first | omega | exact Nat.le_refl _⟩, ⟨by (with_reducible repeat (first | apply Kd.R_alloc | apply Kd.R_drewN | apply Kd.R_drew)); exact HO_135003.out⟩, ⟨by (with_reducible repeat (first | refine blk_drewN ?_ _ | refine blk_drew ?_ | refine blk_alloc ?_ _)); exact BK129.out⟩, ⟨by (with_reducible repeat (first | refine blk_drewN ?_ _ | refine blk_drew ?_ | refine blk_alloc ?_ _)); exact BK130.out⟩, ⟨by (with_reducible repeat (first | refine blk_drewN ?_ _ | refine blk_drew ?_ | refine blk_alloc ?_ _)); exact BK134.out⟩, ⟨by repeat (first | (with_reducible first | exact HB.out | apply below_alloc | apply pw_below_drewN | apply below_drew1 | refine below_set ?_ GE129.out | refine below_set ?_ GE130.out | refine below_set ?_ GE134.out) | exact HB.out)⟩⟩
              ·rw [if_neg c44] at H
               have c44b0 : (((rd_L1 l0_1 x50_3).length : Int) == (l0_0.length : Int)) = false := beq_eq_false_iff_ne.mpr c44
               have c44b1 : (((rd_L1 l0_1 x50_3).length : Int) != (l0_0.length : Int)) = true := bne_iff_ne.mpr c44
               have c44b2 : ((rd_L1 l0_1 x50_3).length == l0_0.length) = false := by first | simpa using c44 | (simp at c44 ⊢; omega)
               (first | rw [c44b0] | (simp only [i64_w, i32_w]; rw [c44b0]) | skip)
               have H' := Aside0.mk H
               clear H
               go_wp2
               go_meet
               case rel => exact ⟨_, (true), (by first | rfl | (simp; done) | (simp [*]; done)), H', ⟨by have := HJ1.out; have := HJ16.out; have := HK3.out; first | omega | exact Nat.le_refl _⟩, ⟨by (with_reducible repeat (first | apply Kd.R_alloc | apply Kd.R_drewN | apply Kd.R_drew)); exact HO_135003.out⟩, ⟨by (with_reducible repeat (first | refine blk_drewN ?_ _ | refine blk_drew ?_ | refine blk_alloc ?_ _)); exact BK129.out⟩, ⟨by (with_reducible repeat (first | refine blk_drewN ?_ _ | refine blk_drew ?_ | refine blk_alloc ?_ _)); exact BK130.out⟩, ⟨by (with_reducible repeat (first | refine blk_drewN ?_ _ | refine blk_drew ?_ | refine blk_alloc ?_ _)); exact BK134.out⟩, ⟨by repeat (first | (with_reducible first | exact HB.out | apply below_alloc | apply pw_below_drewN | apply below_drew1 | refine below_set ?_ GE129.out | refine below_set ?_ GE130.out | refine below_set ?_ GE134.out) | exact HB.out)⟩⟩
             case rest =>
              clear HC43
              try clear c1
              try clear p1
              try clear q1
              try clear hx1
              try clear c2
              try clear p2
              try clear c3
              try clear c4
              try clear c5
              try clear c6
              try clear c8
              try clear c9
              try clear c9b0
              try clear c9b1
              try clear c10
              try clear c12
              try clear c13
              try clear p13
              try clear q13
              try clear hx13
              try clear c14
              try clear c15
              try clear c19
              try clear c20
              try clear c23
              try clear c25
              try clear c26
              try clear c28
              try clear c28b0
              try clear c28b1
              try clear c37
              try clear c38
              try clear c40
              try clear c40b0
              try clear c41
              try clear c41b0
              try clear c42
              try clear c42b0
              try clear c44
              try clear c44b0
              try clear c44b1
              try clear c44b2
              try clear c45
              try clear hcz11_0
              try clear hcz11_1
              try clear hcz11_2
              try clear hcz13_0
              try clear hcz13_1
              try clear hcz13_2
              try clear hcz16_0
              try clear hcz16_1
              try clear hcz16_2
              try clear hcz16_3
              try clear hcz16_4
              try clear hcz21_0
              try clear hcz21_1
              try clear hcz21_2
              try clear hcz24_0
              try clear hcz24_1
              try clear hcz24_2
              try clear hcz27_0
              try clear hcz27_1
              try clear hcz27_2
              try clear hcz27_3
              try clear hcz27_4
              try clear hcz39_0
              try clear hcz39_1
              try clear hcz39_2
              try clear hcz6_0
              try clear hcz6_1
              try clear hcz6_2
              try clear hfz11_0
              try clear hfz11_1
              try clear hfz11_2
              try clear hfz13_0
              try clear hfz13_1
              try clear hfz13_2
              try clear hfz16_0
              try clear hfz16_1
              try clear hfz16_2
              try clear hfz16_3
              try clear hfz16_4
              try clear hfz21_0
              try clear hfz21_1
              try clear hfz21_2
              try clear hfz24_0
              try clear hfz24_1
              try clear hfz24_2
              try clear hfz27_0
              try clear hfz27_1
              try clear hfz27_2
              try clear hfz27_3
              try clear hfz27_4
              try clear hfz39_0
              try clear hfz39_1
              try clear hfz39_2
              try clear hfz6_0
              try clear hfz6_1
              try clear hfz6_2
              try clear hx135_0
              try clear p135
              try clear p2
              try clear q135
              obtain ⟨kq, x61_42, rfl, HA, HJ42, HO_135003, BK129, BK130, BK134, HB⟩ := hcut
              cases kq with
              | zero => exact absurd HA.out (by simp [tests_newTrialA.j3])
              | succ kj42 =>
               have H := HA.out
               clear HA
               simp only [tests_newTrialA.j3] at H
               by_cases c46 : x61_42 = true
               ·subst c46
                have H1 : (some (([] : List Int), ([] : List (List Int)), ([] : List Int), ([] : List Int), 0, 2)) = some (r1, r2, r3, r4, r5, r6) := by rw [if_pos rfl] at H; exact H
                clear H
                have H := H1
                clear H1
                simp only [Option.some.injEq, Prod.mk.injEq] at H
                obtain ⟨rfl, rfl, rfl, rfl, rfl, rfl⟩ := H
                have hnb47 := NB130_129.out
                have hnc47 := NB129_130.out
                have hnb48 := NB130_134.out
                have hnc48 := NB134_130.out
                have hcz49_0 : wc.cell? ⟨gb130, 0, none⟩ = some (.slice none 0 0) := (blk_cell BK130.out 0).trans rfl
                have hcz49_1 : wc.cell? ⟨gb130, 1, none⟩ = some (.slice none 0 0) := (blk_cell BK130.out 1).trans rfl
                have hcz49_2 : wc.cell? ⟨gb130, 2, none⟩ = some (.slice none 0 0) := (blk_cell BK130.out 2).trans rfl
                have hcz49_3 : wc.cell? ⟨gb130, 3, none⟩ = some (.slice none 0 0) := (blk_cell BK130.out 3).trans rfl
                have hcz49_4 : wc.cell? ⟨gb130, 4, none⟩ = some (.int .u64 x131004_3) := (blk_cell BK130.out 4).trans rfl
                have hfz49_0 := blk_frozen BK130.out 0
                have hfz49_1 := blk_frozen BK130.out 1
                have hfz49_2 := blk_frozen BK130.out 2
                have hfz49_3 := blk_frozen BK130.out 3
                have hfz49_4 := blk_frozen BK130.out 4
                go_wp2
                refine bodyPost_ret (results_ct rfl _ _ gb130 77 #[.slice none 0 0, .slice none 0 0, .slice none 0 0, .slice none 0 0, .int .u64 0] (0, 0) _ rfl (by (with_reducible repeat (first | refine blk_drewN ?_ _ | refine blk_drew ?_ | refine blk_alloc ?_ _)); refine blk_put (cs := #[.slice none 0 0, .slice none 0 0, .slice none 0 0, .slice none 0 0, .int .u64 x131004_3]) ?_ 4 _ rfl; (with_reducible repeat (first | refine blk_drewN ?_ _ | refine blk_drew ?_ | refine blk_alloc ?_ _)); refine blk_put (cs := #[.slice none 0 0, .slice none 0 0, .slice none 0 0, .slice none 0 0, .int .u64 x131004_3]) ?_ 3 _ rfl; (with_reducible repeat (first | refine blk_drewN ?_ _ | refine blk_drew ?_ | refine blk_alloc ?_ _)); refine blk_put (cs := #[.slice none 0 0, .slice none 0 0, .slice none 0 0, .slice none 0 0, .int .u64 x131004_3]) ?_ 2 _ rfl; (with_reducible repeat (first | refine blk_drewN ?_ _ | refine blk_drew ?_ | refine blk_alloc ?_ _)); refine blk_put (cs := #[.slice none 0 0, .slice none 0 0, .slice none 0 0, .slice none 0 0, .int .u64 x131004_3]) ?_ 1 _ rfl; (with_reducible repeat (first | refine blk_drewN ?_ _ | refine blk_drew ?_ | refine blk_alloc ?_ _)); refine blk_put (cs := #[.slice none 0 0, .slice none 0 0, .slice none 0 0, .slice none 0 0, .int .u64 x131004_3]) ?_ 0 _ rfl; (with_reducible repeat (first | refine blk_drewN ?_ _ | refine blk_drew ?_ | refine blk_alloc ?_ _)); exact BK130.out) Tryd.underlying77 rfl (by kernel_rfl)) rfl ?_
                exact ⟨_, _, _, _, by first | rfl | (simp [errW_none, errW_some] <;> rfl) | (simp only [← hji29]; first | rfl | (simp [errW_none, errW_some] <;> rfl)) | (simp [*, errW_none, errW_some] <;> rfl), .inr ⟨rfl, rfl, rfl, rfl⟩, by first | exact Kd.R_nil _ _ _ _ _ | exact Kd.N_nil _ _ _ _ _ | exact Kd.V_nil _ _ _ _ _ | exact Kd.Q_nil _ _ _ _ _ | exact Kd.S_nil _ _ _ _ _, by repeat (first | (with_reducible first | exact HB.out | apply below_alloc | apply pw_below_drewN | apply below_drew1 | refine below_set ?_ GE129.out | refine below_set ?_ GE130.out | refine below_set ?_ GE134.out) | exact HB.out)⟩
               ·replace c46 := Bool.eq_false_iff.mpr c46
                subst c46
                have H1 : (tests_newTrialA.l1 kj42 (l0_0.length : Int) 0 l0_1 (l0_1.length : Int) x50_3 (rd_L1 l0_1 x50_3) ((rd_L1 l0_1 x50_3).length : Int) 0 x135003_3 (IntKind.u64.wrap ((ji29) - 1))) = some (r1, r2, r3, r4, r5, r6) := by rw [if_neg (show ¬ (false = true) by decide)] at H; exact H
                clear H
                have H := H1
                clear H1
                have H' := Aside0.mk H
                clear H
                go_wp2
                go_loopg [8, 65] kj42 (fun kq v8 v65 w' => ∃ (x8_5 : Int) (x65_5 : Int), v8 = .int .u64 x8_5 ∧ v65 = .int .i64 x65_5 ∧ Aside0 (tests_newTrialA.l1 kq (l0_0.length : Int) x8_5 l0_1 (l0_1.length : Int) x50_3 (rd_L1 l0_1 x50_3) ((rd_L1 l0_1 x50_3).length : Int) x65_5 x135003_3 (IntKind.u64.wrap ((ji29) - 1)) = some (r1, r2, r3, r4, r5, r6)) ∧ Aside0 (kq ≤ kj42) ∧ Aside0 (Kd.R (Kd.int .u64) 75 w' w.heap.size (fun _ => True) u135003 x135003_3) ∧ Aside0 (w'.heap[gb129]? = some (.cells #[(.slice A0_0 l0_0.length c0_0), (.slice (some ad135) l0_1.length c0_1), (.slice A0_2 l0_2.length c0_2)] 25 (0, 0))) ∧ Aside0 (w'.heap[gb130]? = some (.cells #[(.slice none 0 0), (.slice none 0 0), (.slice none 0 0), (.slice none 0 0), .int .u64 x131004_3] 77 (0, 0))) ∧ Aside0 (w'.heap[gb134]? = some (.cells #[.slice A0_0 l0_0.length c0_0, .slice (some ad135) l0_1.length c0_1, .slice A0_2 l0_2.length c0_2, u135003, .int .u64 (IntKind.u64.wrap ((ji29) - 1))] 77 (0, 0))) ∧ Aside0 (Below w.heap.size w w'))
                case atStart => exact ⟨(0), (0), (by first | rfl | (simp; done) | (simp [*]; done)), (by first | rfl | (simp; done) | (simp [*]; done)), H', ⟨Nat.le_refl _⟩, ⟨by (with_reducible repeat (first | apply Kd.R_alloc | apply Kd.R_drewN | apply Kd.R_drew)); exact HO_135003.out⟩, ⟨by (with_reducible repeat (first | refine blk_drewN ?_ _ | refine blk_drew ?_ | refine blk_alloc ?_ _)); exact BK129.out⟩, ⟨by (with_reducible repeat (first | refine blk_drewN ?_ _ | refine blk_drew ?_ | refine blk_alloc ?_ _)); exact BK130.out⟩, ⟨by (with_reducible repeat (first | refine blk_drewN ?_ _ | refine blk_drew ?_ | refine blk_alloc ?_ _)); exact BK134.out⟩, ⟨by repeat (first | (with_reducible first | exact HB.out | apply below_alloc | apply pw_below_drewN | apply below_drew1 | refine below_set ?_ GE129.out | refine below_set ?_ GE130.out | refine below_set ?_ GE134.out) | exact HB.out)⟩⟩
                case round =>
                 clear H'
                 try clear c1
                 try clear p1
                 try clear q1
                 try clear hx1
                 try clear c2
                 try clear p2
                 try clear c3
                 try clear c4
                 try clear c5
                 try clear c6
                 try clear c8
                 try clear c9
                 try clear c9b0
                 try clear c9b1
                 try clear c10
                 try clear c12
                 try clear c13
                 try clear p13
                 try clear q13
                 try clear hx13
                 try clear c14
                 try clear c15
                 try clear c19
                 try clear c20
                 try clear c23
                 try clear c25
                 try clear c26
                 try clear c28
                 try clear c28b0
                 try clear c28b1
                 try clear c37
                 try clear c38
                 try clear c40
                 try clear c40b0
                 try clear c41
                 try clear c41b0
                 try clear c42
                 try clear c42b0
                 try clear c44
                 try clear c44b0
                 try clear c44b1
                 try clear c44b2
                 try clear c45
                 try clear c46
                 try clear c47
                 try clear c48
                 try clear hcz11_0
                 try clear hcz11_1
                 try clear hcz11_2
                 try clear hcz13_0
                 try clear hcz13_1
                 try clear hcz13_2
                 try clear hcz16_0
                 try clear hcz16_1
                 try clear hcz16_2
                 try clear hcz16_3
                 try clear hcz16_4
                 try clear hcz21_0
                 try clear hcz21_1
                 try clear hcz21_2
                 try clear hcz24_0
                 try clear hcz24_1
                 try clear hcz24_2
                 try clear hcz27_0
                 try clear hcz27_1
                 try clear hcz27_2
                 try clear hcz27_3
                 try clear hcz27_4
                 try clear hcz39_0
                 try clear hcz39_1
                 try clear hcz39_2
                 try clear hcz49_0
                 try clear hcz49_1
                 try clear hcz49_2
                 try clear hcz49_3
                 try clear hcz49_4
                 try clear hcz6_0
                 try clear hcz6_1
                 try clear hcz6_2
                 try clear hfz11_0
                 try clear hfz11_1
                 try clear hfz11_2
                 try clear hfz13_0
                 try clear hfz13_1
                 try clear hfz13_2
                 try clear hfz16_0
                 try clear hfz16_1
                 try clear hfz16_2
                 try clear hfz16_3
                 try clear hfz16_4
                 try clear hfz21_0
                 try clear hfz21_1
                 try clear hfz21_2
                 try clear hfz24_0
                 try clear hfz24_1
                 try clear hfz24_2
                 try clear hfz27_0
                 try clear hfz27_1
                 try clear hfz27_2
                 try clear hfz27_3
                 try clear hfz27_4
                 try clear hfz39_0
                 try clear hfz39_1
                 try clear hfz39_2
                 try clear hfz49_0
                 try clear hfz49_1
                 try clear hfz49_2
                 try clear hfz49_3
                 try clear hfz49_4
                 try clear hfz6_0
                 try clear hfz6_1
                 try clear hfz6_2
                 try clear hx135_0
                 try clear p1
                 try clear p13
                 try clear p135
                 try clear p2
                 try clear q1
                 try clear q13
                 try clear q135
                 obtain ⟨x8_5, x65_5, rfl, rfl, HA, HK5, HO_135003, BK129, BK130, BK134, HB⟩ := hrel
                 cases gk with
                 | zero => exact absurd HA.out (by simp [tests_newTrialA.l1])
                 | succ k5 =>
                  have H := HA.out
                  clear HA
                  simp only [tests_newTrialA.l1] at H
                  by_cases c50 : x65_5 < ((rd_L1 l0_1 x50_3).length : Int)
                  ·rw [if_pos c50] at H
                   have c50b0 : decide (x65_5 < ((rd_L1 l0_1 x50_3).length : Int)) = true := decide_eq_true c50
                   clear c50
                   by_cases c51 : 0 ≤ x65_5
                   ·rw [if_pos c51] at H
                    have c51b0 : decide (0 ≤ x65_5) = true := decide_eq_true c51
                    clear c51
                    by_cases c52 : x65_5 < ((rd_L1 l0_1 x50_3).length : Int)
                    ·rw [if_pos c52] at H
                     have c52b0 : decide (x65_5 < ((rd_L1 l0_1 x50_3).length : Int)) = true := decide_eq_true c52
                     clear c52
                     have c53b0 := eq_true (of_decide_eq_true az : 0 ≤ x65_5)
                     obtain ⟨ji54, hji54⟩ : ∃ j_ : Int, (shl .u64 (IntKind.u64.wrap (rd (rd_L1 l0_1 x50_3) x65_5)) x65_5) = j_ := ⟨_, rfl⟩
                     replace H : (tests_newTrialA.l1 k5 (l0_0.length : Int) (Go.bits .or .u64 x8_5 (ji54)) l0_1 (l0_1.length : Int) x50_3 (rd_L1 l0_1 x50_3) ((rd_L1 l0_1 x50_3).length : Int) (wrap64 (x65_5 + 1)) x135003_3 (IntKind.u64.wrap ((ji29) - 1))) = some (r1, r2, r3, r4, r5, r6) := by first | (rw [hji54] at H; exact H) | (simp only [hji54] at H ⊢; exact H)
                     have hji54_ : (IntKind.u64.wrap ((IntKind.u64.wrap (rd (rd_L1 l0_1 x50_3) x65_5)) * 2 ^ min x65_5.toNat 64)) = ji54 := hji54
                     have hji54z : x65_5 ≤ 64 → (IntKind.u64.wrap ((IntKind.u64.wrap (rd (rd_L1 l0_1 x50_3) x65_5)) * 2 ^ x65_5.toNat)) = ji54 := shl_small hji54
                     have H' := Aside0.mk H
                     clear H
                     have p137 : 0 ≤ (x65_5 : Int) := of_decide_eq_true az
                     have q137 : x65_5 < ((rd_L1 l0_1 x50_3).length : Int) := of_decide_eq_true az
                     obtain ⟨ad137, e137, hx137_0⟩ := Kd.at_int HR135_0.out x65_5 p137 q137
                     cases e137
                     replace hx137_0 := (HB.out.cell (World.block_lt_of_cell? w _ hx137_0)).trans hx137_0
                     replace p137 := eq_true p137
                     replace q137 := eq_true q137
                     go_wp2
                     go_roundg k5
                     case measure => have := HJ1.out; have := HJ16.out; have := HK3.out; have := HJ42.out; have := HK5.out; omega
                     case rel => exact ⟨(Go.bits .or .u64 x8_5 (ji54)), (wrap64 (x65_5 + 1)), (by first | rfl | (simp; done) | (simp only [← hji54] <;> (first | rfl | simp)) | (simp [*]; done)), (by first | rfl | (simp; done) | (simp [*]; done)), H', ⟨by have := HJ1.out; have := HJ16.out; have := HK3.out; have := HJ42.out; have := HK5.out; omega⟩, ⟨by (with_reducible repeat (first | apply Kd.R_alloc | apply Kd.R_drewN | apply Kd.R_drew)); exact HO_135003.out⟩, ⟨by (with_reducible repeat (first | refine blk_drewN ?_ _ | refine blk_drew ?_ | refine blk_alloc ?_ _)); exact BK129.out⟩, ⟨by (with_reducible repeat (first | refine blk_drewN ?_ _ | refine blk_drew ?_ | refine blk_alloc ?_ _)); exact BK130.out⟩, ⟨by (with_reducible repeat (first | refine blk_drewN ?_ _ | refine blk_drew ?_ | refine blk_alloc ?_ _)); exact BK134.out⟩, ⟨by repeat (first | (with_reducible first | exact HB.out | apply below_alloc | apply pw_below_drewN | apply below_drew1 | refine below_set ?_ GE129.out | refine below_set ?_ GE130.out | refine below_set ?_ GE134.out) | exact HB.out)⟩⟩
                    ·rw [if_neg c52] at H
                     exact absurd H (by simp)
                   ·rw [if_neg c51] at H
                    exact absurd H (by simp)
                  ·rw [if_neg c50] at H
                   have c50b0 : decide (x65_5 < ((rd_L1 l0_1 x50_3).length : Int)) = false := decide_eq_false c50
                   clear c50
                   by_cases c55 : x135003_3.length < 17592186044416
                   ·rw [if_pos c55] at H
                    have LMc55 := Aside0.mk c55
                    clear c55
                    obtain ⟨y138, hy138⟩ : ∃ y_ : List Int, y_ = (x135003_3 ++ [x8_5]) := ⟨_, rfl⟩
                    replace H : (tests_newTrialA.l0 k5 (l0_0.length : Int) l0_1 (l0_1.length : Int) (wrap64 (x50_3 + 1)) y138 (IntKind.u64.wrap ((ji29) - 1))) = some (r1, r2, r3, r4, r5, r6) := by first | (rw [hy138]; with_reducible exact H) | (have H2_ := (Option.bind_some _ _).symm.trans H; rw [hy138]; with_reducible exact H2_) | (have H2_ := (Option.bind_some _ _).symm.trans H; with_reducible exact H2_) | with_reducible exact H | (rw [hy138]; exact H) | exact H
                    have Ny138 := Aside0.mk hy138
                    clear hy138
                    have H' := Aside0.mk H
                    clear H
                    have hnb56 := NB134_129.out
                    have hnc56 := NB129_134.out
                    have hnb57 := NB134_130.out
                    have hnc57 := NB130_134.out
                    have hcz58_0 : wr.cell? ⟨gb134, 0, none⟩ = some (.slice A0_0 l0_0.length c0_0) := (blk_cell BK134.out 0).trans rfl
                    have hcz58_1 : wr.cell? ⟨gb134, 1, none⟩ = some (.slice (some ad135) l0_1.length c0_1) := (blk_cell BK134.out 1).trans rfl
                    have hcz58_2 : wr.cell? ⟨gb134, 2, none⟩ = some (.slice A0_2 l0_2.length c0_2) := (blk_cell BK134.out 2).trans rfl
                    have hcz58_3 : wr.cell? ⟨gb134, 3, none⟩ = some (u135003) := (blk_cell BK134.out 3).trans rfl
                    have hcz58_4 : wr.cell? ⟨gb134, 4, none⟩ = some (.int .u64 (IntKind.u64.wrap ((ji29) - 1))) := (blk_cell BK134.out 4).trans rfl
                    have hfz58_0 := blk_frozen BK134.out 0
                    have hfz58_1 := blk_frozen BK134.out 1
                    have hfz58_2 := blk_frozen BK134.out 2
                    have hfz58_3 := blk_frozen BK134.out 3
                    have hfz58_4 := blk_frozen BK134.out 4
                    go_wp2_with (first | ((with_reducible refine gate_builtin (b := .append) (xs := #[.tmp 78, .tmp 80]) rfl ?_); (try (refine gate_guard (by rfl) ?_; dsimp only)); at_builtin; refine Kd.R_append (Kd.int .u64) (w0 := w) w.heap.size rfl (.tmp 78) (.tmp 80) 73 75 (.int .u64 0) 8 rfl Tryd.underlying73 info75t rfl (by decide) (by omega) u135003 x135003_3 x8_5 [.int .u64 x8_5] (fun _ => True) (fun _ => False) rfl rfl ?aP (fun _ hk => hk.elim) ?aF ?aO ?aB ?aS ?aL ?_; (case aP => exact rfl); (case aB => exact bz); (case aF => exact (fun _ _ => trivial)); (case aO => exact (rz HO_135003.out)); (case aS => exact (below_size bz)); (case aL => have := LMc55.out; omega); intro v139 w59 ho hb hg hat; rw [← Ny138.out] at ho; have n0_ := Aside0.mk (blk_grown (g := gb129) (o := .cells #[.slice A0_0 l0_0.length c0_0, .slice (some ad135) l0_1.length c0_1, .slice A0_2 l0_2.length c0_2] 25 (0, 0)) (kz BK129.out) hg (Kd.R_ne HO_135003.out BK129.out (by decide))); have n1_ := Aside0.mk (blk_grown (g := gb130) (o := .cells #[.slice none 0 0, .slice none 0 0, .slice none 0 0, .slice none 0 0, .int .u64 x131004_3] 77 (0, 0)) (kz BK130.out) hg (Kd.R_ne HO_135003.out BK130.out (by decide))); have n2_ := Aside0.mk (blk_grown (g := gb134) (o := .cells #[.slice A0_0 l0_0.length c0_0, .slice (some ad135) l0_1.length c0_1, .slice A0_2 l0_2.length c0_2, u135003, .int .u64 (IntKind.u64.wrap ((ji29) - 1))] 77 (0, 0)) (kz BK134.out) hg (Kd.R_ne HO_135003.out BK134.out (by decide))); have n3_ := Aside0.mk (hb); have n4_ := Aside0.mk (ho); clear BK129; clear BK130; clear BK134; clear HB; clear HO_135003; have BK129 := n0_; have BK130 := n1_; have BK134 := n2_; have HB := n3_; have HO140 := n4_; clear n0_ n1_ n2_ n3_ n4_; clear ho hb hg hat; obtain ⟨Ao60, co60, eo60⟩ := Kd.R_slice HO140.out; subst eo60; have hcz61_0 : w59.cell? ⟨gb134, 0, none⟩ = some (.slice A0_0 l0_0.length c0_0) := (blk_cell BK134.out 0).trans rfl; have hcz61_1 : w59.cell? ⟨gb134, 1, none⟩ = some (.slice (some ad135) l0_1.length c0_1) := (blk_cell BK134.out 1).trans rfl; have hcz61_2 : w59.cell? ⟨gb134, 2, none⟩ = some (.slice A0_2 l0_2.length c0_2) := (blk_cell BK134.out 2).trans rfl; have hcz61_3 : w59.cell? ⟨gb134, 3, none⟩ = some (u135003) := (blk_cell BK134.out 3).trans rfl; have hcz61_4 : w59.cell? ⟨gb134, 4, none⟩ = some (.int .u64 (IntKind.u64.wrap ((ji29) - 1))) := (blk_cell BK134.out 4).trans rfl; have hfz61_0 := blk_frozen BK134.out 0; have hfz61_1 := blk_frozen BK134.out 1; have hfz61_2 := blk_frozen BK134.out 2; have hfz61_3 := blk_frozen BK134.out 3; have hfz61_4 := blk_frozen BK134.out 4))
                    go_roundg k5
                    case measure => have := HJ1.out; have := HJ16.out; have := HK3.out; have := HJ42.out; have := HK5.out; omega
                    case rel => exact ⟨(wrap64 (x50_3 + 1)), (x131004_3), (y138), (.slice Ao60 y138.length co60), (by first | rfl | (simp; done) | (simp [*]; done)), H', ⟨by have := HJ1.out; have := HJ16.out; have := HK3.out; have := HJ42.out; have := HK5.out; omega⟩, ⟨by (with_reducible repeat (first | apply Kd.R_alloc | apply Kd.R_drewN | apply Kd.R_drew)); exact Kd.R_mono (Kd.R_far (p := ⟨gb134, 3, none⟩) (Kd.R_types HO140.out BK134.out (by decide)) (fun _ hk => hk.2) (.slice Ao60 y138.length co60)) (fun _ hk => trivial)⟩, ⟨by (with_reducible repeat (first | refine blk_drewN ?_ _ | refine blk_drew ?_ | refine blk_alloc ?_ _)); refine blk_far ?_ NB129_134.out _; (with_reducible repeat (first | refine blk_drewN ?_ _ | refine blk_drew ?_ | refine blk_alloc ?_ _)); exact BK129.out⟩, ⟨by (with_reducible repeat (first | refine blk_drewN ?_ _ | refine blk_drew ?_ | refine blk_alloc ?_ _)); refine blk_far ?_ NB130_134.out _; (with_reducible repeat (first | refine blk_drewN ?_ _ | refine blk_drew ?_ | refine blk_alloc ?_ _)); exact BK130.out⟩, ⟨by (with_reducible repeat (first | refine blk_drewN ?_ _ | refine blk_drew ?_ | refine blk_alloc ?_ _)); refine blk_put (cs := #[.slice A0_0 l0_0.length c0_0, .slice (some ad135) l0_1.length c0_1, .slice A0_2 l0_2.length c0_2, u135003, .int .u64 (IntKind.u64.wrap ((ji29) - 1))]) ?_ 3 _ rfl; (with_reducible repeat (first | refine blk_drewN ?_ _ | refine blk_drew ?_ | refine blk_alloc ?_ _)); exact BK134.out⟩, ⟨by repeat (first | (with_reducible first | exact HB.out | apply below_alloc | apply pw_below_drewN | apply below_drew1 | refine below_set ?_ GE129.out | refine below_set ?_ GE130.out | refine below_set ?_ GE134.out) | exact HB.out)⟩⟩
                   ·rw [if_neg c55] at H
                    exact absurd H (by simp)
            ·rw [if_neg c42] at H
             exact absurd H (by simp)
           ·rw [if_neg c41] at H
            exact absurd H (by simp)
          ·rw [if_neg c40] at H
           have c40b0 : decide (x50_3 < (l0_1.length : Int)) = false := decide_eq_false c40
           clear c40
           simp only [Option.some.injEq, Prod.mk.injEq] at H
           obtain ⟨rfl, rfl, rfl, rfl, rfl, rfl⟩ := H
           have hnb62 := NB134_129.out
           have hnc62 := NB129_134.out
           have hnb63 := NB134_130.out
           have hnc63 := NB130_134.out
           have hcz64_0 : wr.cell? ⟨gb134, 0, none⟩ = some (.slice A0_0 l0_0.length c0_0) := (blk_cell BK134.out 0).trans rfl
           have hcz64_1 : wr.cell? ⟨gb134, 1, none⟩ = some (.slice A0_1 l0_1.length c0_1) := (blk_cell BK134.out 1).trans rfl
           have hcz64_2 : wr.cell? ⟨gb134, 2, none⟩ = some (.slice A0_2 l0_2.length c0_2) := (blk_cell BK134.out 2).trans rfl
           have hcz64_3 : wr.cell? ⟨gb134, 3, none⟩ = some (u135003) := (blk_cell BK134.out 3).trans rfl
           have hcz64_4 : wr.cell? ⟨gb134, 4, none⟩ = some (.int .u64 (IntKind.u64.wrap ((ji29) - 1))) := (blk_cell BK134.out 4).trans rfl
           have hfz64_0 := blk_frozen BK134.out 0
           have hfz64_1 := blk_frozen BK134.out 1
           have hfz64_2 := blk_frozen BK134.out 2
           have hfz64_3 := blk_frozen BK134.out 3
           have hfz64_4 := blk_frozen BK134.out 4
           have hnb65 := NB130_129.out
           have hnc65 := NB129_130.out
           have hcz66_0 : wr.cell? ⟨gb130, 0, none⟩ = some (.slice none 0 0) := (blk_cell BK130.out 0).trans rfl
           have hcz66_1 : wr.cell? ⟨gb130, 1, none⟩ = some (.slice none 0 0) := (blk_cell BK130.out 1).trans rfl
           have hcz66_2 : wr.cell? ⟨gb130, 2, none⟩ = some (.slice none 0 0) := (blk_cell BK130.out 2).trans rfl
           have hcz66_3 : wr.cell? ⟨gb130, 3, none⟩ = some (.slice none 0 0) := (blk_cell BK130.out 3).trans rfl
           have hcz66_4 : wr.cell? ⟨gb130, 4, none⟩ = some (.int .u64 x131004_3) := (blk_cell BK130.out 4).trans rfl
           have hfz66_0 := blk_frozen BK130.out 0
           have hfz66_1 := blk_frozen BK130.out 1
           have hfz66_2 := blk_frozen BK130.out 2
           have hfz66_3 := blk_frozen BK130.out 3
           have hfz66_4 := blk_frozen BK130.out 4
           obtain ⟨Ao67, co67, eo67⟩ := Kd.R_slice HO_135003.out
           subst eo67
           go_wp2
           refine bodyPost_ret (results_ct rfl _ _ gb130 77 #[.slice A0_0 l0_0.length c0_0, .slice A0_1 l0_1.length c0_1, .slice A0_2 l0_2.length c0_2, .slice Ao67 x135003_3.length co67, .int .u64 (IntKind.u64.wrap ((ji29) - 1))] (0, 0) _ rfl (by (with_reducible repeat (first | refine blk_drewN ?_ _ | refine blk_drew ?_ | refine blk_alloc ?_ _)); refine blk_put (cs := #[.slice A0_0 l0_0.length c0_0, .slice A0_1 l0_1.length c0_1, .slice A0_2 l0_2.length c0_2, .slice Ao67 x135003_3.length co67, .int .u64 x131004_3]) ?_ 4 _ rfl; (with_reducible repeat (first | refine blk_drewN ?_ _ | refine blk_drew ?_ | refine blk_alloc ?_ _)); refine blk_put (cs := #[.slice A0_0 l0_0.length c0_0, .slice A0_1 l0_1.length c0_1, .slice A0_2 l0_2.length c0_2, .slice none 0 0, .int .u64 x131004_3]) ?_ 3 _ rfl; (with_reducible repeat (first | refine blk_drewN ?_ _ | refine blk_drew ?_ | refine blk_alloc ?_ _)); refine blk_put (cs := #[.slice A0_0 l0_0.length c0_0, .slice A0_1 l0_1.length c0_1, .slice none 0 0, .slice none 0 0, .int .u64 x131004_3]) ?_ 2 _ rfl; (with_reducible repeat (first | refine blk_drewN ?_ _ | refine blk_drew ?_ | refine blk_alloc ?_ _)); refine blk_put (cs := #[.slice A0_0 l0_0.length c0_0, .slice none 0 0, .slice none 0 0, .slice none 0 0, .int .u64 x131004_3]) ?_ 1 _ rfl; (with_reducible repeat (first | refine blk_drewN ?_ _ | refine blk_drew ?_ | refine blk_alloc ?_ _)); refine blk_put (cs := #[.slice none 0 0, .slice none 0 0, .slice none 0 0, .slice none 0 0, .int .u64 x131004_3]) ?_ 0 _ rfl; (with_reducible repeat (first | refine blk_drewN ?_ _ | refine blk_drew ?_ | refine blk_alloc ?_ _)); exact BK130.out) Tryd.underlying77 rfl (by kernel_rfl)) rfl ?_
           exact ⟨_, _, _, _, by first | rfl | (simp [errW_none, errW_some] <;> rfl) | (simp only [← hji29]; first | rfl | (simp [errW_none, errW_some] <;> rfl)) | (simp [*, errW_none, errW_some] <;> rfl), .inl ⟨rfl, rfl, rfl, rfl⟩, by (with_reducible repeat (first | apply Kd.R_alloc | apply Kd.R_drewN | apply Kd.R_drew)); exact Kd.R_mono (Kd.R_far (p := ⟨gb130, 4, none⟩) (Kd.R_far (p := ⟨gb130, 3, none⟩) (Kd.R_far (p := ⟨gb130, 2, none⟩) (Kd.R_far (p := ⟨gb130, 1, none⟩) (Kd.R_far (p := ⟨gb130, 0, none⟩) (Kd.R_types HO_135003.out BK130.out (by decide)) (fun _ hk => hk.2) (.slice A0_0 l0_0.length c0_0)) (fun _ hk => hk.2) (.slice A0_1 l0_1.length c0_1)) (fun _ hk => hk.2) (.slice A0_2 l0_2.length c0_2)) (fun _ hk => hk.2) (.slice Ao67 x135003_3.length co67)) (fun _ hk => hk.2) (.int .u64 (IntKind.u64.wrap ((ji29) - 1)))) (fun _ hk => trivial), by repeat (first | (with_reducible first | exact HB.out | apply below_alloc | apply pw_below_drewN | apply below_drew1 | refine below_set ?_ GE129.out | refine below_set ?_ GE130.out | refine below_set ?_ GE134.out) | exact HB.out)⟩
       ·rw [if_neg c28] at H
        exact absurd H (by simp)

end Go.Proofs.YtekmiepdodaidaaDoor.X
end

section
/- tests.newTrial, as its callers take it: what it hands back shares the case's slices. -/
set_option linter.unusedVariables false
set_option linter.unusedSimpArgs false
namespace Go.Proofs.YtekmiepdodaidaaDoor.X
open Go.RowKit Go.Proofs.YtekmiepdodaidaaDoorW.PrintWords Go.Proofs.YtekmiepdodaidaaDoorW.PrintLast Go.Proofs.YtekmiepdodaidaaDoorW.PrintMore

def trialOf (a : List Int) (b : List (List Int)) (c : List Int) (r : List Int × (List (List Int)) × List Int × List Int × Int × Int) : List Int × (List (List Int)) × List Int × List Int × Int × Int :=
 if r.2.2.2.2.2 = 0 then (a, b, c, r.2.2.2) else ([], [], [], r.2.2.2)
def tests_newTrial.f (k : Nat) (a : List Int) (b : List (List Int)) (c : List Int) : Option (List Int × (List (List Int)) × List Int × List Int × Int × Int) :=
 (tests_newTrialA.f k a b c).bind fun r => some (trialOf a b c r)
/-- A slice that came in, behind what made new blocks alone. -/
theorem V_came {α : Type} {d : Kd α} {e : Nat} {w w' : World} {P : Nat → Prop} {ok : Nat → Prop} {v : Value} {xs : List α} {b b' : Nat} (h : Kd.V d e w b P v xs) (hb : Below w.heap.size w w') (hok : ∀ k, P k → k < w.heap.size → ok k) : Kd.V d e w' b' ok v xs :=
 Kd.V_mono (Kd.V_below (Kd.V_bound h) hb) (fun k hk => hok k hk.1 hk.2)
theorem tests_newTrial.calls (k : Nat) (P0_0_ : Nat → Prop) (A0_0 : Option Addr) (c0_0 : Nat) (l0_0 : List Int) (P0_1_ : Nat → Prop) (A0_1 : Option Addr) (c0_1 : Nat) (l0_1 : List (List Int)) (P0_2_ : Nat → Prop) (A0_2 : Option Addr) (c0_2 : Nat) (l0_2 : List Int) (r1 : List Int) (r2 : List (List Int)) (r3 : List Int) (r4 : List Int) (r5 : Int) (r6 : Int) (w : World)
  (hs0_0 : Kd.V (Kd.int .i64) 3 w w.heap.size (fun k_ => P0_0_ k_) (.slice A0_0 l0_0.length c0_0) l0_0) (hs0_1 : Kd.V (Kd.slice 3 (Kd.int .i64)) 22 w w.heap.size (fun k_ => P0_1_ k_) (.slice A0_1 l0_1.length c0_1) l0_1) (hs0_2 : Kd.V (Kd.int .i64) 3 w w.heap.size (fun k_ => P0_2_ k_) (.slice A0_2 l0_2.length c0_2) l0_2)
  (h : tests_newTrial.f k l0_0 l0_1 l0_2 = some (r1, r2, r3, r4, r5, r6)) :
  Calls Tryd.prog 45 #[.agg #[.slice A0_0 l0_0.length c0_0, .slice A0_1 l0_1.length c0_1, .slice A0_2 l0_2.length c0_2]] w fun e w' => ∃ v0_ v1_ v2_ v3_ : Value, e = .returned (.tuple #[.agg #[v0_, v1_, v2_, v3_, .int .u64 r5], .int .i64 r6])
   ∧ Kd.V (Kd.int .i64) 3 w' w.heap.size (fun k_ => ((P0_0_ k_ ∨ P0_1_ k_ ∨ P0_2_ k_) ∨ w.heap.size ≤ k_) ∧ some k_ ≠ (v3_ : Value).ownBlock) v0_ r1
   ∧ Kd.V (Kd.slice 3 (Kd.int .i64)) 22 w' w.heap.size (fun k_ => ((P0_0_ k_ ∨ P0_1_ k_ ∨ P0_2_ k_) ∨ w.heap.size ≤ k_) ∧ some k_ ≠ (v3_ : Value).ownBlock) v1_ r2
   ∧ Kd.V (Kd.int .i64) 3 w' w.heap.size (fun k_ => ((P0_0_ k_ ∨ P0_1_ k_ ∨ P0_2_ k_) ∨ w.heap.size ≤ k_) ∧ some k_ ≠ (v3_ : Value).ownBlock) v2_ r3
   ∧ Kd.R (Kd.int .u64) 75 w' w.heap.size (fun k_ => w.heap.size ≤ k_) v3_ r4 ∧ Below w.heap.size w w' := by
 obtain ⟨⟨q1, q2, q3, q4, q5, q6⟩, hA, hR⟩ := Option.bind_eq_some_iff.1 h
 have c0 := (Kd.V_reads' hs0_0).2; have c1 := (Kd.V_reads' hs0_1).2; have c2 := (Kd.V_reads' hs0_2).2
 refine (tests_newTrialA.calls k A0_0 c0_0 l0_0 A0_1 c0_1 l0_1 A0_2 c0_2 l0_2 q1 q2 q3 q4 q5 q6 w c0.2 c0.1 c1.2 c1.1 c2.2 c2.1 hA).mono ?_
 rintro e w' ⟨v0, v1, v2, v3, rfl, ht, hv3, hb⟩
 have hR' := Option.some.inj hR
 unfold trialOf at hR'
 have hok : ∀ (P : Nat → Prop), (∀ k, P k → P0_0_ k ∨ P0_1_ k ∨ P0_2_ k) → ∀ k, P k → k < w.heap.size → ((P0_0_ k ∨ P0_1_ k ∨ P0_2_ k) ∨ w.heap.size ≤ k) ∧ some k ≠ v3.ownBlock :=
  fun P hP k hk hlt => ⟨.inl (hP k hk), fun e => Nat.not_le.2 hlt (Kd.R_base hv3 k e.symm)⟩
 have hv3' : Kd.R (Kd.int .u64) 75 w' w.heap.size (fun k_ => w.heap.size ≤ k_) v3 q4 := Kd.R_reok rfl hv3 (fun k e => Kd.R_base hv3 k e)
 rcases ht with ⟨h6, rfl, rfl, rfl⟩ | ⟨h6, rfl, rfl, rfl⟩
 ·rw [if_pos (by exact h6)] at hR'
  injection hR' with h1 hR'; injection hR' with h2 hR'; injection hR' with h3 hR'; injection hR' with h4 hR'; injection hR' with h5 h6'
  subst h1 h2 h3 h4 h5 h6'
  exact ⟨_, _, _, _, rfl, V_came hs0_0 hb (hok _ (fun k hk => .inl hk)), V_came hs0_1 hb (hok _ (fun k hk => .inr (.inl hk))), V_came hs0_2 hb (hok _ (fun k hk => .inr (.inr hk))), hv3', hb⟩
 ·rw [if_neg (by show ¬ q6 = 0; omega)] at hR'
  injection hR' with h1 hR'; injection hR' with h2 hR'; injection hR' with h3 hR'; injection hR' with h4 hR'; injection hR' with h5 h6'
  subst h1 h2 h3 h4 h5 h6'
  exact ⟨_, _, _, _, rfl, Kd.V_nil _ _ _ _ _, Kd.V_nil _ _ _ _ _, Kd.V_nil _ _ _ _ _, hv3', hb⟩
end Go.Proofs.YtekmiepdodaidaaDoor.X
end
