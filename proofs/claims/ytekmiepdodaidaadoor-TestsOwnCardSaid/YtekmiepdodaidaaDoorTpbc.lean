/- Texts behind TestsOwn, part 29: contracts of the program's functions and the plain words for them. -/
import Derived.Test.YtekmiepdodaidaaDoorTpas
import Derived.Test.YtekmiepdodaidaaDoorTpba
import Derived.Test.YtekmiepdodaidaaDoorTpbb
section
namespace Go.Proofs.YtekmiepdodaidaaDoor.X
open Go.RowKit Go.Proofs.YtekmiepdodaidaaDoorW.PrintWords Go.Proofs.YtekmiepdodaidaaDoorW.PrintLast Go.Proofs.YtekmiepdodaidaaDoorW.PrintMore
attribute [local go_sem] max2_int min2_int max_two min_two max_three min_three max_four min_four   -- for this text's walks alone
set_option linter.unusedVariables false
set_option linter.unusedSimpArgs false

mutual
def tickingref07_Correct.l0 : Nat → List (S57) → Int → Int → Int → List Int → List (List Int) → List Int → Option (Int × Int × Bool)
 | 0, _, _, _, _, _, _, _ => none
 | k + 1, x1, x7, x8, x9, x267000, x267001, x267002 => if x9 < (x267000.length : Int) then ((tickingref07_Way.f k x267000 x267001 x267002 x1 x9).bind fun bt268 => (if bt268.2 = true then (tickingref07_Correct.l1 k x1 x7 x8 x9 bt268.1 0 0 x267000 x267001 x267002) else (some (0, 0, false)))) else (some (x7, x8, true))
def tickingref07_Correct.l1 : Nat → List (S57) → Int → Int → Int → List Int → Int → Int → List Int → List (List Int) → List Int → Option (Int × Int × Bool)
 | 0, _, _, _, _, _, _, _, _, _, _ => none
 | k + 1, x1, x7, x8, x9, x10, x12, x13, x267000, x267001, x267002 => if x13 < (x10.length : Int) then (if 0 ≤ x13 then (if 0 ≤ (rd x10 x13) then (if (rd x10 x13) < (x267002.length : Int) then (tickingref07_Correct.l1 k x1 x7 x8 x9 x10 (wrap64 (x12 + (rd x267002 (rd x10 x13)))) (wrap64 (x13 + 1)) x267000 x267001 x267002) else (none)) else (none)) else (none)) else (if 0 ≤ x9 then (if x9 < (x267000.length : Int) then (tickingref07_Correct.l0 k x1 (wrap64 (x7 + (wrap64 ((rd x267000 x9) * x12)))) (mx x8 x12) (wrap64 (x9 + 1)) x267000 x267001 x267002) else (none)) else (none))
end
def tickingref07_Correct.f (k : Nat) (l0_0 : List Int) (l0_1 : List (List Int)) (l0_2 : List Int) (l1 : List (S57)) : Option (Int × Int × Bool) := (tickingref07_Plan.f k l0_0 l0_1 l0_2 l1).bind fun t267 => (if t267 = true then (tickingref07_Correct.l0 k l1 0 0 0 l0_0 l0_1 l0_2) else (some (0, 0, false)))
set_option maxHeartbeats 8000000 in
set_option maxRecDepth 100000 in
theorem tickingref07_Correct.calls (k : Nat) (A0_0 : Option Addr) (c0_0 : Nat) (l0_0 : List Int) (A0_1 : Option Addr) (c0_1 : Nat) (l0_1 : List (List Int)) (A0_2 : Option Addr) (c0_2 : Nat) (l0_2 : List Int) (A1 : Option Addr) (c1 : Nat) (l1 : List (S57)) (r1 : Int) (r2 : Int) (r3 : Bool) (w : World) (hr0_0 : Kd.C (Kd.int .i64) w A0_0 l0_0.length l0_0) (hc0_0 : l0_0.length ≤ c0_0) (hr0_1 : Kd.C (Kd.slice 3 (Kd.int .i64)) w A0_1 l0_1.length l0_1) (hc0_1 : l0_1.length ≤ c0_1) (hr0_2 : Kd.C (Kd.int .i64) w A0_2 l0_2.length l0_2) (hc0_2 : l0_2.length ≤ c0_2) (hr1 : Kd.C k57 w A1 l1.length l1) (hc1 : l1.length ≤ c1) (h : tickingref07_Correct.f k l0_0 l0_1 l0_2 l1 = some (r1, r2, r3)) :
  Calls Tryd.prog 20 #[.agg #[.slice A0_0 l0_0.length c0_0, .slice A0_1 l0_1.length c0_1, .slice A0_2 l0_2.length c0_2], .slice A1 l1.length c1] w fun e w' => e = .returned (.tuple #[.int .i64 r1, .int .i64 r2, .bool r3]) ∧ Below w.heap.size w w' := by
 have hu25 := Tryd.underlying25
 have HR0_0 := Aside0.mk hr0_0
 have HC0_0 := Aside0.mk hc0_0
 clear hr0_0 hc0_0
 have HR0_1 := Aside0.mk hr0_1
 have HC0_1 := Aside0.mk hc0_1
 clear hr0_1 hc0_1
 have HR0_2 := Aside0.mk hr0_2
 have HC0_2 := Aside0.mk hc0_2
 clear hr0_2 hc0_2
 have HR1 := Aside0.mk hr1
 have HC1 := Aside0.mk hc1
 clear hr1 hc1
 have HB := Aside0.mk (Below.refl w.heap.size w)
 have H : ((tickingref07_Plan.f k l0_0 l0_1 l0_2 l1).bind fun t267 => (if t267 = true then (tickingref07_Correct.l0 k l1 0 0 0 l0_0 l0_1 l0_2) else (some (0, 0, false)))) = some (r1, r2, r3) := h
 clear h
 replace H := Option.bind_eq_some_iff.mp H
 obtain ⟨t267, A30, H⟩ := H
 replace H : (if t267 = true then (tickingref07_Correct.l0 k l1 0 0 0 l0_0 l0_1 l0_2) else (some (0, 0, false))) = some (r1, r2, r3) := H
 have A3 := Aside0.mk A30
 clear A30
 by_cases c4 : t267 = true
 ·subst c4
  have H1 : (tickingref07_Correct.l0 k l1 0 0 0 l0_0 l0_1 l0_2) = some (r1, r2, r3) := by rw [if_pos rfl] at H; exact H
  clear H
  have H := H1
  clear H1
  have H' := Aside0.mk H
  clear H
  go_enter Tryd.func20, Tryd.ntmps20
  go_wp2_with (first | ((with_reducible refine gate_dst (N := 2) rfl ?_); refine box_event ?hg (N := 2) ?hd (cs := #[.slice A0_0 l0_0.length c0_0, .slice A0_1 l0_1.length c0_1, .slice A0_2 l0_2.length c0_2]) (t := 25) ?hr ?_; (case hd => rfl); (case hg => rfl); (case hr => first | (go_simp; done) | (go_simp; rfl)); intro gb266 hg w5 hbox hb; have n0_ := Aside0.mk (below_step bz hb); have n1_ := Aside0.mk (hbox); have n2_ := Aside0.mk ((by rw [hg]; exact (below_size bz) : w.heap.size ≤ gb266)); have n3_ := Aside0.mk ((by rw [hg]; exact (below_size bz) : w.heap.size ≤ gb266)); clear HB; have HB := n0_; have BK266 := n1_; have GW266 := n2_; have GE266 := n3_; clear n0_ n1_ n2_ n3_; clear hb hbox hg; have hcz6_0 : w5.cell? ⟨gb266, 0, none⟩ = some (.slice A0_0 l0_0.length c0_0) := (blk_cell BK266.out 0).trans rfl; have hcz6_1 : w5.cell? ⟨gb266, 1, none⟩ = some (.slice A0_1 l0_1.length c0_1) := (blk_cell BK266.out 1).trans rfl; have hcz6_2 : w5.cell? ⟨gb266, 2, none⟩ = some (.slice A0_2 l0_2.length c0_2) := (blk_cell BK266.out 2).trans rfl; have hfz6_0 := blk_frozen BK266.out 0; have hfz6_1 := blk_frozen BK266.out 1; have hfz6_2 := blk_frozen BK266.out 2) | (go_at_call 44; (with_reducible refine (tickingref07_Plan.calls k _ _ l0_0 _ _ l0_1 _ _ l0_2 _ _ l1 true _ ?side1 ?side2 ?side3 ?side4 ?side5 ?side6 ?side7 ?side8 A3.out).mono ?_); (case side1 => exact cz ((Kd.C_below HR0_0.out HB.out))); (case side2 => exact HC0_0.out); (case side3 => exact cz ((Kd.C_below HR0_1.out HB.out))); (case side4 => exact HC0_1.out); (case side5 => exact cz ((Kd.C_below HR0_2.out HB.out))); (case side6 => exact HC0_2.out); (case side7 => exact cz ((Kd.C_below HR1.out HB.out))); (case side8 => exact HC1.out); rintro e w7 ⟨rfl, hb⟩; have n0_ := Aside0.mk (kb BK266.out hb); have n1_ := Aside0.mk (below_step bz hb); clear BK266; clear HB; have BK266 := n0_; have HB := n1_; clear n0_ n1_; (try clear hb); (try clear hb2); (try clear hk); (try clear hi)))
  repeat (go_quiet (first | ((with_reducible refine gate_dst (N := 2) rfl ?_); refine box_event ?hg (N := 2) ?hd (cs := #[.slice A0_0 l0_0.length c0_0, .slice A0_1 l0_1.length c0_1, .slice A0_2 l0_2.length c0_2]) (t := 25) ?hr ?_; (case hd => rfl); (case hg => rfl); (case hr => first | (go_simp; done) | (go_simp; rfl)); intro gb266 hg w5 hbox hb; have n0_ := Aside0.mk (below_step bz hb); have n1_ := Aside0.mk (hbox); have n2_ := Aside0.mk ((by rw [hg]; exact (below_size bz) : w.heap.size ≤ gb266)); have n3_ := Aside0.mk ((by rw [hg]; exact (below_size bz) : w.heap.size ≤ gb266)); clear HB; have HB := n0_; have BK266 := n1_; have GW266 := n2_; have GE266 := n3_; clear n0_ n1_ n2_ n3_; clear hb hbox hg; have hcz6_0 : w5.cell? ⟨gb266, 0, none⟩ = some (.slice A0_0 l0_0.length c0_0) := (blk_cell BK266.out 0).trans rfl; have hcz6_1 : w5.cell? ⟨gb266, 1, none⟩ = some (.slice A0_1 l0_1.length c0_1) := (blk_cell BK266.out 1).trans rfl; have hcz6_2 : w5.cell? ⟨gb266, 2, none⟩ = some (.slice A0_2 l0_2.length c0_2) := (blk_cell BK266.out 2).trans rfl; have hfz6_0 := blk_frozen BK266.out 0; have hfz6_1 := blk_frozen BK266.out 1; have hfz6_2 := blk_frozen BK266.out 2) | (go_at_call 44; (with_reducible refine (tickingref07_Plan.calls k _ _ l0_0 _ _ l0_1 _ _ l0_2 _ _ l1 true _ ?side1 ?side2 ?side3 ?side4 ?side5 ?side6 ?side7 ?side8 A3.out).mono ?_); (case side1 => exact cz ((Kd.C_below HR0_0.out HB.out))); (case side2 => exact HC0_0.out); (case side3 => exact cz ((Kd.C_below HR0_1.out HB.out))); (case side4 => exact HC0_1.out); (case side5 => exact cz ((Kd.C_below HR0_2.out HB.out))); (case side6 => exact HC0_2.out); (case side7 => exact cz ((Kd.C_below HR1.out HB.out))); (case side8 => exact HC1.out); rintro e w7 ⟨rfl, hb⟩; have n0_ := Aside0.mk (kb BK266.out hb); have n1_ := Aside0.mk (below_step bz hb); clear BK266; clear HB; have BK266 := n0_; have HB := n1_; clear n0_ n1_; (try clear hb); (try clear hb2); (try clear hk); (try clear hi))); try go_wp2_with (first | ((with_reducible refine gate_dst (N := 2) rfl ?_); refine box_event ?hg (N := 2) ?hd (cs := #[.slice A0_0 l0_0.length c0_0, .slice A0_1 l0_1.length c0_1, .slice A0_2 l0_2.length c0_2]) (t := 25) ?hr ?_; (case hd => rfl); (case hg => rfl); (case hr => first | (go_simp; done) | (go_simp; rfl)); intro gb266 hg w5 hbox hb; have n0_ := Aside0.mk (below_step bz hb); have n1_ := Aside0.mk (hbox); have n2_ := Aside0.mk ((by rw [hg]; exact (below_size bz) : w.heap.size ≤ gb266)); have n3_ := Aside0.mk ((by rw [hg]; exact (below_size bz) : w.heap.size ≤ gb266)); clear HB; have HB := n0_; have BK266 := n1_; have GW266 := n2_; have GE266 := n3_; clear n0_ n1_ n2_ n3_; clear hb hbox hg; have hcz6_0 : w5.cell? ⟨gb266, 0, none⟩ = some (.slice A0_0 l0_0.length c0_0) := (blk_cell BK266.out 0).trans rfl; have hcz6_1 : w5.cell? ⟨gb266, 1, none⟩ = some (.slice A0_1 l0_1.length c0_1) := (blk_cell BK266.out 1).trans rfl; have hcz6_2 : w5.cell? ⟨gb266, 2, none⟩ = some (.slice A0_2 l0_2.length c0_2) := (blk_cell BK266.out 2).trans rfl; have hfz6_0 := blk_frozen BK266.out 0; have hfz6_1 := blk_frozen BK266.out 1; have hfz6_2 := blk_frozen BK266.out 2) | (go_at_call 44; (with_reducible refine (tickingref07_Plan.calls k _ _ l0_0 _ _ l0_1 _ _ l0_2 _ _ l1 true _ ?side1 ?side2 ?side3 ?side4 ?side5 ?side6 ?side7 ?side8 A3.out).mono ?_); (case side1 => exact cz ((Kd.C_below HR0_0.out HB.out))); (case side2 => exact HC0_0.out); (case side3 => exact cz ((Kd.C_below HR0_1.out HB.out))); (case side4 => exact HC0_1.out); (case side5 => exact cz ((Kd.C_below HR0_2.out HB.out))); (case side6 => exact HC0_2.out); (case side7 => exact cz ((Kd.C_below HR1.out HB.out))); (case side8 => exact HC1.out); rintro e w7 ⟨rfl, hb⟩; have n0_ := Aside0.mk (kb BK266.out hb); have n1_ := Aside0.mk (below_step bz hb); clear BK266; clear HB; have BK266 := n0_; have HB := n1_; clear n0_ n1_; (try clear hb); (try clear hb2); (try clear hk); (try clear hi))))
  go_loopg [7, 8, 9] k (fun kq v7 v8 v9 w' => ∃ (x7_1 : Int) (x8_1 : Int) (x9_1 : Int), v7 = .int .i64 x7_1 ∧ v8 = .int .i64 x8_1 ∧ v9 = .int .i64 x9_1 ∧ Aside0 (tickingref07_Correct.l0 kq l1 x7_1 x8_1 x9_1 l0_0 l0_1 l0_2 = some (r1, r2, r3)) ∧ Aside0 (kq ≤ k) ∧ Aside0 (w'.heap[gb266]? = some (.cells #[(.slice A0_0 l0_0.length c0_0), (.slice A0_1 l0_1.length c0_1), (.slice A0_2 l0_2.length c0_2)] 25 (0, 0))) ∧ Aside0 (Below w.heap.size w w'))
  case atStart => exact ⟨(0), (0), (0), (by first | rfl | (simp; done) | (simp [*]; done)), (by first | rfl | (simp; done) | (simp [*]; done)), (by first | rfl | (simp; done) | (simp [*]; done)), H', ⟨Nat.le_refl _⟩, ⟨by (with_reducible repeat (first | refine blk_drewN ?_ _ | refine blk_drew ?_ | refine blk_alloc ?_ _)); exact BK266.out⟩, ⟨by repeat (first | (with_reducible first | exact HB.out | apply below_alloc | apply pw_below_drewN | apply below_drew1 | refine below_set ?_ GE266.out) | exact HB.out)⟩⟩
  case round =>
   clear H'
   try clear c1
   try clear c2
   try clear p2
   try clear c4
   try clear hcz6_0
   try clear hcz6_1
   try clear hcz6_2
   try clear hfz6_0
   try clear hfz6_1
   try clear hfz6_2
   obtain ⟨x7_1, x8_1, x9_1, rfl, rfl, rfl, HA, HK1, BK266, HB⟩ := hrel
   cases gk with
   | zero => exact absurd HA.out (by simp [tickingref07_Correct.l0])
   | succ k1 =>
    have H := HA.out
    clear HA
    simp only [tickingref07_Correct.l0] at H
    by_cases c8 : x9_1 < (l0_0.length : Int)
    ·rw [if_pos c8] at H
     have c8b0 : decide (x9_1 < (l0_0.length : Int)) = true := decide_eq_true c8
     clear c8
     replace H := Option.bind_eq_some_iff.mp H
     obtain ⟨⟨t268, t271⟩, A90, H⟩ := H
     replace H : (if t271 = true then (tickingref07_Correct.l1 k1 l1 x7_1 x8_1 x9_1 t268 0 0 l0_0 l0_1 l0_2) else (some (0, 0, false))) = some (r1, r2, r3) := H
     have A9 := Aside0.mk A90
     clear A90
     by_cases c10 : t271 = true
     ·subst c10
      have H1 : (tickingref07_Correct.l1 k1 l1 x7_1 x8_1 x9_1 t268 0 0 l0_0 l0_1 l0_2) = some (r1, r2, r3) := by rw [if_pos rfl] at H; exact H
      clear H
      have H := H1
      clear H1
      have H' := Aside0.mk H
      clear H
      have hcz11_0 : wr.cell? ⟨gb266, 0, none⟩ = some (.slice A0_0 l0_0.length c0_0) := (blk_cell BK266.out 0).trans rfl
      have hcz11_1 : wr.cell? ⟨gb266, 1, none⟩ = some (.slice A0_1 l0_1.length c0_1) := (blk_cell BK266.out 1).trans rfl
      have hcz11_2 : wr.cell? ⟨gb266, 2, none⟩ = some (.slice A0_2 l0_2.length c0_2) := (blk_cell BK266.out 2).trans rfl
      have hfz11_0 := blk_frozen BK266.out 0
      have hfz11_1 := blk_frozen BK266.out 1
      have hfz11_2 := blk_frozen BK266.out 2
      go_wp2_with (first | (go_at_call 24; (with_reducible refine (tickingref07_Way.calls k1 _ _ l0_0 _ _ l0_1 _ _ l0_2 _ _ l1 x9_1 t268 true _ ?side1 ?side2 ?side3 ?side4 ?side5 ?side6 ?side7 ?side8 A9.out).mono ?_); (case side1 => exact cz ((Kd.C_below HR0_0.out HB.out))); (case side2 => exact HC0_0.out); (case side3 => exact cz ((Kd.C_below HR0_1.out HB.out))); (case side4 => exact HC0_1.out); (case side5 => exact cz ((Kd.C_below HR0_2.out HB.out))); (case side6 => exact HC0_2.out); (case side7 => exact cz ((Kd.C_below HR1.out HB.out))); (case side8 => exact HC1.out); rintro e w12 ⟨v269, rfl, ho0, hb⟩; have n0_ := Aside0.mk (Kd.R_lower ho0 (below_size bz)); have n1_ := Aside0.mk (kb BK266.out hb); have n2_ := Aside0.mk (below_step bz hb); clear BK266; clear HB; have HO270 := n0_; have BK266 := n1_; have HB := n2_; clear n0_ n1_ n2_; (try clear hb); (try clear hb2); (try clear hk); (try clear hi); (try clear ho0)))
      repeat (go_quiet (first | (go_at_call 24; (with_reducible refine (tickingref07_Way.calls k1 _ _ l0_0 _ _ l0_1 _ _ l0_2 _ _ l1 x9_1 t268 true _ ?side1 ?side2 ?side3 ?side4 ?side5 ?side6 ?side7 ?side8 A9.out).mono ?_); (case side1 => exact cz ((Kd.C_below HR0_0.out HB.out))); (case side2 => exact HC0_0.out); (case side3 => exact cz ((Kd.C_below HR0_1.out HB.out))); (case side4 => exact HC0_1.out); (case side5 => exact cz ((Kd.C_below HR0_2.out HB.out))); (case side6 => exact HC0_2.out); (case side7 => exact cz ((Kd.C_below HR1.out HB.out))); (case side8 => exact HC1.out); rintro e w12 ⟨v269, rfl, ho0, hb⟩; have n0_ := Aside0.mk (Kd.R_lower ho0 (below_size bz)); have n1_ := Aside0.mk (kb BK266.out hb); have n2_ := Aside0.mk (below_step bz hb); clear BK266; clear HB; have HO270 := n0_; have BK266 := n1_; have HB := n2_; clear n0_ n1_ n2_; (try clear hb); (try clear hb2); (try clear hk); (try clear hi); (try clear ho0))); try go_wp2_with (first | (go_at_call 24; (with_reducible refine (tickingref07_Way.calls k1 _ _ l0_0 _ _ l0_1 _ _ l0_2 _ _ l1 x9_1 t268 true _ ?side1 ?side2 ?side3 ?side4 ?side5 ?side6 ?side7 ?side8 A9.out).mono ?_); (case side1 => exact cz ((Kd.C_below HR0_0.out HB.out))); (case side2 => exact HC0_0.out); (case side3 => exact cz ((Kd.C_below HR0_1.out HB.out))); (case side4 => exact HC0_1.out); (case side5 => exact cz ((Kd.C_below HR0_2.out HB.out))); (case side6 => exact HC0_2.out); (case side7 => exact cz ((Kd.C_below HR1.out HB.out))); (case side8 => exact HC1.out); rintro e w12 ⟨v269, rfl, ho0, hb⟩; have n0_ := Aside0.mk (Kd.R_lower ho0 (below_size bz)); have n1_ := Aside0.mk (kb BK266.out hb); have n2_ := Aside0.mk (below_step bz hb); clear BK266; clear HB; have HO270 := n0_; have BK266 := n1_; have HB := n2_; clear n0_ n1_ n2_; (try clear hb); (try clear hb2); (try clear hk); (try clear hi); (try clear ho0))))
      go_loopg [12, 13] k1 (fun kq v12 v13 w' => ∃ (x12_2 : Int) (x13_2 : Int), v12 = .int .i64 x12_2 ∧ v13 = .int .i64 x13_2 ∧ Aside0 (tickingref07_Correct.l1 kq l1 x7_1 x8_1 x9_1 t268 x12_2 x13_2 l0_0 l0_1 l0_2 = some (r1, r2, r3)) ∧ Aside0 (kq ≤ k1) ∧ Aside0 (Kd.R (Kd.int .i64) 3 w' w.heap.size (fun _ => True) v269 t268) ∧ Aside0 (w'.heap[gb266]? = some (.cells #[(.slice A0_0 l0_0.length c0_0), (.slice A0_1 l0_1.length c0_1), (.slice A0_2 l0_2.length c0_2)] 25 (0, 0))) ∧ Aside0 (Below w.heap.size w w'))
      case atStart => exact ⟨(0), (0), (by first | rfl | (simp; done) | (simp [*]; done)), (by first | rfl | (simp; done) | (simp [*]; done)), H', ⟨Nat.le_refl _⟩, ⟨by (with_reducible repeat (first | apply Kd.R_alloc | apply Kd.R_drewN | apply Kd.R_drew)); exact HO270.out⟩, ⟨by (with_reducible repeat (first | refine blk_drewN ?_ _ | refine blk_drew ?_ | refine blk_alloc ?_ _)); exact BK266.out⟩, ⟨by repeat (first | (with_reducible first | exact HB.out | apply below_alloc | apply pw_below_drewN | apply below_drew1 | refine below_set ?_ GE266.out) | exact HB.out)⟩⟩
      case round =>
       clear H'
       try clear c1
       try clear c2
       try clear p2
       try clear c4
       try clear c8
       try clear c8b0
       try clear c10
       try clear hcz11_0
       try clear hcz11_1
       try clear hcz11_2
       try clear hcz6_0
       try clear hcz6_1
       try clear hcz6_2
       try clear hfz11_0
       try clear hfz11_1
       try clear hfz11_2
       try clear hfz6_0
       try clear hfz6_1
       try clear hfz6_2
       try clear p2
       obtain ⟨x12_2, x13_2, rfl, rfl, HA, HK2, HO_10, BK266, HB⟩ := hrel
       cases gk with
       | zero => exact absurd HA.out (by simp [tickingref07_Correct.l1])
       | succ k2 =>
        have H := HA.out
        clear HA
        simp only [tickingref07_Correct.l1] at H
        by_cases c13 : x13_2 < (t268.length : Int)
        ·rw [if_pos c13] at H
         have c13b0 : decide (x13_2 < (t268.length : Int)) = true := decide_eq_true c13
         clear c13
         by_cases c14 : 0 ≤ x13_2
         ·rw [if_pos c14] at H
          have c14b0 : decide (0 ≤ x13_2) = true := decide_eq_true c14
          clear c14
          by_cases c15 : 0 ≤ (rd t268 x13_2)
          ·rw [if_pos c15] at H
           have c15b0 : decide (0 ≤ (rd t268 x13_2)) = true := decide_eq_true c15
           clear c15
           by_cases c16 : (rd t268 x13_2) < (l0_2.length : Int)
           ·rw [if_pos c16] at H
            have c16b0 : decide ((rd t268 x13_2) < (l0_2.length : Int)) = true := decide_eq_true c16
            clear c16
            have H' := Aside0.mk H
            clear H
            obtain ⟨Ao17, co17, eo17⟩ := Kd.R_slice HO_10.out
            subst eo17
            have hcz18_0 : wr.cell? ⟨gb266, 0, none⟩ = some (.slice A0_0 l0_0.length c0_0) := (blk_cell BK266.out 0).trans rfl
            have hcz18_1 : wr.cell? ⟨gb266, 1, none⟩ = some (.slice A0_1 l0_1.length c0_1) := (blk_cell BK266.out 1).trans rfl
            have hcz18_2 : wr.cell? ⟨gb266, 2, none⟩ = some (.slice A0_2 l0_2.length c0_2) := (blk_cell BK266.out 2).trans rfl
            have hfz18_0 := blk_frozen BK266.out 0
            have hfz18_1 := blk_frozen BK266.out 1
            have hfz18_2 := blk_frozen BK266.out 2
            have p272 : 0 ≤ (x13_2 : Int) := of_decide_eq_true az
            have q272 : x13_2 < (t268.length : Int) := of_decide_eq_true az
            obtain ⟨ad272, e272, hx272_0⟩ := Kd.at_int (Kd.R_reads' HO_10.out).2.2 x13_2 p272 q272
            cases e272
            replace p272 := eq_true p272
            replace q272 := eq_true q272
            have p273 : 0 ≤ ((rd t268 x13_2) : Int) := of_decide_eq_true az
            have q273 : (rd t268 x13_2) < (l0_2.length : Int) := of_decide_eq_true az
            obtain ⟨ad273, e273, hx273_0⟩ := Kd.at_int HR0_2.out (rd t268 x13_2) p273 q273
            cases e273
            replace hx273_0 := (HB.out.cell (World.block_lt_of_cell? w _ hx273_0)).trans hx273_0
            replace p273 := eq_true p273
            replace q273 := eq_true q273
            go_wp2
            repeat (go_quiet (fail); try go_wp2)
            go_roundg k2
            case measure => have := HK1.out; have := HK2.out; omega
            case rel => exact ⟨(wrap64 (x12_2 + (rd l0_2 (rd t268 x13_2)))), (wrap64 (x13_2 + 1)), (by first | rfl | (simp; done) | (simp [*]; done)), (by first | rfl | (simp; done) | (simp [*]; done)), H', ⟨by have := HK1.out; have := HK2.out; omega⟩, ⟨by (with_reducible repeat (first | apply Kd.R_alloc | apply Kd.R_drewN | apply Kd.R_drew)); exact HO_10.out⟩, ⟨by (with_reducible repeat (first | refine blk_drewN ?_ _ | refine blk_drew ?_ | refine blk_alloc ?_ _)); exact BK266.out⟩, ⟨by repeat (first | (with_reducible first | exact HB.out | apply below_alloc | apply pw_below_drewN | apply below_drew1 | refine below_set ?_ GE266.out) | exact HB.out)⟩⟩
           ·rw [if_neg c16] at H
            exact absurd H (by simp)
          ·rw [if_neg c15] at H
           exact absurd H (by simp)
         ·rw [if_neg c14] at H
          exact absurd H (by simp)
        ·rw [if_neg c13] at H
         have c13b0 : decide (x13_2 < (t268.length : Int)) = false := decide_eq_false c13
         clear c13
         by_cases c19 : 0 ≤ x9_1
         ·rw [if_pos c19] at H
          have c19b0 : decide (0 ≤ x9_1) = true := decide_eq_true c19
          clear c19
          by_cases c20 : x9_1 < (l0_0.length : Int)
          ·rw [if_pos c20] at H
           have c20b0 : decide (x9_1 < (l0_0.length : Int)) = true := decide_eq_true c20
           clear c20
           obtain ⟨ji21, hji21⟩ : ∃ j_ : Int, (mx x8_1 x12_2) = j_ := ⟨_, rfl⟩
           replace H : (tickingref07_Correct.l0 k2 l1 (wrap64 (x7_1 + (wrap64 ((rd l0_0 x9_1) * x12_2)))) ji21 (wrap64 (x9_1 + 1)) l0_0 l0_1 l0_2) = some (r1, r2, r3) := by first | (rw [hji21] at H; exact H) | (simp only [hji21] at H ⊢; exact H)
           have hji21_ : (if x8_1 < x12_2 then x12_2 else x8_1) = ji21 := hji21
           have H' := Aside0.mk H
           clear H
           obtain ⟨Ao22, co22, eo22⟩ := Kd.R_slice HO_10.out
           subst eo22
           have hcz23_0 : wr.cell? ⟨gb266, 0, none⟩ = some (.slice A0_0 l0_0.length c0_0) := (blk_cell BK266.out 0).trans rfl
           have hcz23_1 : wr.cell? ⟨gb266, 1, none⟩ = some (.slice A0_1 l0_1.length c0_1) := (blk_cell BK266.out 1).trans rfl
           have hcz23_2 : wr.cell? ⟨gb266, 2, none⟩ = some (.slice A0_2 l0_2.length c0_2) := (blk_cell BK266.out 2).trans rfl
           have hfz23_0 := blk_frozen BK266.out 0
           have hfz23_1 := blk_frozen BK266.out 1
           have hfz23_2 := blk_frozen BK266.out 2
           have p274 : 0 ≤ (x9_1 : Int) := of_decide_eq_true az
           have q274 : x9_1 < (l0_0.length : Int) := of_decide_eq_true az
           obtain ⟨ad274, e274, hx274_0⟩ := Kd.at_int HR0_0.out x9_1 p274 q274
           cases e274
           replace hx274_0 := (HB.out.cell (World.block_lt_of_cell? w _ hx274_0)).trans hx274_0
           replace p274 := eq_true p274
           replace q274 := eq_true q274
           go_wp2
           repeat (go_quiet (fail); try go_wp2)
           go_roundg k2
           case measure => have := HK1.out; have := HK2.out; omega
           case rel => exact ⟨(wrap64 (x7_1 + (wrap64 ((rd l0_0 x9_1) * x12_2)))), (ji21), (wrap64 (x9_1 + 1)), (by first | rfl | (simp; done) | (simp [*]; done)), (by first | rfl | (simp; done) | (simp only [← hji21] <;> (first | rfl | simp)) | (simp [*]; done)), (by first | rfl | (simp; done) | (simp [*]; done)), H', ⟨by have := HK1.out; have := HK2.out; omega⟩, ⟨by (with_reducible repeat (first | refine blk_drewN ?_ _ | refine blk_drew ?_ | refine blk_alloc ?_ _)); exact BK266.out⟩, ⟨by repeat (first | (with_reducible first | exact HB.out | apply below_alloc | apply pw_below_drewN | apply below_drew1 | refine below_set ?_ GE266.out) | exact HB.out)⟩⟩
          ·rw [if_neg c20] at H
           exact absurd H (by simp)
         ·rw [if_neg c19] at H
          exact absurd H (by simp)
     ·replace c10 := Bool.eq_false_iff.mpr c10
      subst c10
      have H1 : (some (0, 0, false)) = some (r1, r2, r3) := by rw [if_neg (show ¬ (false = true) by decide)] at H; exact H
      clear H
      have H := H1
      clear H1
      simp only [Option.some.injEq, Prod.mk.injEq] at H
      obtain ⟨rfl, rfl, rfl⟩ := H
      have hcz24_0 : wr.cell? ⟨gb266, 0, none⟩ = some (.slice A0_0 l0_0.length c0_0) := (blk_cell BK266.out 0).trans rfl
      have hcz24_1 : wr.cell? ⟨gb266, 1, none⟩ = some (.slice A0_1 l0_1.length c0_1) := (blk_cell BK266.out 1).trans rfl
      have hcz24_2 : wr.cell? ⟨gb266, 2, none⟩ = some (.slice A0_2 l0_2.length c0_2) := (blk_cell BK266.out 2).trans rfl
      have hfz24_0 := blk_frozen BK266.out 0
      have hfz24_1 := blk_frozen BK266.out 1
      have hfz24_2 := blk_frozen BK266.out 2
      go_wp2_with (first | (go_at_call 24; (with_reducible refine (tickingref07_Way.calls k1 _ _ l0_0 _ _ l0_1 _ _ l0_2 _ _ l1 x9_1 t268 false _ ?side1 ?side2 ?side3 ?side4 ?side5 ?side6 ?side7 ?side8 A9.out).mono ?_); (case side1 => exact cz ((Kd.C_below HR0_0.out HB.out))); (case side2 => exact HC0_0.out); (case side3 => exact cz ((Kd.C_below HR0_1.out HB.out))); (case side4 => exact HC0_1.out); (case side5 => exact cz ((Kd.C_below HR0_2.out HB.out))); (case side6 => exact HC0_2.out); (case side7 => exact cz ((Kd.C_below HR1.out HB.out))); (case side8 => exact HC1.out); rintro e w25 ⟨v269, rfl, ho0, hb⟩; have n0_ := Aside0.mk (Kd.R_lower ho0 (below_size bz)); have n1_ := Aside0.mk (kb BK266.out hb); have n2_ := Aside0.mk (below_step bz hb); clear BK266; clear HB; have HO270 := n0_; have BK266 := n1_; have HB := n2_; clear n0_ n1_ n2_; (try clear hb); (try clear hb2); (try clear hk); (try clear hi); (try clear ho0)))
      repeat (go_quiet (first | (go_at_call 24; (with_reducible refine (tickingref07_Way.calls k1 _ _ l0_0 _ _ l0_1 _ _ l0_2 _ _ l1 x9_1 t268 false _ ?side1 ?side2 ?side3 ?side4 ?side5 ?side6 ?side7 ?side8 A9.out).mono ?_); (case side1 => exact cz ((Kd.C_below HR0_0.out HB.out))); (case side2 => exact HC0_0.out); (case side3 => exact cz ((Kd.C_below HR0_1.out HB.out))); (case side4 => exact HC0_1.out); (case side5 => exact cz ((Kd.C_below HR0_2.out HB.out))); (case side6 => exact HC0_2.out); (case side7 => exact cz ((Kd.C_below HR1.out HB.out))); (case side8 => exact HC1.out); rintro e w25 ⟨v269, rfl, ho0, hb⟩; have n0_ := Aside0.mk (Kd.R_lower ho0 (below_size bz)); have n1_ := Aside0.mk (kb BK266.out hb); have n2_ := Aside0.mk (below_step bz hb); clear BK266; clear HB; have HO270 := n0_; have BK266 := n1_; have HB := n2_; clear n0_ n1_ n2_; (try clear hb); (try clear hb2); (try clear hk); (try clear hi); (try clear ho0))); try go_wp2_with (first | (go_at_call 24; (with_reducible refine (tickingref07_Way.calls k1 _ _ l0_0 _ _ l0_1 _ _ l0_2 _ _ l1 x9_1 t268 false _ ?side1 ?side2 ?side3 ?side4 ?side5 ?side6 ?side7 ?side8 A9.out).mono ?_); (case side1 => exact cz ((Kd.C_below HR0_0.out HB.out))); (case side2 => exact HC0_0.out); (case side3 => exact cz ((Kd.C_below HR0_1.out HB.out))); (case side4 => exact HC0_1.out); (case side5 => exact cz ((Kd.C_below HR0_2.out HB.out))); (case side6 => exact HC0_2.out); (case side7 => exact cz ((Kd.C_below HR1.out HB.out))); (case side8 => exact HC1.out); rintro e w25 ⟨v269, rfl, ho0, hb⟩; have n0_ := Aside0.mk (Kd.R_lower ho0 (below_size bz)); have n1_ := Aside0.mk (kb BK266.out hb); have n2_ := Aside0.mk (below_step bz hb); clear BK266; clear HB; have HO270 := n0_; have BK266 := n1_; have HB := n2_; clear n0_ n1_ n2_; (try clear hb); (try clear hb2); (try clear hk); (try clear hi); (try clear ho0))))
      go_ret3
      exact ⟨by first | rfl | (simp [errW_none, errW_some] <;> rfl) | (simp [*, errW_none, errW_some] <;> rfl), by repeat (first | (with_reducible first | exact HB.out | apply below_alloc | apply pw_below_drewN | apply below_drew1 | refine below_set ?_ GE266.out) | exact HB.out)⟩
    ·rw [if_neg c8] at H
     have c8b0 : decide (x9_1 < (l0_0.length : Int)) = false := decide_eq_false c8
     clear c8
     simp only [Option.some.injEq, Prod.mk.injEq] at H
     obtain ⟨rfl, rfl, rfl⟩ := H
     have hcz26_0 : wr.cell? ⟨gb266, 0, none⟩ = some (.slice A0_0 l0_0.length c0_0) := (blk_cell BK266.out 0).trans rfl
     have hcz26_1 : wr.cell? ⟨gb266, 1, none⟩ = some (.slice A0_1 l0_1.length c0_1) := (blk_cell BK266.out 1).trans rfl
     have hcz26_2 : wr.cell? ⟨gb266, 2, none⟩ = some (.slice A0_2 l0_2.length c0_2) := (blk_cell BK266.out 2).trans rfl
     have hfz26_0 := blk_frozen BK266.out 0
     have hfz26_1 := blk_frozen BK266.out 1
     have hfz26_2 := blk_frozen BK266.out 2
     go_wp2
     repeat (go_quiet (fail); try go_wp2)
     go_ret3
     exact ⟨by first | rfl | (simp [errW_none, errW_some] <;> rfl) | (simp [*, errW_none, errW_some] <;> rfl), by repeat (first | (with_reducible first | exact HB.out | apply below_alloc | apply pw_below_drewN | apply below_drew1 | refine below_set ?_ GE266.out) | exact HB.out)⟩
 ·replace c4 := Bool.eq_false_iff.mpr c4
  subst c4
  have H1 : (some (0, 0, false)) = some (r1, r2, r3) := by rw [if_neg (show ¬ (false = true) by decide)] at H; exact H
  clear H
  have H := H1
  clear H1
  simp only [Option.some.injEq, Prod.mk.injEq] at H
  obtain ⟨rfl, rfl, rfl⟩ := H
  go_enter Tryd.func20, Tryd.ntmps20
  go_wp2_with (first | ((with_reducible refine gate_dst (N := 2) rfl ?_); refine box_event ?hg (N := 2) ?hd (cs := #[.slice A0_0 l0_0.length c0_0, .slice A0_1 l0_1.length c0_1, .slice A0_2 l0_2.length c0_2]) (t := 25) ?hr ?_; (case hd => rfl); (case hg => rfl); (case hr => first | (go_simp; done) | (go_simp; rfl)); intro gb266 hg w27 hbox hb; have n0_ := Aside0.mk (below_step bz hb); have n1_ := Aside0.mk (hbox); have n2_ := Aside0.mk ((by rw [hg]; exact (below_size bz) : w.heap.size ≤ gb266)); have n3_ := Aside0.mk ((by rw [hg]; exact (below_size bz) : w.heap.size ≤ gb266)); clear HB; have HB := n0_; have BK266 := n1_; have GW266 := n2_; have GE266 := n3_; clear n0_ n1_ n2_ n3_; clear hb hbox hg; have hcz28_0 : w27.cell? ⟨gb266, 0, none⟩ = some (.slice A0_0 l0_0.length c0_0) := (blk_cell BK266.out 0).trans rfl; have hcz28_1 : w27.cell? ⟨gb266, 1, none⟩ = some (.slice A0_1 l0_1.length c0_1) := (blk_cell BK266.out 1).trans rfl; have hcz28_2 : w27.cell? ⟨gb266, 2, none⟩ = some (.slice A0_2 l0_2.length c0_2) := (blk_cell BK266.out 2).trans rfl; have hfz28_0 := blk_frozen BK266.out 0; have hfz28_1 := blk_frozen BK266.out 1; have hfz28_2 := blk_frozen BK266.out 2) | (go_at_call 44; (with_reducible refine (tickingref07_Plan.calls k _ _ l0_0 _ _ l0_1 _ _ l0_2 _ _ l1 false _ ?side1 ?side2 ?side3 ?side4 ?side5 ?side6 ?side7 ?side8 A3.out).mono ?_); (case side1 => exact cz ((Kd.C_below HR0_0.out HB.out))); (case side2 => exact HC0_0.out); (case side3 => exact cz ((Kd.C_below HR0_1.out HB.out))); (case side4 => exact HC0_1.out); (case side5 => exact cz ((Kd.C_below HR0_2.out HB.out))); (case side6 => exact HC0_2.out); (case side7 => exact cz ((Kd.C_below HR1.out HB.out))); (case side8 => exact HC1.out); rintro e w29 ⟨rfl, hb⟩; have n0_ := Aside0.mk (kb BK266.out hb); have n1_ := Aside0.mk (below_step bz hb); clear BK266; clear HB; have BK266 := n0_; have HB := n1_; clear n0_ n1_; (try clear hb); (try clear hb2); (try clear hk); (try clear hi)))
  repeat (go_quiet (first | ((with_reducible refine gate_dst (N := 2) rfl ?_); refine box_event ?hg (N := 2) ?hd (cs := #[.slice A0_0 l0_0.length c0_0, .slice A0_1 l0_1.length c0_1, .slice A0_2 l0_2.length c0_2]) (t := 25) ?hr ?_; (case hd => rfl); (case hg => rfl); (case hr => first | (go_simp; done) | (go_simp; rfl)); intro gb266 hg w27 hbox hb; have n0_ := Aside0.mk (below_step bz hb); have n1_ := Aside0.mk (hbox); have n2_ := Aside0.mk ((by rw [hg]; exact (below_size bz) : w.heap.size ≤ gb266)); have n3_ := Aside0.mk ((by rw [hg]; exact (below_size bz) : w.heap.size ≤ gb266)); clear HB; have HB := n0_; have BK266 := n1_; have GW266 := n2_; have GE266 := n3_; clear n0_ n1_ n2_ n3_; clear hb hbox hg; have hcz28_0 : w27.cell? ⟨gb266, 0, none⟩ = some (.slice A0_0 l0_0.length c0_0) := (blk_cell BK266.out 0).trans rfl; have hcz28_1 : w27.cell? ⟨gb266, 1, none⟩ = some (.slice A0_1 l0_1.length c0_1) := (blk_cell BK266.out 1).trans rfl; have hcz28_2 : w27.cell? ⟨gb266, 2, none⟩ = some (.slice A0_2 l0_2.length c0_2) := (blk_cell BK266.out 2).trans rfl; have hfz28_0 := blk_frozen BK266.out 0; have hfz28_1 := blk_frozen BK266.out 1; have hfz28_2 := blk_frozen BK266.out 2) | (go_at_call 44; (with_reducible refine (tickingref07_Plan.calls k _ _ l0_0 _ _ l0_1 _ _ l0_2 _ _ l1 false _ ?side1 ?side2 ?side3 ?side4 ?side5 ?side6 ?side7 ?side8 A3.out).mono ?_); (case side1 => exact cz ((Kd.C_below HR0_0.out HB.out))); (case side2 => exact HC0_0.out); (case side3 => exact cz ((Kd.C_below HR0_1.out HB.out))); (case side4 => exact HC0_1.out); (case side5 => exact cz ((Kd.C_below HR0_2.out HB.out))); (case side6 => exact HC0_2.out); (case side7 => exact cz ((Kd.C_below HR1.out HB.out))); (case side8 => exact HC1.out); rintro e w29 ⟨rfl, hb⟩; have n0_ := Aside0.mk (kb BK266.out hb); have n1_ := Aside0.mk (below_step bz hb); clear BK266; clear HB; have BK266 := n0_; have HB := n1_; clear n0_ n1_; (try clear hb); (try clear hb2); (try clear hk); (try clear hi))); try go_wp2_with (first | ((with_reducible refine gate_dst (N := 2) rfl ?_); refine box_event ?hg (N := 2) ?hd (cs := #[.slice A0_0 l0_0.length c0_0, .slice A0_1 l0_1.length c0_1, .slice A0_2 l0_2.length c0_2]) (t := 25) ?hr ?_; (case hd => rfl); (case hg => rfl); (case hr => first | (go_simp; done) | (go_simp; rfl)); intro gb266 hg w27 hbox hb; have n0_ := Aside0.mk (below_step bz hb); have n1_ := Aside0.mk (hbox); have n2_ := Aside0.mk ((by rw [hg]; exact (below_size bz) : w.heap.size ≤ gb266)); have n3_ := Aside0.mk ((by rw [hg]; exact (below_size bz) : w.heap.size ≤ gb266)); clear HB; have HB := n0_; have BK266 := n1_; have GW266 := n2_; have GE266 := n3_; clear n0_ n1_ n2_ n3_; clear hb hbox hg; have hcz28_0 : w27.cell? ⟨gb266, 0, none⟩ = some (.slice A0_0 l0_0.length c0_0) := (blk_cell BK266.out 0).trans rfl; have hcz28_1 : w27.cell? ⟨gb266, 1, none⟩ = some (.slice A0_1 l0_1.length c0_1) := (blk_cell BK266.out 1).trans rfl; have hcz28_2 : w27.cell? ⟨gb266, 2, none⟩ = some (.slice A0_2 l0_2.length c0_2) := (blk_cell BK266.out 2).trans rfl; have hfz28_0 := blk_frozen BK266.out 0; have hfz28_1 := blk_frozen BK266.out 1; have hfz28_2 := blk_frozen BK266.out 2) | (go_at_call 44; (with_reducible refine (tickingref07_Plan.calls k _ _ l0_0 _ _ l0_1 _ _ l0_2 _ _ l1 false _ ?side1 ?side2 ?side3 ?side4 ?side5 ?side6 ?side7 ?side8 A3.out).mono ?_); (case side1 => exact cz ((Kd.C_below HR0_0.out HB.out))); (case side2 => exact HC0_0.out); (case side3 => exact cz ((Kd.C_below HR0_1.out HB.out))); (case side4 => exact HC0_1.out); (case side5 => exact cz ((Kd.C_below HR0_2.out HB.out))); (case side6 => exact HC0_2.out); (case side7 => exact cz ((Kd.C_below HR1.out HB.out))); (case side8 => exact HC1.out); rintro e w29 ⟨rfl, hb⟩; have n0_ := Aside0.mk (kb BK266.out hb); have n1_ := Aside0.mk (below_step bz hb); clear BK266; clear HB; have BK266 := n0_; have HB := n1_; clear n0_ n1_; (try clear hb); (try clear hb2); (try clear hk); (try clear hi))))
  go_ret3
  exact ⟨by first | rfl | (simp [errW_none, errW_some] <;> rfl) | (simp [*, errW_none, errW_some] <;> rfl), by repeat (first | (with_reducible first | exact HB.out | apply below_alloc | apply pw_below_drewN | apply below_drew1 | refine below_set ?_ GE266.out) | exact HB.out)⟩

end Go.Proofs.YtekmiepdodaidaaDoor.X
end

section
/- Layer 7, plain: plans: which lists are plans, the way of a fault, what a plan costs; the reference's Plan, Way, Correct. -/
set_option linter.unusedVariables false
namespace Go.Proofs.YtekmiepdodaidaaDoor.X
open Go.RowKit Go.Proofs.YtekmiepdodaidaaDoorW.PrintWords Go.Proofs.YtekmiepdodaidaaDoorW.PrintLast Go.Proofs.YtekmiepdodaidaaDoorW.PrintMore

def allB (P : Nat → Bool) : Nat → Nat → Bool
 | _, 0 => true
 | j, m + 1 => P j && allB P (j + 1) m
theorem allB_iff (P : Nat → Bool) : ∀ (m j : Nat), allB P j m = true ↔ ∀ i, j ≤ i → i < j + m → P i = true
 | 0, j => by simp [allB]; intro i h1 h2; omega
 | m + 1, j => by
  rw [allB, Bool.and_eq_true, allB_iff P m (j + 1)]
  constructor
  ·rintro ⟨h1, h2⟩ i h3 h4
   by_cases h : i = j
   ·rw [h]; exact h1
   ·exact h2 i (by omega) (by omega)
  ·intro h
   exact ⟨h j (Nat.le_refl _) (by omega), fun i h1 h2 => h i (by omega) (by omega)⟩
theorem allB_congr {P Q : Nat → Bool} : ∀ (m j : Nat), (∀ i, j ≤ i → i < j + m → P i = Q i) → allB P j m = allB Q j m
 | 0, j, _ => rfl
 | m + 1, j, h => by rw [allB, allB, h j (Nat.le_refl _) (by omega), allB_congr m (j + 1) (fun i h1 h2 => h i (by omega) (by omega))]
/-- Is this a node at place i of a plan of len nodes? -/
def nodeB (n nt len : Nat) (i : Nat) (x : S57) : Bool :=
 if x.f0 = -1 then decide (0 ≤ x.f1) && decide (x.f1 < (n : Int)) && decide (x.f2 = 0) && decide (x.f3 = 0)
 else decide (0 ≤ x.f0) && decide (x.f0 < (nt : Int)) && decide (x.f1 = 0) && decide ((i : Int) < x.f2) && decide (x.f2 < (len : Int)) && decide ((i : Int) < x.f3) && decide (x.f3 < (len : Int))
/-- How often a place is a node's Zero or One. -/
def kidK (x : S57) (j : Nat) : Int := if x.f0 = -1 then 0 else (if x.f2 = (j : Int) then 1 else 0) + (if x.f3 = (j : Int) then 1 else 0)
def cntK : List S57 → Nat → Int
 | [], _ => 0
 | x :: xs, j => kidK x j + cntK xs j
def planB (n nt : Nat) (plan : List S57) : Bool :=
 decide (1 ≤ plan.length) && decide (plan.length ≤ 1000) && allB (fun i => nodeB n nt plan.length i (rd_T57 plan i)) 0 plan.length && allB (fun j => cntK plan j == 1) 1 (plan.length - 1)
theorem rdT_at (l : List S57) (i : Nat) (h : i < l.length) : rd_T57 l (i : Int) = l[i] := by simp [rd_T57, List.getD_eq_getElem?_getD, List.getElem?_eq_getElem h]
theorem cntK_drop (plan : List S57) (i : Nat) (h : i < plan.length) (j : Nat) : cntK (plan.drop i) j = kidK (rd_T57 plan i) j + cntK (plan.drop (i + 1)) j := by
 rw [List.drop_eq_getElem_cons h, rdT_at plan i h]; rfl
section
variable {a : List Int} {b : List (List Int)} {c : List Int}
theorem rplan_l1 (len : Nat) (hlen : len ≤ 1000) (uses : List Int) (hu : uses.length = len) (m : Nat) : ∀ (j : Nat), 1 ≤ j → j + m = len ∨ (m = 0 ∧ len ≤ j) → Ev (fun k => tickingref07_Plan.l1 k (len : Int) uses (j : Int)) (allB (fun j => rd uses (j : Int) == 1) j m) := by
 induction m with
 | zero =>
  intro j h1 hj
  refine Ev.step (f := fun _ => some _) (fun k => ?_) (Ev.now _)
  simp only [tickingref07_Plan.l1]
  rw [if_neg (by omega)]; rfl
 | succ m ih =>
  intro j h1 hj
  by_cases h : rd uses (j : Int) = 1
  ·have := ih (j + 1) (by omega) (by omega)
   rw [allB, show (rd uses (j : Int) == 1) = true from by rw [h]; rfl, Bool.true_and]
   refine Ev.step (fun k => ?_) this
   show tickingref07_Plan.l1 (k + 1) (len : Int) uses (j : Int) = _
   simp only [tickingref07_Plan.l1]
   rw [if_pos (by omega), if_pos (by omega), if_pos (by omega), if_pos h, w1 j (by omega)]
  ·rw [allB, show (rd uses (j : Int) == 1) = false from by simpa using h, Bool.false_and]
   refine Ev.step (f := fun _ => some _) (fun k => ?_) (Ev.now _)
   simp only [tickingref07_Plan.l1]
   rw [if_pos (by omega), if_pos (by omega), if_pos (by omega), if_neg h]
theorem rd_set (l : List Int) (s u : Nat) (x : Int) (h : s < l.length) : rd (l.set s x) (u : Int) = if s = u then x else rd l (u : Int) := by
 by_cases e : s = u
 ·subst e; rw [if_pos rfl, rd_set_eq _ _ _ h]
 ·rw [if_neg e, rd_set_ne _ _ _ _ (fun e' => e e'.symm)]
/-- The uses behind an inner node. -/
theorem uses_two (uses : List Int) (z o : Nat) (hz : z < uses.length) (ho : o < uses.length) (hb : ∀ j : Nat, 0 ≤ rd uses (j : Int) ∧ rd uses (j : Int) ≤ 2000) (x : S57) (h0 : x.f0 ≠ -1) (e2 : x.f2 = (z : Int)) (e3 : x.f3 = (o : Int)) (j : Nat) :
  rd ((uses.set z (wrap64 (rd uses (z : Int) + 1))).set o (wrap64 (rd (uses.set z (wrap64 (rd uses (z : Int) + 1))) (o : Int) + 1))) (j : Int) = rd uses (j : Int) + kidK x j := by
 have w (y : Int) (h : 0 ≤ y ∧ y ≤ 2001) : wrap64 (y + 1) = y + 1 := by unfold wrap64; omega
 have hbz := hb z
 have hbo := hb o
 have hbj := hb j
 unfold kidK
 rw [if_neg h0, e2, e3, rd_set _ _ _ _ (by rw [List.length_set]; exact ho), rd_set _ _ _ _ hz, rd_set _ _ _ _ hz, w _ ⟨hbz.1, by omega⟩]
 by_cases c1 : o = j
 ·subst c1
  rw [if_pos rfl]
  by_cases c2 : z = o
  ·subst c2
   rw [if_pos rfl, if_pos rfl, w _ (by omega)]; omega
  ·rw [if_neg c2, if_neg (by omega), if_pos rfl, w _ (by omega)]; omega
 ·rw [if_neg c1]
  by_cases c2 : z = j
  ·subst c2
   rw [if_pos rfl, if_pos rfl, if_neg (by omega)]; omega
  ·rw [if_neg c2, if_neg (by omega), if_neg (by omega)]; omega
theorem rplan_l0 (plan : List S57) (hlen : plan.length ≤ 1000) (h1 : 1 ≤ plan.length) (m : Nat) : ∀ (i : Nat) (uses : List Int), i + m = plan.length → uses.length = plan.length → (∀ j : Nat, 0 ≤ rd uses (j : Int) ∧ rd uses (j : Int) ≤ 2 * (i : Int)) →
  Ev (fun k => tickingref07_Plan.l0 k plan (plan.length : Int) uses (i : Int) a b c) (allB (fun i => nodeB a.length b.length plan.length i (rd_T57 plan i)) i m && allB (fun j => rd uses (j : Int) + cntK (plan.drop i) j == 1) 1 (plan.length - 1)) := by
 induction m with
 | zero =>
  intro i uses hi hu hb
  obtain rfl : i = plan.length := by omega
  have := rplan_l1 plan.length hlen uses hu (plan.length - 1) 1 (Nat.le_refl _) (by omega)
  rw [List.drop_length, allB, Bool.true_and, allB_congr (Q := fun j => rd uses (j : Int) == 1) _ _ (fun j _ _ => by simp [cntK])]
  refine Ev.step (fun k => ?_) this
  show tickingref07_Plan.l0 (k + 1) plan (plan.length : Int) uses (plan.length : Int) a b c = _
  simp only [tickingref07_Plan.l0]
  rw [if_neg (by omega)]; rfl
 | succ m ih =>
  intro i uses hi hu hb
  have hil : i < plan.length := by omega
  rw [allB]
  generalize hx : rd_T57 plan (i : Int) = x
  -- a node that is none
  have bad : ∀ (f : Nat → Option Bool), (∀ k, tickingref07_Plan.l0 (k + 1) plan (plan.length : Int) uses (i : Int) a b c = f k) → Ev f false → nodeB a.length b.length plan.length i x = false →
    Ev (fun k => tickingref07_Plan.l0 k plan (plan.length : Int) uses (i : Int) a b c) ((nodeB a.length b.length plan.length i x && allB (fun i => nodeB a.length b.length plan.length i (rd_T57 plan i)) (i + 1) m) && allB (fun j => rd uses (j : Int) + cntK (plan.drop i) j == 1) 1 (plan.length - 1)) := by
   intro f h hf hn
   rw [hn, Bool.false_and, Bool.false_and]
   exact Ev.step h hf
  have now : Ev (fun _ => some false) false := Ev.now _
  have j2t : Ev (fun k => tickingref07_Plan.j2 k plan (plan.length : Int) uses (i : Int) true a b c) false := Ev.step (f := fun _ => some _) (fun k => by simp only [tickingref07_Plan.j2]; rw [if_pos trivial]) (Ev.now _)
  by_cases c0 : x.f0 = -1
  ·by_cases ok : nodeB a.length b.length plan.length i x = true
   ·have ok' := ok
    unfold nodeB at ok'
    rw [if_pos c0] at ok'
    simp only [Bool.and_eq_true, decide_eq_true_eq] at ok'
    obtain ⟨⟨⟨o1, o2⟩, o3⟩, o4⟩ := ok'
    have hk : ∀ j, kidK x j = 0 := fun j => by unfold kidK; rw [if_pos c0]
    have e := ih (i + 1) uses (by omega) hu (fun j => by have := hb j; omega)
    rw [ok, Bool.true_and, allB_congr (Q := fun j => rd uses (j : Int) + cntK (plan.drop (i + 1)) j == 1) (P := fun j => rd uses (j : Int) + cntK (plan.drop i) j == 1) _ _ (fun j _ _ => by rw [cntK_drop plan i hil, hx, hk]; simp)]
    have e2 : Ev (fun k => tickingref07_Plan.j2 k plan (plan.length : Int) uses (i : Int) false a b c) _ := Ev.step (fun k => by show tickingref07_Plan.j2 (k + 1) plan (plan.length : Int) uses (i : Int) false a b c = _; simp only [tickingref07_Plan.j2]; rw [if_neg (by decide), w1 i (by omega)]) e
    refine Ev.step (fun k => ?_) e2
    show tickingref07_Plan.l0 (k + 1) plan (plan.length : Int) uses (i : Int) a b c = _
    simp only [tickingref07_Plan.l0]
    rw [if_pos (by omega), if_pos (by omega), if_pos (by omega), hx, if_pos c0, if_neg (by omega), if_neg (by omega), if_pos o3, o4]; rfl
   ·have ok2 : nodeB a.length b.length plan.length i x = false := by simpa using ok
    have hn : ¬ (0 ≤ x.f1 ∧ x.f1 < (a.length : Int) ∧ x.f2 = 0 ∧ x.f3 = 0) := fun ⟨o1, o2, o3, o4⟩ => ok (by unfold nodeB; rw [if_pos c0]; simp [o1, o2, o3, o4])
    refine bad (fun k => tickingref07_Plan.j2 k plan (plan.length : Int) uses (i : Int) true a b c) (fun k => ?_) j2t ok2
    simp only [tickingref07_Plan.l0]
    rw [if_pos (by omega), if_pos (by omega), if_pos (by omega), hx, if_pos c0]
    by_cases d1 : x.f1 < 0
    ·rw [if_pos d1]
    ·rw [if_neg d1]
     by_cases d2 : x.f1 ≥ (a.length : Int)
     ·rw [if_pos d2]
     ·rw [if_neg d2]
      by_cases d3 : x.f2 = 0
      ·rw [if_pos d3, show (x.f3 != 0) = true from bne_iff_ne.2 (fun d4 => hn ⟨by omega, by omega, d3, d4⟩)]
      ·rw [if_neg d3]
  ·by_cases ok : nodeB a.length b.length plan.length i x = true
   ·have ok' := ok
    unfold nodeB at ok'
    rw [if_neg c0] at ok'
    simp only [Bool.and_eq_true, decide_eq_true_eq] at ok'
    obtain ⟨⟨⟨⟨⟨⟨o1, o2⟩, o3⟩, o4⟩, o5⟩, o6⟩, o7⟩ := ok'
    obtain ⟨z, hz⟩ : ∃ z : Nat, x.f2 = (z : Int) := ⟨x.f2.toNat, by omega⟩
    obtain ⟨o, ho⟩ : ∃ o : Nat, x.f3 = (o : Int) := ⟨x.f3.toNat, by omega⟩
    have hb2 : ∀ j : Nat, 0 ≤ rd uses (j : Int) ∧ rd uses (j : Int) ≤ 2000 := fun j => by have := hb j; omega
    have ht := uses_two uses z o (by omega) (by omega) hb2 x c0 hz ho
    have e := ih (i + 1) _ (by omega) (show ((uses.set z (wrap64 (rd uses (z : Int) + 1))).set o (wrap64 (rd (uses.set z (wrap64 (rd uses (z : Int) + 1))) (o : Int) + 1))).length = plan.length by rw [List.length_set, List.length_set]; exact hu)
     (fun j => by
      rw [ht j]
      have := hb j
      have : 0 ≤ kidK x j ∧ kidK x j ≤ 2 := by unfold kidK; split <;> (repeat' split) <;> omega
      omega)
    rw [ok, Bool.true_and, allB_congr (Q := fun j => rd ((uses.set z (wrap64 (rd uses (z : Int) + 1))).set o (wrap64 (rd (uses.set z (wrap64 (rd uses (z : Int) + 1))) (o : Int) + 1))) (j : Int) + cntK (plan.drop (i + 1)) j == 1) (P := fun j => rd uses (j : Int) + cntK (plan.drop i) j == 1) _ _ (fun j _ _ => by rw [cntK_drop plan i hil, hx, ht j, Int.add_assoc])]
    refine Ev.step (fun k => ?_) e
    show tickingref07_Plan.l0 (k + 1) plan (plan.length : Int) uses (i : Int) a b c = _
    simp only [tickingref07_Plan.l0]
    rw [if_pos (by omega), if_pos (by omega), if_pos (by omega), hx, if_neg c0, if_neg (by omega), if_neg (by omega), if_pos o3, if_neg (by omega), if_neg (by omega), if_neg (by omega), if_neg (by omega), if_pos (by omega), if_pos (by omega)]
    simp only [Option.bind_some]
    rw [if_pos (by omega), if_pos (by omega), hz, ho, w1 i (by omega)]
    simp only [Int.toNat_natCast]
   ·have ok2 : nodeB a.length b.length plan.length i x = false := by simpa using ok
    have hn : ¬ (0 ≤ x.f0 ∧ x.f0 < (b.length : Int) ∧ x.f1 = 0 ∧ (i : Int) < x.f2 ∧ x.f2 < (plan.length : Int) ∧ (i : Int) < x.f3 ∧ x.f3 < (plan.length : Int)) := fun ⟨o1, o2, o3, o4, o5, o6, o7⟩ => ok (by unfold nodeB; rw [if_neg c0]; simp [o1, o2, o3, o4, o5, o6, o7])
    refine bad (fun _ => some false) (fun k => ?_) now ok2
    simp only [tickingref07_Plan.l0]
    rw [if_pos (by omega), if_pos (by omega), if_pos (by omega), hx, if_neg c0]
    by_cases d1 : x.f0 < 0
    ·rw [if_pos d1]
    rw [if_neg d1]
    by_cases d2 : x.f0 ≥ (b.length : Int)
    ·rw [if_pos d2]
    rw [if_neg d2]
    by_cases d3 : x.f1 = 0
    ·rw [if_pos d3]
     by_cases d4 : x.f2 ≤ (i : Int)
     ·rw [if_pos d4]
     rw [if_neg d4]
     by_cases d5 : x.f2 ≥ (plan.length : Int)
     ·rw [if_pos d5]
     rw [if_neg d5]
     by_cases d6 : x.f3 ≤ (i : Int)
     ·rw [if_pos d6]
     rw [if_neg d6]
     by_cases d7 : x.f3 ≥ (plan.length : Int)
     ·rw [if_pos d7]
     exact absurd ⟨by omega, by omega, d3, by omega, by omega, by omega, by omega⟩ hn
    ·rw [if_neg d3]
theorem rplan_ev (plan : List S57) : Ev (fun k => tickingref07_Plan.f k a b c plan) (planB a.length b.length plan) := by
 unfold tickingref07_Plan.f planB
 by_cases h1 : plan.length < 1
 ·refine Ev.congr (fun k => if_pos (by omega)) ?_
  rw [show decide (1 ≤ plan.length) = false from decide_eq_false (by omega)]
  simp only [Bool.false_and]
  exact Ev.step (f := fun _ => some _) (fun k => by simp only [tickingref07_Plan.j0]; rw [if_pos trivial]) (Ev.now _)
 ·refine Ev.congr (fun k => if_neg (by omega)) ?_
  rw [show decide (1 ≤ plan.length) = true from decide_eq_true (by omega), Bool.true_and]
  by_cases h2 : plan.length > 1000
  ·rw [show decide (plan.length ≤ 1000) = false from decide_eq_false (by omega), show decide ((plan.length : Int) > 1000) = true from decide_eq_true (by omega)]
   simp only [Bool.false_and]
   exact Ev.step (f := fun _ => some _) (fun k => by simp only [tickingref07_Plan.j0]; rw [if_pos trivial]) (Ev.now _)
  ·rw [show decide (plan.length ≤ 1000) = true from decide_eq_true (by omega), Bool.true_and, show decide ((plan.length : Int) > 1000) = false from decide_eq_false (by omega)]
   have hz : ∀ u : Nat, rd (List.replicate plan.length (0 : Int)) (u : Int) = 0 := fun u => by
    simp only [rd, Int.toNat_natCast, List.getD_eq_getElem?_getD, List.getElem?_replicate]
    split <;> rfl
   have := rplan_l0 (a := a) (b := b) (c := c) plan (by omega) (by omega) plan.length 0 (List.replicate plan.length 0) (by omega) (List.length_replicate ..) (fun j => by rw [hz]; omega)
   rw [List.drop_zero, allB_congr (P := fun j => rd (List.replicate plan.length (0 : Int)) (j : Int) + cntK plan j == 1) (Q := fun j => cntK plan j == 1) _ _ (fun j _ _ => by rw [hz, Int.zero_add])] at this
   refine Ev.step (fun k => ?_) this
   simp only [tickingref07_Plan.j0]
   rw [if_neg (by decide), if_pos (by omega), if_pos (by omega), Int.toNat_natCast]; rfl
end
end Go.Proofs.YtekmiepdodaidaaDoor.X
end

section
/- Layer 7, plain: the way of a fault through a plan, what it costs; the reference's Correct. -/
set_option linter.unusedVariables false
namespace Go.Proofs.YtekmiepdodaidaaDoor.X
open Go.RowKit Go.Proofs.YtekmiepdodaidaaDoorW.PrintWords Go.Proofs.YtekmiepdodaidaaDoorW.PrintLast Go.Proofs.YtekmiepdodaidaaDoorW.PrintMore

/-- The tests on the way of a fault from place p on, and the fault of the leaf. -/
def wayN (b : List (List Int)) (plan : List S57) (f : Int) : Nat → Int → List Int × Int
 | 0, _ => ([], -1)
 | d + 1, p => if (rd_T57 plan p).f0 < 0 then ([], (rd_T57 plan p).f1) else
   let r := wayN b plan f d (if rd (rd_L1 b (rd_T57 plan p).f0) f = 1 then (rd_T57 plan p).f3 else (rd_T57 plan p).f2)
   ((rd_T57 plan p).f0 :: r.1, r.2)
def wayP (b : List (List Int)) (plan : List S57) (f : Int) : List Int × Int := wayN b plan f plan.length 0
def costL (c : List Int) : List Int → Int
 | [] => 0
 | t :: ts => rd c t + costL c ts
def sumR (g : Nat → Int) : Nat → Int
 | 0 => 0
 | n + 1 => sumR g n + g n
def maxR (g : Nat → Int) : Nat → Int
 | 0 => 0
 | n + 1 => mx (maxR g n) (g n)
def wayC (b : List (List Int)) (c : List Int) (plan : List S57) (f : Nat) : Int := costL c (wayP b plan f).1
def leafB (b : List (List Int)) (plan : List S57) (n : Nat) : Bool := allB (fun f => (wayP b plan f).2 == (f : Int)) 0 n
def corrR (a : List Int) (b : List (List Int)) (c : List Int) (plan : List S57) : Int × Int × Bool :=
 if (planB a.length b.length plan && leafB b plan a.length) = true then (sumR (fun f => rd a (f : Int) * wayC b c plan f) a.length, maxR (fun f => wayC b c plan f) a.length, true) else (0, 0, false)
/-- A plan's node. -/
structure PlanIs (n nt : Nat) (plan : List S57) : Prop where
 l1 : 1 ≤ plan.length
 l1000 : plan.length ≤ 1000
 node : ∀ i : Nat, i < plan.length → nodeB n nt plan.length i (rd_T57 plan i) = true
theorem plan_is {n nt : Nat} {plan : List S57} (h : planB n nt plan = true) : PlanIs n nt plan := by
 unfold planB at h
 simp only [Bool.and_eq_true, decide_eq_true_eq] at h
 obtain ⟨⟨⟨h1, h2⟩, h3⟩, h4⟩ := h
 exact ⟨h1, h2, fun i hi => (allB_iff _ _ _).1 h3 i (by omega) (by omega)⟩
theorem node_leaf {n nt len i : Nat} {x : S57} (h : nodeB n nt len i x = true) (h0 : x.f0 < 0) : x.f0 = -1 ∧ 0 ≤ x.f1 ∧ x.f1 < (n : Int) ∧ x.f2 = 0 ∧ x.f3 = 0 := by
 unfold nodeB at h
 by_cases c : x.f0 = -1
 ·rw [if_pos c] at h
  simp only [Bool.and_eq_true, decide_eq_true_eq] at h
  omega
 ·rw [if_neg c] at h
  simp only [Bool.and_eq_true, decide_eq_true_eq] at h
  omega
theorem node_inner {n nt len i : Nat} {x : S57} (h : nodeB n nt len i x = true) (h0 : ¬ x.f0 < 0) : 0 ≤ x.f0 ∧ x.f0 < (nt : Int) ∧ x.f1 = 0 ∧ (i : Int) < x.f2 ∧ x.f2 < (len : Int) ∧ (i : Int) < x.f3 ∧ x.f3 < (len : Int) := by
 unfold nodeB at h
 rw [if_neg (by omega)] at h
 simp only [Bool.and_eq_true, decide_eq_true_eq] at h
 omega
theorem kid_at {n nt len i : Nat} {x : S57} (h : nodeB n nt len i x = true) (h0 : ¬ x.f0 < 0) (q : Prop) [Decidable q] : ∃ j : Nat, (if q then x.f3 else x.f2) = (j : Int) ∧ i < j ∧ j < len := by
 have := node_inner h h0
 split
 ·exact ⟨x.f3.toNat, by omega, by omega, by omega⟩
 ·exact ⟨x.f2.toNat, by omega, by omega, by omega⟩
section
variable {n nt : Nat} {plan : List S57} (H : PlanIs n nt plan) (b : List (List Int)) (c : List Int)
include H
theorem wayN_len (f : Int) : ∀ (d : Nat) (p : Nat), p < plan.length → (wayN b plan f d p).1.length ≤ d
 | 0, p, _ => by simp [wayN]
 | d + 1, p, hp => by
  unfold wayN
  by_cases h : (rd_T57 plan (p : Int)).f0 < 0
  ·rw [if_pos h]; simp
  ·rw [if_neg h]
   obtain ⟨j, e, h1, h2⟩ := kid_at (H.node p hp) h (rd (rd_L1 b (rd_T57 plan (p : Int)).f0) f = 1)
   rw [e]
   have := wayN_len f d j h2
   simp only [List.length_cons]; omega
theorem wayN_tests (f : Int) : ∀ (d p : Nat), p < plan.length → ∀ t ∈ (wayN b plan f d p).1, 0 ≤ t ∧ t < (nt : Int)
 | 0, p, _ => by simp [wayN]
 | d + 1, p, hp => by
  unfold wayN
  by_cases h : (rd_T57 plan (p : Int)).f0 < 0
  ·rw [if_pos h]; simp
  ·rw [if_neg h]
   obtain ⟨j, e, h1, h2⟩ := kid_at (H.node p hp) h (rd (rd_L1 b (rd_T57 plan (p : Int)).f0) f = 1)
   rw [e]
   have hn := node_inner (H.node p hp) h
   intro t ht
   rcases List.mem_cons.1 ht with rfl | ht
   ·omega
   ·exact wayN_tests f d j h2 t ht
end
theorem costL_bounds {c : List Int} {nt : Nat} (hc : ∀ t : Nat, t < nt → 1 ≤ rd c (t : Int) ∧ rd c (t : Int) ≤ 100) : ∀ (l : List Int), (∀ t ∈ l, 0 ≤ t ∧ t < (nt : Int)) → 0 ≤ costL c l ∧ costL c l ≤ 100 * (l.length : Int)
 | [], _ => by simp [costL]
 | t :: ts, h => by
  have ht := h t (by simp)
  have := hc t.toNat (by omega)
  rw [show ((t.toNat : Nat) : Int) = t from by omega] at this
  have ih := costL_bounds hc ts (fun u hu => h u (by simp [hu]))
  simp only [costL, List.length_cons]
  omega
section
variable {a : List Int} {b : List (List Int)} {c : List Int}
/-- The reference's Way. -/
theorem rway_l0 (h : CaseIs a b c) (plan : List S57) (H : PlanIs a.length b.length plan) (f : Nat) (hf : f < a.length) (d : Nat) : ∀ (p : Nat) (acc : List Int), p < plan.length → plan.length ≤ p + d → acc.length + d ≤ 2000 →
  Ev (fun k => tickingref07_Way.l0 k plan (f : Int) acc (p : Int) a b c) (acc ++ (wayN b plan (f : Int) d (p : Int)).1, (wayN b plan (f : Int) d (p : Int)).2 == (f : Int)) := by
 induction d with
 | zero => intro p acc hp hd; omega
 | succ d ih =>
  intro p acc hp hd hacc
  unfold wayN
  by_cases h0 : (rd_T57 plan (p : Int)).f0 < 0
  ·rw [if_pos h0]
   refine Ev.step (f := fun _ => some _) (fun k => ?_) (Ev.now _)
   simp only [tickingref07_Way.l0]
   rw [if_pos (by omega), if_pos (by omega), if_neg (by omega)]; simp
  ·rw [if_neg h0]
   obtain ⟨o1, o2, o3, o4, o5, o6, o7⟩ := node_inner (H.node p hp) h0
   obtain ⟨t, ht⟩ : ∃ t : Nat, (rd_T57 plan (p : Int)).f0 = (t : Int) := ⟨(rd_T57 plan (p : Int)).f0.toNat, by omega⟩
   obtain ⟨r1, r2⟩ := row_at h t (by omega)
   obtain ⟨j, e, h1, h2⟩ := kid_at (H.node p hp) h0 (rd (rd_L1 b (rd_T57 plan (p : Int)).f0) (f : Int) = 1)
   have := ih j (acc ++ [(t : Int)]) h2 (by omega) (by simp; omega)
   dsimp only
   rw [e, ht]
   rw [List.append_assoc] at this
   refine Ev.step (fun k => ?_) this
   show tickingref07_Way.l0 (k + 1) plan (f : Int) acc (p : Int) a b c = _
   simp only [tickingref07_Way.l0]
   rw [if_pos (by omega), if_pos (by omega), if_pos (by omega), if_pos (by omega)]
   simp only [Option.bind_some]
   rw [if_pos (by omega), if_pos (by omega), if_pos (by omega)]
   rw [← e]
   by_cases hb : rd (rd_L1 b (rd_T57 plan (p : Int)).f0) (f : Int) = 1
   ·rw [if_pos (by rw [ht, rd_L1_at b t (by omega)]; omega), if_pos hb, if_pos hb, ht]
   ·rw [if_pos (by rw [ht, rd_L1_at b t (by omega)]; omega), if_neg hb, if_neg hb, ht]
theorem rway_ev (h : CaseIs a b c) (plan : List S57) (H : PlanIs a.length b.length plan) (f : Nat) (hf : f < a.length) : Ev (fun k => tickingref07_Way.f k a b c plan (f : Int)) ((wayP b plan (f : Int)).1, (wayP b plan (f : Int)).2 == (f : Int)) := by
 have := rway_l0 h plan H f hf plan.length 0 [] (by have := H.l1; omega) (by omega) (by have := H.l1000; simp; omega)
 simpa [tickingref07_Way.f, wayP] using this
theorem way_tests {plan : List S57} (H : PlanIs a.length b.length plan) (f : Int) : (wayP b plan f).1.length ≤ 1000 ∧ ∀ t ∈ (wayP b plan f).1, 0 ≤ t ∧ t < (b.length : Int) := by
 have h1 := wayN_len H b f plan.length 0 (by have := H.l1; omega)
 have h2 := wayN_tests H b f plan.length 0 (by have := H.l1; omega)
 exact ⟨Nat.le_trans h1 H.l1000, h2⟩
theorem wayC_bounds (h : CaseIs a b c) {plan : List S57} (H : PlanIs a.length b.length plan) (f : Nat) : 0 ≤ wayC b c plan f ∧ wayC b c plan f ≤ 100000 := by
 obtain ⟨h1, h2⟩ := way_tests (a := a) (b := b) H (f : Int)
 have := costL_bounds (c := c) (fun t ht => cost_at h t ht) _ h2
 unfold wayC
 omega
theorem rcorr_l1 (h : CaseIs a b c) (plan : List S57) (f : Nat) (hf : f < a.length) (M W : Int) (l : List Int) (hl : ∀ t ∈ l, 0 ≤ t ∧ t < (b.length : Int)) (hn : l.length ≤ 1000) (R : Int × Int × Bool) (m : Nat) : ∀ (i : Nat) (acc : Int), i + m = l.length → 0 ≤ acc → acc + 100 * (m : Int) ≤ 100000 →
  Ev (fun k => tickingref07_Correct.l0 k plan (wrap64 (M + wrap64 (rd a (f : Int) * (acc + costL c (l.drop i))))) (mx W (acc + costL c (l.drop i))) ((f + 1 : Nat) : Int) a b c) R →
  Ev (fun k => tickingref07_Correct.l1 k plan M W (f : Int) l acc (i : Int) a b c) R := by
 have ha := h.a10
 have hcb := h.cb
 induction m with
 | zero =>
  intro i acc hi h0 h1 hR
  obtain rfl : i = l.length := by omega
  rw [List.drop_length] at hR
  refine Ev.step (fun k => ?_) hR
  simp only [tickingref07_Correct.l1]
  rw [if_neg (by omega), if_pos (by omega), if_pos (by omega), w1 f (by omega)]
  simp [costL]
 | succ m ih =>
  intro i acc hi h0 h1 hR
  have hil : i < l.length := by omega
  have ht := hl l[i] (List.getElem_mem hil)
  obtain ⟨t, et⟩ : ∃ t : Nat, l[i] = (t : Int) := ⟨l[i].toNat, by omega⟩
  have hc := cost_at h t (by omega)
  rw [List.drop_eq_getElem_cons hil, et] at hR
  simp only [costL] at hR
  have e := ih (i + 1) (acc + rd c (t : Int)) (by omega) (by omega) (by omega) (by rw [Int.add_assoc]; exact hR)
  refine Ev.step (fun k => ?_) e
  show tickingref07_Correct.l1 (k + 1) plan M W (f : Int) l acc (i : Int) a b c = _
  simp only [tickingref07_Correct.l1]
  rw [if_pos (by omega), if_pos (by omega), rd_at l i hil, et, if_pos (by omega), if_pos (by omega), w1 i (by omega), show wrap64 (acc + rd c (t : Int)) = acc + rd c (t : Int) from by unfold wrap64; omega]
theorem rcorr_l0 (h : CaseIs a b c) (plan : List S57) (H : PlanIs a.length b.length plan) (m : Nat) : ∀ (f : Nat), f + m = a.length →
  Ev (fun k => tickingref07_Correct.l0 k plan (sumR (fun f => rd a (f : Int) * wayC b c plan f) f) (maxR (fun f => wayC b c plan f) f) (f : Int) a b c)
   (if allB (fun f => (wayP b plan f).2 == (f : Int)) f m = true then (sumR (fun f => rd a (f : Int) * wayC b c plan f) a.length, maxR (fun f => wayC b c plan f) a.length, true) else (0, 0, false)) := by
 have ha := h.a10
 have sb : ∀ f, f ≤ a.length → 0 ≤ sumR (fun f => rd a (f : Int) * wayC b c plan f) f ∧ sumR (fun f => rd a (f : Int) * wayC b c plan f) f ≤ 100000000 * (f : Int) := by
  intro f
  induction f with
  | zero => intro _; simp [sumR]
  | succ f ih =>
   intro hf
   have i1 := ih (by omega)
   have hw := h.wa a[f] (List.getElem_mem (by omega))
   have hc := wayC_bounds h H f
   simp only [sumR]
   rw [rd_at a f (by omega)]
   have p1 : 0 ≤ a[f] * wayC b c plan f := Int.mul_nonneg (by omega) hc.1
   have p2 : a[f] * wayC b c plan f ≤ 1000 * 100000 := Int.mul_le_mul hw.2 hc.2 hc.1 (by omega)
   omega
 induction m with
 | zero =>
  intro f hf
  obtain rfl : f = a.length := by omega
  refine Ev.step (f := fun _ => some _) (fun k => ?_) (Ev.now _)
  simp only [tickingref07_Correct.l0]
  rw [if_neg (by omega)]; rfl
 | succ m ih =>
  intro f hf
  have hfl : f < a.length := by omega
  obtain ⟨hn, ht⟩ := way_tests (a := a) (b := b) (plan := plan) H (f : Int)
  refine Ev.step (f := fun k => (tickingref07_Way.f k a b c plan (f : Int)).bind _) (fun k => by simp only [tickingref07_Correct.l0]; rw [if_pos (by omega)]) ?_
  refine Ev.bind (rway_ev h plan H f hfl) ?_
  rw [allB]
  by_cases hleaf : ((wayP b plan (f : Int)).2 == (f : Int)) = true
  ·rw [hleaf, Bool.true_and]
   refine Ev.congr (fun k => if_pos rfl) ?_
   have e := ih (f + 1) (by omega)
   refine rcorr_l1 h plan f hfl _ _ _ ht hn _ (wayP b plan (f : Int)).1.length 0 0 (by omega) (by omega) (by omega) ?_
   rw [List.drop_zero, Int.zero_add]
   have hw := h.wa a[f] (List.getElem_mem hfl)
   have hc := wayC_bounds h H f
   have hs := sb f (by omega)
   have hra := rd_at a f hfl
   have p1 : 0 ≤ rd a (f : Int) * wayC b c plan f := Int.mul_nonneg (by omega) hc.1
   have p2 : rd a (f : Int) * wayC b c plan f ≤ 1000 * 100000 := Int.mul_le_mul (by omega) hc.2 hc.1 (by omega)
   have es : wrap64 (sumR (fun f => rd a (f : Int) * wayC b c plan f) f + wrap64 (rd a (f : Int) * costL c (wayP b plan (f : Int)).1)) = sumR (fun f => rd a (f : Int) * wayC b c plan f) (f + 1) := by
    simp only [sumR]
    show wrap64 (_ + wrap64 (rd a (f : Int) * wayC b c plan f)) = _
    generalize rd a (f : Int) * wayC b c plan f = p at *
    generalize sumR (fun f => rd a (f : Int) * wayC b c plan f) f = s at *
    clear e ih sb
    unfold wrap64; omega
   rw [es]
   exact e
  ·have hl2 : ((wayP b plan (f : Int)).2 == (f : Int)) = false := by simpa using hleaf
   rw [hl2, Bool.false_and, if_neg (by decide)]
   exact Ev.congr (f := fun _ => some _) (fun k => if_neg Bool.false_ne_true) (Ev.now _)
theorem rcorr_ev (h : CaseIs a b c) (plan : List S57) : Ev (fun k => tickingref07_Correct.f k a b c plan) (corrR a b c plan) := by
 unfold tickingref07_Correct.f corrR
 refine Ev.bind (rplan_ev plan) ?_
 by_cases hp : planB a.length b.length plan = true
 ·rw [hp, Bool.true_and]
  have e := rcorr_l0 h plan (plan_is hp) a.length 0 (by omega)
  refine Ev.congr (f := fun k => tickingref07_Correct.l0 k plan 0 0 0 a b c) (fun k => if_pos rfl) e
 ·have hp2 : planB a.length b.length plan = false := by simpa using hp
  rw [hp2, Bool.false_and, if_neg (by decide)]
  exact Ev.congr (f := fun _ => some _) (fun k => if_neg (by decide)) (Ev.now _)
end
end Go.Proofs.YtekmiepdodaidaaDoor.X
end

section
/- Layer 7, plain: the plan of a choice of tests is a correct plan; its mean and its worst. -/
set_option linter.unusedVariables false
namespace Go.Proofs.YtekmiepdodaidaaDoor.X
open Go.RowKit Go.Proofs.YtekmiepdodaidaaDoorW.PrintWords Go.Proofs.YtekmiepdodaidaaDoorW.PrintLast Go.Proofs.YtekmiepdodaidaaDoorW.PrintMore

def memB (s : Int) (f : Nat) : Bool := s.toNat.testBit f
theorem mem_and {s x : Int} (hs : SetB s) (hx : SetB x) (f : Nat) : memB (bAnd s x) f = (memB s f && memB x f) := by
 unfold memB
 rw [bAnd_nat hs hx, Int.toNat_natCast, Nat.testBit_and]
theorem mem_sub {s x : Int} (hs : SetB s) (hx : SetB x) (f : Nat) (hf : f < 64) : memB (bSub s x) f = (memB s f && !memB x f) := by
 obtain ⟨v, rfl⟩ : ∃ v : Nat, s = v := ⟨s.toNat, by unfold SetB at hs; omega⟩
 obtain ⟨y, rfl⟩ : ∃ y : Nat, x = y := ⟨x.toNat, by unfold SetB at hx; omega⟩
 unfold SetB at hs hx
 unfold memB
 rw [bSub_nat (by omega) (by omega), Int.toNat_natCast, Int.toNat_natCast, Int.toNat_natCast, Nat.testBit_and, not_bit (by omega) hf]
theorem filter_two (p q : Nat → Bool) : ∀ l : List Nat, (l.filter p).length = (l.filter fun i => p i && q i).length + (l.filter fun i => p i && !q i).length
 | [] => rfl
 | x :: xs => by
  have ih := filter_two p q xs
  simp only [List.filter_cons]
  cases p x <;> cases q x <;> simp <;> omega
theorem cnt_add {s x : Int} (hs : SetB s) (hx : SetB x) : cntB (bAnd s x).toNat + cntB (bSub s x).toNat = cntB s.toNat := by
 have h := filter_two (fun i => memB s i) (fun i => memB x i) (List.range 10)
 unfold cntB
 have e1 : (List.range 10).filter (fun i => (bAnd s x).toNat.testBit i) = (List.range 10).filter (fun i => memB s i && memB x i) := List.filter_congr (fun i _ => mem_and hs hx i)
 have e2 : (List.range 10).filter (fun i => (bSub s x).toNat.testBit i) = (List.range 10).filter (fun i => memB s i && !memB x i) := List.filter_congr (fun i hi => mem_sub hs hx i (by have := List.mem_range.1 hi; omega))
 rw [e1, e2]
 exact h.symm
theorem pcount_set {s : Int} (hs : SetB s) : pcount s = (cntB s.toNat : Nat) := by
 unfold SetB at hs
 have := pcount_nat s.toNat (by omega)
 rwa [show ((s.toNat : Nat) : Int) = s from by omega] at this
theorem one_bit : ∀ v, v < 1024 → cntB v = 1 → Lib.ctz 64 v < 10 ∧ v = 2 ^ Lib.ctz 64 v := by decide +kernel
theorem cnt_pos : ∀ v, v < 1024 → v ≠ 0 → 1 ≤ cntB v ∧ cntB v ≤ 10 := by decide +kernel
theorem some_bit : ∀ v, v < 1024 → v ≠ 0 → ∃ i, i < 10 ∧ v.testBit i = true := by decide +kernel
/-- A set of one fault. -/
theorem one_is {n : Nat} {s : Int} (hs : SetB s) (hp : pcount s = 1) (hn : s < (2 ^ n : Nat)) : ∃ f : Nat, tzB s = (f : Int) ∧ f < n ∧ f < 10 ∧ ∀ g, memB s g = decide (f = g) := by
 rw [pcount_set hs] at hp
 unfold SetB at hs
 obtain ⟨h1, h2⟩ := one_bit s.toNat (by omega) (by omega)
 refine ⟨Lib.ctz 64 s.toNat, rfl, ?_, h1, fun g => ?_⟩
 ·rcases Nat.lt_or_ge (Lib.ctz 64 s.toNat) n with h | h
  ·exact h
  ·have := Nat.pow_le_pow_right (show 0 < 2 by decide) h
   omega
 ·unfold memB
  generalize Lib.ctz 64 s.toNat = i at *
  rw [h2, Nat.testBit_two_pow]
structure TreeOk (n nt : Nat) (tf : Int → Int) (ones : List Int) (R : Int → Prop) : Prop where
 runs : Runs tf ones R
 lt : ∀ s, R s → s < (2 ^ n : Nat)
 n10 : n ≤ 10
 len : ones.length = nt
section
variable {n nt : Nat} {tf : Int → Int} {ones : List Int} {R : Int → Prop} (H : TreeOk n nt tf ones R)
include H
theorem tree_len (d : Nat) : ∀ (s : Int) (p : Nat), R s → s.toNat ≤ d → 1 ≤ (treeB tf ones s p).length ∧ (treeB tf ones s p).length + 1 = 2 * cntB s.toNat := by
 induction d with
 | zero => intro s p hR h; have hs := (H.runs.set s hR).2; exfalso; omega
 | succ d ih =>
  intro s p hR h
  have hs := H.runs.set s hR
  by_cases h1 : pcount s = 1
  ·have e := pcount_set hs.1
   rw [treeB_one s p h1]; simp only [List.length_cons, List.length_nil]; omega
  ·obtain ⟨t0, t1, t2, t3, t4, t5⟩ := H.runs.test s hR h1
   obtain ⟨⟨a1, a2⟩, b1, b2⟩ := split_parts (H.runs.set s hR).1 t2 t3
   have hadd := cnt_add (H.runs.set s hR).1 t2
   have e1 := ih _ (p + 1) t4 (by omega)
   have e2 := ih _ (p + 1 + (treeB tf ones (bSub s (rd ones (tf s))) (p + 1)).length) t5 (by omega)
   rw [treeB_two H.runs s p hR h1, List.length_cons, List.length_append]
   generalize (treeB tf ones (bAnd s (rd ones (tf s))) (p + 1 + (treeB tf ones (bSub s (rd ones (tf s))) (p + 1)).length)).length = m2 at *
   generalize (treeB tf ones (bSub s (rd ones (tf s))) (p + 1)).length = m1 at *
   generalize cntB (bAnd s (rd ones (tf s))).toNat = u1 at *
   generalize cntB (bSub s (rd ones (tf s))).toNat = u2 at *
   generalize cntB s.toNat = u3 at *
   clear ih hs t2 t3 t4 t5 h1
   omega
theorem tree_pos (s : Int) (p : Nat) (hR : R s) : 1 ≤ (treeB tf ones s p).length ∧ (treeB tf ones s p).length ≤ 19 := by
 have h := tree_len H s.toNat s p hR (Nat.le_refl _)
 have hs := H.runs.set s hR
 have h2 := cnt_pos s.toNat (by have := hs.1; unfold SetB at this; omega) (by omega)
 omega
theorem run_parts (s : Int) (hR : R s) (h1 : pcount s ≠ 1) : 0 ≤ tf s ∧ tf s < (nt : Int) ∧ SetB (rd ones (tf s)) ∧ R (bSub s (rd ones (tf s))) ∧ R (bAnd s (rd ones (tf s))) ∧ (bSub s (rd ones (tf s))).toNat < s.toNat ∧ (bAnd s (rd ones (tf s))).toNat < s.toNat := by
 obtain ⟨t0, t1, t2, t3, t4, t5⟩ := H.runs.test s hR h1
 obtain ⟨⟨a1, a2⟩, b1, b2⟩ := split_parts (H.runs.set s hR).1 t2 t3
 have hl := H.len
 exact ⟨t0, by omega, t2, t4, t5, by omega, by omega⟩
omit H in
theorem leaf_node (len i f : Nat) (hf : f < n) : nodeB n nt len i ⟨-1, (f : Int), 0, 0⟩ = true := by
 unfold nodeB
 rw [if_pos rfl]
 simp; omega
omit H in
theorem inner_node (len i z o : Nat) (t : Int) (h0 : 0 ≤ t) (h1 : t < (nt : Int)) (hz : i < z ∧ z < len) (ho : i < o ∧ o < len) : nodeB n nt len i ⟨t, 0, (z : Int), (o : Int)⟩ = true := by
 unfold nodeB
 rw [if_neg (show ¬ (t = -1) by omega)]
 simp only [Bool.and_eq_true, decide_eq_true_eq]
 exact ⟨⟨⟨⟨⟨⟨h0, h1⟩, trivial⟩, by omega⟩, by omega⟩, by omega⟩, by omega⟩
omit H in
theorem node_join {P : Nat → S57 → Prop} {x0 : S57} {Z O : List S57} (h0 : P 0 x0) (hZ : ∀ i x, Z[i]? = some x → P (1 + i) x) (hO : ∀ i x, O[i]? = some x → P (1 + Z.length + i) x) : ∀ i x, (x0 :: (Z ++ O))[i]? = some x → P i x := by
 intro i x hx
 cases i with
 | zero =>
  obtain rfl : x0 = x := by simpa using hx
  exact h0
 | succ i =>
  rw [List.getElem?_cons_succ] at hx
  rcases Nat.lt_or_ge i Z.length with hi | hi
  ·rw [List.getElem?_append_left hi] at hx
   have := hZ i x hx
   rwa [Nat.add_comm 1 i] at this
  ·rw [List.getElem?_append_right hi] at hx
   have := hO (i - Z.length) x hx
   rwa [show 1 + Z.length + (i - Z.length) = i + 1 by omega] at this
omit H in
theorem node_fit (p m1 m2 len : Nat) (h1 : 1 ≤ m1) (h2 : 1 ≤ m2) (h : p + (m1 + m2 + 1) ≤ len) : (p + 1 + m1 ≤ len ∧ p + 1 + m1 + m2 ≤ len) ∧ (p + 0 < p + 1 ∧ p + 1 < len) ∧ (p + 0 < p + 1 + m1 ∧ p + 1 + m1 < len) := by omega
theorem tree_node (len : Nat) (d : Nat) : ∀ (s : Int) (p : Nat), R s → s.toNat ≤ d → p + (treeB tf ones s p).length ≤ len → ∀ (i : Nat) (x : S57), (treeB tf ones s p)[i]? = some x → nodeB n nt len (p + i) x = true := by
 induction d with
 | zero => intro s p hR h; have hs := (H.runs.set s hR).2; exfalso; omega
 | succ d ih =>
  intro s p hR h
  have hs := H.runs.set s hR
  by_cases h1 : pcount s = 1
  ·obtain ⟨f, e1, e2, _⟩ := one_is hs.1 h1 (H.lt s hR)
   rw [treeB_one s p h1, e1]
   intro _ i x hx
   cases i with
   | zero =>
    obtain rfl : (⟨-1, (f : Int), 0, 0⟩ : S57) = x := by simpa using hx
    exact leaf_node len _ f e2
   | succ i => simp at hx
  ·obtain ⟨t0, t1, t2, t4, t5, k1, k2⟩ := run_parts H s hR h1
   have e1 := tree_pos H _ (p + 1) t4
   have e2 := tree_pos H _ (p + 1 + (treeB tf ones (bSub s (rd ones (tf s))) (p + 1)).length) t5
   have i1 := ih _ (p + 1) t4 (Nat.le_of_lt_succ (Nat.lt_of_lt_of_le k1 h))
   have i2 := ih _ (p + 1 + (treeB tf ones (bSub s (rd ones (tf s))) (p + 1)).length) t5 (Nat.le_of_lt_succ (Nat.lt_of_lt_of_le k2 h))
   rw [treeB_two H.runs s p hR h1, List.length_cons, List.length_append]
   clear hs ih h h1 k1 k2 t4 t5 t2 H hR
   generalize hZ : treeB tf ones (bSub s (rd ones (tf s))) (p + 1) = Z at *
   generalize hO : treeB tf ones (bAnd s (rd ones (tf s))) (p + 1 + Z.length) = O at *
   clear hZ hO
   intro hlen
   obtain ⟨⟨q1, q2⟩, q3, q4⟩ := node_fit p Z.length O.length len e1.1 e2.1 hlen
   refine node_join (inner_node len (p + 0) (p + 1) (p + 1 + Z.length) (tf s) t0 t1 q3 q4) (fun i x hx => ?_) (fun i x hx => ?_)
   ·have := i1 q1 i x hx
    rwa [Nat.add_assoc] at this
   ·have := i2 q2 i x hx
    rwa [show p + 1 + Z.length + i = p + (1 + Z.length + i) by omega] at this
omit H in
theorem kid_sum (p m1 m2 j : Nat) (h1 : 1 ≤ m1) (h2 : 1 ≤ m2) : ((if ((p + 1 : Nat) : Int) = (j : Int) then 1 else 0) + (if ((p + 1 + m1 : Nat) : Int) = (j : Int) then (1 : Int) else 0)) + ((if p + 1 < j ∧ j < p + 1 + m1 then 1 else 0) + (if p + 1 + m1 < j ∧ j < p + 1 + m1 + m2 then 1 else 0)) = if p < j ∧ j < p + (m1 + m2 + 1) then 1 else 0 := by
 have q1 : (((p + 1 : Nat) : Int) = (j : Int)) ↔ p + 1 = j := by omega
 have q2 : (((p + 1 + m1 : Nat) : Int) = (j : Int)) ↔ p + 1 + m1 = j := by omega
 simp only [q1, q2]
 clear q1 q2
 repeat' split
 all_goals omega
omit H in
theorem cntK_append (l m : List S57) (j : Nat) : cntK (l ++ m) j = cntK l j + cntK m j := by
 induction l with
 | nil => simp [cntK]
 | cons x xs ih => simp only [List.cons_append, cntK, ih]; omega
omit H in
theorem cntK_node (x : S57) (Z O : List S57) (j : Nat) : cntK (x :: (Z ++ O)) j = kidK x j + (cntK Z j + cntK O j) := by
 rw [← cntK_append]; rfl
omit H in
theorem kidK_node (t z o : Int) (j : Nat) (h : t ≠ -1) : kidK ⟨t, 0, z, o⟩ j = (if z = (j : Int) then 1 else 0) + (if o = (j : Int) then 1 else 0) := if_neg h
theorem tree_kids (d : Nat) : ∀ (s : Int) (p : Nat), R s → s.toNat ≤ d → ∀ j, cntK (treeB tf ones s p) j = if p < j ∧ j < p + (treeB tf ones s p).length then 1 else 0 := by
 induction d with
 | zero => intro s p hR h; have hs := (H.runs.set s hR).2; exfalso; omega
 | succ d ih =>
  intro s p hR h j
  have hs := H.runs.set s hR
  by_cases h1 : pcount s = 1
  ·rw [treeB_one s p h1]
   simp only [cntK, kidK, List.length_cons, List.length_nil, if_true]
   rw [if_neg (by omega)]; rfl
  ·obtain ⟨t0, t1, t2, t4, t5, k1, k2⟩ := run_parts H s hR h1
   have e1 := tree_pos H _ (p + 1) t4
   have e2 := tree_pos H _ (p + 1 + (treeB tf ones (bSub s (rd ones (tf s))) (p + 1)).length) t5
   have i1 := ih _ (p + 1) t4 (Nat.le_of_lt_succ (Nat.lt_of_lt_of_le k1 h)) j
   have i2 := ih _ (p + 1 + (treeB tf ones (bSub s (rd ones (tf s))) (p + 1)).length) t5 (Nat.le_of_lt_succ (Nat.lt_of_lt_of_le k2 h)) j
   have hne : tf s ≠ -1 := fun e => by rw [e] at t0; exact absurd t0 (by decide)
   clear hs ih h
   rw [treeB_two H.runs s p hR h1, cntK_node, i1, i2, kidK_node _ _ _ _ hne, List.length_cons, List.length_append]
   generalize (treeB tf ones (bAnd s (rd ones (tf s))) (p + 1 + (treeB tf ones (bSub s (rd ones (tf s))) (p + 1)).length)).length = m2 at *
   generalize (treeB tf ones (bSub s (rd ones (tf s))) (p + 1)).length = m1 at *
   exact kid_sum p m1 m2 j e1.1 e2.1
theorem tree_plan (s : Int) (hR : R s) : planB n nt (treeB tf ones s 0) = true := by
 have hp := tree_pos H s 0 hR
 have hk := tree_kids H s.toNat s 0 hR (Nat.le_refl _)
 have hn := tree_node H (treeB tf ones s 0).length s.toNat s 0 hR (Nat.le_refl _) (by omega)
 unfold planB
 simp only [Bool.and_eq_true, decide_eq_true_eq]
 refine ⟨⟨⟨hp.1, by omega⟩, (allB_iff _ _ _).2 (fun i _ hi => ?_)⟩, (allB_iff _ _ _).2 (fun j h1 h2 => ?_)⟩
 ·have hi' : i < (treeB tf ones s 0).length := by omega
  have := hn i _ (List.getElem?_eq_getElem hi')
  rw [rdT_at _ i hi']
  rwa [Nat.zero_add] at this
 ·rw [hk j, if_pos (by omega)]; rfl
end
end Go.Proofs.YtekmiepdodaidaaDoor.X
end

section
/- Layer 7, plain: the ways through the plan of a choice; its mean and its worst. -/
set_option linter.unusedVariables false
namespace Go.Proofs.YtekmiepdodaidaaDoor.X
open Go.RowKit Go.Proofs.YtekmiepdodaidaaDoorW.PrintWords Go.Proofs.YtekmiepdodaidaaDoorW.PrintLast Go.Proofs.YtekmiepdodaidaaDoorW.PrintMore

/-- The tests on the way of a fault through the tree of a set. -/
def pathF (tf : Int → Int) (ones : List Int) : Nat → Int → Nat → List Int
 | 0, _, _ => []
 | d + 1, s, f => if pcount s = 1 then [] else tf s :: pathF tf ones d (if memB (rd ones (tf s)) f = true then bAnd s (rd ones (tf s)) else bSub s (rd ones (tf s))) f
def pathB (tf : Int → Int) (ones : List Int) (s : Int) (f : Nat) : List Int := pathF tf ones (s.toNat + 1) s f
/-- The part of a divided set in which a fault is. -/
def partB (tf : Int → Int) (ones : List Int) (s : Int) (f : Nat) : Int := if memB (rd ones (tf s)) f = true then bAnd s (rd ones (tf s)) else bSub s (rd ones (tf s))
def Sits (plan T : List S57) (p : Nat) : Prop := p + T.length ≤ plan.length ∧ ∀ i, i < T.length → plan[p + i]? = T[i]?
section
variable {n nt : Nat} {tf : Int → Int} {ones : List Int} {R : Int → Prop} (H : TreeOk n nt tf ones R)
include H
theorem part_ok (s : Int) (hR : R s) (h1 : pcount s ≠ 1) (f : Nat) : R (partB tf ones s f) ∧ (partB tf ones s f).toNat < s.toNat := by
 obtain ⟨t0, t1, t2, t4, t5, k1, k2⟩ := run_parts H s hR h1
 unfold partB
 split
 ·exact ⟨t5, k2⟩
 ·exact ⟨t4, k1⟩
theorem part_mem (s : Int) (hR : R s) (h1 : pcount s ≠ 1) (f : Nat) (hf : f < 64) (hm : memB s f = true) : memB (partB tf ones s f) f = true := by
 obtain ⟨t0, t1, t2, t4, t5, k1, k2⟩ := run_parts H s hR h1
 have hs := (H.runs.set s hR).1
 unfold partB
 by_cases h : memB (rd ones (tf s)) f = true
 ·rw [if_pos h, mem_and hs t2, hm, h]; rfl
 ·rw [if_neg h, mem_sub hs t2 f hf, hm]; simpa using h
theorem pathF_stable (f : Nat) : ∀ (d : Nat) (s : Int), R s → s.toNat < d → pathF tf ones d s f = pathF tf ones (d + 1) s f
 | 0, s, hR, h => absurd h (Nat.not_lt_zero _)
 | d + 1, s, hR, h => by
  unfold pathF
  by_cases h1 : pcount s = 1
  ·rw [if_pos h1, if_pos h1]
  ·rw [if_neg h1, if_neg h1]
   obtain ⟨q1, q2⟩ := part_ok H s hR h1 f
   have := pathF_stable f d _ q1 (Nat.lt_of_lt_of_le q2 (Nat.le_of_lt_succ h))
   unfold partB at this
   rw [this]
theorem pathF_more (f : Nat) (s : Int) (hR : R s) (d : Nat) (hd : s.toNat < d) : pathF tf ones d s f = pathB tf ones s f := by
 unfold pathB
 obtain ⟨e, rfl⟩ : ∃ e, d = s.toNat + 1 + e := ⟨d - (s.toNat + 1), by omega⟩
 clear hd
 induction e with
 | zero => rfl
 | succ e ih => rw [← ih]; exact (pathF_stable H f (s.toNat + 1 + e) s hR (by omega)).symm
omit H in
theorem path_one (s : Int) (f : Nat) (h1 : pcount s = 1) : pathB tf ones s f = [] := by unfold pathB pathF; rw [if_pos h1]
theorem path_two (s : Int) (f : Nat) (hR : R s) (h1 : pcount s ≠ 1) : pathB tf ones s f = tf s :: pathB tf ones (partB tf ones s f) f := by
 obtain ⟨q1, q2⟩ := part_ok H s hR h1 f
 show pathF tf ones (s.toNat + 1) s f = _
 unfold pathF
 rw [if_neg h1]
 show _ :: pathF tf ones s.toNat (partB tf ones s f) f = _
 rw [pathF_more H f _ q1 _ q2]
omit H in
theorem sits_node {plan Z O : List S57} {x0 : S57} {p : Nat} (h : Sits plan (x0 :: (Z ++ O)) p) : rd_T57 plan (p : Int) = x0 ∧ p < plan.length ∧ Sits plan Z (p + 1) ∧ Sits plan O (p + 1 + Z.length) := by
 obtain ⟨h1, h2⟩ := h
 rw [List.length_cons, List.length_append] at h1 h2
 refine ⟨?_, by omega, ⟨by omega, fun i hi => ?_⟩, ⟨by omega, fun i hi => ?_⟩⟩
 ·have := h2 0 (by omega)
  rw [Nat.add_zero, List.getElem?_cons_zero, List.getElem?_eq_getElem (by omega)] at this
  rw [rdT_at plan p (by omega)]
  exact Option.some.inj this
 ·have := h2 (i + 1) (by omega)
  rw [List.getElem?_cons_succ, List.getElem?_append_left hi, show p + (i + 1) = p + 1 + i by omega] at this
  exact this
 ·have := h2 (Z.length + i + 1) (by omega)
  rw [List.getElem?_cons_succ, List.getElem?_append_right (by omega), show p + (Z.length + i + 1) = p + 1 + Z.length + i by omega, show Z.length + i - Z.length = i by omega] at this
  exact this
/-- The way of a fault of the set ends at its leaf. -/
theorem way_tree {b : List (List Int)} (hrow : ∀ (t : Nat) (f : Nat), t < nt → f < n → (rd (rd_L1 b (t : Int)) (f : Int) = 1 ↔ memB (rd ones (t : Int)) f = true)) (plan : List S57) (f : Nat) (hf : f < n) (d : Nat) :
  ∀ (s : Int) (p D : Nat), R s → s.toNat ≤ d → Sits plan (treeB tf ones s p) p → memB s f = true → (treeB tf ones s p).length ≤ D → wayN b plan (f : Int) D (p : Int) = (pathB tf ones s f, (f : Int)) := by
 induction d with
 | zero => intro s p D hR h; have hs := (H.runs.set s hR).2; exfalso; omega
 | succ d ih =>
  intro s p D hR h hsit hm hD
  have hs := H.runs.set s hR
  have hn := H.n10
  by_cases h1 : pcount s = 1
  ·obtain ⟨g, e1, e2, e3, e4⟩ := one_is hs.1 h1 (H.lt s hR)
   rw [treeB_one s p h1, e1] at hsit hD
   rw [path_one s f h1]
   obtain ⟨q1, q2, _⟩ := sits_node (Z := []) (O := []) hsit
   have hg : g = f := by have := e4 f; rw [hm] at this; simpa using this.symm
   obtain ⟨D, rfl⟩ : ∃ D', D = D' + 1 := ⟨D - 1, by simp at hD; omega⟩
   unfold wayN
   rw [q1, hg]; rfl
  ·obtain ⟨t0, t1, t2, t4, t5, k1, k2⟩ := run_parts H s hR h1
   obtain ⟨q1, q2⟩ := part_ok H s hR h1 f
   have q3 := part_mem H s hR h1 f (by omega) hm
   have i1 := ih (bSub s (rd ones (tf s))) (p + 1)
   have i2 := ih (bAnd s (rd ones (tf s))) (p + 1 + (treeB tf ones (bSub s (rd ones (tf s))) (p + 1)).length)
   rw [path_two H s f hR h1]
   rw [treeB_two H.runs s p hR h1] at hsit hD
   rw [List.length_cons, List.length_append] at hD
   obtain ⟨w1_, w2, w3, w4⟩ := sits_node hsit
   obtain ⟨t, ht⟩ : ∃ t : Nat, tf s = (t : Int) := ⟨(tf s).toNat, by omega⟩
   have hb := hrow t f (by omega) hf
   rw [← ht] at hb
   generalize hZ : treeB tf ones (bSub s (rd ones (tf s))) (p + 1) = Z at *
   generalize hO : treeB tf ones (bAnd s (rd ones (tf s))) (p + 1 + Z.length) = O at *
   obtain ⟨D, rfl⟩ : ∃ D', D = D' + 1 := ⟨D - 1, by omega⟩
   unfold wayN
   rw [w1_]
   dsimp only
   rw [if_neg (show ¬ (tf s < 0) by omega)]
   by_cases hx : memB (rd ones (tf s)) f = true
   ·have hp : partB tf ones s f = bAnd s (rd ones (tf s)) := by unfold partB; rw [if_pos hx]
    rw [hp] at q3 ⊢
    rw [if_pos (hb.2 hx), i2 D t5 (Nat.le_of_lt_succ (Nat.lt_of_lt_of_le k2 h)) w4 q3 (by omega)]
   ·have hp : partB tf ones s f = bSub s (rd ones (tf s)) := by unfold partB; rw [if_neg hx]
    rw [hp] at q3 ⊢
    rw [if_neg (fun e => hx (hb.1 e)), i1 D t4 (Nat.le_of_lt_succ (Nat.lt_of_lt_of_le k1 h)) w3 q3 (by omega)]
end
theorem sumR_congr {g h : Nat → Int} : ∀ n, (∀ i, i < n → g i = h i) → sumR g n = sumR h n
 | 0, _ => rfl
 | n + 1, e => by simp only [sumR, sumR_congr n (fun i hi => e i (by omega)), e n (by omega)]
theorem sumR_add (g h : Nat → Int) : ∀ n, sumR (fun i => g i + h i) n = sumR g n + sumR h n
 | 0 => rfl
 | n + 1 => by simp only [sumR, sumR_add g h n]; omega
theorem sumR_mul (k : Int) (g : Nat → Int) : ∀ n, sumR (fun i => k * g i) n = k * sumR g n
 | 0 => by simp [sumR]
 | n + 1 => by simp only [sumR, sumR_mul k g n, Int.mul_add]
theorem sumR_zero {g : Nat → Int} : ∀ n, (∀ i, i < n → g i = 0) → sumR g n = 0
 | 0, _ => rfl
 | n + 1, e => by simp only [sumR, sumR_zero n (fun i hi => e i (by omega)), e n (by omega)]; rfl
theorem sumR_shift (g : Nat → Int) : ∀ n, sumR g (n + 1) = g 0 + sumR (fun i => g (i + 1)) n
 | 0 => by simp [sumR]
 | n + 1 => by
  show sumR g (n + 1) + g (n + 1) = _
  rw [sumR_shift g n]; simp only [sumR]; omega
theorem wOf_sum : ∀ (a : List Int) (s : Nat), wOf a s = sumR (fun f => if s.testBit f = true then rd a (f : Int) else 0) a.length
 | [], s => rfl
 | x :: xs, s => by
  rw [List.length_cons, sumR_shift, wOf, wOf_sum xs (s / 2)]
  congr 1
  ·have : s.testBit 0 = decide (s % 2 = 1) := Nat.testBit_zero s
   rw [this]
   by_cases h : s % 2 = 1 <;> simp [h, rd]
  ·refine sumR_congr _ (fun i hi => ?_)
   rw [Nat.testBit_succ, show rd (x :: xs) ((i + 1 : Nat) : Int) = rd xs (i : Int) from by simp only [rd, Int.toNat_natCast, List.getD_cons_succ]]
theorem le_mx (x y : Int) : x ≤ mx x y ∧ y ≤ mx x y := by unfold mx; split <;> omega
theorem maxR_congr {g h : Nat → Int} : ∀ n, (∀ i, i < n → g i = h i) → maxR g n = maxR h n
 | 0, _ => rfl
 | n + 1, e => by simp only [maxR, maxR_congr n (fun i hi => e i (by omega)), e n (by omega)]
theorem maxR_nonneg (g : Nat → Int) : ∀ n, 0 ≤ maxR g n
 | 0 => Int.le_refl _
 | n + 1 => Int.le_trans (maxR_nonneg g n) (le_mx _ _).1
theorem le_maxR (g : Nat → Int) : ∀ (n i : Nat), i < n → g i ≤ maxR g n
 | 0, i, h => absurd h (Nat.not_lt_zero _)
 | n + 1, i, h => by
  by_cases e : i = n
  ·subst e; exact (le_mx _ _).2
  ·exact Int.le_trans (le_maxR g n i (by omega)) (le_mx _ _).1
theorem costL_cons (c : List Int) (t : Int) (ts : List Int) : costL c (t :: ts) = rd c t + costL c ts := rfl
def pathC (c : List Int) (tf : Int → Int) (ones : List Int) (s : Int) (f : Nat) : Int := costL c (pathB tf ones s f)
def meanS (a c : List Int) (tf : Int → Int) (ones : List Int) (s : Int) : Int := sumR (fun f => if memB s f = true then rd a (f : Int) * pathC c tf ones s f else 0) a.length
def worstS (n : Nat) (c : List Int) (tf : Int → Int) (ones : List Int) (s : Int) : Int := maxR (fun f => if memB s f = true then pathC c tf ones s f else 0) n
theorem lt64 {f n : Nat} (hf : f < n) (hn : n ≤ 10) : f < 64 := by omega
theorem bit_lt {n : Nat} {u : Int} (hs : SetB u) (h1 : 1 ≤ u) (hlt : u < (2 ^ n : Nat)) : ∃ f, f < n ∧ memB u f = true := by
 unfold SetB at hs
 obtain ⟨f, hf10, hbit⟩ := some_bit u.toNat (by omega) (by omega)
 refine ⟨f, ?_, hbit⟩
 rcases Nat.lt_or_ge f n with h | h
 ·exact h
 ·have hp2 := Nat.pow_le_pow_right (show 0 < 2 by decide) h
  rw [Nat.testBit_lt_two_pow (show u.toNat < 2 ^ f by omega)] at hbit
  cases hbit
section
variable {n nt : Nat} {tf : Int → Int} {ones : List Int} {R : Int → Prop} (H : TreeOk n nt tf ones R)
include H
omit H in
theorem mean_one (a c : List Int) (s : Int) (h1 : pcount s = 1) : meanS a c tf ones s = 0 := by
 refine sumR_zero _ (fun f _ => ?_)
 unfold pathC
 rw [path_one s f h1]
 simp [costL]
theorem pathC_two (c : List Int) (s : Int) (f : Nat) (hR : R s) (h1 : pcount s ≠ 1) : pathC c tf ones s f = rd c (tf s) + pathC c tf ones (partB tf ones s f) f := by
 have e := path_two H s f hR h1
 unfold pathC
 rw [e, costL_cons]
theorem mean_two (a c : List Int) (ha : a.length ≤ 10) (s : Int) (hR : R s) (h1 : pcount s ≠ 1) :
  meanS a c tf ones s = rd c (tf s) * wOf a s.toNat + meanS a c tf ones (bSub s (rd ones (tf s))) + meanS a c tf ones (bAnd s (rd ones (tf s))) := by
 obtain ⟨t0, t1, t2, t4, t5, k1, k2⟩ := run_parts H s hR h1
 have hs := (H.runs.set s hR).1
 unfold meanS
 rw [wOf_sum, ← sumR_mul, ← sumR_add, ← sumR_add]
 refine sumR_congr _ (fun f hf => ?_)
 have m1 := mem_and hs t2 f
 have m2 := mem_sub hs t2 f (lt64 hf ha)
 have hp := pathC_two H c s f hR h1
 show _ = rd c (tf s) * (if memB s f = true then rd a (f : Int) else 0) + _ + _
 cases hm : memB s f
 ·rw [hm, Bool.false_and] at m1 m2
  rw [m1, m2]
  simp
 ·rw [hm, Bool.true_and] at m1 m2
  rw [m1, m2, hp]
  unfold partB
  cases memB (rd ones (tf s)) f
  ·simp only [if_true, Bool.not_false]
   rw [if_neg (by decide), if_neg (by decide), Int.mul_add, Int.add_zero, Int.mul_comm (rd a (f : Int)) (rd c (tf s))]
  ·simp only [if_true, Bool.not_true]
   rw [if_neg (by decide), Int.mul_add, Int.add_zero, Int.mul_comm (rd a (f : Int)) (rd c (tf s))]
end
end Go.Proofs.YtekmiepdodaidaaDoor.X
end
