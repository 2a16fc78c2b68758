/- Texts behind TestsChecks, part 33: contracts of the program's functions and the plain words for them. -/
import Derived.Test.YtekmiepdodaidaaDoorTpas
import Derived.Test.YtekmiepdodaidaaDoorTpat
import Derived.Test.YtekmiepdodaidaaDoorTpay
import Derived.Test.YtekmiepdodaidaaDoorTpaz
import Derived.Test.YtekmiepdodaidaaDoorTpba
import Derived.Test.YtekmiepdodaidaaDoorTpbc
import Derived.Test.YtekmiepdodaidaaDoorTpbf
section
namespace Go.Proofs.YtekmiepdodaidaaDoor.X
open Go.RowKit Go.Proofs.YtekmiepdodaidaaDoorW.PrintWords Go.Proofs.YtekmiepdodaidaaDoorW.PrintLast Go.Proofs.YtekmiepdodaidaaDoorW.PrintMore
attribute [local go_sem] max2_int min2_int max_two min_two max_three min_three max_four min_four   -- for this text's walks alone
set_option linter.unusedVariables false
set_option linter.unusedSimpArgs false

mutual
def tickinglaw07_TestsChecks.j0 : Nat → Int → List (S57) → List Int → Int → Bool → Bool → List Int → List (List Int) → List Int → Option (Bool)
 | 0, _, _, _, _, _, _, _, _, _ => none
 | k + 1, x2, x8, x12, x13, x16, x99, x394000, x394001, x394002 => if x99 = true then (some false) else (if x2 < 0 then (tickinglaw07_TestsChecks.j1 k x2 x8 x12 x13 x16 true x394000 x394001 x394002) else (tickinglaw07_TestsChecks.j1 k x2 x8 x12 x13 x16 (decide (x2 ≥ (x394000.length : Int))) x394000 x394001 x394002))
def tickinglaw07_TestsChecks.j1 : Nat → Int → List (S57) → List Int → Int → Bool → Bool → List Int → List (List Int) → List Int → Option (Bool)
 | 0, _, _, _, _, _, _, _, _, _ => none
 | k + 1, x2, x8, x12, x13, x16, x108, x394000, x394001, x394002 => if x108 = true then (if (x12.length : Int) = 0 then (if x13 = 2 then ((tickinglaw07_awake.f k).bind fun t406 => (some t406)) else (some false)) else (some false)) else (if x16 = true then ((tickingref07_Way.f k x394000 x394001 x394002 x8 x2).bind fun bt407 => ((tickinglaw07_ints.f k x12 bt407.1).bind fun t411 => (if t411 = true then (if x13 = 0 then ((tickinglaw07_awake.f k).bind fun t412 => (some t412)) else (some false)) else (some false)))) else (if (x12.length : Int) = 0 then (if x13 = 10 then ((tickinglaw07_awake.f k).bind fun t413 => (some t413)) else (some false)) else (some false)))
end
def tickinglaw07_TestsChecks.f (k : Nat) (l0_0 : List Int) (l0_1 : List (List Int)) (l0_2 : List Int) (l1 : List (S57)) (a2 : Int) : Option (Bool) := (tickinglaw07_own.f k l0_0 l0_1 l0_2).bind fun bt381 => ((tickinglaw07_nodes.f l1).bind fun t390 => ((tests_Check.f k bt381.1 bt381.2.1 bt381.2.2 t390).bind fun bt394 => ((tests_Find.f k bt381.1 bt381.2.1 bt381.2.2 t390 a2).bind fun bt397 => ((tickingref07_Case.f k bt381.1 bt381.2.1 bt381.2.2).bind fun t401 => (if t401 = true then ((tickingref07_Correct.f k bt381.1 bt381.2.1 bt381.2.2 t390).bind fun bt403 => (if bt403.2.2 = true then (if bt394.1 = bt403.1 then (if bt394.2.1 = bt403.2.1 then (tickinglaw07_TestsChecks.j0 k a2 t390 bt397.1 bt397.2 bt403.2.2 (bt394.2.2 != 0) bt381.1 bt381.2.1 bt381.2.2) else (tickinglaw07_TestsChecks.j0 k a2 t390 bt397.1 bt397.2 bt403.2.2 true bt381.1 bt381.2.1 bt381.2.2)) else (tickinglaw07_TestsChecks.j0 k a2 t390 bt397.1 bt397.2 bt403.2.2 true bt381.1 bt381.2.1 bt381.2.2)) else (if bt394.1 = 0 then (if bt394.2.1 = 0 then (if bt394.2.2 = 10 then (tickinglaw07_TestsChecks.j0 k a2 t390 bt397.1 bt397.2 bt403.2.2 false bt381.1 bt381.2.1 bt381.2.2) else (tickinglaw07_TestsChecks.j0 k a2 t390 bt397.1 bt397.2 bt403.2.2 true bt381.1 bt381.2.1 bt381.2.2)) else (tickinglaw07_TestsChecks.j0 k a2 t390 bt397.1 bt397.2 bt403.2.2 true bt381.1 bt381.2.1 bt381.2.2)) else (tickinglaw07_TestsChecks.j0 k a2 t390 bt397.1 bt397.2 bt403.2.2 true bt381.1 bt381.2.1 bt381.2.2)))) else (if bt394.1 = 0 then (if bt394.2.1 = 0 then (if bt394.2.2 = 2 then (if (bt397.1.length : Int) = 0 then (if bt397.2 = 2 then ((tickinglaw07_awake.f k).bind fun t402 => (some t402)) else (some false)) else (some false)) else (some false)) else (some false)) else (some false)))))))
set_option maxHeartbeats 8000000 in
set_option maxRecDepth 100000 in
theorem tickinglaw07_TestsChecks.calls (k : Nat) (A0_0 : Option Addr) (c0_0 : Nat) (l0_0 : List Int) (A0_1 : Option Addr) (c0_1 : Nat) (l0_1 : List (List Int)) (A0_2 : Option Addr) (c0_2 : Nat) (l0_2 : List Int) (A1 : Option Addr) (c1 : Nat) (l1 : List (S57)) (a2 : Int) (r : Bool) (w : World) (hr0_0 : Kd.C (Kd.int .i64) w A0_0 l0_0.length l0_0) (hc0_0 : l0_0.length ≤ c0_0) (hr0_1 : Kd.C (Kd.slice 3 (Kd.int .i64)) w A0_1 l0_1.length l0_1) (hc0_1 : l0_1.length ≤ c0_1) (hr0_2 : Kd.C (Kd.int .i64) w A0_2 l0_2.length l0_2) (hc0_2 : l0_2.length ≤ c0_2) (hr1 : Kd.C k57 w A1 l1.length l1) (hc1 : l1.length ≤ c1) (h : tickinglaw07_TestsChecks.f k l0_0 l0_1 l0_2 l1 a2 = some r) (hTab : Tab w) :
  Calls Tryd.prog 4 #[.agg #[.slice A0_0 l0_0.length c0_0, .slice A0_1 l0_1.length c0_1, .slice A0_2 l0_2.length c0_2], .slice A1 l1.length c1, .int .i64 a2] w fun e w' => e = .returned (.bool r) ∧ Below w.heap.size w w' := by
 have HTab := Aside0.mk hTab
 clear hTab
 have hu25 := Tryd.underlying25
 have HR0_0 := Aside0.mk hr0_0
 have HC0_0 := Aside0.mk hc0_0
 clear hr0_0 hc0_0
 have HR0_1 := Aside0.mk hr0_1
 have HC0_1 := Aside0.mk hc0_1
 clear hr0_1 hc0_1
 have HR0_2 := Aside0.mk hr0_2
 have HC0_2 := Aside0.mk hc0_2
 clear hr0_2 hc0_2
 have HR1 := Aside0.mk hr1
 have HC1 := Aside0.mk hc1
 clear hr1 hc1
 have HB := Aside0.mk (Below.refl w.heap.size w)
 have H : ((tickinglaw07_own.f k l0_0 l0_1 l0_2).bind fun bt381 => ((tickinglaw07_nodes.f l1).bind fun t390 => ((tests_Check.f k bt381.1 bt381.2.1 bt381.2.2 t390).bind fun bt394 => ((tests_Find.f k bt381.1 bt381.2.1 bt381.2.2 t390 a2).bind fun bt397 => ((tickingref07_Case.f k bt381.1 bt381.2.1 bt381.2.2).bind fun t401 => (if t401 = true then ((tickingref07_Correct.f k bt381.1 bt381.2.1 bt381.2.2 t390).bind fun bt403 => (if bt403.2.2 = true then (if bt394.1 = bt403.1 then (if bt394.2.1 = bt403.2.1 then (tickinglaw07_TestsChecks.j0 k a2 t390 bt397.1 bt397.2 bt403.2.2 (bt394.2.2 != 0) bt381.1 bt381.2.1 bt381.2.2) else (tickinglaw07_TestsChecks.j0 k a2 t390 bt397.1 bt397.2 bt403.2.2 true bt381.1 bt381.2.1 bt381.2.2)) else (tickinglaw07_TestsChecks.j0 k a2 t390 bt397.1 bt397.2 bt403.2.2 true bt381.1 bt381.2.1 bt381.2.2)) else (if bt394.1 = 0 then (if bt394.2.1 = 0 then (if bt394.2.2 = 10 then (tickinglaw07_TestsChecks.j0 k a2 t390 bt397.1 bt397.2 bt403.2.2 false bt381.1 bt381.2.1 bt381.2.2) else (tickinglaw07_TestsChecks.j0 k a2 t390 bt397.1 bt397.2 bt403.2.2 true bt381.1 bt381.2.1 bt381.2.2)) else (tickinglaw07_TestsChecks.j0 k a2 t390 bt397.1 bt397.2 bt403.2.2 true bt381.1 bt381.2.1 bt381.2.2)) else (tickinglaw07_TestsChecks.j0 k a2 t390 bt397.1 bt397.2 bt403.2.2 true bt381.1 bt381.2.1 bt381.2.2)))) else (if bt394.1 = 0 then (if bt394.2.1 = 0 then (if bt394.2.2 = 2 then (if (bt397.1.length : Int) = 0 then (if bt397.2 = 2 then ((tickinglaw07_awake.f k).bind fun t402 => (some t402)) else (some false)) else (some false)) else (some false)) else (some false)) else (some false)))))))) = some r := h
 clear h
 replace H := Option.bind_eq_some_iff.mp H
 obtain ⟨⟨t381, t384, t387⟩, A40, H⟩ := H
 replace H : ((tickinglaw07_nodes.f l1).bind fun t390 => ((tests_Check.f k t381 t384 t387 t390).bind fun bt394 => ((tests_Find.f k t381 t384 t387 t390 a2).bind fun bt397 => ((tickingref07_Case.f k t381 t384 t387).bind fun t401 => (if t401 = true then ((tickingref07_Correct.f k t381 t384 t387 t390).bind fun bt403 => (if bt403.2.2 = true then (if bt394.1 = bt403.1 then (if bt394.2.1 = bt403.2.1 then (tickinglaw07_TestsChecks.j0 k a2 t390 bt397.1 bt397.2 bt403.2.2 (bt394.2.2 != 0) t381 t384 t387) else (tickinglaw07_TestsChecks.j0 k a2 t390 bt397.1 bt397.2 bt403.2.2 true t381 t384 t387)) else (tickinglaw07_TestsChecks.j0 k a2 t390 bt397.1 bt397.2 bt403.2.2 true t381 t384 t387)) else (if bt394.1 = 0 then (if bt394.2.1 = 0 then (if bt394.2.2 = 10 then (tickinglaw07_TestsChecks.j0 k a2 t390 bt397.1 bt397.2 bt403.2.2 false t381 t384 t387) else (tickinglaw07_TestsChecks.j0 k a2 t390 bt397.1 bt397.2 bt403.2.2 true t381 t384 t387)) else (tickinglaw07_TestsChecks.j0 k a2 t390 bt397.1 bt397.2 bt403.2.2 true t381 t384 t387)) else (tickinglaw07_TestsChecks.j0 k a2 t390 bt397.1 bt397.2 bt403.2.2 true t381 t384 t387)))) else (if bt394.1 = 0 then (if bt394.2.1 = 0 then (if bt394.2.2 = 2 then (if (bt397.1.length : Int) = 0 then (if bt397.2 = 2 then ((tickinglaw07_awake.f k).bind fun t402 => (some t402)) else (some false)) else (some false)) else (some false)) else (some false)) else (some false))))))) = some r := H
 have A4 := Aside0.mk A40
 clear A40
 replace H := Option.bind_eq_some_iff.mp H
 obtain ⟨t390, A50, H⟩ := H
 replace H : ((tests_Check.f k t381 t384 t387 t390).bind fun bt394 => ((tests_Find.f k t381 t384 t387 t390 a2).bind fun bt397 => ((tickingref07_Case.f k t381 t384 t387).bind fun t401 => (if t401 = true then ((tickingref07_Correct.f k t381 t384 t387 t390).bind fun bt403 => (if bt403.2.2 = true then (if bt394.1 = bt403.1 then (if bt394.2.1 = bt403.2.1 then (tickinglaw07_TestsChecks.j0 k a2 t390 bt397.1 bt397.2 bt403.2.2 (bt394.2.2 != 0) t381 t384 t387) else (tickinglaw07_TestsChecks.j0 k a2 t390 bt397.1 bt397.2 bt403.2.2 true t381 t384 t387)) else (tickinglaw07_TestsChecks.j0 k a2 t390 bt397.1 bt397.2 bt403.2.2 true t381 t384 t387)) else (if bt394.1 = 0 then (if bt394.2.1 = 0 then (if bt394.2.2 = 10 then (tickinglaw07_TestsChecks.j0 k a2 t390 bt397.1 bt397.2 bt403.2.2 false t381 t384 t387) else (tickinglaw07_TestsChecks.j0 k a2 t390 bt397.1 bt397.2 bt403.2.2 true t381 t384 t387)) else (tickinglaw07_TestsChecks.j0 k a2 t390 bt397.1 bt397.2 bt403.2.2 true t381 t384 t387)) else (tickinglaw07_TestsChecks.j0 k a2 t390 bt397.1 bt397.2 bt403.2.2 true t381 t384 t387)))) else (if bt394.1 = 0 then (if bt394.2.1 = 0 then (if bt394.2.2 = 2 then (if (bt397.1.length : Int) = 0 then (if bt397.2 = 2 then ((tickinglaw07_awake.f k).bind fun t402 => (some t402)) else (some false)) else (some false)) else (some false)) else (some false)) else (some false)))))) = some r := H
 have A5 := Aside0.mk A50
 clear A50
 replace H := Option.bind_eq_some_iff.mp H
 obtain ⟨⟨t394, t395, t396⟩, A60, H⟩ := H
 replace H : ((tests_Find.f k t381 t384 t387 t390 a2).bind fun bt397 => ((tickingref07_Case.f k t381 t384 t387).bind fun t401 => (if t401 = true then ((tickingref07_Correct.f k t381 t384 t387 t390).bind fun bt403 => (if bt403.2.2 = true then (if t394 = bt403.1 then (if t395 = bt403.2.1 then (tickinglaw07_TestsChecks.j0 k a2 t390 bt397.1 bt397.2 bt403.2.2 (t396 != 0) t381 t384 t387) else (tickinglaw07_TestsChecks.j0 k a2 t390 bt397.1 bt397.2 bt403.2.2 true t381 t384 t387)) else (tickinglaw07_TestsChecks.j0 k a2 t390 bt397.1 bt397.2 bt403.2.2 true t381 t384 t387)) else (if t394 = 0 then (if t395 = 0 then (if t396 = 10 then (tickinglaw07_TestsChecks.j0 k a2 t390 bt397.1 bt397.2 bt403.2.2 false t381 t384 t387) else (tickinglaw07_TestsChecks.j0 k a2 t390 bt397.1 bt397.2 bt403.2.2 true t381 t384 t387)) else (tickinglaw07_TestsChecks.j0 k a2 t390 bt397.1 bt397.2 bt403.2.2 true t381 t384 t387)) else (tickinglaw07_TestsChecks.j0 k a2 t390 bt397.1 bt397.2 bt403.2.2 true t381 t384 t387)))) else (if t394 = 0 then (if t395 = 0 then (if t396 = 2 then (if (bt397.1.length : Int) = 0 then (if bt397.2 = 2 then ((tickinglaw07_awake.f k).bind fun t402 => (some t402)) else (some false)) else (some false)) else (some false)) else (some false)) else (some false))))) = some r := H
 have A6 := Aside0.mk A60
 clear A60
 replace H := Option.bind_eq_some_iff.mp H
 obtain ⟨⟨t397, t400⟩, A70, H⟩ := H
 replace H : ((tickingref07_Case.f k t381 t384 t387).bind fun t401 => (if t401 = true then ((tickingref07_Correct.f k t381 t384 t387 t390).bind fun bt403 => (if bt403.2.2 = true then (if t394 = bt403.1 then (if t395 = bt403.2.1 then (tickinglaw07_TestsChecks.j0 k a2 t390 t397 t400 bt403.2.2 (t396 != 0) t381 t384 t387) else (tickinglaw07_TestsChecks.j0 k a2 t390 t397 t400 bt403.2.2 true t381 t384 t387)) else (tickinglaw07_TestsChecks.j0 k a2 t390 t397 t400 bt403.2.2 true t381 t384 t387)) else (if t394 = 0 then (if t395 = 0 then (if t396 = 10 then (tickinglaw07_TestsChecks.j0 k a2 t390 t397 t400 bt403.2.2 false t381 t384 t387) else (tickinglaw07_TestsChecks.j0 k a2 t390 t397 t400 bt403.2.2 true t381 t384 t387)) else (tickinglaw07_TestsChecks.j0 k a2 t390 t397 t400 bt403.2.2 true t381 t384 t387)) else (tickinglaw07_TestsChecks.j0 k a2 t390 t397 t400 bt403.2.2 true t381 t384 t387)))) else (if t394 = 0 then (if t395 = 0 then (if t396 = 2 then (if (t397.length : Int) = 0 then (if t400 = 2 then ((tickinglaw07_awake.f k).bind fun t402 => (some t402)) else (some false)) else (some false)) else (some false)) else (some false)) else (some false)))) = some r := H
 have A7 := Aside0.mk A70
 clear A70
 replace H := Option.bind_eq_some_iff.mp H
 obtain ⟨t401, A80, H⟩ := H
 replace H : (if t401 = true then ((tickingref07_Correct.f k t381 t384 t387 t390).bind fun bt403 => (if bt403.2.2 = true then (if t394 = bt403.1 then (if t395 = bt403.2.1 then (tickinglaw07_TestsChecks.j0 k a2 t390 t397 t400 bt403.2.2 (t396 != 0) t381 t384 t387) else (tickinglaw07_TestsChecks.j0 k a2 t390 t397 t400 bt403.2.2 true t381 t384 t387)) else (tickinglaw07_TestsChecks.j0 k a2 t390 t397 t400 bt403.2.2 true t381 t384 t387)) else (if t394 = 0 then (if t395 = 0 then (if t396 = 10 then (tickinglaw07_TestsChecks.j0 k a2 t390 t397 t400 bt403.2.2 false t381 t384 t387) else (tickinglaw07_TestsChecks.j0 k a2 t390 t397 t400 bt403.2.2 true t381 t384 t387)) else (tickinglaw07_TestsChecks.j0 k a2 t390 t397 t400 bt403.2.2 true t381 t384 t387)) else (tickinglaw07_TestsChecks.j0 k a2 t390 t397 t400 bt403.2.2 true t381 t384 t387)))) else (if t394 = 0 then (if t395 = 0 then (if t396 = 2 then (if (t397.length : Int) = 0 then (if t400 = 2 then ((tickinglaw07_awake.f k).bind fun t402 => (some t402)) else (some false)) else (some false)) else (some false)) else (some false)) else (some false))) = some r := H
 have A8 := Aside0.mk A80
 clear A80
 go_enter Tryd.func4, Tryd.ntmps4
 go_wp2_with (first | ((with_reducible refine gate_dst (N := 3) rfl ?_); (try (refine gate_guard (by rfl) ?_; dsimp only)); refine box_event ?hg (N := 3) ?hd (cs := #[.slice A0_0 l0_0.length c0_0, .slice A0_1 l0_1.length c0_1, .slice A0_2 l0_2.length c0_2]) (t := 25) ?hr ?_; (case hd => rfl); (case hg => rfl); (case hr => first | (go_simp; done) | (go_simp; rfl)); intro gb380 hg w12 hbox hb; have n0_ := Aside0.mk (below_step bz hb); have n1_ := Aside0.mk (hbox); have n2_ := Aside0.mk ((by rw [hg]; exact (below_size bz) : w.heap.size ≤ gb380)); have n3_ := Aside0.mk ((by rw [hg]; exact (below_size bz) : w.heap.size ≤ gb380)); clear HB; have HB := n0_; have BK380 := n1_; have GW380 := n2_; have GE380 := n3_; clear n0_ n1_ n2_ n3_; clear hb hbox hg; have hcz13_0 : w12.cell? ⟨gb380, 0, none⟩ = some (.slice A0_0 l0_0.length c0_0) := (blk_cell BK380.out 0).trans rfl; have hcz13_1 : w12.cell? ⟨gb380, 1, none⟩ = some (.slice A0_1 l0_1.length c0_1) := (blk_cell BK380.out 1).trans rfl; have hcz13_2 : w12.cell? ⟨gb380, 2, none⟩ = some (.slice A0_2 l0_2.length c0_2) := (blk_cell BK380.out 2).trans rfl; have hfz13_0 := blk_frozen BK380.out 0; have hfz13_1 := blk_frozen BK380.out 1; have hfz13_2 := blk_frozen BK380.out 2) | ((with_reducible refine gate_callee (f := 13) rfl ?_); refine goesL_ (some 20) rfl rfl Tryd.func13 (by kernel_rfl) rfl #[.agg #[.slice A0_0 l0_0.length c0_0, .slice A0_1 l0_1.length c0_1, .slice A0_2 l0_2.length c0_2]] rfl dz ?_; (with_reducible refine (tickinglaw07_own.calls k _ _ l0_0 _ _ l0_1 _ _ l0_2 t381 t384 t387 _ ?side1 ?side2 ?side3 ?side4 ?side5 ?side6 A4.out).mono ?_); (case side1 => exact cz ((Kd.C_below HR0_0.out HB.out))); (case side2 => exact HC0_0.out); (case side3 => exact cz ((Kd.C_below HR0_1.out HB.out))); (case side4 => exact HC0_1.out); (case side5 => exact cz ((Kd.C_below HR0_2.out HB.out))); (case side6 => exact HC0_2.out); rintro e w14 ⟨v382, v385, v388, rfl, ho0, ho1, ho2, hb⟩; refine ⟨_, rfl, ?_⟩; have n0_ := Aside0.mk (Kd.R_lower ho0 (below_size bz)); have n1_ := Aside0.mk (Kd.S_lower ho1 (below_size bz)); have n2_ := Aside0.mk (Kd.R_lower ho2 (below_size bz)); have n3_ := Aside0.mk (kb BK380.out hb); have n4_ := Aside0.mk (below_step bz hb); clear BK380; clear HB; have HO383 := n0_; have HO386 := n1_; have HO389 := n2_; have BK380 := n3_; have HB := n4_; clear n0_ n1_ n2_ n3_ n4_; (try clear hb); (try clear hb2); (try clear hk); (try clear hi); (try clear ho0); (try clear ho1); (try clear ho2)) | ((with_reducible refine gate_callee (f := 21) rfl ?_); refine goesL_ (some 22) rfl rfl Tryd.func21 (by kernel_rfl) rfl #[.slice A1 l1.length c1] rfl dz ?_; (with_reducible refine (tickinglaw07_nodes.calls _ _ l1 t390 _ ?side1 ?side2 A5.out).mono ?_); (case side1 => exact cz ((Kd.C_below HR1.out HB.out))); (case side2 => exact HC1.out); rintro e w15 ⟨v391, rfl, ho0, hb⟩; refine ⟨_, rfl, ?_⟩; have n0_ := Aside0.mk (Kd.R_below (rz HO383.out) hb); have n1_ := Aside0.mk (Kd.S_below (sz HO386.out) hb); have n2_ := Aside0.mk (Kd.R_below (rz HO389.out) hb); have n3_ := Aside0.mk (Kd.R_lower ho0 (below_size bz)); have n4_ := Aside0.mk (kb BK380.out hb); have n5_ := Aside0.mk (below_step bz hb); clear HO383; clear HO386; clear HO389; clear BK380; clear HB; have HO383 := n0_; have HO386 := n1_; have HO389 := n2_; have HO392 := n3_; have BK380 := n4_; have HB := n5_; clear n0_ n1_ n2_ n3_ n4_ n5_; (try clear hb); (try clear hb2); (try clear hk); (try clear hi); (try clear ho0)) | ((with_reducible refine gate_dst (N := 7) rfl ?_); (try (refine gate_guard (by rfl) ?_; dsimp only)); refine box_event ?hg (N := 7) ?hd (cs := #[.slice none 0 0, .slice none 0 0, .slice none 0 0]) (t := 25) ?hr ?_; (case hd => rfl); (case hg => rfl); (case hr => first | (go_simp; done) | (go_simp; rfl)); intro gb393 hg w16 hbox hb; have n0_ := Aside0.mk (Kd.R_below (rz HO383.out) hb); have n1_ := Aside0.mk (Kd.S_below (sz HO386.out) hb); have n2_ := Aside0.mk (Kd.R_below (rz HO389.out) hb); have n3_ := Aside0.mk (Kd.R_below (rz HO392.out) hb); have n4_ := Aside0.mk (kb BK380.out hb); have n5_ := Aside0.mk (below_step bz hb); have n6_ := Aside0.mk (hbox); have n7_ := Aside0.mk ((by rw [hg]; exact (below_size bz) : w.heap.size ≤ gb393)); have n8_ := Aside0.mk ((by rw [hg]; exact (below_size bz) : w.heap.size ≤ gb393)); have n9_ := Aside0.mk ((by rw [hg]; exact Nat.ne_of_lt (kl BK380.out) : gb380 ≠ gb393)); have n10_ := Aside0.mk ((by rw [hg]; exact Nat.ne_of_gt (kl BK380.out) : gb393 ≠ gb380)); clear HO383; clear HO386; clear HO389; clear HO392; clear BK380; clear HB; have HO383 := n0_; have HO386 := n1_; have HO389 := n2_; have HO392 := n3_; have BK380 := n4_; have HB := n5_; have BK393 := n6_; have GW393 := n7_; have GE393 := n8_; have NB380_393 := n9_; have NB393_380 := n10_; clear n0_ n1_ n2_ n3_ n4_ n5_ n6_ n7_ n8_ n9_ n10_; clear hb hbox hg; obtain ⟨Ao17, co17, eo17⟩ := Kd.R_slice HO383.out; subst eo17; have hnb18 := NB393_380.out; have hnc18 := NB380_393.out; have hcz19_0 : w16.cell? ⟨gb393, 0, none⟩ = some (.slice none 0 0) := (blk_cell BK393.out 0).trans rfl; have hcz19_1 : w16.cell? ⟨gb393, 1, none⟩ = some (.slice none 0 0) := (blk_cell BK393.out 1).trans rfl; have hcz19_2 : w16.cell? ⟨gb393, 2, none⟩ = some (.slice none 0 0) := (blk_cell BK393.out 2).trans rfl; have hfz19_0 := blk_frozen BK393.out 0; have hfz19_1 := blk_frozen BK393.out 1; have hfz19_2 := blk_frozen BK393.out 2; obtain ⟨Ao20, co20, eo20⟩ := Kd.S_slice HO386.out; subst eo20; obtain ⟨Ao21, co21, eo21⟩ := Kd.R_slice HO389.out; subst eo21; obtain ⟨Ao22, co22, eo22⟩ := Kd.R_slice HO392.out; subst eo22) | ((with_reducible refine gate_callee (f := 22) rfl ?_); refine goesL_ (some 26) rfl rfl Tryd.func22 (by kernel_rfl) rfl #[.agg #[.slice Ao17 t381.length co17, .slice Ao20 t384.length co20, .slice Ao21 t387.length co21], .slice Ao22 t390.length co22] rfl dz ?_; (with_reducible refine (tests_Check.calls k _ _ t381 _ _ t384 _ _ t387 _ _ t390 t394 t395 t396 _ ?side1 ?side2 ?side3 ?side4 ?side5 ?side6 ?side7 ?side8 A6.out).mono ?_); (case side1 => refine (Kd.R_reads' (e := 3) (base := w.heap.size) (ok := fun k_ => some k_ ≠ (.slice Ao21 t387.length co21 : Value).ownBlock) (n := t381.length) (c := co17) ?_).2.2; exact (by (with_reducible repeat (first | apply Kd.R_alloc | apply Kd.R_drewN | apply Kd.R_drew)); exact (Kd.R_mono (Kd.R_far (p := ⟨gb393, 2, none⟩) (Kd.R_far (p := ⟨gb393, 1, none⟩) (Kd.R_far (p := ⟨gb393, 0, none⟩) (Kd.R_types HO383.out BK393.out (by decide)) (fun _ hk => hk.2) (.slice Ao17 t381.length co17)) (fun _ hk => hk.2) (.slice Ao20 t384.length co20)) (fun _ hk => hk.2) (.slice Ao21 t387.length co21)) (fun _ h_ => h_.1)))); (case side2 => exact (Kd.R_reads' HO383.out).2.1); (case side3 => refine (Kd.S_reads' (e := 22) (base := w.heap.size) (ok := fun k_ => (some k_ ≠ (.slice Ao17 t381.length co17 : Value).ownBlock ∧ some k_ ≠ (.slice Ao21 t387.length co21 : Value).ownBlock)) (n := t384.length) (c := co20) ?_).2.2; exact (by (with_reducible repeat (first | apply Kd.S_alloc | apply Kd.S_drewN | apply Kd.S_drew)); exact (Kd.S_mono (Kd.S_far (p := ⟨gb393, 2, none⟩) (Kd.S_far (p := ⟨gb393, 1, none⟩) (Kd.S_far (p := ⟨gb393, 0, none⟩) (Kd.S_types HO386.out BK393.out (by decide)) (fun _ hk => hk.2) (.slice Ao17 t381.length co17)) (fun _ hk => hk.2) (.slice Ao20 t384.length co20)) (fun _ hk => hk.2) (.slice Ao21 t387.length co21)) (fun _ h_ => h_.1)))); (case side4 => exact (Kd.S_reads' HO386.out).2.1); (case side5 => refine (Kd.R_reads' (e := 3) (base := w.heap.size) (ok := fun k_ => some k_ ≠ (.slice Ao17 t381.length co17 : Value).ownBlock) (n := t387.length) (c := co21) ?_).2.2; exact (by (with_reducible repeat (first | apply Kd.R_alloc | apply Kd.R_drewN | apply Kd.R_drew)); exact (Kd.R_mono (Kd.R_far (p := ⟨gb393, 2, none⟩) (Kd.R_far (p := ⟨gb393, 1, none⟩) (Kd.R_far (p := ⟨gb393, 0, none⟩) (Kd.R_types HO389.out BK393.out (by decide)) (fun _ hk => hk.2) (.slice Ao17 t381.length co17)) (fun _ hk => hk.2) (.slice Ao20 t384.length co20)) (fun _ hk => hk.2) (.slice Ao21 t387.length co21)) (fun _ h_ => h_.1)))); (case side6 => exact (Kd.R_reads' HO389.out).2.1); (case side7 => refine (Kd.R_reads' (e := 57) (base := w.heap.size) (ok := fun k_ => True) (n := t390.length) (c := co22) ?_).2.2; exact (by (with_reducible repeat (first | apply Kd.R_alloc | apply Kd.R_drewN | apply Kd.R_drew)); exact (Kd.R_mono (Kd.R_far (p := ⟨gb393, 2, none⟩) (Kd.R_far (p := ⟨gb393, 1, none⟩) (Kd.R_far (p := ⟨gb393, 0, none⟩) (Kd.R_types HO392.out BK393.out (by decide)) (fun _ hk => hk.2) (.slice Ao17 t381.length co17)) (fun _ hk => hk.2) (.slice Ao20 t384.length co20)) (fun _ hk => hk.2) (.slice Ao21 t387.length co21)) (fun _ h_ => h_.1)))); (case side8 => exact (Kd.R_reads' HO392.out).2.1); rintro e w23 ⟨rfl, hb⟩; refine ⟨_, rfl, ?_⟩; have n0_ := Aside0.mk (Kd.R_below (by (with_reducible repeat (first | apply Kd.R_alloc | apply Kd.R_drewN | apply Kd.R_drew)); exact (Kd.R_mono (Kd.R_far (p := ⟨gb393, 2, none⟩) (Kd.R_far (p := ⟨gb393, 1, none⟩) (Kd.R_far (p := ⟨gb393, 0, none⟩) (Kd.R_types HO383.out BK393.out (by decide)) (fun _ hk => hk.2) (.slice Ao17 t381.length co17)) (fun _ hk => hk.2) (.slice Ao20 t384.length co20)) (fun _ hk => hk.2) (.slice Ao21 t387.length co21)) (fun _ h_ => h_.1))) hb); have n1_ := Aside0.mk (Kd.S_below (by (with_reducible repeat (first | apply Kd.S_alloc | apply Kd.S_drewN | apply Kd.S_drew)); exact (Kd.S_mono (Kd.S_far (p := ⟨gb393, 2, none⟩) (Kd.S_far (p := ⟨gb393, 1, none⟩) (Kd.S_far (p := ⟨gb393, 0, none⟩) (Kd.S_types HO386.out BK393.out (by decide)) (fun _ hk => hk.2) (.slice Ao17 t381.length co17)) (fun _ hk => hk.2) (.slice Ao20 t384.length co20)) (fun _ hk => hk.2) (.slice Ao21 t387.length co21)) (fun _ h_ => h_.1))) hb); have n2_ := Aside0.mk (Kd.R_below (by (with_reducible repeat (first | apply Kd.R_alloc | apply Kd.R_drewN | apply Kd.R_drew)); exact (Kd.R_mono (Kd.R_far (p := ⟨gb393, 2, none⟩) (Kd.R_far (p := ⟨gb393, 1, none⟩) (Kd.R_far (p := ⟨gb393, 0, none⟩) (Kd.R_types HO389.out BK393.out (by decide)) (fun _ hk => hk.2) (.slice Ao17 t381.length co17)) (fun _ hk => hk.2) (.slice Ao20 t384.length co20)) (fun _ hk => hk.2) (.slice Ao21 t387.length co21)) (fun _ h_ => h_.1))) hb); have n3_ := Aside0.mk (Kd.R_below (by (with_reducible repeat (first | apply Kd.R_alloc | apply Kd.R_drewN | apply Kd.R_drew)); exact (Kd.R_mono (Kd.R_far (p := ⟨gb393, 2, none⟩) (Kd.R_far (p := ⟨gb393, 1, none⟩) (Kd.R_far (p := ⟨gb393, 0, none⟩) (Kd.R_types HO392.out BK393.out (by decide)) (fun _ hk => hk.2) (.slice Ao17 t381.length co17)) (fun _ hk => hk.2) (.slice Ao20 t384.length co20)) (fun _ hk => hk.2) (.slice Ao21 t387.length co21)) (fun _ h_ => h_.1))) hb); have n4_ := Aside0.mk (blk_below (g := gb380) (o := .cells #[.slice A0_0 l0_0.length c0_0, .slice A0_1 l0_1.length c0_1, .slice A0_2 l0_2.length c0_2] 25 (0, 0)) (by (with_reducible repeat (first | refine blk_drewN ?_ _ | refine blk_drew ?_ | refine blk_alloc ?_ _)); refine blk_far ?_ NB380_393.out _; (with_reducible repeat (first | refine blk_drewN ?_ _ | refine blk_drew ?_ | refine blk_alloc ?_ _)); refine blk_far ?_ NB380_393.out _; (with_reducible repeat (first | refine blk_drewN ?_ _ | refine blk_drew ?_ | refine blk_alloc ?_ _)); refine blk_far ?_ NB380_393.out _; (with_reducible repeat (first | refine blk_drewN ?_ _ | refine blk_drew ?_ | refine blk_alloc ?_ _)); exact BK380.out) hb); have n5_ := Aside0.mk (blk_below (g := gb393) (o := .cells #[.slice Ao17 t381.length co17, .slice Ao20 t384.length co20, .slice Ao21 t387.length co21] 25 (0, 0)) (by (with_reducible repeat (first | refine blk_drewN ?_ _ | refine blk_drew ?_ | refine blk_alloc ?_ _)); refine blk_put (cs := #[.slice Ao17 t381.length co17, .slice Ao20 t384.length co20, .slice none 0 0]) ?_ 2 _ rfl; (with_reducible repeat (first | refine blk_drewN ?_ _ | refine blk_drew ?_ | refine blk_alloc ?_ _)); refine blk_put (cs := #[.slice Ao17 t381.length co17, .slice none 0 0, .slice none 0 0]) ?_ 1 _ rfl; (with_reducible repeat (first | refine blk_drewN ?_ _ | refine blk_drew ?_ | refine blk_alloc ?_ _)); refine blk_put (cs := #[.slice none 0 0, .slice none 0 0, .slice none 0 0]) ?_ 0 _ rfl; (with_reducible repeat (first | refine blk_drewN ?_ _ | refine blk_drew ?_ | refine blk_alloc ?_ _)); exact BK393.out) hb); have n6_ := Aside0.mk (below_step bz hb); clear HO383; clear HO386; clear HO389; clear HO392; clear BK380; clear BK393; clear HB; have HO383 := n0_; have HO386 := n1_; have HO389 := n2_; have HO392 := n3_; have BK380 := n4_; have BK393 := n5_; have HB := n6_; clear n0_ n1_ n2_ n3_ n4_ n5_ n6_; (try clear hb); (try clear hb2); (try clear hk); (try clear hi); have hcz24_0 : w23.cell? ⟨gb393, 0, none⟩ = some (.slice Ao17 t381.length co17) := (blk_cell BK393.out 0).trans rfl; have hcz24_1 : w23.cell? ⟨gb393, 1, none⟩ = some (.slice Ao20 t384.length co20) := (blk_cell BK393.out 1).trans rfl; have hcz24_2 : w23.cell? ⟨gb393, 2, none⟩ = some (.slice Ao21 t387.length co21) := (blk_cell BK393.out 2).trans rfl; have hfz24_0 := blk_frozen BK393.out 0; have hfz24_1 := blk_frozen BK393.out 1; have hfz24_2 := blk_frozen BK393.out 2) | ((with_reducible refine gate_callee (f := 23) rfl ?_); refine goesL_ (some 34) rfl rfl Tryd.func23 (by kernel_rfl) rfl #[.agg #[.slice Ao17 t381.length co17, .slice Ao20 t384.length co20, .slice Ao21 t387.length co21], .slice Ao22 t390.length co22, .int .i64 a2] rfl dz ?_; (with_reducible refine (tests_Find.calls k _ _ t381 _ _ t384 _ _ t387 _ _ t390 a2 t397 t400 _ ?side1 ?side2 ?side3 ?side4 ?side5 ?side6 ?side7 ?side8 A7.out).mono ?_); (case side1 => exact cz ((Kd.R_reads' HO383.out).2.2)); (case side2 => exact (Kd.R_reads' HO383.out).2.1); (case side3 => exact cz ((Kd.S_reads' HO386.out).2.2)); (case side4 => exact (Kd.S_reads' HO386.out).2.1); (case side5 => exact cz ((Kd.R_reads' HO389.out).2.2)); (case side6 => exact (Kd.R_reads' HO389.out).2.1); (case side7 => exact cz ((Kd.R_reads' HO392.out).2.2)); (case side8 => exact (Kd.R_reads' HO392.out).2.1); rintro e w25 ⟨v398, rfl, ho0, hb⟩; refine ⟨_, rfl, ?_⟩; have n0_ := Aside0.mk (Kd.R_elder' (rz HO383.out) (Kd.R_base ho0) hb); have n1_ := Aside0.mk (Kd.S_elder' (sz HO386.out) (Kd.R_base ho0) hb); have n2_ := Aside0.mk (Kd.R_elder' (rz HO389.out) (Kd.R_base ho0) hb); have n3_ := Aside0.mk (Kd.R_below (rz HO392.out) hb); have n4_ := Aside0.mk (Kd.R_lower (Kd.R_new' (Kd.R_new' ho0 (Kd.R_lt (rz HO383.out))) (Kd.R_lt (rz HO389.out))) (below_size bz)); have n5_ := Aside0.mk (kb BK380.out hb); have n6_ := Aside0.mk (kb BK393.out hb); have n7_ := Aside0.mk (below_step bz hb); clear HO383; clear HO386; clear HO389; clear HO392; clear BK380; clear BK393; clear HB; have HO383 := n0_; have HO386 := n1_; have HO389 := n2_; have HO392 := n3_; have HO399 := n4_; have BK380 := n5_; have BK393 := n6_; have HB := n7_; clear n0_ n1_ n2_ n3_ n4_ n5_ n6_ n7_; (try clear hb); (try clear hb2); (try clear hk); (try clear hi); (try clear ho0); have hcz26_0 : w25.cell? ⟨gb393, 0, none⟩ = some (.slice Ao17 t381.length co17) := (blk_cell BK393.out 0).trans rfl; have hcz26_1 : w25.cell? ⟨gb393, 1, none⟩ = some (.slice Ao20 t384.length co20) := (blk_cell BK393.out 1).trans rfl; have hcz26_2 : w25.cell? ⟨gb393, 2, none⟩ = some (.slice Ao21 t387.length co21) := (blk_cell BK393.out 2).trans rfl; have hfz26_0 := blk_frozen BK393.out 0; have hfz26_1 := blk_frozen BK393.out 1; have hfz26_2 := blk_frozen BK393.out 2; refine hold_ ?_; intro P_ hP_))
 refine hP_.out ?_
 clear hP_ P_
 by_cases c9 : t401 = true
 ·subst c9
  have H1 : ((tickingref07_Correct.f k t381 t384 t387 t390).bind fun bt403 => (if bt403.2.2 = true then (if t394 = bt403.1 then (if t395 = bt403.2.1 then (tickinglaw07_TestsChecks.j0 k a2 t390 t397 t400 bt403.2.2 (t396 != 0) t381 t384 t387) else (tickinglaw07_TestsChecks.j0 k a2 t390 t397 t400 bt403.2.2 true t381 t384 t387)) else (tickinglaw07_TestsChecks.j0 k a2 t390 t397 t400 bt403.2.2 true t381 t384 t387)) else (if t394 = 0 then (if t395 = 0 then (if t396 = 10 then (tickinglaw07_TestsChecks.j0 k a2 t390 t397 t400 bt403.2.2 false t381 t384 t387) else (tickinglaw07_TestsChecks.j0 k a2 t390 t397 t400 bt403.2.2 true t381 t384 t387)) else (tickinglaw07_TestsChecks.j0 k a2 t390 t397 t400 bt403.2.2 true t381 t384 t387)) else (tickinglaw07_TestsChecks.j0 k a2 t390 t397 t400 bt403.2.2 true t381 t384 t387)))) = some r := by rw [if_pos rfl] at H; exact H
  clear H
  have H := H1
  clear H1
  replace H := Option.bind_eq_some_iff.mp H
  obtain ⟨⟨t403, t404, t405⟩, A100, H⟩ := H
  replace H : (if t405 = true then (if t394 = t403 then (if t395 = t404 then (tickinglaw07_TestsChecks.j0 k a2 t390 t397 t400 t405 (t396 != 0) t381 t384 t387) else (tickinglaw07_TestsChecks.j0 k a2 t390 t397 t400 t405 true t381 t384 t387)) else (tickinglaw07_TestsChecks.j0 k a2 t390 t397 t400 t405 true t381 t384 t387)) else (if t394 = 0 then (if t395 = 0 then (if t396 = 10 then (tickinglaw07_TestsChecks.j0 k a2 t390 t397 t400 t405 false t381 t384 t387) else (tickinglaw07_TestsChecks.j0 k a2 t390 t397 t400 t405 true t381 t384 t387)) else (tickinglaw07_TestsChecks.j0 k a2 t390 t397 t400 t405 true t381 t384 t387)) else (tickinglaw07_TestsChecks.j0 k a2 t390 t397 t400 t405 true t381 t384 t387))) = some r := H
  have A10 := Aside0.mk A100
  clear A100
  have HC11 := Aside0.mk H
  clear H
  go_upto_region 7 with (first | ((with_reducible refine gate_callee (f := 16) rfl ?_); refine goesL_ (some 38) rfl rfl Tryd.func16 (by kernel_rfl) rfl #[.agg #[.slice Ao17 t381.length co17, .slice Ao20 t384.length co20, .slice Ao21 t387.length co21]] rfl dz ?_; (with_reducible refine (tickingref07_Case.calls k _ _ t381 _ _ t384 _ _ t387 true _ ?side1 ?side2 ?side3 ?side4 ?side5 ?side6 A8.out).mono ?_); (case side1 => exact cz ((Kd.R_reads' HO383.out).2.2)); (case side2 => exact (Kd.R_reads' HO383.out).2.1); (case side3 => exact cz ((Kd.S_reads' HO386.out).2.2)); (case side4 => exact (Kd.S_reads' HO386.out).2.1); (case side5 => exact cz ((Kd.R_reads' HO389.out).2.2)); (case side6 => exact (Kd.R_reads' HO389.out).2.1); rintro e w27 ⟨rfl, hb⟩; refine ⟨_, rfl, ?_⟩; have n0_ := Aside0.mk (Kd.R_below (rz HO383.out) hb); have n1_ := Aside0.mk (Kd.S_below (sz HO386.out) hb); have n2_ := Aside0.mk (Kd.R_below (rz HO389.out) hb); have n3_ := Aside0.mk (Kd.R_below (rz HO392.out) hb); have n4_ := Aside0.mk (Kd.R_below (rz HO399.out) hb); have n5_ := Aside0.mk (kb BK380.out hb); have n6_ := Aside0.mk (kb BK393.out hb); have n7_ := Aside0.mk (below_step bz hb); clear HO383; clear HO386; clear HO389; clear HO392; clear HO399; clear BK380; clear BK393; clear HB; have HO383 := n0_; have HO386 := n1_; have HO389 := n2_; have HO392 := n3_; have HO399 := n4_; have BK380 := n5_; have BK393 := n6_; have HB := n7_; clear n0_ n1_ n2_ n3_ n4_ n5_ n6_ n7_; (try clear hb); (try clear hb2); (try clear hk); (try clear hi); have hcz28_0 : w27.cell? ⟨gb393, 0, none⟩ = some (.slice Ao17 t381.length co17) := (blk_cell BK393.out 0).trans rfl; have hcz28_1 : w27.cell? ⟨gb393, 1, none⟩ = some (.slice Ao20 t384.length co20) := (blk_cell BK393.out 1).trans rfl; have hcz28_2 : w27.cell? ⟨gb393, 2, none⟩ = some (.slice Ao21 t387.length co21) := (blk_cell BK393.out 2).trans rfl; have hfz28_0 := blk_frozen BK393.out 0; have hfz28_1 := blk_frozen BK393.out 1; have hfz28_2 := blk_frozen BK393.out 2) | ((with_reducible refine gate_callee (f := 20) rfl ?_); refine goesL_ (some 65) rfl rfl Tryd.func20 (by kernel_rfl) rfl #[.agg #[.slice Ao17 t381.length co17, .slice Ao20 t384.length co20, .slice Ao21 t387.length co21], .slice Ao22 t390.length co22] rfl dz ?_; (with_reducible refine (tickingref07_Correct.calls k _ _ t381 _ _ t384 _ _ t387 _ _ t390 t403 t404 t405 _ ?side1 ?side2 ?side3 ?side4 ?side5 ?side6 ?side7 ?side8 A10.out).mono ?_); (case side1 => exact cz ((Kd.R_reads' HO383.out).2.2)); (case side2 => exact (Kd.R_reads' HO383.out).2.1); (case side3 => exact cz ((Kd.S_reads' HO386.out).2.2)); (case side4 => exact (Kd.S_reads' HO386.out).2.1); (case side5 => exact cz ((Kd.R_reads' HO389.out).2.2)); (case side6 => exact (Kd.R_reads' HO389.out).2.1); (case side7 => exact cz ((Kd.R_reads' HO392.out).2.2)); (case side8 => exact (Kd.R_reads' HO392.out).2.1); rintro e w29 ⟨rfl, hb⟩; refine ⟨_, rfl, ?_⟩; have n0_ := Aside0.mk (Kd.R_below (rz HO383.out) hb); have n1_ := Aside0.mk (Kd.S_below (sz HO386.out) hb); have n2_ := Aside0.mk (Kd.R_below (rz HO389.out) hb); have n3_ := Aside0.mk (Kd.R_below (rz HO392.out) hb); have n4_ := Aside0.mk (Kd.R_below (rz HO399.out) hb); have n5_ := Aside0.mk (kb BK380.out hb); have n6_ := Aside0.mk (kb BK393.out hb); have n7_ := Aside0.mk (below_step bz hb); clear HO383; clear HO386; clear HO389; clear HO392; clear HO399; clear BK380; clear BK393; clear HB; have HO383 := n0_; have HO386 := n1_; have HO389 := n2_; have HO392 := n3_; have HO399 := n4_; have BK380 := n5_; have BK393 := n6_; have HB := n7_; clear n0_ n1_ n2_ n3_ n4_ n5_ n6_ n7_; (try clear hb); (try clear hb2); (try clear hk); (try clear hi)))
  (try simp only [Act.put, List.setIfInBounds_toArray, List.set_cons_zero, List.set_cons_succ])
  go_cut [99] (fun v99 wc => ∃ (kq : Nat) (x99_10 : Bool), v99 = .bool x99_10 ∧ Aside0 (tickinglaw07_TestsChecks.j0 kq a2 t390 t397 t400 t405 x99_10 t381 t384 t387 = some r) ∧ Aside0 (kq ≤ k) ∧ Aside0 (Kd.R k57 57 wc w.heap.size (fun _ => True) (.slice Ao22 t390.length co22) t390) ∧ Aside0 (Kd.R (Kd.int .i64) 3 wc w.heap.size (fun k_ => some k_ ≠ ((.slice Ao17 t381.length co17) : Value).ownBlock ∧ some k_ ≠ ((.slice Ao21 t387.length co21) : Value).ownBlock) v398 t397) ∧ Aside0 (Kd.R (Kd.int .i64) 3 wc w.heap.size (fun k_ => some k_ ≠ (v398 : Value).ownBlock ∧ some k_ ≠ ((.slice Ao21 t387.length co21) : Value).ownBlock) (.slice Ao17 t381.length co17) t381) ∧ Aside0 (Kd.S (Kd.slice 3 (Kd.int .i64)) 22 wc w.heap.size (fun k_ => some k_ ≠ (v398 : Value).ownBlock ∧ some k_ ≠ ((.slice Ao17 t381.length co17) : Value).ownBlock ∧ some k_ ≠ ((.slice Ao21 t387.length co21) : Value).ownBlock) (.slice Ao20 t384.length co20) t384) ∧ Aside0 (Kd.R (Kd.int .i64) 3 wc w.heap.size (fun k_ => some k_ ≠ (v398 : Value).ownBlock ∧ some k_ ≠ ((.slice Ao17 t381.length co17) : Value).ownBlock) (.slice Ao21 t387.length co21) t387) ∧ Aside0 (wc.heap[gb380]? = some (.cells #[(.slice A0_0 l0_0.length c0_0), (.slice A0_1 l0_1.length c0_1), (.slice A0_2 l0_2.length c0_2)] 25 (0, 0))) ∧ Aside0 (wc.heap[gb393]? = some (.cells #[(.slice Ao17 t381.length co17), (.slice Ao20 t384.length co20), (.slice Ao21 t387.length co21)] 25 (0, 0))) ∧ Aside0 (Below w.heap.size w wc))
  case first =>
   have H := HC11.out
   clear HC11
   by_cases c30 : t405 = true
   ·subst c30
    have H1 : (if t394 = t403 then (if t395 = t404 then (tickinglaw07_TestsChecks.j0 k a2 t390 t397 t400 true (t396 != 0) t381 t384 t387) else (tickinglaw07_TestsChecks.j0 k a2 t390 t397 t400 true true t381 t384 t387)) else (tickinglaw07_TestsChecks.j0 k a2 t390 t397 t400 true true t381 t384 t387)) = some r := by rw [if_pos rfl] at H; exact H
    clear H
    have H := H1
    clear H1
    by_cases c31 : t394 = t403
    ·rw [if_pos c31] at H
     have c31b0 : (t394 == t403) = true := beq_iff_eq.mpr c31
     have c31b1 : (t394 != t403) = false := bne_eq_false_iff_eq.mpr c31
     clear c31
     (first | rw [c31b0] | (simp only [i64_w, i32_w]; rw [c31b0]) | skip)
     by_cases c32 : t395 = t404
     ·rw [if_pos c32] at H
      have c32b0 : (t395 == t404) = true := beq_iff_eq.mpr c32
      have c32b1 : (t395 != t404) = false := bne_eq_false_iff_eq.mpr c32
      clear c32
      have H' := Aside0.mk H
      clear H
      go_wp2
      go_meet
      case rel => exact ⟨_, ((t396 != 0)), (by first | rfl | (simp; done) | (simp [*]; done)), H', ⟨by first | omega | exact Nat.le_refl _⟩, ⟨by (with_reducible repeat (first | apply Kd.R_alloc | apply Kd.R_drewN | apply Kd.R_drew)); exact HO392.out⟩, ⟨by (with_reducible repeat (first | apply Kd.R_alloc | apply Kd.R_drewN | apply Kd.R_drew)); exact Kd.R_mono HO399.out (fun _ hk => ⟨hk.1.2, hk.2⟩)⟩, ⟨by (with_reducible repeat (first | apply Kd.R_alloc | apply Kd.R_drewN | apply Kd.R_drew)); exact Kd.R_mono HO383.out (fun _ hk => ⟨hk.2, hk.1⟩)⟩, ⟨by (with_reducible repeat (first | apply Kd.S_alloc | apply Kd.S_drewN | apply Kd.S_drew)); exact Kd.S_mono HO386.out (fun _ hk => ⟨hk.2, ⟨hk.1.1, hk.1.2⟩⟩)⟩, ⟨by (with_reducible repeat (first | apply Kd.R_alloc | apply Kd.R_drewN | apply Kd.R_drew)); exact Kd.R_mono HO389.out (fun _ hk => ⟨hk.2, hk.1⟩)⟩, ⟨by (with_reducible repeat (first | refine blk_drewN ?_ _ | refine blk_drew ?_ | refine blk_alloc ?_ _)); exact BK380.out⟩, ⟨by (with_reducible repeat (first | refine blk_drewN ?_ _ | refine blk_drew ?_ | refine blk_alloc ?_ _)); exact BK393.out⟩, ⟨by repeat (first | (with_reducible first | exact HB.out | apply below_alloc | apply pw_below_drewN | apply below_drew1 | refine below_set ?_ GE380.out | refine below_set ?_ GE393.out) | exact HB.out)⟩⟩
     ·rw [if_neg c32] at H
      have c32b0 : (t395 == t404) = false := beq_eq_false_iff_ne.mpr c32
      have c32b1 : (t395 != t404) = true := bne_iff_ne.mpr c32
      have H' := Aside0.mk H
      clear H
      go_wp2
      go_meet
      case rel => exact ⟨_, (true), (by first | rfl | (simp; done) | (simp [*]; done)), H', ⟨by first | omega | exact Nat.le_refl _⟩, ⟨by (with_reducible repeat (first | apply Kd.R_alloc | apply Kd.R_drewN | apply Kd.R_drew)); exact HO392.out⟩, ⟨by (with_reducible repeat (first | apply Kd.R_alloc | apply Kd.R_drewN | apply Kd.R_drew)); exact Kd.R_mono HO399.out (fun _ hk => ⟨hk.1.2, hk.2⟩)⟩, ⟨by (with_reducible repeat (first | apply Kd.R_alloc | apply Kd.R_drewN | apply Kd.R_drew)); exact Kd.R_mono HO383.out (fun _ hk => ⟨hk.2, hk.1⟩)⟩, ⟨by (with_reducible repeat (first | apply Kd.S_alloc | apply Kd.S_drewN | apply Kd.S_drew)); exact Kd.S_mono HO386.out (fun _ hk => ⟨hk.2, ⟨hk.1.1, hk.1.2⟩⟩)⟩, ⟨by (with_reducible repeat (first | apply Kd.R_alloc | apply Kd.R_drewN | apply Kd.R_drew)); exact Kd.R_mono HO389.out (fun _ hk => ⟨hk.2, hk.1⟩)⟩, ⟨by (with_reducible repeat (first | refine blk_drewN ?_ _ | refine blk_drew ?_ | refine blk_alloc ?_ _)); exact BK380.out⟩, ⟨by (with_reducible repeat (first | refine blk_drewN ?_ _ | refine blk_drew ?_ | refine blk_alloc ?_ _)); exact BK393.out⟩, ⟨by repeat (first | (with_reducible first | exact HB.out | apply below_alloc | apply pw_below_drewN | apply below_drew1 | refine below_set ?_ GE380.out | refine below_set ?_ GE393.out) | exact HB.out)⟩⟩
    ·rw [if_neg c31] at H
     have c31b0 : (t394 == t403) = false := beq_eq_false_iff_ne.mpr c31
     have c31b1 : (t394 != t403) = true := bne_iff_ne.mpr c31
     (first | rw [c31b0] | (simp only [i64_w, i32_w]; rw [c31b0]) | skip)
     have H' := Aside0.mk H
     clear H
     go_wp2
     go_meet
     case rel => exact ⟨_, (true), (by first | rfl | (simp; done) | (simp [*]; done)), H', ⟨by first | omega | exact Nat.le_refl _⟩, ⟨by (with_reducible repeat (first | apply Kd.R_alloc | apply Kd.R_drewN | apply Kd.R_drew)); exact HO392.out⟩, ⟨by (with_reducible repeat (first | apply Kd.R_alloc | apply Kd.R_drewN | apply Kd.R_drew)); exact Kd.R_mono HO399.out (fun _ hk => ⟨hk.1.2, hk.2⟩)⟩, ⟨by (with_reducible repeat (first | apply Kd.R_alloc | apply Kd.R_drewN | apply Kd.R_drew)); exact Kd.R_mono HO383.out (fun _ hk => ⟨hk.2, hk.1⟩)⟩, ⟨by (with_reducible repeat (first | apply Kd.S_alloc | apply Kd.S_drewN | apply Kd.S_drew)); exact Kd.S_mono HO386.out (fun _ hk => ⟨hk.2, ⟨hk.1.1, hk.1.2⟩⟩)⟩, ⟨by (with_reducible repeat (first | apply Kd.R_alloc | apply Kd.R_drewN | apply Kd.R_drew)); exact Kd.R_mono HO389.out (fun _ hk => ⟨hk.2, hk.1⟩)⟩, ⟨by (with_reducible repeat (first | refine blk_drewN ?_ _ | refine blk_drew ?_ | refine blk_alloc ?_ _)); exact BK380.out⟩, ⟨by (with_reducible repeat (first | refine blk_drewN ?_ _ | refine blk_drew ?_ | refine blk_alloc ?_ _)); exact BK393.out⟩, ⟨by repeat (first | (with_reducible first | exact HB.out | apply below_alloc | apply pw_below_drewN | apply below_drew1 | refine below_set ?_ GE380.out | refine below_set ?_ GE393.out) | exact HB.out)⟩⟩
   ·replace c30 := Bool.eq_false_iff.mpr c30
    subst c30
    have H1 : (if t394 = 0 then (if t395 = 0 then (if t396 = 10 then (tickinglaw07_TestsChecks.j0 k a2 t390 t397 t400 false false t381 t384 t387) else (tickinglaw07_TestsChecks.j0 k a2 t390 t397 t400 false true t381 t384 t387)) else (tickinglaw07_TestsChecks.j0 k a2 t390 t397 t400 false true t381 t384 t387)) else (tickinglaw07_TestsChecks.j0 k a2 t390 t397 t400 false true t381 t384 t387)) = some r := by rw [if_neg (show ¬ (false = true) by decide)] at H; exact H
    clear H
    have H := H1
    clear H1
    by_cases c33 : t394 = 0
    ·rw [if_pos c33] at H
     have c33b0 : (t394 == 0) = true := beq_iff_eq.mpr c33
     have c33b1 : (t394 != 0) = false := bne_eq_false_iff_eq.mpr c33
     clear c33
     by_cases c34 : t395 = 0
     ·rw [if_pos c34] at H
      have c34b0 : (t395 == 0) = true := beq_iff_eq.mpr c34
      have c34b1 : (t395 != 0) = false := bne_eq_false_iff_eq.mpr c34
      clear c34
      by_cases c35 : t396 = 10
      ·rw [if_pos c35] at H
       have c35b0 : (t396 == 10) = true := beq_iff_eq.mpr c35
       have c35b1 : (t396 != 10) = false := bne_eq_false_iff_eq.mpr c35
       clear c35
       have H' := Aside0.mk H
       clear H
       go_wp2
       go_meet
       case rel => exact ⟨_, (false), (by first | rfl | (simp; done) | (simp [*]; done)), H', ⟨by first | omega | exact Nat.le_refl _⟩, ⟨by (with_reducible repeat (first | apply Kd.R_alloc | apply Kd.R_drewN | apply Kd.R_drew)); exact HO392.out⟩, ⟨by (with_reducible repeat (first | apply Kd.R_alloc | apply Kd.R_drewN | apply Kd.R_drew)); exact Kd.R_mono HO399.out (fun _ hk => ⟨hk.1.2, hk.2⟩)⟩, ⟨by (with_reducible repeat (first | apply Kd.R_alloc | apply Kd.R_drewN | apply Kd.R_drew)); exact Kd.R_mono HO383.out (fun _ hk => ⟨hk.2, hk.1⟩)⟩, ⟨by (with_reducible repeat (first | apply Kd.S_alloc | apply Kd.S_drewN | apply Kd.S_drew)); exact Kd.S_mono HO386.out (fun _ hk => ⟨hk.2, ⟨hk.1.1, hk.1.2⟩⟩)⟩, ⟨by (with_reducible repeat (first | apply Kd.R_alloc | apply Kd.R_drewN | apply Kd.R_drew)); exact Kd.R_mono HO389.out (fun _ hk => ⟨hk.2, hk.1⟩)⟩, ⟨by (with_reducible repeat (first | refine blk_drewN ?_ _ | refine blk_drew ?_ | refine blk_alloc ?_ _)); exact BK380.out⟩, ⟨by (with_reducible repeat (first | refine blk_drewN ?_ _ | refine blk_drew ?_ | refine blk_alloc ?_ _)); exact BK393.out⟩, ⟨by repeat (first | (with_reducible first | exact HB.out | apply below_alloc | apply pw_below_drewN | apply below_drew1 | refine below_set ?_ GE380.out | refine below_set ?_ GE393.out) | exact HB.out)⟩⟩
      ·rw [if_neg c35] at H
       have c35b0 : (t396 == 10) = false := beq_eq_false_iff_ne.mpr c35
       have c35b1 : (t396 != 10) = true := bne_iff_ne.mpr c35
       have H' := Aside0.mk H
       clear H
       go_wp2
       go_meet
       case rel => exact ⟨_, (true), (by first | rfl | (simp; done) | (simp [*]; done)), H', ⟨by first | omega | exact Nat.le_refl _⟩, ⟨by (with_reducible repeat (first | apply Kd.R_alloc | apply Kd.R_drewN | apply Kd.R_drew)); exact HO392.out⟩, ⟨by (with_reducible repeat (first | apply Kd.R_alloc | apply Kd.R_drewN | apply Kd.R_drew)); exact Kd.R_mono HO399.out (fun _ hk => ⟨hk.1.2, hk.2⟩)⟩, ⟨by (with_reducible repeat (first | apply Kd.R_alloc | apply Kd.R_drewN | apply Kd.R_drew)); exact Kd.R_mono HO383.out (fun _ hk => ⟨hk.2, hk.1⟩)⟩, ⟨by (with_reducible repeat (first | apply Kd.S_alloc | apply Kd.S_drewN | apply Kd.S_drew)); exact Kd.S_mono HO386.out (fun _ hk => ⟨hk.2, ⟨hk.1.1, hk.1.2⟩⟩)⟩, ⟨by (with_reducible repeat (first | apply Kd.R_alloc | apply Kd.R_drewN | apply Kd.R_drew)); exact Kd.R_mono HO389.out (fun _ hk => ⟨hk.2, hk.1⟩)⟩, ⟨by (with_reducible repeat (first | refine blk_drewN ?_ _ | refine blk_drew ?_ | refine blk_alloc ?_ _)); exact BK380.out⟩, ⟨by (with_reducible repeat (first | refine blk_drewN ?_ _ | refine blk_drew ?_ | refine blk_alloc ?_ _)); exact BK393.out⟩, ⟨by repeat (first | (with_reducible first | exact HB.out | apply below_alloc | apply pw_below_drewN | apply below_drew1 | refine below_set ?_ GE380.out | refine below_set ?_ GE393.out) | exact HB.out)⟩⟩
     ·rw [if_neg c34] at H
      have c34b0 : (t395 == 0) = false := beq_eq_false_iff_ne.mpr c34
      have c34b1 : (t395 != 0) = true := bne_iff_ne.mpr c34
      have H' := Aside0.mk H
      clear H
      go_wp2
      go_meet
      case rel => exact ⟨_, (true), (by first | rfl | (simp; done) | (simp [*]; done)), H', ⟨by first | omega | exact Nat.le_refl _⟩, ⟨by (with_reducible repeat (first | apply Kd.R_alloc | apply Kd.R_drewN | apply Kd.R_drew)); exact HO392.out⟩, ⟨by (with_reducible repeat (first | apply Kd.R_alloc | apply Kd.R_drewN | apply Kd.R_drew)); exact Kd.R_mono HO399.out (fun _ hk => ⟨hk.1.2, hk.2⟩)⟩, ⟨by (with_reducible repeat (first | apply Kd.R_alloc | apply Kd.R_drewN | apply Kd.R_drew)); exact Kd.R_mono HO383.out (fun _ hk => ⟨hk.2, hk.1⟩)⟩, ⟨by (with_reducible repeat (first | apply Kd.S_alloc | apply Kd.S_drewN | apply Kd.S_drew)); exact Kd.S_mono HO386.out (fun _ hk => ⟨hk.2, ⟨hk.1.1, hk.1.2⟩⟩)⟩, ⟨by (with_reducible repeat (first | apply Kd.R_alloc | apply Kd.R_drewN | apply Kd.R_drew)); exact Kd.R_mono HO389.out (fun _ hk => ⟨hk.2, hk.1⟩)⟩, ⟨by (with_reducible repeat (first | refine blk_drewN ?_ _ | refine blk_drew ?_ | refine blk_alloc ?_ _)); exact BK380.out⟩, ⟨by (with_reducible repeat (first | refine blk_drewN ?_ _ | refine blk_drew ?_ | refine blk_alloc ?_ _)); exact BK393.out⟩, ⟨by repeat (first | (with_reducible first | exact HB.out | apply below_alloc | apply pw_below_drewN | apply below_drew1 | refine below_set ?_ GE380.out | refine below_set ?_ GE393.out) | exact HB.out)⟩⟩
    ·rw [if_neg c33] at H
     have c33b0 : (t394 == 0) = false := beq_eq_false_iff_ne.mpr c33
     have c33b1 : (t394 != 0) = true := bne_iff_ne.mpr c33
     have H' := Aside0.mk H
     clear H
     go_wp2
     go_meet
     case rel => exact ⟨_, (true), (by first | rfl | (simp; done) | (simp [*]; done)), H', ⟨by first | omega | exact Nat.le_refl _⟩, ⟨by (with_reducible repeat (first | apply Kd.R_alloc | apply Kd.R_drewN | apply Kd.R_drew)); exact HO392.out⟩, ⟨by (with_reducible repeat (first | apply Kd.R_alloc | apply Kd.R_drewN | apply Kd.R_drew)); exact Kd.R_mono HO399.out (fun _ hk => ⟨hk.1.2, hk.2⟩)⟩, ⟨by (with_reducible repeat (first | apply Kd.R_alloc | apply Kd.R_drewN | apply Kd.R_drew)); exact Kd.R_mono HO383.out (fun _ hk => ⟨hk.2, hk.1⟩)⟩, ⟨by (with_reducible repeat (first | apply Kd.S_alloc | apply Kd.S_drewN | apply Kd.S_drew)); exact Kd.S_mono HO386.out (fun _ hk => ⟨hk.2, ⟨hk.1.1, hk.1.2⟩⟩)⟩, ⟨by (with_reducible repeat (first | apply Kd.R_alloc | apply Kd.R_drewN | apply Kd.R_drew)); exact Kd.R_mono HO389.out (fun _ hk => ⟨hk.2, hk.1⟩)⟩, ⟨by (with_reducible repeat (first | refine blk_drewN ?_ _ | refine blk_drew ?_ | refine blk_alloc ?_ _)); exact BK380.out⟩, ⟨by (with_reducible repeat (first | refine blk_drewN ?_ _ | refine blk_drew ?_ | refine blk_alloc ?_ _)); exact BK393.out⟩, ⟨by repeat (first | (with_reducible first | exact HB.out | apply below_alloc | apply pw_below_drewN | apply below_drew1 | refine below_set ?_ GE380.out | refine below_set ?_ GE393.out) | exact HB.out)⟩⟩
  case rest =>
   clear HC11
   try clear c1
   try clear c2
   try clear p2
   try clear c3
   try clear c4
   try clear c9
   try clear c13
   try clear c16
   try clear c18
   try clear c20
   try clear c21
   try clear c22
   try clear c23
   try clear c30
   try clear c31
   try clear c31b0
   try clear c31b1
   try clear c32
   try clear c32b0
   try clear c32b1
   try clear c33
   try clear c33b0
   try clear c33b1
   try clear c34
   try clear c34b0
   try clear c34b1
   try clear c35
   try clear c35b0
   try clear c35b1
   try clear hcz13_0
   try clear hcz13_1
   try clear hcz13_2
   try clear hcz19_0
   try clear hcz19_1
   try clear hcz19_2
   try clear hcz24_0
   try clear hcz24_1
   try clear hcz24_2
   try clear hcz26_0
   try clear hcz26_1
   try clear hcz26_2
   try clear hcz28_0
   try clear hcz28_1
   try clear hcz28_2
   try clear hfz13_0
   try clear hfz13_1
   try clear hfz13_2
   try clear hfz19_0
   try clear hfz19_1
   try clear hfz19_2
   try clear hfz24_0
   try clear hfz24_1
   try clear hfz24_2
   try clear hfz26_0
   try clear hfz26_1
   try clear hfz26_2
   try clear hfz28_0
   try clear hfz28_1
   try clear hfz28_2
   obtain ⟨kq, x99_10, rfl, HA, HJ10, HO_8, HO_12, HO_394000, HO_394001, HO_394002, BK380, BK393, HB⟩ := hcut
   cases kq with
   | zero => exact absurd HA.out (by simp [tickinglaw07_TestsChecks.j0])
   | succ kj10 =>
    have H := HA.out
    clear HA
    simp only [tickinglaw07_TestsChecks.j0] at H
    by_cases c36 : x99_10 = true
    ·subst c36
     have H1 : (some false) = some r := by rw [if_pos rfl] at H; exact H
     clear H
     have H := H1
     clear H1
     obtain rfl := Option.some.inj H
     go_wp2
     go_ret
     exact ⟨by first | rfl | (simp [errW_none, errW_some] <;> rfl) | (simp [*, errW_none, errW_some] <;> rfl), by repeat (first | (with_reducible first | exact HB.out | apply below_alloc | apply pw_below_drewN | apply below_drew1 | refine below_set ?_ GE380.out | refine below_set ?_ GE393.out) | exact HB.out)⟩
    ·replace c36 := Bool.eq_false_iff.mpr c36
     subst c36
     have H1 : (if a2 < 0 then (tickinglaw07_TestsChecks.j1 kj10 a2 t390 t397 t400 t405 true t381 t384 t387) else (tickinglaw07_TestsChecks.j1 kj10 a2 t390 t397 t400 t405 (decide (a2 ≥ (t381.length : Int))) t381 t384 t387)) = some r := by rw [if_neg (show ¬ (false = true) by decide)] at H; exact H
     clear H
     have H := H1
     clear H1
     have HC37 := Aside0.mk H
     clear H
     go_upto_region 9 with (fail)
     go_cut [108] (fun v108 wc => ∃ (kq : Nat) (x108_36 : Bool), v108 = .bool x108_36 ∧ Aside0 (tickinglaw07_TestsChecks.j1 kq a2 t390 t397 t400 t405 x108_36 t381 t384 t387 = some r) ∧ Aside0 (kq ≤ kj10) ∧ Aside0 (Kd.R k57 57 wc w.heap.size (fun _ => True) (.slice Ao22 t390.length co22) t390) ∧ Aside0 (Kd.R (Kd.int .i64) 3 wc w.heap.size (fun k_ => some k_ ≠ ((.slice Ao17 t381.length co17) : Value).ownBlock ∧ some k_ ≠ ((.slice Ao21 t387.length co21) : Value).ownBlock) v398 t397) ∧ Aside0 (Kd.R (Kd.int .i64) 3 wc w.heap.size (fun k_ => some k_ ≠ (v398 : Value).ownBlock ∧ some k_ ≠ ((.slice Ao21 t387.length co21) : Value).ownBlock) (.slice Ao17 t381.length co17) t381) ∧ Aside0 (Kd.S (Kd.slice 3 (Kd.int .i64)) 22 wc w.heap.size (fun k_ => some k_ ≠ (v398 : Value).ownBlock ∧ some k_ ≠ ((.slice Ao17 t381.length co17) : Value).ownBlock ∧ some k_ ≠ ((.slice Ao21 t387.length co21) : Value).ownBlock) (.slice Ao20 t384.length co20) t384) ∧ Aside0 (Kd.R (Kd.int .i64) 3 wc w.heap.size (fun k_ => some k_ ≠ (v398 : Value).ownBlock ∧ some k_ ≠ ((.slice Ao17 t381.length co17) : Value).ownBlock) (.slice Ao21 t387.length co21) t387) ∧ Aside0 (wc.heap[gb380]? = some (.cells #[(.slice A0_0 l0_0.length c0_0), (.slice A0_1 l0_1.length c0_1), (.slice A0_2 l0_2.length c0_2)] 25 (0, 0))) ∧ Aside0 (wc.heap[gb393]? = some (.cells #[(.slice Ao17 t381.length co17), (.slice Ao20 t384.length co20), (.slice Ao21 t387.length co21)] 25 (0, 0))) ∧ Aside0 (Below w.heap.size w wc))
     case first =>
      have H := HC37.out
      clear HC37
      by_cases c38 : a2 < 0
      ·rw [if_pos c38] at H
       have c38b0 : decide (a2 < 0) = true := decide_eq_true c38
       clear c38
       (first | rw [c38b0] | (simp only [i64_w, i32_w]; rw [c38b0]) | skip)
       have H' := Aside0.mk H
       clear H
       go_wp2
       go_meet
       case rel => exact ⟨_, (true), (by first | rfl | (simp; done) | (simp [*]; done)), H', ⟨by have := HJ10.out; first | omega | exact Nat.le_refl _⟩, ⟨by (with_reducible repeat (first | apply Kd.R_alloc | apply Kd.R_drewN | apply Kd.R_drew)); exact HO_8.out⟩, ⟨by (with_reducible repeat (first | apply Kd.R_alloc | apply Kd.R_drewN | apply Kd.R_drew)); exact HO_12.out⟩, ⟨by (with_reducible repeat (first | apply Kd.R_alloc | apply Kd.R_drewN | apply Kd.R_drew)); exact HO_394000.out⟩, ⟨by (with_reducible repeat (first | apply Kd.S_alloc | apply Kd.S_drewN | apply Kd.S_drew)); exact HO_394001.out⟩, ⟨by (with_reducible repeat (first | apply Kd.R_alloc | apply Kd.R_drewN | apply Kd.R_drew)); exact HO_394002.out⟩, ⟨by (with_reducible repeat (first | refine blk_drewN ?_ _ | refine blk_drew ?_ | refine blk_alloc ?_ _)); exact BK380.out⟩, ⟨by (with_reducible repeat (first | refine blk_drewN ?_ _ | refine blk_drew ?_ | refine blk_alloc ?_ _)); exact BK393.out⟩, ⟨by repeat (first | (with_reducible first | exact HB.out | apply below_alloc | apply pw_below_drewN | apply below_drew1 | refine below_set ?_ GE380.out | refine below_set ?_ GE393.out) | exact HB.out)⟩⟩
      ·rw [if_neg c38] at H
       have c38b0 : decide (a2 < 0) = false := decide_eq_false c38
       clear c38
       (first | rw [c38b0] | (simp only [i64_w, i32_w]; rw [c38b0]) | skip)
       have H' := Aside0.mk H
       clear H
       have hnb39 := NB393_380.out
       have hnc39 := NB380_393.out
       have hcz40_0 : wc.cell? ⟨gb393, 0, none⟩ = some (.slice Ao17 t381.length co17) := (blk_cell BK393.out 0).trans rfl
       have hcz40_1 : wc.cell? ⟨gb393, 1, none⟩ = some (.slice Ao20 t384.length co20) := (blk_cell BK393.out 1).trans rfl
       have hcz40_2 : wc.cell? ⟨gb393, 2, none⟩ = some (.slice Ao21 t387.length co21) := (blk_cell BK393.out 2).trans rfl
       have hfz40_0 := blk_frozen BK393.out 0
       have hfz40_1 := blk_frozen BK393.out 1
       have hfz40_2 := blk_frozen BK393.out 2
       go_wp2
       go_meet
       case rel => exact ⟨_, (decide (a2 ≥ (t381.length : Int))), (by first | rfl | (simp; done) | (simp [*]; done)), H', ⟨by have := HJ10.out; first | omega | exact Nat.le_refl _⟩, ⟨by (with_reducible repeat (first | apply Kd.R_alloc | apply Kd.R_drewN | apply Kd.R_drew)); exact HO_8.out⟩, ⟨by (with_reducible repeat (first | apply Kd.R_alloc | apply Kd.R_drewN | apply Kd.R_drew)); exact HO_12.out⟩, ⟨by (with_reducible repeat (first | apply Kd.R_alloc | apply Kd.R_drewN | apply Kd.R_drew)); exact HO_394000.out⟩, ⟨by (with_reducible repeat (first | apply Kd.S_alloc | apply Kd.S_drewN | apply Kd.S_drew)); exact HO_394001.out⟩, ⟨by (with_reducible repeat (first | apply Kd.R_alloc | apply Kd.R_drewN | apply Kd.R_drew)); exact HO_394002.out⟩, ⟨by (with_reducible repeat (first | refine blk_drewN ?_ _ | refine blk_drew ?_ | refine blk_alloc ?_ _)); exact BK380.out⟩, ⟨by (with_reducible repeat (first | refine blk_drewN ?_ _ | refine blk_drew ?_ | refine blk_alloc ?_ _)); exact BK393.out⟩, ⟨by repeat (first | (with_reducible first | exact HB.out | apply below_alloc | apply pw_below_drewN | apply below_drew1 | refine below_set ?_ GE380.out | refine below_set ?_ GE393.out) | exact HB.out)⟩⟩
     case rest =>
      clear HC37
      try clear c1
      try clear c2
      try clear p2
      try clear c3
      try clear c4
      try clear c9
      try clear c13
      try clear c16
      try clear c18
      try clear c20
      try clear c21
      try clear c22
      try clear c23
      try clear c30
      try clear c31
      try clear c31b0
      try clear c31b1
      try clear c32
      try clear c32b0
      try clear c32b1
      try clear c33
      try clear c33b0
      try clear c33b1
      try clear c34
      try clear c34b0
      try clear c34b1
      try clear c35
      try clear c35b0
      try clear c35b1
      try clear c36
      try clear c38
      try clear c38b0
      try clear c39
      try clear hcz13_0
      try clear hcz13_1
      try clear hcz13_2
      try clear hcz19_0
      try clear hcz19_1
      try clear hcz19_2
      try clear hcz24_0
      try clear hcz24_1
      try clear hcz24_2
      try clear hcz26_0
      try clear hcz26_1
      try clear hcz26_2
      try clear hcz28_0
      try clear hcz28_1
      try clear hcz28_2
      try clear hcz40_0
      try clear hcz40_1
      try clear hcz40_2
      try clear hfz13_0
      try clear hfz13_1
      try clear hfz13_2
      try clear hfz19_0
      try clear hfz19_1
      try clear hfz19_2
      try clear hfz24_0
      try clear hfz24_1
      try clear hfz24_2
      try clear hfz26_0
      try clear hfz26_1
      try clear hfz26_2
      try clear hfz28_0
      try clear hfz28_1
      try clear hfz28_2
      try clear hfz40_0
      try clear hfz40_1
      try clear hfz40_2
      try clear p2
      obtain ⟨kq, x108_36, rfl, HA, HJ36, HO_8, HO_12, HO_394000, HO_394001, HO_394002, BK380, BK393, HB⟩ := hcut
      cases kq with
      | zero => exact absurd HA.out (by simp [tickinglaw07_TestsChecks.j1])
      | succ kj36 =>
       have H := HA.out
       clear HA
       simp only [tickinglaw07_TestsChecks.j1] at H
       by_cases c41 : x108_36 = true
       ·subst c41
        have H1 : (if (t397.length : Int) = 0 then (if t400 = 2 then ((tickinglaw07_awake.f kj36).bind fun t406 => (some t406)) else (some false)) else (some false)) = some r := by rw [if_pos rfl] at H; exact H
        clear H
        have H := H1
        clear H1
        by_cases c42 : (t397.length : Int) = 0
        ·rw [if_pos c42] at H
         have c42b0 : ((t397.length : Int) == 0) = true := beq_iff_eq.mpr c42
         have c42b1 : ((t397.length : Int) != 0) = false := bne_eq_false_iff_eq.mpr c42
         clear c42
         by_cases c43 : t400 = 2
         ·rw [if_pos c43] at H
          have c43b0 : (t400 == 2) = true := beq_iff_eq.mpr c43
          have c43b1 : (t400 != 2) = false := bne_eq_false_iff_eq.mpr c43
          clear c43
          replace H := Option.bind_eq_some_iff.mp H
          obtain ⟨t406, A440, H⟩ := H
          replace H : (some t406) = some r := H
          have A44 := Aside0.mk A440
          clear A440
          obtain rfl := Option.some.inj H
          obtain ⟨Ao45, co45, eo45⟩ := Kd.R_slice HO_12.out
          subst eo45
          go_wp2_with (first | (go_at_call 17; (with_reducible refine (tickinglaw07_awake.calls kj36  t406 _ A44.out ?sideT).mono ?_); (case sideT => exact HTab.out.below bz); rintro e w46 ⟨rfl, hb⟩; have n0_ := Aside0.mk (Kd.R_below (rz HO_8.out) hb); have n1_ := Aside0.mk (Kd.R_below (rz HO_12.out) hb); have n2_ := Aside0.mk (Kd.R_below (rz HO_394000.out) hb); have n3_ := Aside0.mk (Kd.S_below (sz HO_394001.out) hb); have n4_ := Aside0.mk (Kd.R_below (rz HO_394002.out) hb); have n5_ := Aside0.mk (kb BK380.out hb); have n6_ := Aside0.mk (kb BK393.out hb); have n7_ := Aside0.mk (below_step bz hb); clear HO_8; clear HO_12; clear HO_394000; clear HO_394001; clear HO_394002; clear BK380; clear BK393; clear HB; have HO_8 := n0_; have HO_12 := n1_; have HO_394000 := n2_; have HO_394001 := n3_; have HO_394002 := n4_; have BK380 := n5_; have BK393 := n6_; have HB := n7_; clear n0_ n1_ n2_ n3_ n4_ n5_ n6_ n7_; (try clear hb); (try clear hb2); (try clear hk); (try clear hi)))
          go_ret
          exact ⟨by first | rfl | (simp [errW_none, errW_some] <;> rfl) | (simp [*, errW_none, errW_some] <;> rfl), by repeat (first | (with_reducible first | exact HB.out | apply below_alloc | apply pw_below_drewN | apply below_drew1 | refine below_set ?_ GE380.out | refine below_set ?_ GE393.out) | exact HB.out)⟩
         ·rw [if_neg c43] at H
          have c43b0 : (t400 == 2) = false := beq_eq_false_iff_ne.mpr c43
          have c43b1 : (t400 != 2) = true := bne_iff_ne.mpr c43
          obtain rfl := Option.some.inj H
          obtain ⟨Ao47, co47, eo47⟩ := Kd.R_slice HO_12.out
          subst eo47
          go_wp2
          go_ret
          exact ⟨by first | rfl | (simp [errW_none, errW_some] <;> rfl) | (simp [*, errW_none, errW_some] <;> rfl), by repeat (first | (with_reducible first | exact HB.out | apply below_alloc | apply pw_below_drewN | apply below_drew1 | refine below_set ?_ GE380.out | refine below_set ?_ GE393.out) | exact HB.out)⟩
        ·rw [if_neg c42] at H
         have c42b0 : ((t397.length : Int) == 0) = false := beq_eq_false_iff_ne.mpr c42
         have c42b1 : ((t397.length : Int) != 0) = true := bne_iff_ne.mpr c42
         have c42b2 : ¬ (t397 = []) := fun h_ => c42 (by rw [h_]; rfl)
         obtain rfl := Option.some.inj H
         obtain ⟨Ao48, co48, eo48⟩ := Kd.R_slice HO_12.out
         subst eo48
         go_wp2
         go_ret
         exact ⟨by first | rfl | (simp [errW_none, errW_some] <;> rfl) | (simp [*, errW_none, errW_some] <;> rfl), by repeat (first | (with_reducible first | exact HB.out | apply below_alloc | apply pw_below_drewN | apply below_drew1 | refine below_set ?_ GE380.out | refine below_set ?_ GE393.out) | exact HB.out)⟩
       ·replace c41 := Bool.eq_false_iff.mpr c41
        subst c41
        have H1 : (if t405 = true then ((tickingref07_Way.f kj36 t381 t384 t387 t390 a2).bind fun bt407 => ((tickinglaw07_ints.f kj36 t397 bt407.1).bind fun t411 => (if t411 = true then (if t400 = 0 then ((tickinglaw07_awake.f kj36).bind fun t412 => (some t412)) else (some false)) else (some false)))) else (if (t397.length : Int) = 0 then (if t400 = 10 then ((tickinglaw07_awake.f kj36).bind fun t413 => (some t413)) else (some false)) else (some false))) = some r := by rw [if_neg (show ¬ (false = true) by decide)] at H; exact H
        clear H
        have H := H1
        clear H1
        by_cases c49 : t405 = true
        ·subst c49
         have H1 : ((tickingref07_Way.f kj36 t381 t384 t387 t390 a2).bind fun bt407 => ((tickinglaw07_ints.f kj36 t397 bt407.1).bind fun t411 => (if t411 = true then (if t400 = 0 then ((tickinglaw07_awake.f kj36).bind fun t412 => (some t412)) else (some false)) else (some false)))) = some r := by rw [if_pos rfl] at H; exact H
         clear H
         have H := H1
         clear H1
         replace H := Option.bind_eq_some_iff.mp H
         obtain ⟨⟨t407, t410⟩, A500, H⟩ := H
         replace H : ((tickinglaw07_ints.f kj36 t397 t407).bind fun t411 => (if t411 = true then (if t400 = 0 then ((tickinglaw07_awake.f kj36).bind fun t412 => (some t412)) else (some false)) else (some false))) = some r := H
         have A50 := Aside0.mk A500
         clear A500
         replace H := Option.bind_eq_some_iff.mp H
         obtain ⟨t411, A510, H⟩ := H
         replace H : (if t411 = true then (if t400 = 0 then ((tickinglaw07_awake.f kj36).bind fun t412 => (some t412)) else (some false)) else (some false)) = some r := H
         have A51 := Aside0.mk A510
         clear A510
         by_cases c52 : t411 = true
         ·subst c52
          have H1 : (if t400 = 0 then ((tickinglaw07_awake.f kj36).bind fun t412 => (some t412)) else (some false)) = some r := by rw [if_pos rfl] at H; exact H
          clear H
          have H := H1
          clear H1
          by_cases c53 : t400 = 0
          ·rw [if_pos c53] at H
           have c53b0 : (t400 == 0) = true := beq_iff_eq.mpr c53
           have c53b1 : (t400 != 0) = false := bne_eq_false_iff_eq.mpr c53
           clear c53
           replace H := Option.bind_eq_some_iff.mp H
           obtain ⟨t412, A540, H⟩ := H
           replace H : (some t412) = some r := H
           have A54 := Aside0.mk A540
           clear A540
           obtain rfl := Option.some.inj H
           have hnb55 := NB393_380.out
           have hnc55 := NB380_393.out
           have hcz56_0 : wc.cell? ⟨gb393, 0, none⟩ = some (.slice Ao17 t381.length co17) := (blk_cell BK393.out 0).trans rfl
           have hcz56_1 : wc.cell? ⟨gb393, 1, none⟩ = some (.slice Ao20 t384.length co20) := (blk_cell BK393.out 1).trans rfl
           have hcz56_2 : wc.cell? ⟨gb393, 2, none⟩ = some (.slice Ao21 t387.length co21) := (blk_cell BK393.out 2).trans rfl
           have hfz56_0 := blk_frozen BK393.out 0
           have hfz56_1 := blk_frozen BK393.out 1
           have hfz56_2 := blk_frozen BK393.out 2
           go_wp2_with (first | ((with_reducible refine gate_callee (f := 24) rfl ?_); refine goesL_ (some 135) rfl rfl Tryd.func24 (by kernel_rfl) rfl #[.agg #[.slice Ao17 t381.length co17, .slice Ao20 t384.length co20, .slice Ao21 t387.length co21], .slice Ao22 t390.length co22, .int .i64 a2] rfl dz ?_; (with_reducible refine (tickingref07_Way.calls kj36 _ _ t381 _ _ t384 _ _ t387 _ _ t390 a2 t407 t410 _ ?side1 ?side2 ?side3 ?side4 ?side5 ?side6 ?side7 ?side8 A50.out).mono ?_); (case side1 => exact cz ((Kd.R_reads' HO_394000.out).2.2)); (case side2 => exact (Kd.R_reads' HO_394000.out).2.1); (case side3 => exact cz ((Kd.S_reads' HO_394001.out).2.2)); (case side4 => exact (Kd.S_reads' HO_394001.out).2.1); (case side5 => exact cz ((Kd.R_reads' HO_394002.out).2.2)); (case side6 => exact (Kd.R_reads' HO_394002.out).2.1); (case side7 => exact cz ((Kd.R_reads' HO_8.out).2.2)); (case side8 => exact (Kd.R_reads' HO_8.out).2.1); rintro e w57 ⟨v408, rfl, ho0, hb⟩; refine ⟨_, rfl, ?_⟩; have n0_ := Aside0.mk (Kd.R_below (rz HO_8.out) hb); have n1_ := Aside0.mk (Kd.R_elder' (rz HO_12.out) (Kd.R_base ho0) hb); have n2_ := Aside0.mk (Kd.R_elder' (rz HO_394000.out) (Kd.R_base ho0) hb); have n3_ := Aside0.mk (Kd.S_elder' (sz HO_394001.out) (Kd.R_base ho0) hb); have n4_ := Aside0.mk (Kd.R_elder' (rz HO_394002.out) (Kd.R_base ho0) hb); have n5_ := Aside0.mk (Kd.R_lower (Kd.R_new' (Kd.R_new' (Kd.R_new' ho0 (Kd.R_lt (rz HO_12.out))) (Kd.R_lt (rz HO_394000.out))) (Kd.R_lt (rz HO_394002.out))) (below_size bz)); have n6_ := Aside0.mk (kb BK380.out hb); have n7_ := Aside0.mk (kb BK393.out hb); have n8_ := Aside0.mk (below_step bz hb); clear HO_8; clear HO_12; clear HO_394000; clear HO_394001; clear HO_394002; clear BK380; clear BK393; clear HB; have HO_8 := n0_; have HO_12 := n1_; have HO_394000 := n2_; have HO_394001 := n3_; have HO_394002 := n4_; have HO409 := n5_; have BK380 := n6_; have BK393 := n7_; have HB := n8_; clear n0_ n1_ n2_ n3_ n4_ n5_ n6_ n7_ n8_; (try clear hb); (try clear hb2); (try clear hk); (try clear hi); (try clear ho0); obtain ⟨Ao58, co58, eo58⟩ := Kd.R_slice HO_12.out; subst eo58; obtain ⟨Ao59, co59, eo59⟩ := Kd.R_slice HO409.out; subst eo59) | ((with_reducible refine gate_callee (f := 25) rfl ?_); refine goesL_ (some 140) rfl rfl Tryd.func25 (by kernel_rfl) rfl #[.slice Ao58 t397.length co58, .slice Ao59 t407.length co59] rfl dz ?_; (with_reducible refine (tickinglaw07_ints.calls kj36 _ _ t397 _ _ t407 true _ ?side1 ?side2 ?side3 ?side4 A51.out).mono ?_); (case side1 => exact cz ((Kd.R_reads' HO_12.out).2.2)); (case side2 => exact (Kd.R_reads' HO_12.out).2.1); (case side3 => exact cz ((Kd.R_reads' HO409.out).2.2)); (case side4 => exact (Kd.R_reads' HO409.out).2.1); rintro e w' ⟨rfl, ⟨nd, rfl⟩⟩; refine ⟨_, rfl, ?_⟩) | (go_at_call 17; (with_reducible refine (tickinglaw07_awake.calls kj36  t412 _ A54.out ?sideT).mono ?_); (case sideT => exact HTab.out.below bz); rintro e w60 ⟨rfl, hb⟩; have n0_ := Aside0.mk (Kd.R_below (rz HO_8.out) hb); have n1_ := Aside0.mk (Kd.R_below (rz HO_12.out) hb); have n2_ := Aside0.mk (Kd.R_below (rz HO_394000.out) hb); have n3_ := Aside0.mk (Kd.S_below (sz HO_394001.out) hb); have n4_ := Aside0.mk (Kd.R_below (rz HO_394002.out) hb); have n5_ := Aside0.mk (Kd.R_below (rz HO409.out) hb); have n6_ := Aside0.mk (kb BK380.out hb); have n7_ := Aside0.mk (kb BK393.out hb); have n8_ := Aside0.mk (below_step bz hb); clear HO_8; clear HO_12; clear HO_394000; clear HO_394001; clear HO_394002; clear HO409; clear BK380; clear BK393; clear HB; have HO_8 := n0_; have HO_12 := n1_; have HO_394000 := n2_; have HO_394001 := n3_; have HO_394002 := n4_; have HO409 := n5_; have BK380 := n6_; have BK393 := n7_; have HB := n8_; clear n0_ n1_ n2_ n3_ n4_ n5_ n6_ n7_ n8_; (try clear hb); (try clear hb2); (try clear hk); (try clear hi)))
           go_ret
           exact ⟨by first | rfl | (simp [errW_none, errW_some] <;> rfl) | (simp [*, errW_none, errW_some] <;> rfl), by repeat (first | (with_reducible first | exact HB.out | apply below_alloc | apply pw_below_drewN | apply below_drew1 | refine below_set ?_ GE380.out | refine below_set ?_ GE393.out) | exact HB.out)⟩
          ·rw [if_neg c53] at H
           have c53b0 : (t400 == 0) = false := beq_eq_false_iff_ne.mpr c53
           have c53b1 : (t400 != 0) = true := bne_iff_ne.mpr c53
           obtain rfl := Option.some.inj H
           have hnb61 := NB393_380.out
           have hnc61 := NB380_393.out
           have hcz62_0 : wc.cell? ⟨gb393, 0, none⟩ = some (.slice Ao17 t381.length co17) := (blk_cell BK393.out 0).trans rfl
           have hcz62_1 : wc.cell? ⟨gb393, 1, none⟩ = some (.slice Ao20 t384.length co20) := (blk_cell BK393.out 1).trans rfl
           have hcz62_2 : wc.cell? ⟨gb393, 2, none⟩ = some (.slice Ao21 t387.length co21) := (blk_cell BK393.out 2).trans rfl
           have hfz62_0 := blk_frozen BK393.out 0
           have hfz62_1 := blk_frozen BK393.out 1
           have hfz62_2 := blk_frozen BK393.out 2
           go_wp2_with (first | ((with_reducible refine gate_callee (f := 24) rfl ?_); refine goesL_ (some 135) rfl rfl Tryd.func24 (by kernel_rfl) rfl #[.agg #[.slice Ao17 t381.length co17, .slice Ao20 t384.length co20, .slice Ao21 t387.length co21], .slice Ao22 t390.length co22, .int .i64 a2] rfl dz ?_; (with_reducible refine (tickingref07_Way.calls kj36 _ _ t381 _ _ t384 _ _ t387 _ _ t390 a2 t407 t410 _ ?side1 ?side2 ?side3 ?side4 ?side5 ?side6 ?side7 ?side8 A50.out).mono ?_); (case side1 => exact cz ((Kd.R_reads' HO_394000.out).2.2)); (case side2 => exact (Kd.R_reads' HO_394000.out).2.1); (case side3 => exact cz ((Kd.S_reads' HO_394001.out).2.2)); (case side4 => exact (Kd.S_reads' HO_394001.out).2.1); (case side5 => exact cz ((Kd.R_reads' HO_394002.out).2.2)); (case side6 => exact (Kd.R_reads' HO_394002.out).2.1); (case side7 => exact cz ((Kd.R_reads' HO_8.out).2.2)); (case side8 => exact (Kd.R_reads' HO_8.out).2.1); rintro e w63 ⟨v408, rfl, ho0, hb⟩; refine ⟨_, rfl, ?_⟩; have n0_ := Aside0.mk (Kd.R_below (rz HO_8.out) hb); have n1_ := Aside0.mk (Kd.R_elder' (rz HO_12.out) (Kd.R_base ho0) hb); have n2_ := Aside0.mk (Kd.R_elder' (rz HO_394000.out) (Kd.R_base ho0) hb); have n3_ := Aside0.mk (Kd.S_elder' (sz HO_394001.out) (Kd.R_base ho0) hb); have n4_ := Aside0.mk (Kd.R_elder' (rz HO_394002.out) (Kd.R_base ho0) hb); have n5_ := Aside0.mk (Kd.R_lower (Kd.R_new' (Kd.R_new' (Kd.R_new' ho0 (Kd.R_lt (rz HO_12.out))) (Kd.R_lt (rz HO_394000.out))) (Kd.R_lt (rz HO_394002.out))) (below_size bz)); have n6_ := Aside0.mk (kb BK380.out hb); have n7_ := Aside0.mk (kb BK393.out hb); have n8_ := Aside0.mk (below_step bz hb); clear HO_8; clear HO_12; clear HO_394000; clear HO_394001; clear HO_394002; clear BK380; clear BK393; clear HB; have HO_8 := n0_; have HO_12 := n1_; have HO_394000 := n2_; have HO_394001 := n3_; have HO_394002 := n4_; have HO409 := n5_; have BK380 := n6_; have BK393 := n7_; have HB := n8_; clear n0_ n1_ n2_ n3_ n4_ n5_ n6_ n7_ n8_; (try clear hb); (try clear hb2); (try clear hk); (try clear hi); (try clear ho0); obtain ⟨Ao64, co64, eo64⟩ := Kd.R_slice HO_12.out; subst eo64; obtain ⟨Ao65, co65, eo65⟩ := Kd.R_slice HO409.out; subst eo65) | ((with_reducible refine gate_callee (f := 25) rfl ?_); refine goesL_ (some 140) rfl rfl Tryd.func25 (by kernel_rfl) rfl #[.slice Ao64 t397.length co64, .slice Ao65 t407.length co65] rfl dz ?_; (with_reducible refine (tickinglaw07_ints.calls kj36 _ _ t397 _ _ t407 true _ ?side1 ?side2 ?side3 ?side4 A51.out).mono ?_); (case side1 => exact cz ((Kd.R_reads' HO_12.out).2.2)); (case side2 => exact (Kd.R_reads' HO_12.out).2.1); (case side3 => exact cz ((Kd.R_reads' HO409.out).2.2)); (case side4 => exact (Kd.R_reads' HO409.out).2.1); rintro e w' ⟨rfl, ⟨nd, rfl⟩⟩; refine ⟨_, rfl, ?_⟩))
           go_ret
           exact ⟨by first | rfl | (simp [errW_none, errW_some] <;> rfl) | (simp [*, errW_none, errW_some] <;> rfl), by repeat (first | (with_reducible first | exact HB.out | apply below_alloc | apply pw_below_drewN | apply below_drew1 | refine below_set ?_ GE380.out | refine below_set ?_ GE393.out) | exact HB.out)⟩
         ·replace c52 := Bool.eq_false_iff.mpr c52
          subst c52
          have H1 : (some false) = some r := by rw [if_neg (show ¬ (false = true) by decide)] at H; exact H
          clear H
          have H := H1
          clear H1
          obtain rfl := Option.some.inj H
          have hnb66 := NB393_380.out
          have hnc66 := NB380_393.out
          have hcz67_0 : wc.cell? ⟨gb393, 0, none⟩ = some (.slice Ao17 t381.length co17) := (blk_cell BK393.out 0).trans rfl
          have hcz67_1 : wc.cell? ⟨gb393, 1, none⟩ = some (.slice Ao20 t384.length co20) := (blk_cell BK393.out 1).trans rfl
          have hcz67_2 : wc.cell? ⟨gb393, 2, none⟩ = some (.slice Ao21 t387.length co21) := (blk_cell BK393.out 2).trans rfl
          have hfz67_0 := blk_frozen BK393.out 0
          have hfz67_1 := blk_frozen BK393.out 1
          have hfz67_2 := blk_frozen BK393.out 2
          go_wp2_with (first | ((with_reducible refine gate_callee (f := 24) rfl ?_); refine goesL_ (some 135) rfl rfl Tryd.func24 (by kernel_rfl) rfl #[.agg #[.slice Ao17 t381.length co17, .slice Ao20 t384.length co20, .slice Ao21 t387.length co21], .slice Ao22 t390.length co22, .int .i64 a2] rfl dz ?_; (with_reducible refine (tickingref07_Way.calls kj36 _ _ t381 _ _ t384 _ _ t387 _ _ t390 a2 t407 t410 _ ?side1 ?side2 ?side3 ?side4 ?side5 ?side6 ?side7 ?side8 A50.out).mono ?_); (case side1 => exact cz ((Kd.R_reads' HO_394000.out).2.2)); (case side2 => exact (Kd.R_reads' HO_394000.out).2.1); (case side3 => exact cz ((Kd.S_reads' HO_394001.out).2.2)); (case side4 => exact (Kd.S_reads' HO_394001.out).2.1); (case side5 => exact cz ((Kd.R_reads' HO_394002.out).2.2)); (case side6 => exact (Kd.R_reads' HO_394002.out).2.1); (case side7 => exact cz ((Kd.R_reads' HO_8.out).2.2)); (case side8 => exact (Kd.R_reads' HO_8.out).2.1); rintro e w68 ⟨v408, rfl, ho0, hb⟩; refine ⟨_, rfl, ?_⟩; have n0_ := Aside0.mk (Kd.R_below (rz HO_8.out) hb); have n1_ := Aside0.mk (Kd.R_elder' (rz HO_12.out) (Kd.R_base ho0) hb); have n2_ := Aside0.mk (Kd.R_elder' (rz HO_394000.out) (Kd.R_base ho0) hb); have n3_ := Aside0.mk (Kd.S_elder' (sz HO_394001.out) (Kd.R_base ho0) hb); have n4_ := Aside0.mk (Kd.R_elder' (rz HO_394002.out) (Kd.R_base ho0) hb); have n5_ := Aside0.mk (Kd.R_lower (Kd.R_new' (Kd.R_new' (Kd.R_new' ho0 (Kd.R_lt (rz HO_12.out))) (Kd.R_lt (rz HO_394000.out))) (Kd.R_lt (rz HO_394002.out))) (below_size bz)); have n6_ := Aside0.mk (kb BK380.out hb); have n7_ := Aside0.mk (kb BK393.out hb); have n8_ := Aside0.mk (below_step bz hb); clear HO_8; clear HO_12; clear HO_394000; clear HO_394001; clear HO_394002; clear BK380; clear BK393; clear HB; have HO_8 := n0_; have HO_12 := n1_; have HO_394000 := n2_; have HO_394001 := n3_; have HO_394002 := n4_; have HO409 := n5_; have BK380 := n6_; have BK393 := n7_; have HB := n8_; clear n0_ n1_ n2_ n3_ n4_ n5_ n6_ n7_ n8_; (try clear hb); (try clear hb2); (try clear hk); (try clear hi); (try clear ho0); obtain ⟨Ao69, co69, eo69⟩ := Kd.R_slice HO_12.out; subst eo69; obtain ⟨Ao70, co70, eo70⟩ := Kd.R_slice HO409.out; subst eo70) | ((with_reducible refine gate_callee (f := 25) rfl ?_); refine goesL_ (some 140) rfl rfl Tryd.func25 (by kernel_rfl) rfl #[.slice Ao69 t397.length co69, .slice Ao70 t407.length co70] rfl dz ?_; (with_reducible refine (tickinglaw07_ints.calls kj36 _ _ t397 _ _ t407 false _ ?side1 ?side2 ?side3 ?side4 A51.out).mono ?_); (case side1 => exact cz ((Kd.R_reads' HO_12.out).2.2)); (case side2 => exact (Kd.R_reads' HO_12.out).2.1); (case side3 => exact cz ((Kd.R_reads' HO409.out).2.2)); (case side4 => exact (Kd.R_reads' HO409.out).2.1); rintro e w' ⟨rfl, ⟨nd, rfl⟩⟩; refine ⟨_, rfl, ?_⟩))
          go_ret
          exact ⟨by first | rfl | (simp [errW_none, errW_some] <;> rfl) | (simp [*, errW_none, errW_some] <;> rfl), by repeat (first | (with_reducible first | exact HB.out | apply below_alloc | apply pw_below_drewN | apply below_drew1 | refine below_set ?_ GE380.out | refine below_set ?_ GE393.out) | exact HB.out)⟩
        ·replace c49 := Bool.eq_false_iff.mpr c49
         subst c49
         have H1 : (if (t397.length : Int) = 0 then (if t400 = 10 then ((tickinglaw07_awake.f kj36).bind fun t413 => (some t413)) else (some false)) else (some false)) = some r := by rw [if_neg (show ¬ (false = true) by decide)] at H; exact H
         clear H
         have H := H1
         clear H1
         by_cases c71 : (t397.length : Int) = 0
         ·rw [if_pos c71] at H
          have c71b0 : ((t397.length : Int) == 0) = true := beq_iff_eq.mpr c71
          have c71b1 : ((t397.length : Int) != 0) = false := bne_eq_false_iff_eq.mpr c71
          clear c71
          by_cases c72 : t400 = 10
          ·rw [if_pos c72] at H
           have c72b0 : (t400 == 10) = true := beq_iff_eq.mpr c72
           have c72b1 : (t400 != 10) = false := bne_eq_false_iff_eq.mpr c72
           clear c72
           replace H := Option.bind_eq_some_iff.mp H
           obtain ⟨t413, A730, H⟩ := H
           replace H : (some t413) = some r := H
           have A73 := Aside0.mk A730
           clear A730
           obtain rfl := Option.some.inj H
           obtain ⟨Ao74, co74, eo74⟩ := Kd.R_slice HO_12.out
           subst eo74
           go_wp2_with (first | (go_at_call 17; (with_reducible refine (tickinglaw07_awake.calls kj36  t413 _ A73.out ?sideT).mono ?_); (case sideT => exact HTab.out.below bz); rintro e w75 ⟨rfl, hb⟩; have n0_ := Aside0.mk (Kd.R_below (rz HO_8.out) hb); have n1_ := Aside0.mk (Kd.R_below (rz HO_12.out) hb); have n2_ := Aside0.mk (Kd.R_below (rz HO_394000.out) hb); have n3_ := Aside0.mk (Kd.S_below (sz HO_394001.out) hb); have n4_ := Aside0.mk (Kd.R_below (rz HO_394002.out) hb); have n5_ := Aside0.mk (kb BK380.out hb); have n6_ := Aside0.mk (kb BK393.out hb); have n7_ := Aside0.mk (below_step bz hb); clear HO_8; clear HO_12; clear HO_394000; clear HO_394001; clear HO_394002; clear BK380; clear BK393; clear HB; have HO_8 := n0_; have HO_12 := n1_; have HO_394000 := n2_; have HO_394001 := n3_; have HO_394002 := n4_; have BK380 := n5_; have BK393 := n6_; have HB := n7_; clear n0_ n1_ n2_ n3_ n4_ n5_ n6_ n7_; (try clear hb); (try clear hb2); (try clear hk); (try clear hi)))
           go_ret
           exact ⟨by first | rfl | (simp [errW_none, errW_some] <;> rfl) | (simp [*, errW_none, errW_some] <;> rfl), by repeat (first | (with_reducible first | exact HB.out | apply below_alloc | apply pw_below_drewN | apply below_drew1 | refine below_set ?_ GE380.out | refine below_set ?_ GE393.out) | exact HB.out)⟩
          ·rw [if_neg c72] at H
           have c72b0 : (t400 == 10) = false := beq_eq_false_iff_ne.mpr c72
           have c72b1 : (t400 != 10) = true := bne_iff_ne.mpr c72
           obtain rfl := Option.some.inj H
           obtain ⟨Ao76, co76, eo76⟩ := Kd.R_slice HO_12.out
           subst eo76
           go_wp2
           go_ret
           exact ⟨by first | rfl | (simp [errW_none, errW_some] <;> rfl) | (simp [*, errW_none, errW_some] <;> rfl), by repeat (first | (with_reducible first | exact HB.out | apply below_alloc | apply pw_below_drewN | apply below_drew1 | refine below_set ?_ GE380.out | refine below_set ?_ GE393.out) | exact HB.out)⟩
         ·rw [if_neg c71] at H
          have c71b0 : ((t397.length : Int) == 0) = false := beq_eq_false_iff_ne.mpr c71
          have c71b1 : ((t397.length : Int) != 0) = true := bne_iff_ne.mpr c71
          have c71b2 : ¬ (t397 = []) := fun h_ => c71 (by rw [h_]; rfl)
          obtain rfl := Option.some.inj H
          obtain ⟨Ao77, co77, eo77⟩ := Kd.R_slice HO_12.out
          subst eo77
          go_wp2
          go_ret
          exact ⟨by first | rfl | (simp [errW_none, errW_some] <;> rfl) | (simp [*, errW_none, errW_some] <;> rfl), by repeat (first | (with_reducible first | exact HB.out | apply below_alloc | apply pw_below_drewN | apply below_drew1 | refine below_set ?_ GE380.out | refine below_set ?_ GE393.out) | exact HB.out)⟩
 ·replace c9 := Bool.eq_false_iff.mpr c9
  subst c9
  have H1 : (if t394 = 0 then (if t395 = 0 then (if t396 = 2 then (if (t397.length : Int) = 0 then (if t400 = 2 then ((tickinglaw07_awake.f k).bind fun t402 => (some t402)) else (some false)) else (some false)) else (some false)) else (some false)) else (some false)) = some r := by rw [if_neg (show ¬ (false = true) by decide)] at H; exact H
  clear H
  have H := H1
  clear H1
  by_cases c78 : t394 = 0
  ·rw [if_pos c78] at H
   have c78b0 : (t394 == 0) = true := beq_iff_eq.mpr c78
   have c78b1 : (t394 != 0) = false := bne_eq_false_iff_eq.mpr c78
   clear c78
   by_cases c79 : t395 = 0
   ·rw [if_pos c79] at H
    have c79b0 : (t395 == 0) = true := beq_iff_eq.mpr c79
    have c79b1 : (t395 != 0) = false := bne_eq_false_iff_eq.mpr c79
    clear c79
    by_cases c80 : t396 = 2
    ·rw [if_pos c80] at H
     have c80b0 : (t396 == 2) = true := beq_iff_eq.mpr c80
     have c80b1 : (t396 != 2) = false := bne_eq_false_iff_eq.mpr c80
     clear c80
     go_wp2_with (first | ((with_reducible refine gate_callee (f := 16) rfl ?_); refine goesL_ (some 38) rfl rfl Tryd.func16 (by kernel_rfl) rfl #[.agg #[.slice Ao17 t381.length co17, .slice Ao20 t384.length co20, .slice Ao21 t387.length co21]] rfl dz ?_; (with_reducible refine (tickingref07_Case.calls k _ _ t381 _ _ t384 _ _ t387 false _ ?side1 ?side2 ?side3 ?side4 ?side5 ?side6 A8.out).mono ?_); (case side1 => exact cz ((Kd.R_reads' HO383.out).2.2)); (case side2 => exact (Kd.R_reads' HO383.out).2.1); (case side3 => exact cz ((Kd.S_reads' HO386.out).2.2)); (case side4 => exact (Kd.S_reads' HO386.out).2.1); (case side5 => exact cz ((Kd.R_reads' HO389.out).2.2)); (case side6 => exact (Kd.R_reads' HO389.out).2.1); rintro e w99 ⟨rfl, hb⟩; refine ⟨_, rfl, ?_⟩; have n0_ := Aside0.mk (Kd.R_below (rz HO383.out) hb); have n1_ := Aside0.mk (Kd.S_below (sz HO386.out) hb); have n2_ := Aside0.mk (Kd.R_below (rz HO389.out) hb); have n3_ := Aside0.mk (Kd.R_below (rz HO392.out) hb); have n4_ := Aside0.mk (Kd.R_below (rz HO399.out) hb); have n5_ := Aside0.mk (kb BK380.out hb); have n6_ := Aside0.mk (kb BK393.out hb); have n7_ := Aside0.mk (below_step bz hb); clear HO383; clear HO386; clear HO389; clear HO392; clear HO399; clear BK380; clear BK393; clear HB; have HO383 := n0_; have HO386 := n1_; have HO389 := n2_; have HO392 := n3_; have HO399 := n4_; have BK380 := n5_; have BK393 := n6_; have HB := n7_; clear n0_ n1_ n2_ n3_ n4_ n5_ n6_ n7_; (try clear hb); (try clear hb2); (try clear hk); (try clear hi); obtain ⟨Ao100, co100, eo100⟩ := Kd.R_slice HO399.out; subst eo100; refine hold_ ?_; intro P_ hP_))
     refine hP_.out ?_
     clear hP_ P_
     by_cases c81 : (t397.length : Int) = 0
     ·rw [if_pos c81] at H
      have c81b0 : ((t397.length : Int) == 0) = true := beq_iff_eq.mpr c81
      have c81b1 : ((t397.length : Int) != 0) = false := bne_eq_false_iff_eq.mpr c81
      clear c81
      by_cases c82 : t400 = 2
      ·rw [if_pos c82] at H
       have c82b0 : (t400 == 2) = true := beq_iff_eq.mpr c82
       have c82b1 : (t400 != 2) = false := bne_eq_false_iff_eq.mpr c82
       clear c82
       replace H := Option.bind_eq_some_iff.mp H
       obtain ⟨t402, A830, H⟩ := H
       replace H : (some t402) = some r := H
       have A83 := Aside0.mk A830
       clear A830
       obtain rfl := Option.some.inj H
       go_wp2_with (first | (go_at_call 17; (with_reducible refine (tickinglaw07_awake.calls k  t402 _ A83.out ?sideT).mono ?_); (case sideT => exact HTab.out.below bz); rintro e w101 ⟨rfl, hb⟩; have n0_ := Aside0.mk (Kd.R_below (rz HO383.out) hb); have n1_ := Aside0.mk (Kd.S_below (sz HO386.out) hb); have n2_ := Aside0.mk (Kd.R_below (rz HO389.out) hb); have n3_ := Aside0.mk (Kd.R_below (rz HO392.out) hb); have n4_ := Aside0.mk (Kd.R_below (rz HO399.out) hb); have n5_ := Aside0.mk (kb BK380.out hb); have n6_ := Aside0.mk (kb BK393.out hb); have n7_ := Aside0.mk (below_step bz hb); clear HO383; clear HO386; clear HO389; clear HO392; clear HO399; clear BK380; clear BK393; clear HB; have HO383 := n0_; have HO386 := n1_; have HO389 := n2_; have HO392 := n3_; have HO399 := n4_; have BK380 := n5_; have BK393 := n6_; have HB := n7_; clear n0_ n1_ n2_ n3_ n4_ n5_ n6_ n7_; (try clear hb); (try clear hb2); (try clear hk); (try clear hi)))
       go_ret
       exact ⟨by first | rfl | (simp [errW_none, errW_some] <;> rfl) | (simp [*, errW_none, errW_some] <;> rfl), by repeat (first | (with_reducible first | exact HB.out | apply below_alloc | apply pw_below_drewN | apply below_drew1 | refine below_set ?_ GE380.out | refine below_set ?_ GE393.out) | exact HB.out)⟩
      ·rw [if_neg c82] at H
       have c82b0 : (t400 == 2) = false := beq_eq_false_iff_ne.mpr c82
       have c82b1 : (t400 != 2) = true := bne_iff_ne.mpr c82
       obtain rfl := Option.some.inj H
       go_wp2_with fail
       go_ret
       exact ⟨by first | rfl | (simp [errW_none, errW_some] <;> rfl) | (simp [*, errW_none, errW_some] <;> rfl), by repeat (first | (with_reducible first | exact HB.out | apply below_alloc | apply pw_below_drewN | apply below_drew1 | refine below_set ?_ GE380.out | refine below_set ?_ GE393.out) | exact HB.out)⟩
     ·rw [if_neg c81] at H
      have c81b0 : ((t397.length : Int) == 0) = false := beq_eq_false_iff_ne.mpr c81
      have c81b1 : ((t397.length : Int) != 0) = true := bne_iff_ne.mpr c81
      have c81b2 : ¬ (t397 = []) := fun h_ => c81 (by rw [h_]; rfl)
      obtain rfl := Option.some.inj H
      go_wp2_with fail
      go_ret
      exact ⟨by first | rfl | (simp [errW_none, errW_some] <;> rfl) | (simp [*, errW_none, errW_some] <;> rfl), by repeat (first | (with_reducible first | exact HB.out | apply below_alloc | apply pw_below_drewN | apply below_drew1 | refine below_set ?_ GE380.out | refine below_set ?_ GE393.out) | exact HB.out)⟩
    ·rw [if_neg c80] at H
     have c80b0 : (t396 == 2) = false := beq_eq_false_iff_ne.mpr c80
     have c80b1 : (t396 != 2) = true := bne_iff_ne.mpr c80
     obtain rfl := Option.some.inj H
     go_wp2_with (first | ((with_reducible refine gate_callee (f := 16) rfl ?_); refine goesL_ (some 38) rfl rfl Tryd.func16 (by kernel_rfl) rfl #[.agg #[.slice Ao17 t381.length co17, .slice Ao20 t384.length co20, .slice Ao21 t387.length co21]] rfl dz ?_; (with_reducible refine (tickingref07_Case.calls k _ _ t381 _ _ t384 _ _ t387 false _ ?side1 ?side2 ?side3 ?side4 ?side5 ?side6 A8.out).mono ?_); (case side1 => exact cz ((Kd.R_reads' HO383.out).2.2)); (case side2 => exact (Kd.R_reads' HO383.out).2.1); (case side3 => exact cz ((Kd.S_reads' HO386.out).2.2)); (case side4 => exact (Kd.S_reads' HO386.out).2.1); (case side5 => exact cz ((Kd.R_reads' HO389.out).2.2)); (case side6 => exact (Kd.R_reads' HO389.out).2.1); rintro e w151 ⟨rfl, hb⟩; refine ⟨_, rfl, ?_⟩; have n0_ := Aside0.mk (Kd.R_below (rz HO383.out) hb); have n1_ := Aside0.mk (Kd.S_below (sz HO386.out) hb); have n2_ := Aside0.mk (Kd.R_below (rz HO389.out) hb); have n3_ := Aside0.mk (Kd.R_below (rz HO392.out) hb); have n4_ := Aside0.mk (Kd.R_below (rz HO399.out) hb); have n5_ := Aside0.mk (kb BK380.out hb); have n6_ := Aside0.mk (kb BK393.out hb); have n7_ := Aside0.mk (below_step bz hb); clear HO383; clear HO386; clear HO389; clear HO392; clear HO399; clear BK380; clear BK393; clear HB; have HO383 := n0_; have HO386 := n1_; have HO389 := n2_; have HO392 := n3_; have HO399 := n4_; have BK380 := n5_; have BK393 := n6_; have HB := n7_; clear n0_ n1_ n2_ n3_ n4_ n5_ n6_ n7_; (try clear hb); (try clear hb2); (try clear hk); (try clear hi)))
     go_ret
     exact ⟨by first | rfl | (simp [errW_none, errW_some] <;> rfl) | (simp [*, errW_none, errW_some] <;> rfl), by repeat (first | (with_reducible first | exact HB.out | apply below_alloc | apply pw_below_drewN | apply below_drew1 | refine below_set ?_ GE380.out | refine below_set ?_ GE393.out) | exact HB.out)⟩
   ·rw [if_neg c79] at H
    have c79b0 : (t395 == 0) = false := beq_eq_false_iff_ne.mpr c79
    have c79b1 : (t395 != 0) = true := bne_iff_ne.mpr c79
    obtain rfl := Option.some.inj H
    go_wp2_with (first | ((with_reducible refine gate_callee (f := 16) rfl ?_); refine goesL_ (some 38) rfl rfl Tryd.func16 (by kernel_rfl) rfl #[.agg #[.slice Ao17 t381.length co17, .slice Ao20 t384.length co20, .slice Ao21 t387.length co21]] rfl dz ?_; (with_reducible refine (tickingref07_Case.calls k _ _ t381 _ _ t384 _ _ t387 false _ ?side1 ?side2 ?side3 ?side4 ?side5 ?side6 A8.out).mono ?_); (case side1 => exact cz ((Kd.R_reads' HO383.out).2.2)); (case side2 => exact (Kd.R_reads' HO383.out).2.1); (case side3 => exact cz ((Kd.S_reads' HO386.out).2.2)); (case side4 => exact (Kd.S_reads' HO386.out).2.1); (case side5 => exact cz ((Kd.R_reads' HO389.out).2.2)); (case side6 => exact (Kd.R_reads' HO389.out).2.1); rintro e w167 ⟨rfl, hb⟩; refine ⟨_, rfl, ?_⟩; have n0_ := Aside0.mk (Kd.R_below (rz HO383.out) hb); have n1_ := Aside0.mk (Kd.S_below (sz HO386.out) hb); have n2_ := Aside0.mk (Kd.R_below (rz HO389.out) hb); have n3_ := Aside0.mk (Kd.R_below (rz HO392.out) hb); have n4_ := Aside0.mk (Kd.R_below (rz HO399.out) hb); have n5_ := Aside0.mk (kb BK380.out hb); have n6_ := Aside0.mk (kb BK393.out hb); have n7_ := Aside0.mk (below_step bz hb); clear HO383; clear HO386; clear HO389; clear HO392; clear HO399; clear BK380; clear BK393; clear HB; have HO383 := n0_; have HO386 := n1_; have HO389 := n2_; have HO392 := n3_; have HO399 := n4_; have BK380 := n5_; have BK393 := n6_; have HB := n7_; clear n0_ n1_ n2_ n3_ n4_ n5_ n6_ n7_; (try clear hb); (try clear hb2); (try clear hk); (try clear hi)))
    go_ret
    exact ⟨by first | rfl | (simp [errW_none, errW_some] <;> rfl) | (simp [*, errW_none, errW_some] <;> rfl), by repeat (first | (with_reducible first | exact HB.out | apply below_alloc | apply pw_below_drewN | apply below_drew1 | refine below_set ?_ GE380.out | refine below_set ?_ GE393.out) | exact HB.out)⟩
  ·rw [if_neg c78] at H
   have c78b0 : (t394 == 0) = false := beq_eq_false_iff_ne.mpr c78
   have c78b1 : (t394 != 0) = true := bne_iff_ne.mpr c78
   obtain rfl := Option.some.inj H
   go_wp2_with (first | ((with_reducible refine gate_callee (f := 16) rfl ?_); refine goesL_ (some 38) rfl rfl Tryd.func16 (by kernel_rfl) rfl #[.agg #[.slice Ao17 t381.length co17, .slice Ao20 t384.length co20, .slice Ao21 t387.length co21]] rfl dz ?_; (with_reducible refine (tickingref07_Case.calls k _ _ t381 _ _ t384 _ _ t387 false _ ?side1 ?side2 ?side3 ?side4 ?side5 ?side6 A8.out).mono ?_); (case side1 => exact cz ((Kd.R_reads' HO383.out).2.2)); (case side2 => exact (Kd.R_reads' HO383.out).2.1); (case side3 => exact cz ((Kd.S_reads' HO386.out).2.2)); (case side4 => exact (Kd.S_reads' HO386.out).2.1); (case side5 => exact cz ((Kd.R_reads' HO389.out).2.2)); (case side6 => exact (Kd.R_reads' HO389.out).2.1); rintro e w183 ⟨rfl, hb⟩; refine ⟨_, rfl, ?_⟩; have n0_ := Aside0.mk (Kd.R_below (rz HO383.out) hb); have n1_ := Aside0.mk (Kd.S_below (sz HO386.out) hb); have n2_ := Aside0.mk (Kd.R_below (rz HO389.out) hb); have n3_ := Aside0.mk (Kd.R_below (rz HO392.out) hb); have n4_ := Aside0.mk (Kd.R_below (rz HO399.out) hb); have n5_ := Aside0.mk (kb BK380.out hb); have n6_ := Aside0.mk (kb BK393.out hb); have n7_ := Aside0.mk (below_step bz hb); clear HO383; clear HO386; clear HO389; clear HO392; clear HO399; clear BK380; clear BK393; clear HB; have HO383 := n0_; have HO386 := n1_; have HO389 := n2_; have HO392 := n3_; have HO399 := n4_; have BK380 := n5_; have BK393 := n6_; have HB := n7_; clear n0_ n1_ n2_ n3_ n4_ n5_ n6_ n7_; (try clear hb); (try clear hb2); (try clear hk); (try clear hi)))
   go_ret
   exact ⟨by first | rfl | (simp [errW_none, errW_some] <;> rfl) | (simp [*, errW_none, errW_some] <;> rfl), by repeat (first | (with_reducible first | exact HB.out | apply below_alloc | apply pw_below_drewN | apply below_drew1 | refine below_set ?_ GE380.out | refine below_set ?_ GE393.out) | exact HB.out)⟩

end Go.Proofs.YtekmiepdodaidaaDoor.X
end
