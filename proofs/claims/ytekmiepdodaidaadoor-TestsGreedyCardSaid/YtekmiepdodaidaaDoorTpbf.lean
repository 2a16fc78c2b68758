/- Texts behind TestsGreedy, part 32: contracts of the program's functions and the plain words for them. -/
import Derived.Test.YtekmiepdodaidaaDoorTpas
import Derived.Test.YtekmiepdodaidaaDoorTpav
import Derived.Test.YtekmiepdodaidaaDoorTpax
import Derived.Test.YtekmiepdodaidaaDoorTpay
import Derived.Test.YtekmiepdodaidaaDoorTpaz
import Derived.Test.YtekmiepdodaidaaDoorTpba
import Derived.Test.YtekmiepdodaidaaDoorTpbb
import Derived.Test.YtekmiepdodaidaaDoorTpbc
import Derived.Test.YtekmiepdodaidaaDoorTpbd
import Derived.Test.YtekmiepdodaidaaDoorTpbe
section
namespace Go.Proofs.YtekmiepdodaidaaDoor.X
open Go.RowKit Go.Proofs.YtekmiepdodaidaaDoorW.PrintWords Go.Proofs.YtekmiepdodaidaaDoorW.PrintLast Go.Proofs.YtekmiepdodaidaaDoorW.PrintMore
attribute [local go_sem] max2_int min2_int max_two min_two max_three min_three max_four min_four   -- for this text's walks alone
set_option linter.unusedVariables false
set_option linter.unusedSimpArgs false

attribute [local go_sem high] eqA53 eqA57
mutual
def tickinglaw07_TestsGreedy.j0 : Nat → List (S57) → Int → List (S53) → List Int → Int → List (S53) → Bool → List Int → List (List Int) → List Int → Option (Bool)
 | 0, _, _, _, _, _, _, _, _, _, _ => none
 | k + 1, x4, x5, x6, x8, x9, x10, x74, x458000, x458001, x458002 => if x74 = true then (some false) else (tickinglaw07_TestsGreedy.l0 k x4 x5 x6 x8 x9 x10 0 x458000 x458001 x458002)
def tickinglaw07_TestsGreedy.l0 : Nat → List (S57) → Int → List (S53) → List Int → Int → List (S53) → Int → List Int → List (List Int) → List Int → Option (Bool)
 | 0, _, _, _, _, _, _, _, _, _, _ => none
 | k + 1, x4, x5, x6, x8, x9, x10, x11, x458000, x458001, x458002 => if x11 < (x6.length : Int) then (if 0 ≤ x11 then (if x11 < (x10.length : Int) then (if (!(((rd_T53 x6 x11).f0) == ((rd_T53 x10 x11).f0)) || (!(((rd_T53 x6 x11).f1) == ((rd_T53 x10 x11).f1)))) = true then (some false) else (tickinglaw07_TestsGreedy.l0 k x4 x5 x6 x8 x9 x10 (wrap64 (x11 + 1)) x458000 x458001 x458002)) else (none)) else (none)) else (if (x10.length : Int) > 0 then (if (x4.length : Int) = 0 then (if x5 = 6 then (if (x8.length : Int) = 0 then (if x9 = 6 then ((tickinglaw07_awake.f k).bind fun t477 => (some t477)) else (some false)) else (some false)) else (some false)) else (some false)) else ((tickingref07_Greedy.f k x458000 x458001 x458002 (wrap64 ((shl .i64 1 (x458000.length : Int)) - 1)) 0).bind fun t478 => ((tickingref07_Cover.f k x458000 x458001 x458002).bind fun bt481 => (if (x4.length : Int) = (t478.length : Int) then (if x5 = 0 then ((tickinglaw07_ints.f k x8 bt481.1).bind fun t485 => (if t485 = true then (tickinglaw07_TestsGreedy.j2 k x4 t478 (x9 != 0)) else (tickinglaw07_TestsGreedy.j2 k x4 t478 true))) else (tickinglaw07_TestsGreedy.j2 k x4 t478 true)) else (tickinglaw07_TestsGreedy.j2 k x4 t478 true)))))
def tickinglaw07_TestsGreedy.j2 : Nat → List (S57) → List (S57) → Bool → Option (Bool)
 | 0, _, _, _ => none
 | k + 1, x4, x12, x142 => if x142 = true then (some false) else (tickinglaw07_TestsGreedy.l1 k x4 x12 0)
def tickinglaw07_TestsGreedy.l1 : Nat → List (S57) → List (S57) → Int → Option (Bool)
 | 0, _, _, _ => none
 | k + 1, x4, x12, x15 => if x15 < (x4.length : Int) then (if 0 ≤ x15 then (if x15 < (x12.length : Int) then (if (!(((rd_T57 x4 x15).f0) == ((rd_T57 x12 x15).f0)) || (!(((rd_T57 x4 x15).f1) == ((rd_T57 x12 x15).f1)) || (!(((rd_T57 x4 x15).f2) == ((rd_T57 x12 x15).f2)) || (!(((rd_T57 x4 x15).f3) == ((rd_T57 x12 x15).f3)))))) = true then (some false) else (tickinglaw07_TestsGreedy.l1 k x4 x12 (wrap64 (x15 + 1)))) else (none)) else (none)) else ((tickinglaw07_awake.f k).bind fun t488 => (some t488))
end
def tickinglaw07_TestsGreedy.f (k : Nat) (l0_0 : List Int) (l0_1 : List (List Int)) (l0_2 : List Int) : Option (Bool) := (tickinglaw07_own.f k l0_0 l0_1 l0_2).bind fun bt448 => ((tests_Greedy.f bt448.1 bt448.2.1 bt448.2.2).bind fun bt458 => ((tests_Alike.f k bt448.1 bt448.2.1 bt448.2.2).bind fun bt462 => ((tests_Cover.f bt448.1 bt448.2.1 bt448.2.2).bind fun bt466 => ((tickingref07_Case.f k bt448.1 bt448.2.1 bt448.2.2).bind fun t470 => (if t470 = true then ((tickingref07_Alike.f k bt448.1 bt448.2.1 bt448.2.2).bind fun t472 => (if (bt462.1.length : Int) = (t472.length : Int) then (tickinglaw07_TestsGreedy.j0 k bt458.1 bt458.2 bt462.1 bt466.1 bt466.2 t472 (bt462.2 != 0) bt448.1 bt448.2.1 bt448.2.2) else (tickinglaw07_TestsGreedy.j0 k bt458.1 bt458.2 bt462.1 bt466.1 bt466.2 t472 true bt448.1 bt448.2.1 bt448.2.2))) else (if (bt458.1.length : Int) = 0 then (if bt458.2 = 2 then (if (bt462.1.length : Int) = 0 then (if bt462.2 = 2 then (if (bt466.1.length : Int) = 0 then (if bt466.2 = 2 then ((tickinglaw07_awake.f k).bind fun t471 => (some t471)) else (some false)) else (some false)) else (some false)) else (some false)) else (some false)) else (some false)))))))
def tickinglaw07_TestsGreedy.T13 : Bool × List (List Nat × List Nat) := (true, [([], []), ([], []), ([0, 1], [0, 1]), ([2], [2]), ([], []), ([], []), ([4, 5], [4, 5]), ([6], [6]), ([3, 7], [3, 7])])
def tickinglaw07_TestsGreedy.B13 : List Nat := [0, 0, 3, 7, 0, 0, 48, 112, 255]
theorem tickinglaw07_TestsGreedy.tab13 : rtab .any (opsOf Tryd.f5 13) = tickinglaw07_TestsGreedy.T13 := by kernel_rfl
theorem tickinglaw07_TestsGreedy.bits13 : waitsOk tickinglaw07_TestsGreedy.T13.2 tickinglaw07_TestsGreedy.B13 = true := by kernel_rfl
def tickinglaw07_TestsGreedy.T17 : Bool × List (List Nat × List Nat) := (true, [([], []), ([], []), ([1], [1]), ([2], [2]), ([3], [3]), ([4], [4]), ([0, 5], [0, 5]), ([6, 6, 0, 1, 2, 3, 4, 5, 6], [6])])
def tickinglaw07_TestsGreedy.B17 : List Nat := [0, 0, 2, 6, 14, 30, 63, 127]
theorem tickinglaw07_TestsGreedy.tab17 : rtab .any (opsOf Tryd.f5 17) = tickinglaw07_TestsGreedy.T17 := by kernel_rfl
theorem tickinglaw07_TestsGreedy.bits17 : waitsOk tickinglaw07_TestsGreedy.T17.2 tickinglaw07_TestsGreedy.B17 = true := by kernel_rfl
def tickinglaw07_TestsGreedy.T24 : Bool × List (List Nat × List Nat) := (true, [([], []), ([], []), ([0, 1], [0, 1]), ([2], [2]), ([], []), ([], []), ([4, 5], [4, 5]), ([6], [6]), ([3, 7], [3, 7])])
def tickinglaw07_TestsGreedy.B24 : List Nat := [0, 0, 3, 7, 0, 0, 48, 112, 255]
theorem tickinglaw07_TestsGreedy.tab24 : rtab .any (opsOf Tryd.f5 24) = tickinglaw07_TestsGreedy.T24 := by kernel_rfl
theorem tickinglaw07_TestsGreedy.bits24 : waitsOk tickinglaw07_TestsGreedy.T24.2 tickinglaw07_TestsGreedy.B24 = true := by kernel_rfl
set_option maxHeartbeats 8000000 in
set_option maxRecDepth 100000 in
theorem tickinglaw07_TestsGreedy.calls (k : Nat) (A0_0 : Option Addr) (c0_0 : Nat) (l0_0 : List Int) (A0_1 : Option Addr) (c0_1 : Nat) (l0_1 : List (List Int)) (A0_2 : Option Addr) (c0_2 : Nat) (l0_2 : List Int) (r : Bool) (w : World) (hr0_0 : Kd.C (Kd.int .i64) w A0_0 l0_0.length l0_0) (hc0_0 : l0_0.length ≤ c0_0) (hr0_1 : Kd.C (Kd.slice 3 (Kd.int .i64)) w A0_1 l0_1.length l0_1) (hc0_1 : l0_1.length ≤ c0_1) (hr0_2 : Kd.C (Kd.int .i64) w A0_2 l0_2.length l0_2) (hc0_2 : l0_2.length ≤ c0_2) (h : tickinglaw07_TestsGreedy.f k l0_0 l0_1 l0_2 = some r) (hTab : Tab w) :
  Calls Tryd.prog 5 #[.agg #[.slice A0_0 l0_0.length c0_0, .slice A0_1 l0_1.length c0_1, .slice A0_2 l0_2.length c0_2]] w fun e w' => e = .returned (.bool r) ∧ Below w.heap.size w w' := by
 have HTab := Aside0.mk hTab
 clear hTab
 have hu25 := Tryd.underlying25
 have hu53 := Tryd.underlying53
 have hu57 := Tryd.underlying57
 have HR0_0 := Aside0.mk hr0_0
 have HC0_0 := Aside0.mk hc0_0
 clear hr0_0 hc0_0
 have HR0_1 := Aside0.mk hr0_1
 have HC0_1 := Aside0.mk hc0_1
 clear hr0_1 hc0_1
 have HR0_2 := Aside0.mk hr0_2
 have HC0_2 := Aside0.mk hc0_2
 clear hr0_2 hc0_2
 have HB := Aside0.mk (Below.refl w.heap.size w)
 have H : ((tickinglaw07_own.f k l0_0 l0_1 l0_2).bind fun bt448 => ((tests_Greedy.f bt448.1 bt448.2.1 bt448.2.2).bind fun bt458 => ((tests_Alike.f k bt448.1 bt448.2.1 bt448.2.2).bind fun bt462 => ((tests_Cover.f bt448.1 bt448.2.1 bt448.2.2).bind fun bt466 => ((tickingref07_Case.f k bt448.1 bt448.2.1 bt448.2.2).bind fun t470 => (if t470 = true then ((tickingref07_Alike.f k bt448.1 bt448.2.1 bt448.2.2).bind fun t472 => (if (bt462.1.length : Int) = (t472.length : Int) then (tickinglaw07_TestsGreedy.j0 k bt458.1 bt458.2 bt462.1 bt466.1 bt466.2 t472 (bt462.2 != 0) bt448.1 bt448.2.1 bt448.2.2) else (tickinglaw07_TestsGreedy.j0 k bt458.1 bt458.2 bt462.1 bt466.1 bt466.2 t472 true bt448.1 bt448.2.1 bt448.2.2))) else (if (bt458.1.length : Int) = 0 then (if bt458.2 = 2 then (if (bt462.1.length : Int) = 0 then (if bt462.2 = 2 then (if (bt466.1.length : Int) = 0 then (if bt466.2 = 2 then ((tickinglaw07_awake.f k).bind fun t471 => (some t471)) else (some false)) else (some false)) else (some false)) else (some false)) else (some false)) else (some false)))))))) = some r := h
 clear h
 replace H := Option.bind_eq_some_iff.mp H
 obtain ⟨⟨t448, t451, t454⟩, A20, H⟩ := H
 replace H : ((tests_Greedy.f t448 t451 t454).bind fun bt458 => ((tests_Alike.f k t448 t451 t454).bind fun bt462 => ((tests_Cover.f t448 t451 t454).bind fun bt466 => ((tickingref07_Case.f k t448 t451 t454).bind fun t470 => (if t470 = true then ((tickingref07_Alike.f k t448 t451 t454).bind fun t472 => (if (bt462.1.length : Int) = (t472.length : Int) then (tickinglaw07_TestsGreedy.j0 k bt458.1 bt458.2 bt462.1 bt466.1 bt466.2 t472 (bt462.2 != 0) t448 t451 t454) else (tickinglaw07_TestsGreedy.j0 k bt458.1 bt458.2 bt462.1 bt466.1 bt466.2 t472 true t448 t451 t454))) else (if (bt458.1.length : Int) = 0 then (if bt458.2 = 2 then (if (bt462.1.length : Int) = 0 then (if bt462.2 = 2 then (if (bt466.1.length : Int) = 0 then (if bt466.2 = 2 then ((tickinglaw07_awake.f k).bind fun t471 => (some t471)) else (some false)) else (some false)) else (some false)) else (some false)) else (some false)) else (some false))))))) = some r := H
 have A2 := Aside0.mk A20
 clear A20
 replace H := Option.bind_eq_some_iff.mp H
 obtain ⟨⟨t458, t461⟩, A30, H⟩ := H
 replace H : ((tests_Alike.f k t448 t451 t454).bind fun bt462 => ((tests_Cover.f t448 t451 t454).bind fun bt466 => ((tickingref07_Case.f k t448 t451 t454).bind fun t470 => (if t470 = true then ((tickingref07_Alike.f k t448 t451 t454).bind fun t472 => (if (bt462.1.length : Int) = (t472.length : Int) then (tickinglaw07_TestsGreedy.j0 k t458 t461 bt462.1 bt466.1 bt466.2 t472 (bt462.2 != 0) t448 t451 t454) else (tickinglaw07_TestsGreedy.j0 k t458 t461 bt462.1 bt466.1 bt466.2 t472 true t448 t451 t454))) else (if (t458.length : Int) = 0 then (if t461 = 2 then (if (bt462.1.length : Int) = 0 then (if bt462.2 = 2 then (if (bt466.1.length : Int) = 0 then (if bt466.2 = 2 then ((tickinglaw07_awake.f k).bind fun t471 => (some t471)) else (some false)) else (some false)) else (some false)) else (some false)) else (some false)) else (some false)))))) = some r := H
 have A3 := Aside0.mk A30
 clear A30
 replace H := Option.bind_eq_some_iff.mp H
 obtain ⟨⟨t462, t465⟩, A40, H⟩ := H
 replace H : ((tests_Cover.f t448 t451 t454).bind fun bt466 => ((tickingref07_Case.f k t448 t451 t454).bind fun t470 => (if t470 = true then ((tickingref07_Alike.f k t448 t451 t454).bind fun t472 => (if (t462.length : Int) = (t472.length : Int) then (tickinglaw07_TestsGreedy.j0 k t458 t461 t462 bt466.1 bt466.2 t472 (t465 != 0) t448 t451 t454) else (tickinglaw07_TestsGreedy.j0 k t458 t461 t462 bt466.1 bt466.2 t472 true t448 t451 t454))) else (if (t458.length : Int) = 0 then (if t461 = 2 then (if (t462.length : Int) = 0 then (if t465 = 2 then (if (bt466.1.length : Int) = 0 then (if bt466.2 = 2 then ((tickinglaw07_awake.f k).bind fun t471 => (some t471)) else (some false)) else (some false)) else (some false)) else (some false)) else (some false)) else (some false))))) = some r := H
 have A4 := Aside0.mk A40
 clear A40
 replace H := Option.bind_eq_some_iff.mp H
 obtain ⟨⟨t466, t469⟩, A50, H⟩ := H
 replace H : ((tickingref07_Case.f k t448 t451 t454).bind fun t470 => (if t470 = true then ((tickingref07_Alike.f k t448 t451 t454).bind fun t472 => (if (t462.length : Int) = (t472.length : Int) then (tickinglaw07_TestsGreedy.j0 k t458 t461 t462 t466 t469 t472 (t465 != 0) t448 t451 t454) else (tickinglaw07_TestsGreedy.j0 k t458 t461 t462 t466 t469 t472 true t448 t451 t454))) else (if (t458.length : Int) = 0 then (if t461 = 2 then (if (t462.length : Int) = 0 then (if t465 = 2 then (if (t466.length : Int) = 0 then (if t469 = 2 then ((tickinglaw07_awake.f k).bind fun t471 => (some t471)) else (some false)) else (some false)) else (some false)) else (some false)) else (some false)) else (some false)))) = some r := H
 have A5 := Aside0.mk A50
 clear A50
 replace H := Option.bind_eq_some_iff.mp H
 obtain ⟨t470, A60, H⟩ := H
 replace H : (if t470 = true then ((tickingref07_Alike.f k t448 t451 t454).bind fun t472 => (if (t462.length : Int) = (t472.length : Int) then (tickinglaw07_TestsGreedy.j0 k t458 t461 t462 t466 t469 t472 (t465 != 0) t448 t451 t454) else (tickinglaw07_TestsGreedy.j0 k t458 t461 t462 t466 t469 t472 true t448 t451 t454))) else (if (t458.length : Int) = 0 then (if t461 = 2 then (if (t462.length : Int) = 0 then (if t465 = 2 then (if (t466.length : Int) = 0 then (if t469 = 2 then ((tickinglaw07_awake.f k).bind fun t471 => (some t471)) else (some false)) else (some false)) else (some false)) else (some false)) else (some false)) else (some false))) = some r := H
 have A6 := Aside0.mk A60
 clear A60
 go_enter Tryd.func5, Tryd.ntmps5
 go_wp2_with (first | ((with_reducible refine gate_dst (N := 1) rfl ?_); (try (refine gate_guard (by rfl) ?_; dsimp only)); refine box_event ?hg (N := 1) ?hd (cs := #[.slice A0_0 l0_0.length c0_0, .slice A0_1 l0_1.length c0_1, .slice A0_2 l0_2.length c0_2]) (t := 25) ?hr ?_; (case hd => rfl); (case hg => rfl); (case hr => first | (go_simp; done) | (go_simp; rfl)); intro gb447 hg w10 hbox hb; have n0_ := Aside0.mk (below_step bz hb); have n1_ := Aside0.mk (hbox); have n2_ := Aside0.mk ((by rw [hg]; exact (below_size bz) : w.heap.size ≤ gb447)); have n3_ := Aside0.mk ((by rw [hg]; exact (below_size bz) : w.heap.size ≤ gb447)); clear HB; have HB := n0_; have BK447 := n1_; have GW447 := n2_; have GE447 := n3_; clear n0_ n1_ n2_ n3_; clear hb hbox hg; have hcz11_0 : w10.cell? ⟨gb447, 0, none⟩ = some (.slice A0_0 l0_0.length c0_0) := (blk_cell BK447.out 0).trans rfl; have hcz11_1 : w10.cell? ⟨gb447, 1, none⟩ = some (.slice A0_1 l0_1.length c0_1) := (blk_cell BK447.out 1).trans rfl; have hcz11_2 : w10.cell? ⟨gb447, 2, none⟩ = some (.slice A0_2 l0_2.length c0_2) := (blk_cell BK447.out 2).trans rfl; have hfz11_0 := blk_frozen BK447.out 0; have hfz11_1 := blk_frozen BK447.out 1; have hfz11_2 := blk_frozen BK447.out 2) | ((with_reducible refine gate_callee (f := 13) rfl ?_); refine goesL_ (some 17) rfl rfl Tryd.func13 (by kernel_rfl) rfl #[.agg #[.slice A0_0 l0_0.length c0_0, .slice A0_1 l0_1.length c0_1, .slice A0_2 l0_2.length c0_2]] rfl dz ?_; (with_reducible refine (tickinglaw07_own.calls k _ _ l0_0 _ _ l0_1 _ _ l0_2 t448 t451 t454 _ ?side1 ?side2 ?side3 ?side4 ?side5 ?side6 A2.out).mono ?_); (case side1 => exact cz ((Kd.C_below HR0_0.out HB.out))); (case side2 => exact HC0_0.out); (case side3 => exact cz ((Kd.C_below HR0_1.out HB.out))); (case side4 => exact HC0_1.out); (case side5 => exact cz ((Kd.C_below HR0_2.out HB.out))); (case side6 => exact HC0_2.out); rintro e w12 ⟨v449, v452, v455, rfl, ho0, ho1, ho2, hb⟩; refine ⟨_, rfl, ?_⟩; have n0_ := Aside0.mk (Kd.R_lower ho0 (below_size bz)); have n1_ := Aside0.mk (Kd.S_lower ho1 (below_size bz)); have n2_ := Aside0.mk (Kd.R_lower ho2 (below_size bz)); have n3_ := Aside0.mk (kb BK447.out hb); have n4_ := Aside0.mk (below_step bz hb); clear BK447; clear HB; have HO450 := n0_; have HO453 := n1_; have HO456 := n2_; have BK447 := n3_; have HB := n4_; clear n0_ n1_ n2_ n3_ n4_; (try clear hb); (try clear hb2); (try clear hk); (try clear hi); (try clear ho0); (try clear ho1); (try clear ho2)) | ((with_reducible refine gate_dst (N := 3) rfl ?_); (try (refine gate_guard (by rfl) ?_; dsimp only)); refine box_event ?hg (N := 3) ?hd (cs := #[.slice none 0 0, .slice none 0 0, .slice none 0 0]) (t := 25) ?hr ?_; (case hd => rfl); (case hg => rfl); (case hr => first | (go_simp; done) | (go_simp; rfl)); intro gb457 hg w13 hbox hb; have n0_ := Aside0.mk (Kd.R_below (rz HO450.out) hb); have n1_ := Aside0.mk (Kd.S_below (sz HO453.out) hb); have n2_ := Aside0.mk (Kd.R_below (rz HO456.out) hb); have n3_ := Aside0.mk (kb BK447.out hb); have n4_ := Aside0.mk (below_step bz hb); have n5_ := Aside0.mk (hbox); have n6_ := Aside0.mk ((by rw [hg]; exact (below_size bz) : w.heap.size ≤ gb457)); have n7_ := Aside0.mk ((by rw [hg]; exact (below_size bz) : w.heap.size ≤ gb457)); have n8_ := Aside0.mk ((by rw [hg]; exact Nat.ne_of_lt (kl BK447.out) : gb447 ≠ gb457)); have n9_ := Aside0.mk ((by rw [hg]; exact Nat.ne_of_gt (kl BK447.out) : gb457 ≠ gb447)); clear HO450; clear HO453; clear HO456; clear BK447; clear HB; have HO450 := n0_; have HO453 := n1_; have HO456 := n2_; have BK447 := n3_; have HB := n4_; have BK457 := n5_; have GW457 := n6_; have GE457 := n7_; have NB447_457 := n8_; have NB457_447 := n9_; clear n0_ n1_ n2_ n3_ n4_ n5_ n6_ n7_ n8_ n9_; clear hb hbox hg; obtain ⟨Ao14, co14, eo14⟩ := Kd.R_slice HO450.out; subst eo14; have hnb15 := NB457_447.out; have hnc15 := NB447_457.out; have hcz16_0 : w13.cell? ⟨gb457, 0, none⟩ = some (.slice none 0 0) := (blk_cell BK457.out 0).trans rfl; have hcz16_1 : w13.cell? ⟨gb457, 1, none⟩ = some (.slice none 0 0) := (blk_cell BK457.out 1).trans rfl; have hcz16_2 : w13.cell? ⟨gb457, 2, none⟩ = some (.slice none 0 0) := (blk_cell BK457.out 2).trans rfl; have hfz16_0 := blk_frozen BK457.out 0; have hfz16_1 := blk_frozen BK457.out 1; have hfz16_2 := blk_frozen BK457.out 2; obtain ⟨Ao17, co17, eo17⟩ := Kd.S_slice HO453.out; subst eo17; obtain ⟨Ao18, co18, eo18⟩ := Kd.R_slice HO456.out; subst eo18) | ((with_reducible refine gate_callee (f := 26) rfl ?_); refine goesL_ (some 20) rfl rfl Tryd.func26 (by kernel_rfl) rfl #[.agg #[.slice Ao14 t448.length co14, .slice Ao17 t451.length co17, .slice Ao18 t454.length co18]] rfl dz ?_; (with_reducible refine (tests_Greedy.calls _ _ t448 _ _ t451 _ _ t454 t458 t461 _ ?side1 ?side2 ?side3 ?side4 ?side5 ?side6 A3.out ?sideT).mono ?_); (case sideT => exact HTab.out.below bz); (case side1 => refine (Kd.R_reads' (e := 3) (base := w.heap.size) (ok := fun k_ => some k_ ≠ (.slice Ao18 t454.length co18 : Value).ownBlock) (n := t448.length) (c := co14) ?_).2.2; exact (by (with_reducible repeat (first | apply Kd.R_alloc | apply Kd.R_drewN | apply Kd.R_drew)); exact (Kd.R_mono (Kd.R_far (p := ⟨gb457, 2, none⟩) (Kd.R_far (p := ⟨gb457, 1, none⟩) (Kd.R_far (p := ⟨gb457, 0, none⟩) (Kd.R_types HO450.out BK457.out (by decide)) (fun _ hk => hk.2) (.slice Ao14 t448.length co14)) (fun _ hk => hk.2) (.slice Ao17 t451.length co17)) (fun _ hk => hk.2) (.slice Ao18 t454.length co18)) (fun _ h_ => h_.1)))); (case side2 => exact (Kd.R_reads' HO450.out).2.1); (case side3 => refine (Kd.S_reads' (e := 22) (base := w.heap.size) (ok := fun k_ => (some k_ ≠ (.slice Ao14 t448.length co14 : Value).ownBlock ∧ some k_ ≠ (.slice Ao18 t454.length co18 : Value).ownBlock)) (n := t451.length) (c := co17) ?_).2.2; exact (by (with_reducible repeat (first | apply Kd.S_alloc | apply Kd.S_drewN | apply Kd.S_drew)); exact (Kd.S_mono (Kd.S_far (p := ⟨gb457, 2, none⟩) (Kd.S_far (p := ⟨gb457, 1, none⟩) (Kd.S_far (p := ⟨gb457, 0, none⟩) (Kd.S_types HO453.out BK457.out (by decide)) (fun _ hk => hk.2) (.slice Ao14 t448.length co14)) (fun _ hk => hk.2) (.slice Ao17 t451.length co17)) (fun _ hk => hk.2) (.slice Ao18 t454.length co18)) (fun _ h_ => h_.1)))); (case side4 => exact (Kd.S_reads' HO453.out).2.1); (case side5 => refine (Kd.R_reads' (e := 3) (base := w.heap.size) (ok := fun k_ => some k_ ≠ (.slice Ao14 t448.length co14 : Value).ownBlock) (n := t454.length) (c := co18) ?_).2.2; exact (by (with_reducible repeat (first | apply Kd.R_alloc | apply Kd.R_drewN | apply Kd.R_drew)); exact (Kd.R_mono (Kd.R_far (p := ⟨gb457, 2, none⟩) (Kd.R_far (p := ⟨gb457, 1, none⟩) (Kd.R_far (p := ⟨gb457, 0, none⟩) (Kd.R_types HO456.out BK457.out (by decide)) (fun _ hk => hk.2) (.slice Ao14 t448.length co14)) (fun _ hk => hk.2) (.slice Ao17 t451.length co17)) (fun _ hk => hk.2) (.slice Ao18 t454.length co18)) (fun _ h_ => h_.1)))); (case side6 => exact (Kd.R_reads' HO456.out).2.1); rintro e w19 ⟨v459, rfl, ho0, hb⟩; refine ⟨_, rfl, ?_⟩; have n0_ := Aside0.mk (Kd.R_below (by (with_reducible repeat (first | apply Kd.R_alloc | apply Kd.R_drewN | apply Kd.R_drew)); exact (Kd.R_mono (Kd.R_far (p := ⟨gb457, 2, none⟩) (Kd.R_far (p := ⟨gb457, 1, none⟩) (Kd.R_far (p := ⟨gb457, 0, none⟩) (Kd.R_types HO450.out BK457.out (by decide)) (fun _ hk => hk.2) (.slice Ao14 t448.length co14)) (fun _ hk => hk.2) (.slice Ao17 t451.length co17)) (fun _ hk => hk.2) (.slice Ao18 t454.length co18)) (fun _ h_ => h_.1))) hb); have n1_ := Aside0.mk (Kd.S_below (by (with_reducible repeat (first | apply Kd.S_alloc | apply Kd.S_drewN | apply Kd.S_drew)); exact (Kd.S_mono (Kd.S_far (p := ⟨gb457, 2, none⟩) (Kd.S_far (p := ⟨gb457, 1, none⟩) (Kd.S_far (p := ⟨gb457, 0, none⟩) (Kd.S_types HO453.out BK457.out (by decide)) (fun _ hk => hk.2) (.slice Ao14 t448.length co14)) (fun _ hk => hk.2) (.slice Ao17 t451.length co17)) (fun _ hk => hk.2) (.slice Ao18 t454.length co18)) (fun _ h_ => h_.1))) hb); have n2_ := Aside0.mk (Kd.R_below (by (with_reducible repeat (first | apply Kd.R_alloc | apply Kd.R_drewN | apply Kd.R_drew)); exact (Kd.R_mono (Kd.R_far (p := ⟨gb457, 2, none⟩) (Kd.R_far (p := ⟨gb457, 1, none⟩) (Kd.R_far (p := ⟨gb457, 0, none⟩) (Kd.R_types HO456.out BK457.out (by decide)) (fun _ hk => hk.2) (.slice Ao14 t448.length co14)) (fun _ hk => hk.2) (.slice Ao17 t451.length co17)) (fun _ hk => hk.2) (.slice Ao18 t454.length co18)) (fun _ h_ => h_.1))) hb); have n3_ := Aside0.mk (Kd.R_lower ho0 (below_size bz)); have n4_ := Aside0.mk (blk_below (g := gb447) (o := .cells #[.slice A0_0 l0_0.length c0_0, .slice A0_1 l0_1.length c0_1, .slice A0_2 l0_2.length c0_2] 25 (0, 0)) (by (with_reducible repeat (first | refine blk_drewN ?_ _ | refine blk_drew ?_ | refine blk_alloc ?_ _)); refine blk_far ?_ NB447_457.out _; (with_reducible repeat (first | refine blk_drewN ?_ _ | refine blk_drew ?_ | refine blk_alloc ?_ _)); refine blk_far ?_ NB447_457.out _; (with_reducible repeat (first | refine blk_drewN ?_ _ | refine blk_drew ?_ | refine blk_alloc ?_ _)); refine blk_far ?_ NB447_457.out _; (with_reducible repeat (first | refine blk_drewN ?_ _ | refine blk_drew ?_ | refine blk_alloc ?_ _)); exact BK447.out) hb); have n5_ := Aside0.mk (blk_below (g := gb457) (o := .cells #[.slice Ao14 t448.length co14, .slice Ao17 t451.length co17, .slice Ao18 t454.length co18] 25 (0, 0)) (by (with_reducible repeat (first | refine blk_drewN ?_ _ | refine blk_drew ?_ | refine blk_alloc ?_ _)); refine blk_put (cs := #[.slice Ao14 t448.length co14, .slice Ao17 t451.length co17, .slice none 0 0]) ?_ 2 _ rfl; (with_reducible repeat (first | refine blk_drewN ?_ _ | refine blk_drew ?_ | refine blk_alloc ?_ _)); refine blk_put (cs := #[.slice Ao14 t448.length co14, .slice none 0 0, .slice none 0 0]) ?_ 1 _ rfl; (with_reducible repeat (first | refine blk_drewN ?_ _ | refine blk_drew ?_ | refine blk_alloc ?_ _)); refine blk_put (cs := #[.slice none 0 0, .slice none 0 0, .slice none 0 0]) ?_ 0 _ rfl; (with_reducible repeat (first | refine blk_drewN ?_ _ | refine blk_drew ?_ | refine blk_alloc ?_ _)); exact BK457.out) hb); have n6_ := Aside0.mk (below_step bz hb); clear HO450; clear HO453; clear HO456; clear BK447; clear BK457; clear HB; have HO450 := n0_; have HO453 := n1_; have HO456 := n2_; have HO460 := n3_; have BK447 := n4_; have BK457 := n5_; have HB := n6_; clear n0_ n1_ n2_ n3_ n4_ n5_ n6_; (try clear hb); (try clear hb2); (try clear hk); (try clear hi); (try clear ho0); have hcz20_0 : w19.cell? ⟨gb457, 0, none⟩ = some (.slice Ao14 t448.length co14) := (blk_cell BK457.out 0).trans rfl; have hcz20_1 : w19.cell? ⟨gb457, 1, none⟩ = some (.slice Ao17 t451.length co17) := (blk_cell BK457.out 1).trans rfl; have hcz20_2 : w19.cell? ⟨gb457, 2, none⟩ = some (.slice Ao18 t454.length co18) := (blk_cell BK457.out 2).trans rfl; have hfz20_0 := blk_frozen BK457.out 0; have hfz20_1 := blk_frozen BK457.out 1; have hfz20_2 := blk_frozen BK457.out 2) | ((with_reducible refine gate_callee (f := 27) rfl ?_); refine goesL_ (some 25) rfl rfl Tryd.func27 (by kernel_rfl) rfl #[.agg #[.slice Ao14 t448.length co14, .slice Ao17 t451.length co17, .slice Ao18 t454.length co18]] rfl dz ?_; (with_reducible refine (tests_Alike.calls k _ _ t448 _ _ t451 _ _ t454 t462 t465 _ ?side1 ?side2 ?side3 ?side4 ?side5 ?side6 A4.out).mono ?_); (case side1 => exact cz ((Kd.R_reads' HO450.out).2.2)); (case side2 => exact (Kd.R_reads' HO450.out).2.1); (case side3 => exact cz ((Kd.S_reads' HO453.out).2.2)); (case side4 => exact (Kd.S_reads' HO453.out).2.1); (case side5 => exact cz ((Kd.R_reads' HO456.out).2.2)); (case side6 => exact (Kd.R_reads' HO456.out).2.1); rintro e w21 ⟨v463, rfl, ho0, hb⟩; refine ⟨_, rfl, ?_⟩; have n0_ := Aside0.mk (Kd.R_below (rz HO450.out) hb); have n1_ := Aside0.mk (Kd.S_below (sz HO453.out) hb); have n2_ := Aside0.mk (Kd.R_below (rz HO456.out) hb); have n3_ := Aside0.mk (Kd.R_below (rz HO460.out) hb); have n4_ := Aside0.mk (Kd.R_lower ho0 (below_size bz)); have n5_ := Aside0.mk (kb BK447.out hb); have n6_ := Aside0.mk (kb BK457.out hb); have n7_ := Aside0.mk (below_step bz hb); clear HO450; clear HO453; clear HO456; clear HO460; clear BK447; clear BK457; clear HB; have HO450 := n0_; have HO453 := n1_; have HO456 := n2_; have HO460 := n3_; have HO464 := n4_; have BK447 := n5_; have BK457 := n6_; have HB := n7_; clear n0_ n1_ n2_ n3_ n4_ n5_ n6_ n7_; (try clear hb); (try clear hb2); (try clear hk); (try clear hi); (try clear ho0); have hcz22_0 : w21.cell? ⟨gb457, 0, none⟩ = some (.slice Ao14 t448.length co14) := (blk_cell BK457.out 0).trans rfl; have hcz22_1 : w21.cell? ⟨gb457, 1, none⟩ = some (.slice Ao17 t451.length co17) := (blk_cell BK457.out 1).trans rfl; have hcz22_2 : w21.cell? ⟨gb457, 2, none⟩ = some (.slice Ao18 t454.length co18) := (blk_cell BK457.out 2).trans rfl; have hfz22_0 := blk_frozen BK457.out 0; have hfz22_1 := blk_frozen BK457.out 1; have hfz22_2 := blk_frozen BK457.out 2) | ((with_reducible refine gate_callee (f := 28) rfl ?_); refine goesL_ (some 30) rfl rfl Tryd.func28 (by kernel_rfl) rfl #[.agg #[.slice Ao14 t448.length co14, .slice Ao17 t451.length co17, .slice Ao18 t454.length co18]] rfl dz ?_; (with_reducible refine (tests_Cover.calls _ _ t448 _ _ t451 _ _ t454 t466 t469 _ ?side1 ?side2 ?side3 ?side4 ?side5 ?side6 A5.out).mono ?_); (case side1 => exact cz ((Kd.R_reads' HO450.out).2.2)); (case side2 => exact (Kd.R_reads' HO450.out).2.1); (case side3 => exact cz ((Kd.S_reads' HO453.out).2.2)); (case side4 => exact (Kd.S_reads' HO453.out).2.1); (case side5 => exact cz ((Kd.R_reads' HO456.out).2.2)); (case side6 => exact (Kd.R_reads' HO456.out).2.1); rintro e w23 ⟨v467, rfl, ho0, hb⟩; refine ⟨_, rfl, ?_⟩; have n0_ := Aside0.mk (Kd.R_elder' (rz HO450.out) (Kd.R_base ho0) hb); have n1_ := Aside0.mk (Kd.S_elder' (sz HO453.out) (Kd.R_base ho0) hb); have n2_ := Aside0.mk (Kd.R_elder' (rz HO456.out) (Kd.R_base ho0) hb); have n3_ := Aside0.mk (Kd.R_below (rz HO460.out) hb); have n4_ := Aside0.mk (Kd.R_below (rz HO464.out) hb); have n5_ := Aside0.mk (Kd.R_lower (Kd.R_new' (Kd.R_new' ho0 (Kd.R_lt (rz HO450.out))) (Kd.R_lt (rz HO456.out))) (below_size bz)); have n6_ := Aside0.mk (kb BK447.out hb); have n7_ := Aside0.mk (kb BK457.out hb); have n8_ := Aside0.mk (below_step bz hb); clear HO450; clear HO453; clear HO456; clear HO460; clear HO464; clear BK447; clear BK457; clear HB; have HO450 := n0_; have HO453 := n1_; have HO456 := n2_; have HO460 := n3_; have HO464 := n4_; have HO468 := n5_; have BK447 := n6_; have BK457 := n7_; have HB := n8_; clear n0_ n1_ n2_ n3_ n4_ n5_ n6_ n7_ n8_; (try clear hb); (try clear hb2); (try clear hk); (try clear hi); (try clear ho0); have hcz24_0 : w23.cell? ⟨gb457, 0, none⟩ = some (.slice Ao14 t448.length co14) := (blk_cell BK457.out 0).trans rfl; have hcz24_1 : w23.cell? ⟨gb457, 1, none⟩ = some (.slice Ao17 t451.length co17) := (blk_cell BK457.out 1).trans rfl; have hcz24_2 : w23.cell? ⟨gb457, 2, none⟩ = some (.slice Ao18 t454.length co18) := (blk_cell BK457.out 2).trans rfl; have hfz24_0 := blk_frozen BK457.out 0; have hfz24_1 := blk_frozen BK457.out 1; have hfz24_2 := blk_frozen BK457.out 2; refine hold_ ?_; intro P_ hP_))
 refine hP_.out ?_
 clear hP_ P_
 by_cases c7 : t470 = true
 ·subst c7
  have H1 : ((tickingref07_Alike.f k t448 t451 t454).bind fun t472 => (if (t462.length : Int) = (t472.length : Int) then (tickinglaw07_TestsGreedy.j0 k t458 t461 t462 t466 t469 t472 (t465 != 0) t448 t451 t454) else (tickinglaw07_TestsGreedy.j0 k t458 t461 t462 t466 t469 t472 true t448 t451 t454))) = some r := by rw [if_pos rfl] at H; exact H
  clear H
  have H := H1
  clear H1
  replace H := Option.bind_eq_some_iff.mp H
  obtain ⟨t472, A80, H⟩ := H
  replace H : (if (t462.length : Int) = (t472.length : Int) then (tickinglaw07_TestsGreedy.j0 k t458 t461 t462 t466 t469 t472 (t465 != 0) t448 t451 t454) else (tickinglaw07_TestsGreedy.j0 k t458 t461 t462 t466 t469 t472 true t448 t451 t454)) = some r := H
  have A8 := Aside0.mk A80
  clear A80
  have HC9 := Aside0.mk H
  clear H
  go_upto_region 8 with (first | ((with_reducible refine gate_callee (f := 16) rfl ?_); refine goesL_ (some 34) rfl rfl Tryd.func16 (by kernel_rfl) rfl #[.agg #[.slice Ao14 t448.length co14, .slice Ao17 t451.length co17, .slice Ao18 t454.length co18]] rfl dz ?_; (with_reducible refine (tickingref07_Case.calls k _ _ t448 _ _ t451 _ _ t454 true _ ?side1 ?side2 ?side3 ?side4 ?side5 ?side6 A6.out).mono ?_); (case side1 => exact cz ((Kd.R_reads' HO450.out).2.2)); (case side2 => exact (Kd.R_reads' HO450.out).2.1); (case side3 => exact cz ((Kd.S_reads' HO453.out).2.2)); (case side4 => exact (Kd.S_reads' HO453.out).2.1); (case side5 => exact cz ((Kd.R_reads' HO456.out).2.2)); (case side6 => exact (Kd.R_reads' HO456.out).2.1); rintro e w25 ⟨rfl, hb⟩; refine ⟨_, rfl, ?_⟩; have n0_ := Aside0.mk (Kd.R_below (rz HO450.out) hb); have n1_ := Aside0.mk (Kd.S_below (sz HO453.out) hb); have n2_ := Aside0.mk (Kd.R_below (rz HO456.out) hb); have n3_ := Aside0.mk (Kd.R_below (rz HO460.out) hb); have n4_ := Aside0.mk (Kd.R_below (rz HO464.out) hb); have n5_ := Aside0.mk (Kd.R_below (rz HO468.out) hb); have n6_ := Aside0.mk (kb BK447.out hb); have n7_ := Aside0.mk (kb BK457.out hb); have n8_ := Aside0.mk (below_step bz hb); clear HO450; clear HO453; clear HO456; clear HO460; clear HO464; clear HO468; clear BK447; clear BK457; clear HB; have HO450 := n0_; have HO453 := n1_; have HO456 := n2_; have HO460 := n3_; have HO464 := n4_; have HO468 := n5_; have BK447 := n6_; have BK457 := n7_; have HB := n8_; clear n0_ n1_ n2_ n3_ n4_ n5_ n6_ n7_ n8_; (try clear hb); (try clear hb2); (try clear hk); (try clear hi); have hcz26_0 : w25.cell? ⟨gb457, 0, none⟩ = some (.slice Ao14 t448.length co14) := (blk_cell BK457.out 0).trans rfl; have hcz26_1 : w25.cell? ⟨gb457, 1, none⟩ = some (.slice Ao17 t451.length co17) := (blk_cell BK457.out 1).trans rfl; have hcz26_2 : w25.cell? ⟨gb457, 2, none⟩ = some (.slice Ao18 t454.length co18) := (blk_cell BK457.out 2).trans rfl; have hfz26_0 := blk_frozen BK457.out 0; have hfz26_1 := blk_frozen BK457.out 1; have hfz26_2 := blk_frozen BK457.out 2) | ((with_reducible refine gate_callee (f := 18) rfl ?_); refine goesL_ (some 65) rfl rfl Tryd.func18 (by kernel_rfl) rfl #[.agg #[.slice Ao14 t448.length co14, .slice Ao17 t451.length co17, .slice Ao18 t454.length co18]] rfl dz ?_; (with_reducible refine (tickingref07_Alike.calls k _ _ t448 _ _ t451 _ _ t454 t472 _ ?side1 ?side2 ?side3 ?side4 ?side5 ?side6 A8.out).mono ?_); (case side1 => exact cz ((Kd.R_reads' HO450.out).2.2)); (case side2 => exact (Kd.R_reads' HO450.out).2.1); (case side3 => exact cz ((Kd.S_reads' HO453.out).2.2)); (case side4 => exact (Kd.S_reads' HO453.out).2.1); (case side5 => exact cz ((Kd.R_reads' HO456.out).2.2)); (case side6 => exact (Kd.R_reads' HO456.out).2.1); rintro e w27 ⟨v473, rfl, ho0, hb⟩; refine ⟨_, rfl, ?_⟩; have n0_ := Aside0.mk (Kd.R_below (rz HO450.out) hb); have n1_ := Aside0.mk (Kd.S_below (sz HO453.out) hb); have n2_ := Aside0.mk (Kd.R_below (rz HO456.out) hb); have n3_ := Aside0.mk (Kd.R_below (rz HO460.out) hb); have n4_ := Aside0.mk (Kd.R_elder' (rz HO464.out) (Kd.R_base ho0) hb); have n5_ := Aside0.mk (Kd.R_below (rz HO468.out) hb); have n6_ := Aside0.mk (Kd.R_lower (Kd.R_new' ho0 (Kd.R_lt (rz HO464.out))) (below_size bz)); have n7_ := Aside0.mk (kb BK447.out hb); have n8_ := Aside0.mk (kb BK457.out hb); have n9_ := Aside0.mk (below_step bz hb); clear HO450; clear HO453; clear HO456; clear HO460; clear HO464; clear HO468; clear BK447; clear BK457; clear HB; have HO450 := n0_; have HO453 := n1_; have HO456 := n2_; have HO460 := n3_; have HO464 := n4_; have HO468 := n5_; have HO474 := n6_; have BK447 := n7_; have BK457 := n8_; have HB := n9_; clear n0_ n1_ n2_ n3_ n4_ n5_ n6_ n7_ n8_ n9_; (try clear hb); (try clear hb2); (try clear hk); (try clear hi); (try clear ho0)))
  (try simp only [Act.put, List.setIfInBounds_toArray, List.set_cons_zero, List.set_cons_succ])
  go_cut [74] (fun v74 wc => ∃ (kq : Nat) (x74_8 : Bool), v74 = .bool x74_8 ∧ Aside0 (tickinglaw07_TestsGreedy.j0 kq t458 t461 t462 t466 t469 t472 x74_8 t448 t451 t454 = some r) ∧ Aside0 (kq ≤ k) ∧ Aside0 (Kd.R k57 57 wc w.heap.size (fun _ => True) v459 t458) ∧ Aside0 (Kd.R k53 53 wc w.heap.size (fun k_ => some k_ ≠ (v473 : Value).ownBlock) v463 t462) ∧ Aside0 (Kd.R (Kd.int .i64) 3 wc w.heap.size (fun k_ => some k_ ≠ ((.slice Ao14 t448.length co14) : Value).ownBlock ∧ some k_ ≠ ((.slice Ao18 t454.length co18) : Value).ownBlock) v467 t466) ∧ Aside0 (Kd.R k53 53 wc w.heap.size (fun k_ => some k_ ≠ (v463 : Value).ownBlock) v473 t472) ∧ Aside0 (Kd.R (Kd.int .i64) 3 wc w.heap.size (fun k_ => some k_ ≠ (v467 : Value).ownBlock ∧ some k_ ≠ ((.slice Ao18 t454.length co18) : Value).ownBlock) (.slice Ao14 t448.length co14) t448) ∧ Aside0 (Kd.S (Kd.slice 3 (Kd.int .i64)) 22 wc w.heap.size (fun k_ => some k_ ≠ (v467 : Value).ownBlock ∧ some k_ ≠ ((.slice Ao14 t448.length co14) : Value).ownBlock ∧ some k_ ≠ ((.slice Ao18 t454.length co18) : Value).ownBlock) (.slice Ao17 t451.length co17) t451) ∧ Aside0 (Kd.R (Kd.int .i64) 3 wc w.heap.size (fun k_ => some k_ ≠ (v467 : Value).ownBlock ∧ some k_ ≠ ((.slice Ao14 t448.length co14) : Value).ownBlock) (.slice Ao18 t454.length co18) t454) ∧ Aside0 (wc.heap[gb447]? = some (.cells #[(.slice A0_0 l0_0.length c0_0), (.slice A0_1 l0_1.length c0_1), (.slice A0_2 l0_2.length c0_2)] 25 (0, 0))) ∧ Aside0 (wc.heap[gb457]? = some (.cells #[(.slice Ao14 t448.length co14), (.slice Ao17 t451.length co17), (.slice Ao18 t454.length co18)] 25 (0, 0))) ∧ Aside0 (Below w.heap.size w wc))
  case first =>
   have H := HC9.out
   clear HC9
   by_cases c28 : (t462.length : Int) = (t472.length : Int)
   ·rw [if_pos c28] at H
    have c28b0 : ((t462.length : Int) == (t472.length : Int)) = true := beq_iff_eq.mpr c28
    have c28b1 : ((t462.length : Int) != (t472.length : Int)) = false := bne_eq_false_iff_eq.mpr c28
    have c28b2 : (t462.length == t472.length) = true := by first | simpa using c28 | (simp at c28 ⊢; omega)
    clear c28
    (first | rw [c28b0] | (simp only [i64_w, i32_w]; rw [c28b0]) | skip)
    have H' := Aside0.mk H
    clear H
    obtain ⟨Ao29, co29, eo29⟩ := Kd.R_slice HO464.out
    subst eo29
    obtain ⟨Ao30, co30, eo30⟩ := Kd.R_slice HO474.out
    subst eo30
    go_wp2
    go_meet
    case rel => exact ⟨_, ((t465 != 0)), (by first | rfl | (simp; done) | (simp [*]; done)), H', ⟨by first | omega | exact Nat.le_refl _⟩, ⟨by (with_reducible repeat (first | apply Kd.R_alloc | apply Kd.R_drewN | apply Kd.R_drew)); exact HO460.out⟩, ⟨by (with_reducible repeat (first | apply Kd.R_alloc | apply Kd.R_drewN | apply Kd.R_drew)); exact Kd.R_mono HO464.out (fun _ hk => hk.2)⟩, ⟨by (with_reducible repeat (first | apply Kd.R_alloc | apply Kd.R_drewN | apply Kd.R_drew)); exact Kd.R_mono HO468.out (fun _ hk => ⟨hk.1.2, hk.2⟩)⟩, ⟨by (with_reducible repeat (first | apply Kd.R_alloc | apply Kd.R_drewN | apply Kd.R_drew)); exact Kd.R_mono HO474.out (fun _ hk => hk.2)⟩, ⟨by (with_reducible repeat (first | apply Kd.R_alloc | apply Kd.R_drewN | apply Kd.R_drew)); exact Kd.R_mono HO450.out (fun _ hk => ⟨hk.2, hk.1⟩)⟩, ⟨by (with_reducible repeat (first | apply Kd.S_alloc | apply Kd.S_drewN | apply Kd.S_drew)); exact Kd.S_mono HO453.out (fun _ hk => ⟨hk.2, ⟨hk.1.1, hk.1.2⟩⟩)⟩, ⟨by (with_reducible repeat (first | apply Kd.R_alloc | apply Kd.R_drewN | apply Kd.R_drew)); exact Kd.R_mono HO456.out (fun _ hk => ⟨hk.2, hk.1⟩)⟩, ⟨by (with_reducible repeat (first | refine blk_drewN ?_ _ | refine blk_drew ?_ | refine blk_alloc ?_ _)); exact BK447.out⟩, ⟨by (with_reducible repeat (first | refine blk_drewN ?_ _ | refine blk_drew ?_ | refine blk_alloc ?_ _)); exact BK457.out⟩, ⟨by repeat (first | (with_reducible first | exact HB.out | apply below_alloc | apply pw_below_drewN | apply below_drew1 | refine below_set ?_ GE447.out | refine below_set ?_ GE457.out) | exact HB.out)⟩⟩
   ·rw [if_neg c28] at H
    have c28b0 : ((t462.length : Int) == (t472.length : Int)) = false := beq_eq_false_iff_ne.mpr c28
    have c28b1 : ((t462.length : Int) != (t472.length : Int)) = true := bne_iff_ne.mpr c28
    have c28b2 : (t462.length == t472.length) = false := by first | simpa using c28 | (simp at c28 ⊢; omega)
    (first | rw [c28b0] | (simp only [i64_w, i32_w]; rw [c28b0]) | skip)
    have H' := Aside0.mk H
    clear H
    obtain ⟨Ao31, co31, eo31⟩ := Kd.R_slice HO464.out
    subst eo31
    obtain ⟨Ao32, co32, eo32⟩ := Kd.R_slice HO474.out
    subst eo32
    go_wp2
    go_meet
    case rel => exact ⟨_, (true), (by first | rfl | (simp; done) | (simp [*]; done)), H', ⟨by first | omega | exact Nat.le_refl _⟩, ⟨by (with_reducible repeat (first | apply Kd.R_alloc | apply Kd.R_drewN | apply Kd.R_drew)); exact HO460.out⟩, ⟨by (with_reducible repeat (first | apply Kd.R_alloc | apply Kd.R_drewN | apply Kd.R_drew)); exact Kd.R_mono HO464.out (fun _ hk => hk.2)⟩, ⟨by (with_reducible repeat (first | apply Kd.R_alloc | apply Kd.R_drewN | apply Kd.R_drew)); exact Kd.R_mono HO468.out (fun _ hk => ⟨hk.1.2, hk.2⟩)⟩, ⟨by (with_reducible repeat (first | apply Kd.R_alloc | apply Kd.R_drewN | apply Kd.R_drew)); exact Kd.R_mono HO474.out (fun _ hk => hk.2)⟩, ⟨by (with_reducible repeat (first | apply Kd.R_alloc | apply Kd.R_drewN | apply Kd.R_drew)); exact Kd.R_mono HO450.out (fun _ hk => ⟨hk.2, hk.1⟩)⟩, ⟨by (with_reducible repeat (first | apply Kd.S_alloc | apply Kd.S_drewN | apply Kd.S_drew)); exact Kd.S_mono HO453.out (fun _ hk => ⟨hk.2, ⟨hk.1.1, hk.1.2⟩⟩)⟩, ⟨by (with_reducible repeat (first | apply Kd.R_alloc | apply Kd.R_drewN | apply Kd.R_drew)); exact Kd.R_mono HO456.out (fun _ hk => ⟨hk.2, hk.1⟩)⟩, ⟨by (with_reducible repeat (first | refine blk_drewN ?_ _ | refine blk_drew ?_ | refine blk_alloc ?_ _)); exact BK447.out⟩, ⟨by (with_reducible repeat (first | refine blk_drewN ?_ _ | refine blk_drew ?_ | refine blk_alloc ?_ _)); exact BK457.out⟩, ⟨by repeat (first | (with_reducible first | exact HB.out | apply below_alloc | apply pw_below_drewN | apply below_drew1 | refine below_set ?_ GE447.out | refine below_set ?_ GE457.out) | exact HB.out)⟩⟩
  case rest =>
   clear HC9
   try clear c1
   try clear c2
   try clear p2
   try clear c5
   try clear c7
   try clear c13
   try clear c15
   try clear c16
   try clear c18
   try clear c26
   try clear c27
   try clear c28
   try clear c28b0
   try clear c28b1
   try clear c28b2
   try clear hcz11_0
   try clear hcz11_1
   try clear hcz11_2
   try clear hcz16_0
   try clear hcz16_1
   try clear hcz16_2
   try clear hcz20_0
   try clear hcz20_1
   try clear hcz20_2
   try clear hcz22_0
   try clear hcz22_1
   try clear hcz22_2
   try clear hcz24_0
   try clear hcz24_1
   try clear hcz24_2
   try clear hcz26_0
   try clear hcz26_1
   try clear hcz26_2
   try clear hfz11_0
   try clear hfz11_1
   try clear hfz11_2
   try clear hfz16_0
   try clear hfz16_1
   try clear hfz16_2
   try clear hfz20_0
   try clear hfz20_1
   try clear hfz20_2
   try clear hfz22_0
   try clear hfz22_1
   try clear hfz22_2
   try clear hfz24_0
   try clear hfz24_1
   try clear hfz24_2
   try clear hfz26_0
   try clear hfz26_1
   try clear hfz26_2
   obtain ⟨kq, x74_8, rfl, HA, HJ8, HO_4, HO_6, HO_8, HO_10, HO_458000, HO_458001, HO_458002, BK447, BK457, HB⟩ := hcut
   cases kq with
   | zero => exact absurd HA.out (by simp [tickinglaw07_TestsGreedy.j0])
   | succ kj8 =>
    have H := HA.out
    clear HA
    simp only [tickinglaw07_TestsGreedy.j0] at H
    by_cases c33 : x74_8 = true
    ·subst c33
     have H1 : (some false) = some r := by rw [if_pos rfl] at H; exact H
     clear H
     have H := H1
     clear H1
     obtain rfl := Option.some.inj H
     go_wp2
     go_ret
     exact ⟨by first | rfl | (simp [errW_none, errW_some] <;> rfl) | (simp [*, errW_none, errW_some] <;> rfl), by repeat (first | (with_reducible first | exact HB.out | apply below_alloc | apply pw_below_drewN | apply below_drew1 | refine below_set ?_ GE447.out | refine below_set ?_ GE457.out) | exact HB.out)⟩
    ·replace c33 := Bool.eq_false_iff.mpr c33
     subst c33
     have H1 : (tickinglaw07_TestsGreedy.l0 kj8 t458 t461 t462 t466 t469 t472 0 t448 t451 t454) = some r := by rw [if_neg (show ¬ (false = true) by decide)] at H; exact H
     clear H
     have H := H1
     clear H1
     have H' := Aside0.mk H
     clear H
     go_wp2
     go_loopg [11] kj8 (fun kq v11 w' => ∃ (x11_2 : Int), v11 = .int .i64 x11_2 ∧ Aside0 (tickinglaw07_TestsGreedy.l0 kq t458 t461 t462 t466 t469 t472 x11_2 t448 t451 t454 = some r) ∧ Aside0 (kq ≤ kj8) ∧ Aside0 (Kd.R k57 57 w' w.heap.size (fun _ => True) v459 t458) ∧ Aside0 (Kd.R k53 53 w' w.heap.size (fun k_ => some k_ ≠ (v473 : Value).ownBlock) v463 t462) ∧ Aside0 (Kd.R (Kd.int .i64) 3 w' w.heap.size (fun k_ => some k_ ≠ ((.slice Ao14 t448.length co14) : Value).ownBlock ∧ some k_ ≠ ((.slice Ao18 t454.length co18) : Value).ownBlock) v467 t466) ∧ Aside0 (Kd.R k53 53 w' w.heap.size (fun k_ => some k_ ≠ (v463 : Value).ownBlock) v473 t472) ∧ Aside0 (Kd.R (Kd.int .i64) 3 w' w.heap.size (fun k_ => some k_ ≠ (v467 : Value).ownBlock ∧ some k_ ≠ ((.slice Ao18 t454.length co18) : Value).ownBlock) (.slice Ao14 t448.length co14) t448) ∧ Aside0 (Kd.S (Kd.slice 3 (Kd.int .i64)) 22 w' w.heap.size (fun k_ => some k_ ≠ (v467 : Value).ownBlock ∧ some k_ ≠ ((.slice Ao14 t448.length co14) : Value).ownBlock ∧ some k_ ≠ ((.slice Ao18 t454.length co18) : Value).ownBlock) (.slice Ao17 t451.length co17) t451) ∧ Aside0 (Kd.R (Kd.int .i64) 3 w' w.heap.size (fun k_ => some k_ ≠ (v467 : Value).ownBlock ∧ some k_ ≠ ((.slice Ao14 t448.length co14) : Value).ownBlock) (.slice Ao18 t454.length co18) t454) ∧ Aside0 (w'.heap[gb447]? = some (.cells #[(.slice A0_0 l0_0.length c0_0), (.slice A0_1 l0_1.length c0_1), (.slice A0_2 l0_2.length c0_2)] 25 (0, 0))) ∧ Aside0 (w'.heap[gb457]? = some (.cells #[(.slice Ao14 t448.length co14), (.slice Ao17 t451.length co17), (.slice Ao18 t454.length co18)] 25 (0, 0))) ∧ Aside0 (Below w.heap.size w w'))
     case atStart => exact ⟨(0), (by first | rfl | (simp; done) | (simp [*]; done)), H', ⟨Nat.le_refl _⟩, ⟨by (with_reducible repeat (first | apply Kd.R_alloc | apply Kd.R_drewN | apply Kd.R_drew)); exact HO_4.out⟩, ⟨by (with_reducible repeat (first | apply Kd.R_alloc | apply Kd.R_drewN | apply Kd.R_drew)); exact HO_6.out⟩, ⟨by (with_reducible repeat (first | apply Kd.R_alloc | apply Kd.R_drewN | apply Kd.R_drew)); exact HO_8.out⟩, ⟨by (with_reducible repeat (first | apply Kd.R_alloc | apply Kd.R_drewN | apply Kd.R_drew)); exact HO_10.out⟩, ⟨by (with_reducible repeat (first | apply Kd.R_alloc | apply Kd.R_drewN | apply Kd.R_drew)); exact HO_458000.out⟩, ⟨by (with_reducible repeat (first | apply Kd.S_alloc | apply Kd.S_drewN | apply Kd.S_drew)); exact HO_458001.out⟩, ⟨by (with_reducible repeat (first | apply Kd.R_alloc | apply Kd.R_drewN | apply Kd.R_drew)); exact HO_458002.out⟩, ⟨by (with_reducible repeat (first | refine blk_drewN ?_ _ | refine blk_drew ?_ | refine blk_alloc ?_ _)); exact BK447.out⟩, ⟨by (with_reducible repeat (first | refine blk_drewN ?_ _ | refine blk_drew ?_ | refine blk_alloc ?_ _)); exact BK457.out⟩, ⟨by repeat (first | (with_reducible first | exact HB.out | apply below_alloc | apply pw_below_drewN | apply below_drew1 | refine below_set ?_ GE447.out | refine below_set ?_ GE457.out) | exact HB.out)⟩⟩
     case round =>
      clear H'
      try clear c1
      try clear c2
      try clear p2
      try clear c3
      try clear c5
      try clear c7
      try clear c13
      try clear c15
      try clear c16
      try clear c18
      try clear c26
      try clear c27
      try clear c28
      try clear c28b0
      try clear c28b1
      try clear c28b2
      try clear c33
      try clear hcz11_0
      try clear hcz11_1
      try clear hcz11_2
      try clear hcz16_0
      try clear hcz16_1
      try clear hcz16_2
      try clear hcz20_0
      try clear hcz20_1
      try clear hcz20_2
      try clear hcz22_0
      try clear hcz22_1
      try clear hcz22_2
      try clear hcz24_0
      try clear hcz24_1
      try clear hcz24_2
      try clear hcz26_0
      try clear hcz26_1
      try clear hcz26_2
      try clear hfz11_0
      try clear hfz11_1
      try clear hfz11_2
      try clear hfz16_0
      try clear hfz16_1
      try clear hfz16_2
      try clear hfz20_0
      try clear hfz20_1
      try clear hfz20_2
      try clear hfz22_0
      try clear hfz22_1
      try clear hfz22_2
      try clear hfz24_0
      try clear hfz24_1
      try clear hfz24_2
      try clear hfz26_0
      try clear hfz26_1
      try clear hfz26_2
      try clear p2
      obtain ⟨x11_2, rfl, HA, HK2, HO_4, HO_6, HO_8, HO_10, HO_458000, HO_458001, HO_458002, BK447, BK457, HB⟩ := hrel
      cases gk with
      | zero => exact absurd HA.out (by simp [tickinglaw07_TestsGreedy.l0])
      | succ k2 =>
       have H := HA.out
       clear HA
       simp only [tickinglaw07_TestsGreedy.l0] at H
       by_cases c34 : x11_2 < (t462.length : Int)
       ·rw [if_pos c34] at H
        have c34b0 : decide (x11_2 < (t462.length : Int)) = true := decide_eq_true c34
        clear c34
        by_cases c35 : 0 ≤ x11_2
        ·rw [if_pos c35] at H
         have c35b0 : decide (0 ≤ x11_2) = true := decide_eq_true c35
         clear c35
         by_cases c36 : x11_2 < (t472.length : Int)
         ·rw [if_pos c36] at H
          have c36b0 : decide (x11_2 < (t472.length : Int)) = true := decide_eq_true c36
          clear c36
          by_cases c37 : (!(((rd_T53 t462 x11_2).f0) == ((rd_T53 t472 x11_2).f0)) || (!(((rd_T53 t462 x11_2).f1) == ((rd_T53 t472 x11_2).f1)))) = true
          ·rw [if_pos c37] at H
           have c37b0 : (!(((rd_T53 t462 x11_2).f0) == ((rd_T53 t472 x11_2).f0)) || (!(((rd_T53 t462 x11_2).f1) == ((rd_T53 t472 x11_2).f1)))) = true := c37
           clear c37
           obtain rfl := Option.some.inj H
           obtain ⟨Ao38, co38, eo38⟩ := Kd.R_slice HO_6.out
           subst eo38
           try go_wp2
           have n0_ := Aside0.mk (Kd.R_drew HO_4.out)
           have n1_ := Aside0.mk (Kd.R_drew HO_6.out)
           have n2_ := Aside0.mk (Kd.R_drew HO_8.out)
           have n3_ := Aside0.mk (Kd.R_drew HO_10.out)
           have n4_ := Aside0.mk (Kd.R_drew HO_458000.out)
           have n5_ := Aside0.mk (Kd.S_drew HO_458001.out)
           have n6_ := Aside0.mk (Kd.R_drew HO_458002.out)
           have n7_ := Aside0.mk (blk_drew BK447.out)
           have n8_ := Aside0.mk (blk_drew BK457.out)
           have n9_ := Aside0.mk (below_drew1 HB.out)
           clear HO_4
           clear HO_6
           clear HO_8
           clear HO_10
           clear HO_458000
           clear HO_458001
           clear HO_458002
           clear BK447
           clear BK457
           clear HB
           have HO_4 := n0_
           have HO_6 := n1_
           have HO_8 := n2_
           have HO_10 := n3_
           have HO_458000 := n4_
           have HO_458001 := n5_
           have HO_458002 := n6_
           have BK447 := n7_
           have BK457 := n8_
           have HB := n9_
           clear n0_ n1_ n2_ n3_ n4_ n5_ n6_ n7_ n8_ n9_
           have p475 : 0 ≤ (x11_2 : Int) := of_decide_eq_true az
           have q475 : x11_2 < (t462.length : Int) := of_decide_eq_true az
           obtain ⟨ad475, e475, hx475_0, hx475_1⟩ := at_T53 (Kd.R_reads' HO_6.out).2.2 x11_2 p475 q475
           cases e475
           replace p475 := eq_true p475
           replace q475 := eq_true q475
           obtain ⟨Ao40, co40, eo40⟩ := Kd.R_slice HO_10.out
           (first | subst eo40 | (injection eo40 with f1_ f2_ f3_; have f4_ := f1_.symm; have f5_ := f3_.symm; clear f1_ f2_ f3_; subst f4_; subst f5_))
           have p476 : 0 ≤ (x11_2 : Int) := of_decide_eq_true az
           have q476 : x11_2 < (t472.length : Int) := of_decide_eq_true az
           obtain ⟨ad476, e476, hx476_0, hx476_1⟩ := at_T53 (Kd.R_reads' HO_10.out).2.2 x11_2 p476 q476
           cases e476
           replace p476 := eq_true p476
           replace q476 := eq_true q476
           refine start_ (n := 9) (S := fun w' => w'.cell? (ad475.add ((x11_2).toNat * 2)) = some (.int .i64 ((rd_T53 t462 x11_2).f0)) ∧ w'.cell? ⟨(ad475.add ((x11_2).toNat * 2)).block, (ad475.add ((x11_2).toNat * 2)).off + 1, none⟩ = some (.int .i64 ((rd_T53 t462 x11_2).f1)) ∧ w'.cell? (ad476.add ((x11_2).toNat * 2)) = some (.int .i64 ((rd_T53 t472 x11_2).f0)) ∧ w'.cell? ⟨(ad476.add ((x11_2).toNat * 2)).block, (ad476.add ((x11_2).toNat * 2)).off + 1, none⟩ = some (.int .i64 ((rd_T53 t472 x11_2).f1))) (ds := []) #[false, false, false, false, false, false, false, false, false] (by kernel_rfl) rfl rfl ⟨hx475_0, hx475_1, hx476_0, hx476_1⟩ (fun hHeld => ?_); refine with_tabW tickinglaw07_TestsGreedy.tab13 tickinglaw07_TestsGreedy.bits13 (fun HT_ HW_ => ?_)
           generalize wr.drew = w39 at HO_4 HO_6 HO_8 HO_10 HO_458000 HO_458001 HO_458002 BK447 BK457 HB hx475_0 hx475_1 hx476_0 hx476_1 hHeld ⊢
           refine pure_ (i := 0) (N := some 81) (v := ?_) (a' := ?_) #[true, false, false, false, false, false, false, false, false] rfl rfl (any_of HT_.out (by kernel_rfl)) (fun _ _ _ h => h) (Or.inl ⟨by rfl, ?_⟩) ?_ ?_
           rotate_left
           ·intro w'
            go_simp
            with_reducible rfl
           rotate_left
           ·simp only [Act.put, List.setIfInBounds_toArray, List.set_cons_zero, List.set_cons_succ, i64_w, i32_w]
            rfl
           refine pure_ (i := 1) (N := some 82) (v := ?_) (a' := ?_) #[true, true, false, false, false, false, false, false, false] rfl rfl (any_of HT_.out (by kernel_rfl)) (fun _ _ _ h => h) (Or.inl ⟨by rfl, ?_⟩) ?_ ?_
           rotate_left
           ·intro w'
            go_simp
            with_reducible rfl
           rotate_left
           ·simp only [Act.put, List.setIfInBounds_toArray, List.set_cons_zero, List.set_cons_succ, i64_w, i32_w]
            rfl
           refine pure_ (i := 2) (N := some 83) (v := ?_) (a' := ?_) #[true, true, true, false, false, false, false, false, false] rfl rfl (any_of HT_.out (by kernel_rfl)) (fun _ _ _ h => h) (Or.inl ⟨by rfl, ?_⟩) ?_ ?_
           rotate_left
           ·intro w'
            go_simp
            with_reducible rfl
           rotate_left
           ·simp only [Act.put, List.setIfInBounds_toArray, List.set_cons_zero, List.set_cons_succ, i64_w, i32_w]
            rfl
           refine pure_ (i := 4) (N := some 85) (v := ?_) (a' := ?_) #[true, true, true, false, true, false, false, false, false] rfl rfl (any_of HT_.out (by kernel_rfl)) (fun _ _ _ h => h) (Or.inl ⟨by rfl, ?_⟩) ?_ ?_
           rotate_left
           ·intro w'
            go_simp
            with_reducible rfl
           rotate_left
           ·simp only [Act.put, List.setIfInBounds_toArray, List.set_cons_zero, List.set_cons_succ, i64_w, i32_w]
            rfl
           refine pure_ (i := 5) (N := some 86) (v := ?_) (a' := ?_) #[true, true, true, false, true, true, false, false, false] rfl rfl (any_of HT_.out (by kernel_rfl)) (fun _ _ _ h => h) (Or.inl ⟨by rfl, ?_⟩) ?_ ?_
           rotate_left
           ·intro w'
            go_simp
            with_reducible rfl
           rotate_left
           ·simp only [Act.put, List.setIfInBounds_toArray, List.set_cons_zero, List.set_cons_succ, i64_w, i32_w]
            rfl
           refine pure_ (i := 6) (N := some 87) (v := ?_) (a' := ?_) #[true, true, true, false, true, true, true, false, false] rfl rfl (any_of HT_.out (by kernel_rfl)) (fun _ _ _ h => h) (Or.inl ⟨by rfl, ?_⟩) ?_ ?_
           rotate_left
           ·intro w'
            go_simp
            with_reducible rfl
           rotate_left
           ·simp only [Act.put, List.setIfInBounds_toArray, List.set_cons_zero, List.set_cons_succ, i64_w, i32_w]
            rfl
           refine take_ (i := 3) (N := some 84) (v := ?_) (a' := ?_) #[true, true, true, true, true, true, true, false, false] rfl rfl (take_ofW HT_.out HW_.out (by kernel_rfl)) (fun _ _ _ h => h) (Or.inl ⟨by rfl, ?_⟩) hHeld ?_ ?_
           rotate_left
           ·rintro w' ⟨s0, s1, s2, s3⟩
            go_simp
            with_reducible rfl
           rotate_left
           ·simp only [Act.put, List.setIfInBounds_toArray, List.set_cons_zero, List.set_cons_succ, i64_w, i32_w]
            rfl
           refine take_ (i := 7) (N := some 88) (v := ?_) (a' := ?_) #[true, true, true, true, true, true, true, true, false] rfl rfl (take_ofW HT_.out HW_.out (by kernel_rfl)) (fun _ _ _ h => h) (Or.inl ⟨by rfl, ?_⟩) hHeld ?_ ?_
           rotate_left
           ·rintro w' ⟨s0, s1, s2, s3⟩
            go_simp
            with_reducible rfl
           rotate_left
           ·simp only [Act.put, List.setIfInBounds_toArray, List.set_cons_zero, List.set_cons_succ, i64_w, i32_w]
            rfl
           refine pure_ (i := 8) (N := some 89) (v := ?_) (a' := ?_) #[true, true, true, true, true, true, true, true, true] rfl rfl (any_of HT_.out (by kernel_rfl)) (fun _ _ _ h => h) (Or.inl ⟨by rfl, ?_⟩) ?_ ?_
           rotate_left
           ·intro w'
            go_simp
            with_reducible rfl
           rotate_left
           ·simp only [Act.put, List.setIfInBounds_toArray, List.set_cons_zero, List.set_cons_succ, i64_w, i32_w]
            rfl
           refine done_ (done_of HT_.out (by kernel_rfl)) ?_
           try go_wp2
           go_ret
           exact ⟨by first | rfl | (simp [errW_none, errW_some] <;> rfl) | (simp [*, errW_none, errW_some] <;> rfl), by repeat (first | (with_reducible first | exact HB.out | apply below_alloc | apply pw_below_drewN | apply below_drew1 | refine below_set ?_ GE447.out | refine below_set ?_ GE457.out) | exact HB.out)⟩
          ·rw [if_neg c37] at H
           have c37b0 : (!(((rd_T53 t462 x11_2).f0) == ((rd_T53 t472 x11_2).f0)) || (!(((rd_T53 t462 x11_2).f1) == ((rd_T53 t472 x11_2).f1)))) = false := by simpa using c37
           clear c37
           have H' := Aside0.mk H
           clear H
           obtain ⟨Ao41, co41, eo41⟩ := Kd.R_slice HO_6.out
           subst eo41
           try go_wp2
           have n0_ := Aside0.mk (Kd.R_drew HO_4.out)
           have n1_ := Aside0.mk (Kd.R_drew HO_6.out)
           have n2_ := Aside0.mk (Kd.R_drew HO_8.out)
           have n3_ := Aside0.mk (Kd.R_drew HO_10.out)
           have n4_ := Aside0.mk (Kd.R_drew HO_458000.out)
           have n5_ := Aside0.mk (Kd.S_drew HO_458001.out)
           have n6_ := Aside0.mk (Kd.R_drew HO_458002.out)
           have n7_ := Aside0.mk (blk_drew BK447.out)
           have n8_ := Aside0.mk (blk_drew BK457.out)
           have n9_ := Aside0.mk (below_drew1 HB.out)
           clear HO_4
           clear HO_6
           clear HO_8
           clear HO_10
           clear HO_458000
           clear HO_458001
           clear HO_458002
           clear BK447
           clear BK457
           clear HB
           have HO_4 := n0_
           have HO_6 := n1_
           have HO_8 := n2_
           have HO_10 := n3_
           have HO_458000 := n4_
           have HO_458001 := n5_
           have HO_458002 := n6_
           have BK447 := n7_
           have BK457 := n8_
           have HB := n9_
           clear n0_ n1_ n2_ n3_ n4_ n5_ n6_ n7_ n8_ n9_
           have p475 : 0 ≤ (x11_2 : Int) := of_decide_eq_true az
           have q475 : x11_2 < (t462.length : Int) := of_decide_eq_true az
           obtain ⟨ad475, e475, hx475_0, hx475_1⟩ := at_T53 (Kd.R_reads' HO_6.out).2.2 x11_2 p475 q475
           cases e475
           replace p475 := eq_true p475
           replace q475 := eq_true q475
           obtain ⟨Ao43, co43, eo43⟩ := Kd.R_slice HO_10.out
           (first | subst eo43 | (injection eo43 with f1_ f2_ f3_; have f4_ := f1_.symm; have f5_ := f3_.symm; clear f1_ f2_ f3_; subst f4_; subst f5_))
           have p476 : 0 ≤ (x11_2 : Int) := of_decide_eq_true az
           have q476 : x11_2 < (t472.length : Int) := of_decide_eq_true az
           obtain ⟨ad476, e476, hx476_0, hx476_1⟩ := at_T53 (Kd.R_reads' HO_10.out).2.2 x11_2 p476 q476
           cases e476
           replace p476 := eq_true p476
           replace q476 := eq_true q476
           refine start_ (n := 9) (S := fun w' => w'.cell? (ad475.add ((x11_2).toNat * 2)) = some (.int .i64 ((rd_T53 t462 x11_2).f0)) ∧ w'.cell? ⟨(ad475.add ((x11_2).toNat * 2)).block, (ad475.add ((x11_2).toNat * 2)).off + 1, none⟩ = some (.int .i64 ((rd_T53 t462 x11_2).f1)) ∧ w'.cell? (ad476.add ((x11_2).toNat * 2)) = some (.int .i64 ((rd_T53 t472 x11_2).f0)) ∧ w'.cell? ⟨(ad476.add ((x11_2).toNat * 2)).block, (ad476.add ((x11_2).toNat * 2)).off + 1, none⟩ = some (.int .i64 ((rd_T53 t472 x11_2).f1))) (ds := []) #[false, false, false, false, false, false, false, false, false] (by kernel_rfl) rfl rfl ⟨hx475_0, hx475_1, hx476_0, hx476_1⟩ (fun hHeld => ?_); refine with_tabW tickinglaw07_TestsGreedy.tab13 tickinglaw07_TestsGreedy.bits13 (fun HT_ HW_ => ?_)
           generalize wr.drew = w42 at HO_4 HO_6 HO_8 HO_10 HO_458000 HO_458001 HO_458002 BK447 BK457 HB hx475_0 hx475_1 hx476_0 hx476_1 hHeld ⊢
           refine pure_ (i := 0) (N := some 81) (v := ?_) (a' := ?_) #[true, false, false, false, false, false, false, false, false] rfl rfl (any_of HT_.out (by kernel_rfl)) (fun _ _ _ h => h) (Or.inl ⟨by rfl, ?_⟩) ?_ ?_
           rotate_left
           ·intro w'
            go_simp
            with_reducible rfl
           rotate_left
           ·simp only [Act.put, List.setIfInBounds_toArray, List.set_cons_zero, List.set_cons_succ, i64_w, i32_w]
            rfl
           refine pure_ (i := 1) (N := some 82) (v := ?_) (a' := ?_) #[true, true, false, false, false, false, false, false, false] rfl rfl (any_of HT_.out (by kernel_rfl)) (fun _ _ _ h => h) (Or.inl ⟨by rfl, ?_⟩) ?_ ?_
           rotate_left
           ·intro w'
            go_simp
            with_reducible rfl
           rotate_left
           ·simp only [Act.put, List.setIfInBounds_toArray, List.set_cons_zero, List.set_cons_succ, i64_w, i32_w]
            rfl
           refine pure_ (i := 2) (N := some 83) (v := ?_) (a' := ?_) #[true, true, true, false, false, false, false, false, false] rfl rfl (any_of HT_.out (by kernel_rfl)) (fun _ _ _ h => h) (Or.inl ⟨by rfl, ?_⟩) ?_ ?_
           rotate_left
           ·intro w'
            go_simp
            with_reducible rfl
           rotate_left
           ·simp only [Act.put, List.setIfInBounds_toArray, List.set_cons_zero, List.set_cons_succ, i64_w, i32_w]
            rfl
           refine pure_ (i := 4) (N := some 85) (v := ?_) (a' := ?_) #[true, true, true, false, true, false, false, false, false] rfl rfl (any_of HT_.out (by kernel_rfl)) (fun _ _ _ h => h) (Or.inl ⟨by rfl, ?_⟩) ?_ ?_
           rotate_left
           ·intro w'
            go_simp
            with_reducible rfl
           rotate_left
           ·simp only [Act.put, List.setIfInBounds_toArray, List.set_cons_zero, List.set_cons_succ, i64_w, i32_w]
            rfl
           refine pure_ (i := 5) (N := some 86) (v := ?_) (a' := ?_) #[true, true, true, false, true, true, false, false, false] rfl rfl (any_of HT_.out (by kernel_rfl)) (fun _ _ _ h => h) (Or.inl ⟨by rfl, ?_⟩) ?_ ?_
           rotate_left
           ·intro w'
            go_simp
            with_reducible rfl
           rotate_left
           ·simp only [Act.put, List.setIfInBounds_toArray, List.set_cons_zero, List.set_cons_succ, i64_w, i32_w]
            rfl
           refine pure_ (i := 6) (N := some 87) (v := ?_) (a' := ?_) #[true, true, true, false, true, true, true, false, false] rfl rfl (any_of HT_.out (by kernel_rfl)) (fun _ _ _ h => h) (Or.inl ⟨by rfl, ?_⟩) ?_ ?_
           rotate_left
           ·intro w'
            go_simp
            with_reducible rfl
           rotate_left
           ·simp only [Act.put, List.setIfInBounds_toArray, List.set_cons_zero, List.set_cons_succ, i64_w, i32_w]
            rfl
           refine take_ (i := 3) (N := some 84) (v := ?_) (a' := ?_) #[true, true, true, true, true, true, true, false, false] rfl rfl (take_ofW HT_.out HW_.out (by kernel_rfl)) (fun _ _ _ h => h) (Or.inl ⟨by rfl, ?_⟩) hHeld ?_ ?_
           rotate_left
           ·rintro w' ⟨s0, s1, s2, s3⟩
            go_simp
            with_reducible rfl
           rotate_left
           ·simp only [Act.put, List.setIfInBounds_toArray, List.set_cons_zero, List.set_cons_succ, i64_w, i32_w]
            rfl
           refine take_ (i := 7) (N := some 88) (v := ?_) (a' := ?_) #[true, true, true, true, true, true, true, true, false] rfl rfl (take_ofW HT_.out HW_.out (by kernel_rfl)) (fun _ _ _ h => h) (Or.inl ⟨by rfl, ?_⟩) hHeld ?_ ?_
           rotate_left
           ·rintro w' ⟨s0, s1, s2, s3⟩
            go_simp
            with_reducible rfl
           rotate_left
           ·simp only [Act.put, List.setIfInBounds_toArray, List.set_cons_zero, List.set_cons_succ, i64_w, i32_w]
            rfl
           refine pure_ (i := 8) (N := some 89) (v := ?_) (a' := ?_) #[true, true, true, true, true, true, true, true, true] rfl rfl (any_of HT_.out (by kernel_rfl)) (fun _ _ _ h => h) (Or.inl ⟨by rfl, ?_⟩) ?_ ?_
           rotate_left
           ·intro w'
            go_simp
            with_reducible rfl
           rotate_left
           ·simp only [Act.put, List.setIfInBounds_toArray, List.set_cons_zero, List.set_cons_succ, i64_w, i32_w]
            rfl
           refine done_ (done_of HT_.out (by kernel_rfl)) ?_
           try go_wp2
           go_roundg k2
           case measure => have := HJ8.out; have := HK2.out; omega
           case rel => exact ⟨(wrap64 (x11_2 + 1)), (by first | rfl | (simp; done) | (simp [*]; done)), H', ⟨by have := HJ8.out; have := HK2.out; omega⟩, ⟨by (with_reducible repeat (first | apply Kd.R_alloc | apply Kd.R_drewN | apply Kd.R_drew)); exact HO_4.out⟩, ⟨by (with_reducible repeat (first | apply Kd.R_alloc | apply Kd.R_drewN | apply Kd.R_drew)); exact HO_6.out⟩, ⟨by (with_reducible repeat (first | apply Kd.R_alloc | apply Kd.R_drewN | apply Kd.R_drew)); exact HO_8.out⟩, ⟨by (with_reducible repeat (first | apply Kd.R_alloc | apply Kd.R_drewN | apply Kd.R_drew)); exact HO_10.out⟩, ⟨by (with_reducible repeat (first | apply Kd.R_alloc | apply Kd.R_drewN | apply Kd.R_drew)); exact HO_458000.out⟩, ⟨by (with_reducible repeat (first | apply Kd.S_alloc | apply Kd.S_drewN | apply Kd.S_drew)); exact HO_458001.out⟩, ⟨by (with_reducible repeat (first | apply Kd.R_alloc | apply Kd.R_drewN | apply Kd.R_drew)); exact HO_458002.out⟩, ⟨by (with_reducible repeat (first | refine blk_drewN ?_ _ | refine blk_drew ?_ | refine blk_alloc ?_ _)); exact BK447.out⟩, ⟨by (with_reducible repeat (first | refine blk_drewN ?_ _ | refine blk_drew ?_ | refine blk_alloc ?_ _)); exact BK457.out⟩, ⟨by repeat (first | (with_reducible first | exact HB.out | apply below_alloc | apply pw_below_drewN | apply below_drew1 | refine below_set ?_ GE447.out | refine below_set ?_ GE457.out) | exact HB.out)⟩⟩
         ·rw [if_neg c36] at H
          exact absurd H (by simp)
        ·rw [if_neg c35] at H
         exact absurd H (by simp)
       ·rw [if_neg c34] at H
        have c34b0 : decide (x11_2 < (t462.length : Int)) = false := decide_eq_false c34
        clear c34
        by_cases c44 : (t472.length : Int) > 0
        ·rw [if_pos c44] at H
         have c44b0 : decide (0 < (t472.length : Int)) = true := decide_eq_true c44
         have c44b1 : decide (0 < t472.length) = true := decide_eq_true (by omega)
         clear c44
         by_cases c45 : (t458.length : Int) = 0
         ·rw [if_pos c45] at H
          have c45b0 : ((t458.length : Int) == 0) = true := beq_iff_eq.mpr c45
          have c45b1 : ((t458.length : Int) != 0) = false := bne_eq_false_iff_eq.mpr c45
          clear c45
          by_cases c46 : t461 = 6
          ·rw [if_pos c46] at H
           have c46b0 : (t461 == 6) = true := beq_iff_eq.mpr c46
           have c46b1 : (t461 != 6) = false := bne_eq_false_iff_eq.mpr c46
           clear c46
           by_cases c47 : (t466.length : Int) = 0
           ·rw [if_pos c47] at H
            have c47b0 : ((t466.length : Int) == 0) = true := beq_iff_eq.mpr c47
            have c47b1 : ((t466.length : Int) != 0) = false := bne_eq_false_iff_eq.mpr c47
            clear c47
            by_cases c48 : t469 = 6
            ·rw [if_pos c48] at H
             have c48b0 : (t469 == 6) = true := beq_iff_eq.mpr c48
             have c48b1 : (t469 != 6) = false := bne_eq_false_iff_eq.mpr c48
             clear c48
             replace H := Option.bind_eq_some_iff.mp H
             obtain ⟨t477, A490, H⟩ := H
             replace H : (some t477) = some r := H
             have A49 := Aside0.mk A490
             clear A490
             obtain rfl := Option.some.inj H
             obtain ⟨Ao50, co50, eo50⟩ := Kd.R_slice HO_6.out
             subst eo50
             obtain ⟨Ao51, co51, eo51⟩ := Kd.R_slice HO_10.out
             subst eo51
             obtain ⟨Ao52, co52, eo52⟩ := Kd.R_slice HO_4.out
             subst eo52
             obtain ⟨Ao53, co53, eo53⟩ := Kd.R_slice HO_8.out
             subst eo53
             go_wp2_with (first | (go_at_call 17; (with_reducible refine (tickinglaw07_awake.calls k2  t477 _ A49.out ?sideT).mono ?_); (case sideT => exact HTab.out.below bz); rintro e w54 ⟨rfl, hb⟩; have n0_ := Aside0.mk (Kd.R_below (rz HO_4.out) hb); have n1_ := Aside0.mk (Kd.R_below (rz HO_6.out) hb); have n2_ := Aside0.mk (Kd.R_below (rz HO_8.out) hb); have n3_ := Aside0.mk (Kd.R_below (rz HO_10.out) hb); have n4_ := Aside0.mk (Kd.R_below (rz HO_458000.out) hb); have n5_ := Aside0.mk (Kd.S_below (sz HO_458001.out) hb); have n6_ := Aside0.mk (Kd.R_below (rz HO_458002.out) hb); have n7_ := Aside0.mk (kb BK447.out hb); have n8_ := Aside0.mk (kb BK457.out hb); have n9_ := Aside0.mk (below_step bz hb); clear HO_4; clear HO_6; clear HO_8; clear HO_10; clear HO_458000; clear HO_458001; clear HO_458002; clear BK447; clear BK457; clear HB; have HO_4 := n0_; have HO_6 := n1_; have HO_8 := n2_; have HO_10 := n3_; have HO_458000 := n4_; have HO_458001 := n5_; have HO_458002 := n6_; have BK447 := n7_; have BK457 := n8_; have HB := n9_; clear n0_ n1_ n2_ n3_ n4_ n5_ n6_ n7_ n8_ n9_; (try clear hb); (try clear hb2); (try clear hk); (try clear hi)))
             go_ret
             exact ⟨by first | rfl | (simp [errW_none, errW_some] <;> rfl) | (simp [*, errW_none, errW_some] <;> rfl), by repeat (first | (with_reducible first | exact HB.out | apply below_alloc | apply pw_below_drewN | apply below_drew1 | refine below_set ?_ GE447.out | refine below_set ?_ GE457.out) | exact HB.out)⟩
            ·rw [if_neg c48] at H
             have c48b0 : (t469 == 6) = false := beq_eq_false_iff_ne.mpr c48
             have c48b1 : (t469 != 6) = true := bne_iff_ne.mpr c48
             obtain rfl := Option.some.inj H
             obtain ⟨Ao55, co55, eo55⟩ := Kd.R_slice HO_6.out
             subst eo55
             obtain ⟨Ao56, co56, eo56⟩ := Kd.R_slice HO_10.out
             subst eo56
             obtain ⟨Ao57, co57, eo57⟩ := Kd.R_slice HO_4.out
             subst eo57
             obtain ⟨Ao58, co58, eo58⟩ := Kd.R_slice HO_8.out
             subst eo58
             go_wp2
             go_ret
             exact ⟨by first | rfl | (simp [errW_none, errW_some] <;> rfl) | (simp [*, errW_none, errW_some] <;> rfl), by repeat (first | (with_reducible first | exact HB.out | apply below_alloc | apply pw_below_drewN | apply below_drew1 | refine below_set ?_ GE447.out | refine below_set ?_ GE457.out) | exact HB.out)⟩
           ·rw [if_neg c47] at H
            have c47b0 : ((t466.length : Int) == 0) = false := beq_eq_false_iff_ne.mpr c47
            have c47b1 : ((t466.length : Int) != 0) = true := bne_iff_ne.mpr c47
            have c47b2 : ¬ (t466 = []) := fun h_ => c47 (by rw [h_]; rfl)
            obtain rfl := Option.some.inj H
            obtain ⟨Ao59, co59, eo59⟩ := Kd.R_slice HO_6.out
            subst eo59
            obtain ⟨Ao60, co60, eo60⟩ := Kd.R_slice HO_10.out
            subst eo60
            obtain ⟨Ao61, co61, eo61⟩ := Kd.R_slice HO_4.out
            subst eo61
            obtain ⟨Ao62, co62, eo62⟩ := Kd.R_slice HO_8.out
            subst eo62
            go_wp2
            go_ret
            exact ⟨by first | rfl | (simp [errW_none, errW_some] <;> rfl) | (simp [*, errW_none, errW_some] <;> rfl), by repeat (first | (with_reducible first | exact HB.out | apply below_alloc | apply pw_below_drewN | apply below_drew1 | refine below_set ?_ GE447.out | refine below_set ?_ GE457.out) | exact HB.out)⟩
          ·rw [if_neg c46] at H
           have c46b0 : (t461 == 6) = false := beq_eq_false_iff_ne.mpr c46
           have c46b1 : (t461 != 6) = true := bne_iff_ne.mpr c46
           obtain rfl := Option.some.inj H
           obtain ⟨Ao63, co63, eo63⟩ := Kd.R_slice HO_6.out
           subst eo63
           obtain ⟨Ao64, co64, eo64⟩ := Kd.R_slice HO_10.out
           subst eo64
           obtain ⟨Ao65, co65, eo65⟩ := Kd.R_slice HO_4.out
           subst eo65
           go_wp2
           go_ret
           exact ⟨by first | rfl | (simp [errW_none, errW_some] <;> rfl) | (simp [*, errW_none, errW_some] <;> rfl), by repeat (first | (with_reducible first | exact HB.out | apply below_alloc | apply pw_below_drewN | apply below_drew1 | refine below_set ?_ GE447.out | refine below_set ?_ GE457.out) | exact HB.out)⟩
         ·rw [if_neg c45] at H
          have c45b0 : ((t458.length : Int) == 0) = false := beq_eq_false_iff_ne.mpr c45
          have c45b1 : ((t458.length : Int) != 0) = true := bne_iff_ne.mpr c45
          have c45b2 : ¬ (t458 = []) := fun h_ => c45 (by rw [h_]; rfl)
          obtain rfl := Option.some.inj H
          obtain ⟨Ao66, co66, eo66⟩ := Kd.R_slice HO_6.out
          subst eo66
          obtain ⟨Ao67, co67, eo67⟩ := Kd.R_slice HO_10.out
          subst eo67
          obtain ⟨Ao68, co68, eo68⟩ := Kd.R_slice HO_4.out
          subst eo68
          go_wp2
          go_ret
          exact ⟨by first | rfl | (simp [errW_none, errW_some] <;> rfl) | (simp [*, errW_none, errW_some] <;> rfl), by repeat (first | (with_reducible first | exact HB.out | apply below_alloc | apply pw_below_drewN | apply below_drew1 | refine below_set ?_ GE447.out | refine below_set ?_ GE457.out) | exact HB.out)⟩
        ·rw [if_neg c44] at H
         have c44b0 : decide (0 < (t472.length : Int)) = false := decide_eq_false c44
         have c44b1 : decide (0 < t472.length) = false := decide_eq_false (by omega)
         clear c44
         obtain ⟨ji69, hji69⟩ : ∃ j_ : Int, (shl .i64 1 (t448.length : Int)) = j_ := ⟨_, rfl⟩
         replace H : ((tickingref07_Greedy.f k2 t448 t451 t454 (wrap64 ((ji69) - 1)) 0).bind fun t478 => ((tickingref07_Cover.f k2 t448 t451 t454).bind fun bt481 => (if (t458.length : Int) = (t478.length : Int) then (if t461 = 0 then ((tickinglaw07_ints.f k2 t466 bt481.1).bind fun t485 => (if t485 = true then (tickinglaw07_TestsGreedy.j2 k2 t458 t478 (t469 != 0)) else (tickinglaw07_TestsGreedy.j2 k2 t458 t478 true))) else (tickinglaw07_TestsGreedy.j2 k2 t458 t478 true)) else (tickinglaw07_TestsGreedy.j2 k2 t458 t478 true)))) = some r := by first | (rw [hji69] at H; exact H) | (simp only [hji69] at H ⊢; exact H)
         have hji69_ : (IntKind.i64.wrap (1 * 2 ^ min (t448.length : Int).toNat 64)) = ji69 := hji69
         have hji69z : (t448.length : Int) ≤ 64 → (IntKind.i64.wrap (1 * 2 ^ (t448.length : Int).toNat)) = ji69 := shl_small hji69
         have hji69p : (IntKind.i64.wrap (1 * 2 ^ min t448.length 64)) = ji69 := hji69_
         have hji69q : (t448.length : Int) ≤ 64 → (IntKind.i64.wrap (1 * 2 ^ t448.length)) = ji69 := hji69z
         have hji69r : (IntKind.i64.wrap (2 ^ min t448.length 64)) = ji69 := by have h_ := hji69p; rw [Int.one_mul] at h_; exact h_
         have hji69s : (t448.length : Int) ≤ 64 → (IntKind.i64.wrap (2 ^ t448.length)) = ji69 := fun hle_ => by have h_ := hji69q hle_; rw [Int.one_mul] at h_; exact h_
         have hji69u : (IntKind.i64.wrap (2 ^ min (t448.length : Int).toNat 64)) = ji69 := by have h_ := hji69_; rw [Int.one_mul] at h_; exact h_
         have hji69v : (t448.length : Int) ≤ 64 → (IntKind.i64.wrap (2 ^ (t448.length : Int).toNat)) = ji69 := fun hle_ => by have h_ := hji69z hle_; rw [Int.one_mul] at h_; exact h_
         have hji69y : (wrap64 (1 * 2 ^ min (t448.length : Int).toNat 64)) = ji69 := (i64_w _).symm.trans hji69_
         have hji69x : (t448.length : Int) ≤ 64 → (wrap64 (1 * 2 ^ (t448.length : Int).toNat)) = ji69 := fun h_ => (i64_w _).symm.trans (hji69z h_)
         replace H := Option.bind_eq_some_iff.mp H
         obtain ⟨t478, A700, H⟩ := H
         replace H : ((tickingref07_Cover.f k2 t448 t451 t454).bind fun bt481 => (if (t458.length : Int) = (t478.length : Int) then (if t461 = 0 then ((tickinglaw07_ints.f k2 t466 bt481.1).bind fun t485 => (if t485 = true then (tickinglaw07_TestsGreedy.j2 k2 t458 t478 (t469 != 0)) else (tickinglaw07_TestsGreedy.j2 k2 t458 t478 true))) else (tickinglaw07_TestsGreedy.j2 k2 t458 t478 true)) else (tickinglaw07_TestsGreedy.j2 k2 t458 t478 true))) = some r := H
         have A70 := Aside0.mk A700
         clear A700
         replace H := Option.bind_eq_some_iff.mp H
         obtain ⟨⟨t481, t484⟩, A710, H⟩ := H
         replace H : (if (t458.length : Int) = (t478.length : Int) then (if t461 = 0 then ((tickinglaw07_ints.f k2 t466 t481).bind fun t485 => (if t485 = true then (tickinglaw07_TestsGreedy.j2 k2 t458 t478 (t469 != 0)) else (tickinglaw07_TestsGreedy.j2 k2 t458 t478 true))) else (tickinglaw07_TestsGreedy.j2 k2 t458 t478 true)) else (tickinglaw07_TestsGreedy.j2 k2 t458 t478 true)) = some r := H
         have A71 := Aside0.mk A710
         clear A710
         have HC72 := Aside0.mk H
         clear H
         obtain ⟨Ao73, co73, eo73⟩ := Kd.R_slice HO_6.out
         subst eo73
         obtain ⟨Ao74, co74, eo74⟩ := Kd.R_slice HO_10.out
         subst eo74
         try go_wp2
         have n0_ := Aside0.mk (Kd.R_drew HO_4.out)
         have n1_ := Aside0.mk (Kd.R_drew HO_6.out)
         have n2_ := Aside0.mk (Kd.R_drew HO_8.out)
         have n3_ := Aside0.mk (Kd.R_drew HO_10.out)
         have n4_ := Aside0.mk (Kd.R_drew HO_458000.out)
         have n5_ := Aside0.mk (Kd.S_drew HO_458001.out)
         have n6_ := Aside0.mk (Kd.R_drew HO_458002.out)
         have n7_ := Aside0.mk (blk_drew BK447.out)
         have n8_ := Aside0.mk (blk_drew BK457.out)
         have n9_ := Aside0.mk (below_drew1 HB.out)
         clear HO_4
         clear HO_6
         clear HO_8
         clear HO_10
         clear HO_458000
         clear HO_458001
         clear HO_458002
         clear BK447
         clear BK457
         clear HB
         have HO_4 := n0_
         have HO_6 := n1_
         have HO_8 := n2_
         have HO_10 := n3_
         have HO_458000 := n4_
         have HO_458001 := n5_
         have HO_458002 := n6_
         have BK447 := n7_
         have BK457 := n8_
         have HB := n9_
         clear n0_ n1_ n2_ n3_ n4_ n5_ n6_ n7_ n8_ n9_
         refine start_ (n := 8) (S := fun w' => w'.cell? ⟨gb457, 0, none⟩ = some (.slice Ao14 t448.length co14) ∧ w'.cell? ⟨gb457, 1, none⟩ = some (.slice Ao17 t451.length co17) ∧ w'.cell? ⟨gb457, 2, none⟩ = some (.slice Ao18 t454.length co18)) (ds := []) #[false, false, false, false, false, false, false, false] (by kernel_rfl) rfl rfl ⟨(blk_cell BK457.out 0).trans rfl, (blk_cell BK457.out 1).trans rfl, (blk_cell BK457.out 2).trans rfl⟩ (fun hHeld => ?_); refine with_tabW tickinglaw07_TestsGreedy.tab17 tickinglaw07_TestsGreedy.bits17 (fun HT_ HW_ => ?_)
         generalize wr.drew = w75 at HO_4 HO_6 HO_8 HO_10 HO_458000 HO_458001 HO_458002 BK447 BK457 HB hHeld ⊢
         refine pure_ (i := 1) (N := some 113) (v := ?_) (a' := ?_) #[false, true, false, false, false, false, false, false] rfl rfl (any_of HT_.out (by kernel_rfl)) (fun _ _ _ h => h) (Or.inl ⟨by rfl, ?_⟩) ?_ ?_
         rotate_left
         ·intro w'
          go_simp
          with_reducible rfl
         rotate_left
         ·simp only [Act.put, List.setIfInBounds_toArray, List.set_cons_zero, List.set_cons_succ, i64_w, i32_w]
          rfl
         refine take_ (i := 0) (N := some 112) (v := ?_) (a' := ?_) #[true, true, false, false, false, false, false, false] rfl rfl (take_ofW HT_.out HW_.out (by kernel_rfl)) (fun _ _ _ h => h) (Or.inl ⟨by rfl, ?_⟩) hHeld ?_ ?_
         rotate_left
         ·rintro w' ⟨s0, s1, s2⟩
          go_simp
          with_reducible rfl
         rotate_left
         ·simp only [Act.put, List.setIfInBounds_toArray, List.set_cons_zero, List.set_cons_succ, i64_w, i32_w]
          rfl
         refine take_ (i := 2) (N := some 114) (v := ?_) (a' := ?_) #[true, true, true, false, false, false, false, false] rfl rfl (take_ofW HT_.out HW_.out (by kernel_rfl)) (fun _ _ _ h => h) (Or.inl ⟨by rfl, ?_⟩) hHeld ?_ ?_
         rotate_left
         ·rintro w' ⟨s0, s1, s2⟩
          go_simp
          with_reducible rfl
         rotate_left
         ·simp only [Act.put, List.setIfInBounds_toArray, List.set_cons_zero, List.set_cons_succ, i64_w, i32_w]
          rfl
         refine pure_ (i := 3) (N := some 115) (v := ?_) (a' := ?_) #[true, true, true, true, false, false, false, false] rfl rfl (any_of HT_.out (by kernel_rfl)) (fun _ _ _ h => h) (Or.inl ⟨by rfl, ?_⟩) ?_ ?_
         rotate_left
         ·intro w'
          go_simp
          with_reducible rfl
         rotate_left
         ·simp only [Act.put, List.setIfInBounds_toArray, List.set_cons_zero, List.set_cons_succ, i64_w, i32_w]
          rfl
         refine pure_ (i := 4) (N := some 116) (v := ?_) (a' := ?_) #[true, true, true, true, true, false, false, false] rfl rfl (any_of HT_.out (by kernel_rfl)) (fun _ _ _ h => h) (Or.inl ⟨by rfl, ?_⟩) ?_ ?_
         rotate_left
         ·intro w'
          go_simp
          with_reducible rfl
         rotate_left
         ·simp only [Act.put, List.setIfInBounds_toArray, List.set_cons_zero, List.set_cons_succ, i64_w, i32_w]
          rfl
         refine pure_ (i := 5) (N := some 117) (v := ?_) (a' := ?_) #[true, true, true, true, true, true, false, false] rfl rfl (any_of HT_.out (by kernel_rfl)) (fun _ _ _ h => h) (Or.inl ⟨by rfl, ?_⟩) ?_ ?_
         rotate_left
         ·intro w'
          go_simp
          with_reducible rfl
         rotate_left
         ·simp only [Act.put, List.setIfInBounds_toArray, List.set_cons_zero, List.set_cons_succ, i64_w, i32_w]
          rfl
         refine one_ (i := 6) (N := some 118) #[true, true, true, true, true, true, true, false] rfl rfl (one_of HT_.out (by kernel_rfl)) (by decide) (fun K hK => ?_)
         refine goes_ Tryd.func29 (by kernel_rfl) rfl #[.agg #[.slice Ao14 t448.length co14, .slice Ao17 t451.length co17, .slice Ao18 t454.length co18], .int .i64 (wrap64 ((ji69) - 1)), .int .i64 0] (by rfl) rfl rfl (by (try simp only [List.map_toArray, List.map_cons, List.map_nil]); first | done | (simp only [hji69]; rfl) | rfl | (simp only [List.length_drop, List.length_take]; rfl)) ?_
         with_reducible refine (tickingref07_Greedy.calls k2 _ _ t448 _ _ t451 _ _ t454 (wrap64 ((ji69) - 1)) 0 t478 _ ?side1 ?side2 ?side3 ?side4 ?side5 ?side6 A70.out).mono ?_
         (case side1 => exact cz ((Kd.R_reads' HO_458000.out).2.2))
         (case side2 => exact (Kd.R_reads' HO_458000.out).2.1)
         (case side3 => exact cz ((Kd.S_reads' HO_458001.out).2.2))
         (case side4 => exact (Kd.S_reads' HO_458001.out).2.1)
         (case side5 => exact cz ((Kd.R_reads' HO_458002.out).2.2))
         (case side6 => exact (Kd.R_reads' HO_458002.out).2.1)
         rintro e w76 ⟨v479, rfl, ho0, hb⟩
         refine ⟨_, rfl, ?_⟩
         have n0_ := Aside0.mk (Kd.R_elder' (rz HO_4.out) (Kd.R_base ho0) hb)
         have n1_ := Aside0.mk (Kd.R_below (rz HO_6.out) hb)
         have n2_ := Aside0.mk (Kd.R_below (rz HO_8.out) hb)
         have n3_ := Aside0.mk (Kd.R_below (rz HO_10.out) hb)
         have n4_ := Aside0.mk (Kd.R_below (rz HO_458000.out) hb)
         have n5_ := Aside0.mk (Kd.S_below (sz HO_458001.out) hb)
         have n6_ := Aside0.mk (Kd.R_below (rz HO_458002.out) hb)
         have n7_ := Aside0.mk (Kd.R_lower (Kd.R_new' ho0 (Kd.R_lt (rz HO_4.out))) (below_size bz))
         have n8_ := Aside0.mk (kb BK447.out hb)
         have n9_ := Aside0.mk (kb BK457.out hb)
         have n10_ := Aside0.mk (below_step bz hb)
         clear HO_4
         clear HO_6
         clear HO_8
         clear HO_10
         clear HO_458000
         clear HO_458001
         clear HO_458002
         clear BK447
         clear BK457
         clear HB
         have HO_4 := n0_
         have HO_6 := n1_
         have HO_8 := n2_
         have HO_10 := n3_
         have HO_458000 := n4_
         have HO_458001 := n5_
         have HO_458002 := n6_
         have HO480 := n7_
         have BK447 := n8_
         have BK457 := n9_
         have HB := n10_
         clear n0_ n1_ n2_ n3_ n4_ n5_ n6_ n7_ n8_ n9_ n10_
         (try clear hb)
         (try clear hb2)
         (try clear hk)
         (try clear hi)
         (try clear ho0)
         refine hK.out _ _ ⟨(blk_cell BK457.out 0).trans rfl, (blk_cell BK457.out 1).trans rfl, (blk_cell BK457.out 2).trans rfl⟩ (fun hHeld => ?_)
         clear hK K
         refine norm_ (a' := ?_) ?_ ?_
         rotate_left
         ·show Act.put _ (some 118) _ = _
          simp only [Act.put, List.setIfInBounds_toArray, List.set_cons_zero, List.set_cons_succ, i64_w, i32_w]
          rfl
         refine pure_ (i := 7) (N := some 12) (v := ?_) (a' := ?_) #[true, true, true, true, true, true, true, true] rfl rfl (any_of HT_.out (by kernel_rfl)) (fun _ _ _ h => h) (Or.inl ⟨by rfl, ?_⟩) ?_ ?_
         rotate_left
         ·intro w'
          go_simp
          with_reducible rfl
         rotate_left
         ·simp only [Act.put, List.setIfInBounds_toArray, List.set_cons_zero, List.set_cons_succ, i64_w, i32_w]
          rfl
         refine done_ (done_of HT_.out (by kernel_rfl)) ?_
         have hnb77 := NB457_447.out
         have hnc77 := NB447_457.out
         have hcz78_0 : w76.cell? ⟨gb457, 0, none⟩ = some (.slice Ao14 t448.length co14) := (blk_cell BK457.out 0).trans rfl
         have hcz78_1 : w76.cell? ⟨gb457, 1, none⟩ = some (.slice Ao17 t451.length co17) := (blk_cell BK457.out 1).trans rfl
         have hcz78_2 : w76.cell? ⟨gb457, 2, none⟩ = some (.slice Ao18 t454.length co18) := (blk_cell BK457.out 2).trans rfl
         have hfz78_0 := blk_frozen BK457.out 0
         have hfz78_1 := blk_frozen BK457.out 1
         have hfz78_2 := blk_frozen BK457.out 2
         go_upto_region 19 with (first | ((with_reducible refine gate_callee (f := 30) rfl ?_); refine goesL_ (some 121) rfl rfl Tryd.func30 (by kernel_rfl) rfl #[.agg #[.slice Ao14 t448.length co14, .slice Ao17 t451.length co17, .slice Ao18 t454.length co18]] rfl dz ?_; (with_reducible refine (tickingref07_Cover.calls k2 _ _ t448 _ _ t451 _ _ t454 t481 t484 _ ?side1 ?side2 ?side3 ?side4 ?side5 ?side6 A71.out).mono ?_); (case side1 => exact cz ((Kd.R_reads' HO_458000.out).2.2)); (case side2 => exact (Kd.R_reads' HO_458000.out).2.1); (case side3 => exact cz ((Kd.S_reads' HO_458001.out).2.2)); (case side4 => exact (Kd.S_reads' HO_458001.out).2.1); (case side5 => exact cz ((Kd.R_reads' HO_458002.out).2.2)); (case side6 => exact (Kd.R_reads' HO_458002.out).2.1); rintro e w79 ⟨v482, rfl, ho0, hb⟩; refine ⟨_, rfl, ?_⟩; have n0_ := Aside0.mk (Kd.R_below (rz HO_4.out) hb); have n1_ := Aside0.mk (Kd.R_below (rz HO_6.out) hb); have n2_ := Aside0.mk (Kd.R_elder' (rz HO_8.out) (Kd.R_base ho0) hb); have n3_ := Aside0.mk (Kd.R_below (rz HO_10.out) hb); have n4_ := Aside0.mk (Kd.R_elder' (rz HO_458000.out) (Kd.R_base ho0) hb); have n5_ := Aside0.mk (Kd.S_elder' (sz HO_458001.out) (Kd.R_base ho0) hb); have n6_ := Aside0.mk (Kd.R_elder' (rz HO_458002.out) (Kd.R_base ho0) hb); have n7_ := Aside0.mk (Kd.R_below (rz HO480.out) hb); have n8_ := Aside0.mk (Kd.R_lower (Kd.R_new' (Kd.R_new' (Kd.R_new' ho0 (Kd.R_lt (rz HO_8.out))) (Kd.R_lt (rz HO_458000.out))) (Kd.R_lt (rz HO_458002.out))) (below_size bz)); have n9_ := Aside0.mk (kb BK447.out hb); have n10_ := Aside0.mk (kb BK457.out hb); have n11_ := Aside0.mk (below_step bz hb); clear HO_4; clear HO_6; clear HO_8; clear HO_10; clear HO_458000; clear HO_458001; clear HO_458002; clear HO480; clear BK447; clear BK457; clear HB; have HO_4 := n0_; have HO_6 := n1_; have HO_8 := n2_; have HO_10 := n3_; have HO_458000 := n4_; have HO_458001 := n5_; have HO_458002 := n6_; have HO480 := n7_; have HO483 := n8_; have BK447 := n9_; have BK457 := n10_; have HB := n11_; clear n0_ n1_ n2_ n3_ n4_ n5_ n6_ n7_ n8_ n9_ n10_ n11_; (try clear hb); (try clear hb2); (try clear hk); (try clear hi); (try clear ho0)))
         (try simp only [Act.put, List.setIfInBounds_toArray, List.set_cons_zero, List.set_cons_succ])
         go_cut [142] (fun v142 wc => ∃ (kq : Nat) (x142_71 : Bool), v142 = .bool x142_71 ∧ Aside0 (tickinglaw07_TestsGreedy.j2 kq t458 t478 x142_71 = some r) ∧ Aside0 (kq ≤ k2) ∧ Aside0 (Kd.R k57 57 wc w.heap.size (fun k_ => some k_ ≠ (v479 : Value).ownBlock) v459 t458) ∧ Aside0 (Kd.R k57 57 wc w.heap.size (fun k_ => some k_ ≠ (v459 : Value).ownBlock) v479 t478) ∧ Aside0 (Kd.R (Kd.int .i64) 3 wc w.heap.size (fun k_ => some k_ ≠ ((.slice Ao18 t454.length co18) : Value).ownBlock) (.slice Ao14 t448.length co14) t448) ∧ Aside0 (Kd.S (Kd.slice 3 (Kd.int .i64)) 22 wc w.heap.size (fun k_ => some k_ ≠ ((.slice Ao14 t448.length co14) : Value).ownBlock ∧ some k_ ≠ ((.slice Ao18 t454.length co18) : Value).ownBlock) (.slice Ao17 t451.length co17) t451) ∧ Aside0 (Kd.R (Kd.int .i64) 3 wc w.heap.size (fun k_ => some k_ ≠ ((.slice Ao14 t448.length co14) : Value).ownBlock) (.slice Ao18 t454.length co18) t454) ∧ Aside0 (wc.heap[gb447]? = some (.cells #[(.slice A0_0 l0_0.length c0_0), (.slice A0_1 l0_1.length c0_1), (.slice A0_2 l0_2.length c0_2)] 25 (0, 0))) ∧ Aside0 (wc.heap[gb457]? = some (.cells #[(.slice Ao14 t448.length co14), (.slice Ao17 t451.length co17), (.slice Ao18 t454.length co18)] 25 (0, 0))) ∧ Aside0 (Below w.heap.size w wc))
         case first =>
          have H := HC72.out
          clear HC72
          by_cases c80 : (t458.length : Int) = (t478.length : Int)
          ·rw [if_pos c80] at H
           have c80b0 : ((t458.length : Int) == (t478.length : Int)) = true := beq_iff_eq.mpr c80
           have c80b1 : ((t458.length : Int) != (t478.length : Int)) = false := bne_eq_false_iff_eq.mpr c80
           have c80b2 : (t458.length == t478.length) = true := by first | simpa using c80 | (simp at c80 ⊢; omega)
           clear c80
           (first | rw [c80b0] | (simp only [i64_w, i32_w]; rw [c80b0]) | skip)
           by_cases c81 : t461 = 0
           ·rw [if_pos c81] at H
            have c81b0 : (t461 == 0) = true := beq_iff_eq.mpr c81
            have c81b1 : (t461 != 0) = false := bne_eq_false_iff_eq.mpr c81
            clear c81
            replace H := Option.bind_eq_some_iff.mp H
            obtain ⟨t485, A820, H⟩ := H
            replace H : (if t485 = true then (tickinglaw07_TestsGreedy.j2 k2 t458 t478 (t469 != 0)) else (tickinglaw07_TestsGreedy.j2 k2 t458 t478 true)) = some r := H
            have A82 := Aside0.mk A820
            clear A820
            by_cases c83 : t485 = true
            ·subst c83
             have H1 : (tickinglaw07_TestsGreedy.j2 k2 t458 t478 (t469 != 0)) = some r := by rw [if_pos rfl] at H; exact H
             clear H
             have H := H1
             clear H1
             have H' := Aside0.mk H
             clear H
             obtain ⟨Ao84, co84, eo84⟩ := Kd.R_slice HO_4.out
             subst eo84
             obtain ⟨Ao85, co85, eo85⟩ := Kd.R_slice HO480.out
             subst eo85
             obtain ⟨Ao86, co86, eo86⟩ := Kd.R_slice HO_8.out
             subst eo86
             obtain ⟨Ao87, co87, eo87⟩ := Kd.R_slice HO483.out
             subst eo87
             go_wp2_with (first | (go_at_call 25; (with_reducible refine (tickinglaw07_ints.calls k2 _ _ t466 _ _ t481 true _ ?side1 ?side2 ?side3 ?side4 A82.out).mono ?_); (case side1 => exact cz ((Kd.R_reads' HO_8.out).2.2)); (case side2 => exact (Kd.R_reads' HO_8.out).2.1); (case side3 => exact cz ((Kd.R_reads' HO483.out).2.2)); (case side4 => exact (Kd.R_reads' HO483.out).2.1); rintro e w' ⟨rfl, ⟨nd, rfl⟩⟩))
             go_meet
             case rel => exact ⟨_, ((t469 != 0)), (by first | rfl | (simp; done) | (simp [*]; done)), H', ⟨by have := HJ8.out; have := HK2.out; first | omega | exact Nat.le_refl _⟩, ⟨by (with_reducible repeat (first | apply Kd.R_alloc | apply Kd.R_drewN | apply Kd.R_drew)); exact Kd.R_mono HO_4.out (fun _ hk => hk.2)⟩, ⟨by (with_reducible repeat (first | apply Kd.R_alloc | apply Kd.R_drewN | apply Kd.R_drew)); exact Kd.R_mono HO480.out (fun _ hk => hk.2)⟩, ⟨by (with_reducible repeat (first | apply Kd.R_alloc | apply Kd.R_drewN | apply Kd.R_drew)); exact Kd.R_mono HO_458000.out (fun _ hk => hk.1.2)⟩, ⟨by (with_reducible repeat (first | apply Kd.S_alloc | apply Kd.S_drewN | apply Kd.S_drew)); exact Kd.S_mono HO_458001.out (fun _ hk => ⟨hk.1.2.1, hk.1.2.2⟩)⟩, ⟨by (with_reducible repeat (first | apply Kd.R_alloc | apply Kd.R_drewN | apply Kd.R_drew)); exact Kd.R_mono HO_458002.out (fun _ hk => hk.1.2)⟩, ⟨by (with_reducible repeat (first | refine blk_drewN ?_ _ | refine blk_drew ?_ | refine blk_alloc ?_ _)); exact BK447.out⟩, ⟨by (with_reducible repeat (first | refine blk_drewN ?_ _ | refine blk_drew ?_ | refine blk_alloc ?_ _)); exact BK457.out⟩, ⟨by repeat (first | (with_reducible first | exact HB.out | apply below_alloc | apply pw_below_drewN | apply below_drew1 | refine below_set ?_ GE447.out | refine below_set ?_ GE457.out) | exact HB.out)⟩⟩
            ·replace c83 := Bool.eq_false_iff.mpr c83
             subst c83
             have H1 : (tickinglaw07_TestsGreedy.j2 k2 t458 t478 true) = some r := by rw [if_neg (show ¬ (false = true) by decide)] at H; exact H
             clear H
             have H := H1
             clear H1
             have H' := Aside0.mk H
             clear H
             obtain ⟨Ao88, co88, eo88⟩ := Kd.R_slice HO_4.out
             subst eo88
             obtain ⟨Ao89, co89, eo89⟩ := Kd.R_slice HO480.out
             subst eo89
             obtain ⟨Ao90, co90, eo90⟩ := Kd.R_slice HO_8.out
             subst eo90
             obtain ⟨Ao91, co91, eo91⟩ := Kd.R_slice HO483.out
             subst eo91
             go_wp2_with (first | (go_at_call 25; (with_reducible refine (tickinglaw07_ints.calls k2 _ _ t466 _ _ t481 false _ ?side1 ?side2 ?side3 ?side4 A82.out).mono ?_); (case side1 => exact cz ((Kd.R_reads' HO_8.out).2.2)); (case side2 => exact (Kd.R_reads' HO_8.out).2.1); (case side3 => exact cz ((Kd.R_reads' HO483.out).2.2)); (case side4 => exact (Kd.R_reads' HO483.out).2.1); rintro e w' ⟨rfl, ⟨nd, rfl⟩⟩))
             go_meet
             case rel => exact ⟨_, (true), (by first | rfl | (simp; done) | (simp [*]; done)), H', ⟨by have := HJ8.out; have := HK2.out; first | omega | exact Nat.le_refl _⟩, ⟨by (with_reducible repeat (first | apply Kd.R_alloc | apply Kd.R_drewN | apply Kd.R_drew)); exact Kd.R_mono HO_4.out (fun _ hk => hk.2)⟩, ⟨by (with_reducible repeat (first | apply Kd.R_alloc | apply Kd.R_drewN | apply Kd.R_drew)); exact Kd.R_mono HO480.out (fun _ hk => hk.2)⟩, ⟨by (with_reducible repeat (first | apply Kd.R_alloc | apply Kd.R_drewN | apply Kd.R_drew)); exact Kd.R_mono HO_458000.out (fun _ hk => hk.1.2)⟩, ⟨by (with_reducible repeat (first | apply Kd.S_alloc | apply Kd.S_drewN | apply Kd.S_drew)); exact Kd.S_mono HO_458001.out (fun _ hk => ⟨hk.1.2.1, hk.1.2.2⟩)⟩, ⟨by (with_reducible repeat (first | apply Kd.R_alloc | apply Kd.R_drewN | apply Kd.R_drew)); exact Kd.R_mono HO_458002.out (fun _ hk => hk.1.2)⟩, ⟨by (with_reducible repeat (first | refine blk_drewN ?_ _ | refine blk_drew ?_ | refine blk_alloc ?_ _)); exact BK447.out⟩, ⟨by (with_reducible repeat (first | refine blk_drewN ?_ _ | refine blk_drew ?_ | refine blk_alloc ?_ _)); exact BK457.out⟩, ⟨by repeat (first | (with_reducible first | exact HB.out | apply below_alloc | apply pw_below_drewN | apply below_drew1 | refine below_set ?_ GE447.out | refine below_set ?_ GE457.out) | exact HB.out)⟩⟩
           ·rw [if_neg c81] at H
            have c81b0 : (t461 == 0) = false := beq_eq_false_iff_ne.mpr c81
            have c81b1 : (t461 != 0) = true := bne_iff_ne.mpr c81
            have H' := Aside0.mk H
            clear H
            obtain ⟨Ao92, co92, eo92⟩ := Kd.R_slice HO_4.out
            subst eo92
            obtain ⟨Ao93, co93, eo93⟩ := Kd.R_slice HO480.out
            subst eo93
            go_wp2
            go_meet
            case rel => exact ⟨_, (true), (by first | rfl | (simp; done) | (simp [*]; done)), H', ⟨by have := HJ8.out; have := HK2.out; first | omega | exact Nat.le_refl _⟩, ⟨by (with_reducible repeat (first | apply Kd.R_alloc | apply Kd.R_drewN | apply Kd.R_drew)); exact Kd.R_mono HO_4.out (fun _ hk => hk.2)⟩, ⟨by (with_reducible repeat (first | apply Kd.R_alloc | apply Kd.R_drewN | apply Kd.R_drew)); exact Kd.R_mono HO480.out (fun _ hk => hk.2)⟩, ⟨by (with_reducible repeat (first | apply Kd.R_alloc | apply Kd.R_drewN | apply Kd.R_drew)); exact Kd.R_mono HO_458000.out (fun _ hk => hk.1.2)⟩, ⟨by (with_reducible repeat (first | apply Kd.S_alloc | apply Kd.S_drewN | apply Kd.S_drew)); exact Kd.S_mono HO_458001.out (fun _ hk => ⟨hk.1.2.1, hk.1.2.2⟩)⟩, ⟨by (with_reducible repeat (first | apply Kd.R_alloc | apply Kd.R_drewN | apply Kd.R_drew)); exact Kd.R_mono HO_458002.out (fun _ hk => hk.1.2)⟩, ⟨by (with_reducible repeat (first | refine blk_drewN ?_ _ | refine blk_drew ?_ | refine blk_alloc ?_ _)); exact BK447.out⟩, ⟨by (with_reducible repeat (first | refine blk_drewN ?_ _ | refine blk_drew ?_ | refine blk_alloc ?_ _)); exact BK457.out⟩, ⟨by repeat (first | (with_reducible first | exact HB.out | apply below_alloc | apply pw_below_drewN | apply below_drew1 | refine below_set ?_ GE447.out | refine below_set ?_ GE457.out) | exact HB.out)⟩⟩
          ·rw [if_neg c80] at H
           have c80b0 : ((t458.length : Int) == (t478.length : Int)) = false := beq_eq_false_iff_ne.mpr c80
           have c80b1 : ((t458.length : Int) != (t478.length : Int)) = true := bne_iff_ne.mpr c80
           have c80b2 : (t458.length == t478.length) = false := by first | simpa using c80 | (simp at c80 ⊢; omega)
           (first | rw [c80b0] | (simp only [i64_w, i32_w]; rw [c80b0]) | skip)
           have H' := Aside0.mk H
           clear H
           obtain ⟨Ao94, co94, eo94⟩ := Kd.R_slice HO_4.out
           subst eo94
           obtain ⟨Ao95, co95, eo95⟩ := Kd.R_slice HO480.out
           subst eo95
           go_wp2
           go_meet
           case rel => exact ⟨_, (true), (by first | rfl | (simp; done) | (simp [*]; done)), H', ⟨by have := HJ8.out; have := HK2.out; first | omega | exact Nat.le_refl _⟩, ⟨by (with_reducible repeat (first | apply Kd.R_alloc | apply Kd.R_drewN | apply Kd.R_drew)); exact Kd.R_mono HO_4.out (fun _ hk => hk.2)⟩, ⟨by (with_reducible repeat (first | apply Kd.R_alloc | apply Kd.R_drewN | apply Kd.R_drew)); exact Kd.R_mono HO480.out (fun _ hk => hk.2)⟩, ⟨by (with_reducible repeat (first | apply Kd.R_alloc | apply Kd.R_drewN | apply Kd.R_drew)); exact Kd.R_mono HO_458000.out (fun _ hk => hk.1.2)⟩, ⟨by (with_reducible repeat (first | apply Kd.S_alloc | apply Kd.S_drewN | apply Kd.S_drew)); exact Kd.S_mono HO_458001.out (fun _ hk => ⟨hk.1.2.1, hk.1.2.2⟩)⟩, ⟨by (with_reducible repeat (first | apply Kd.R_alloc | apply Kd.R_drewN | apply Kd.R_drew)); exact Kd.R_mono HO_458002.out (fun _ hk => hk.1.2)⟩, ⟨by (with_reducible repeat (first | refine blk_drewN ?_ _ | refine blk_drew ?_ | refine blk_alloc ?_ _)); exact BK447.out⟩, ⟨by (with_reducible repeat (first | refine blk_drewN ?_ _ | refine blk_drew ?_ | refine blk_alloc ?_ _)); exact BK457.out⟩, ⟨by repeat (first | (with_reducible first | exact HB.out | apply below_alloc | apply pw_below_drewN | apply below_drew1 | refine below_set ?_ GE447.out | refine below_set ?_ GE457.out) | exact HB.out)⟩⟩
         case rest =>
          clear HC72
          try clear c2
          try clear p2
          try clear c3
          try clear c4
          try clear p4
          try clear q4
          try clear hx4
          try clear p6
          try clear c7
          try clear c8
          try clear c29
          try clear c30
          try clear c34
          try clear c34b0
          try clear c35
          try clear c36
          try clear c37
          try clear c37b0
          try clear c44
          try clear c44b0
          try clear c44b1
          try clear c45
          try clear c45b0
          try clear c45b1
          try clear c45b2
          try clear c46
          try clear c46b0
          try clear c46b1
          try clear c47
          try clear c47b0
          try clear c47b1
          try clear c47b2
          try clear p47
          try clear q47
          try clear hx47
          try clear c48
          try clear c48b0
          try clear c48b1
          try clear p64
          try clear c77
          try clear c80
          try clear c80b0
          try clear c80b1
          try clear c80b2
          try clear c81
          try clear c81b0
          try clear c81b1
          try clear c83
          try clear hcz78_0
          try clear hcz78_1
          try clear hcz78_2
          try clear hfz78_0
          try clear hfz78_1
          try clear hfz78_2
          try clear hx475_0
          try clear hx475_1
          try clear hx476_0
          try clear hx476_1
          try clear p475
          try clear p476
          try clear q475
          try clear q476
          obtain ⟨kq, x142_71, rfl, HA, HJ71, HO_4, HO_12, HO_458000, HO_458001, HO_458002, BK447, BK457, HB⟩ := hcut
          cases kq with
          | zero => exact absurd HA.out (by simp [tickinglaw07_TestsGreedy.j2])
          | succ kj71 =>
           have H := HA.out
           clear HA
           simp only [tickinglaw07_TestsGreedy.j2] at H
           by_cases c96 : x142_71 = true
           ·subst c96
            have H1 : (some false) = some r := by rw [if_pos rfl] at H; exact H
            clear H
            have H := H1
            clear H1
            obtain rfl := Option.some.inj H
            go_wp2
            go_ret
            exact ⟨by first | rfl | (simp [errW_none, errW_some] <;> rfl) | (simp only [← hji69]; first | rfl | (simp [errW_none, errW_some] <;> rfl)) | (simp [*, errW_none, errW_some] <;> rfl), by repeat (first | (with_reducible first | exact HB.out | apply below_alloc | apply pw_below_drewN | apply below_drew1 | refine below_set ?_ GE447.out | refine below_set ?_ GE457.out) | exact HB.out)⟩
           ·replace c96 := Bool.eq_false_iff.mpr c96
            subst c96
            have H1 : (tickinglaw07_TestsGreedy.l1 kj71 t458 t478 0) = some r := by rw [if_neg (show ¬ (false = true) by decide)] at H; exact H
            clear H
            have H := H1
            clear H1
            have H' := Aside0.mk H
            clear H
            go_wp2
            go_loopg [15] kj71 (fun kq v15 w' => ∃ (x15_4 : Int), v15 = .int .i64 x15_4 ∧ Aside0 (tickinglaw07_TestsGreedy.l1 kq t458 t478 x15_4 = some r) ∧ Aside0 (kq ≤ kj71) ∧ Aside0 (Kd.R k57 57 w' w.heap.size (fun k_ => some k_ ≠ (v479 : Value).ownBlock) v459 t458) ∧ Aside0 (Kd.R k57 57 w' w.heap.size (fun k_ => some k_ ≠ (v459 : Value).ownBlock) v479 t478) ∧ Aside0 (Kd.R (Kd.int .i64) 3 w' w.heap.size (fun k_ => some k_ ≠ ((.slice Ao18 t454.length co18) : Value).ownBlock) (.slice Ao14 t448.length co14) t448) ∧ Aside0 (Kd.S (Kd.slice 3 (Kd.int .i64)) 22 w' w.heap.size (fun k_ => some k_ ≠ ((.slice Ao14 t448.length co14) : Value).ownBlock ∧ some k_ ≠ ((.slice Ao18 t454.length co18) : Value).ownBlock) (.slice Ao17 t451.length co17) t451) ∧ Aside0 (Kd.R (Kd.int .i64) 3 w' w.heap.size (fun k_ => some k_ ≠ ((.slice Ao14 t448.length co14) : Value).ownBlock) (.slice Ao18 t454.length co18) t454) ∧ Aside0 (w'.heap[gb447]? = some (.cells #[(.slice A0_0 l0_0.length c0_0), (.slice A0_1 l0_1.length c0_1), (.slice A0_2 l0_2.length c0_2)] 25 (0, 0))) ∧ Aside0 (w'.heap[gb457]? = some (.cells #[(.slice Ao14 t448.length co14), (.slice Ao17 t451.length co17), (.slice Ao18 t454.length co18)] 25 (0, 0))) ∧ Aside0 (Below w.heap.size w w'))
            case atStart => exact ⟨(0), (by first | rfl | (simp; done) | (simp [*]; done)), H', ⟨Nat.le_refl _⟩, ⟨by (with_reducible repeat (first | apply Kd.R_alloc | apply Kd.R_drewN | apply Kd.R_drew)); exact HO_4.out⟩, ⟨by (with_reducible repeat (first | apply Kd.R_alloc | apply Kd.R_drewN | apply Kd.R_drew)); exact HO_12.out⟩, ⟨by (with_reducible repeat (first | apply Kd.R_alloc | apply Kd.R_drewN | apply Kd.R_drew)); exact HO_458000.out⟩, ⟨by (with_reducible repeat (first | apply Kd.S_alloc | apply Kd.S_drewN | apply Kd.S_drew)); exact HO_458001.out⟩, ⟨by (with_reducible repeat (first | apply Kd.R_alloc | apply Kd.R_drewN | apply Kd.R_drew)); exact HO_458002.out⟩, ⟨by (with_reducible repeat (first | refine blk_drewN ?_ _ | refine blk_drew ?_ | refine blk_alloc ?_ _)); exact BK447.out⟩, ⟨by (with_reducible repeat (first | refine blk_drewN ?_ _ | refine blk_drew ?_ | refine blk_alloc ?_ _)); exact BK457.out⟩, ⟨by repeat (first | (with_reducible first | exact HB.out | apply below_alloc | apply pw_below_drewN | apply below_drew1 | refine below_set ?_ GE447.out | refine below_set ?_ GE457.out) | exact HB.out)⟩⟩
            case round =>
             clear H'
             try clear c2
             try clear p2
             try clear c3
             try clear c4
             try clear p4
             try clear q4
             try clear hx4
             try clear p6
             try clear c7
             try clear c8
             try clear c9
             try clear c29
             try clear c30
             try clear c34
             try clear c34b0
             try clear c35
             try clear c36
             try clear c37
             try clear c37b0
             try clear c44
             try clear c44b0
             try clear c44b1
             try clear c45
             try clear c45b0
             try clear c45b1
             try clear c45b2
             try clear c46
             try clear c46b0
             try clear c46b1
             try clear c47
             try clear c47b0
             try clear c47b1
             try clear c47b2
             try clear p47
             try clear q47
             try clear hx47
             try clear c48
             try clear c48b0
             try clear c48b1
             try clear p64
             try clear c77
             try clear c80
             try clear c80b0
             try clear c80b1
             try clear c80b2
             try clear c81
             try clear c81b0
             try clear c81b1
             try clear c83
             try clear c96
             try clear hcz78_0
             try clear hcz78_1
             try clear hcz78_2
             try clear hfz78_0
             try clear hfz78_1
             try clear hfz78_2
             try clear hx475_0
             try clear hx475_1
             try clear hx476_0
             try clear hx476_1
             try clear p2
             try clear p4
             try clear p47
             try clear p475
             try clear p476
             try clear p6
             try clear p64
             try clear q4
             try clear q47
             try clear q475
             try clear q476
             obtain ⟨x15_4, rfl, HA, HK4, HO_4, HO_12, HO_458000, HO_458001, HO_458002, BK447, BK457, HB⟩ := hrel
             cases gk with
             | zero => exact absurd HA.out (by simp [tickinglaw07_TestsGreedy.l1])
             | succ k4 =>
              have H := HA.out
              clear HA
              simp only [tickinglaw07_TestsGreedy.l1] at H
              by_cases c97 : x15_4 < (t458.length : Int)
              ·rw [if_pos c97] at H
               have c97b0 : decide (x15_4 < (t458.length : Int)) = true := decide_eq_true c97
               clear c97
               by_cases c98 : 0 ≤ x15_4
               ·rw [if_pos c98] at H
                have c98b0 : decide (0 ≤ x15_4) = true := decide_eq_true c98
                clear c98
                by_cases c99 : x15_4 < (t478.length : Int)
                ·rw [if_pos c99] at H
                 have c99b0 : decide (x15_4 < (t478.length : Int)) = true := decide_eq_true c99
                 clear c99
                 by_cases c100 : (!(((rd_T57 t458 x15_4).f0) == ((rd_T57 t478 x15_4).f0)) || (!(((rd_T57 t458 x15_4).f1) == ((rd_T57 t478 x15_4).f1)) || (!(((rd_T57 t458 x15_4).f2) == ((rd_T57 t478 x15_4).f2)) || (!(((rd_T57 t458 x15_4).f3) == ((rd_T57 t478 x15_4).f3)))))) = true
                 ·rw [if_pos c100] at H
                  have c100b0 : (!(((rd_T57 t458 x15_4).f0) == ((rd_T57 t478 x15_4).f0)) || (!(((rd_T57 t458 x15_4).f1) == ((rd_T57 t478 x15_4).f1)) || (!(((rd_T57 t458 x15_4).f2) == ((rd_T57 t478 x15_4).f2)) || (!(((rd_T57 t458 x15_4).f3) == ((rd_T57 t478 x15_4).f3)))))) = true := c100
                  clear c100
                  obtain rfl := Option.some.inj H
                  obtain ⟨Ao101, co101, eo101⟩ := Kd.R_slice HO_4.out
                  subst eo101
                  try go_wp2
                  have n0_ := Aside0.mk (Kd.R_drew HO_4.out)
                  have n1_ := Aside0.mk (Kd.R_drew HO_12.out)
                  have n2_ := Aside0.mk (Kd.R_drew HO_458000.out)
                  have n3_ := Aside0.mk (Kd.S_drew HO_458001.out)
                  have n4_ := Aside0.mk (Kd.R_drew HO_458002.out)
                  have n5_ := Aside0.mk (blk_drew BK447.out)
                  have n6_ := Aside0.mk (blk_drew BK457.out)
                  have n7_ := Aside0.mk (below_drew1 HB.out)
                  clear HO_4
                  clear HO_12
                  clear HO_458000
                  clear HO_458001
                  clear HO_458002
                  clear BK447
                  clear BK457
                  clear HB
                  have HO_4 := n0_
                  have HO_12 := n1_
                  have HO_458000 := n2_
                  have HO_458001 := n3_
                  have HO_458002 := n4_
                  have BK447 := n5_
                  have BK457 := n6_
                  have HB := n7_
                  clear n0_ n1_ n2_ n3_ n4_ n5_ n6_ n7_
                  have p486 : 0 ≤ (x15_4 : Int) := of_decide_eq_true az
                  have q486 : x15_4 < (t458.length : Int) := of_decide_eq_true az
                  obtain ⟨ad486, e486, hx486_0, hx486_1, hx486_2, hx486_3⟩ := at_T57 (Kd.R_reads' HO_4.out).2.2 x15_4 p486 q486
                  cases e486
                  replace p486 := eq_true p486
                  replace q486 := eq_true q486
                  obtain ⟨Ao103, co103, eo103⟩ := Kd.R_slice HO_12.out
                  (first | subst eo103 | (injection eo103 with f1_ f2_ f3_; have f4_ := f1_.symm; have f5_ := f3_.symm; clear f1_ f2_ f3_; subst f4_; subst f5_))
                  have p487 : 0 ≤ (x15_4 : Int) := of_decide_eq_true az
                  have q487 : x15_4 < (t478.length : Int) := of_decide_eq_true az
                  obtain ⟨ad487, e487, hx487_0, hx487_1, hx487_2, hx487_3⟩ := at_T57 (Kd.R_reads' HO_12.out).2.2 x15_4 p487 q487
                  cases e487
                  replace p487 := eq_true p487
                  replace q487 := eq_true q487
                  refine start_ (n := 9) (S := fun w' => w'.cell? (ad486.add ((x15_4).toNat * 4)) = some (.int .i64 ((rd_T57 t458 x15_4).f0)) ∧ w'.cell? ⟨(ad486.add ((x15_4).toNat * 4)).block, (ad486.add ((x15_4).toNat * 4)).off + 1, none⟩ = some (.int .i64 ((rd_T57 t458 x15_4).f1)) ∧ w'.cell? ⟨(ad486.add ((x15_4).toNat * 4)).block, (ad486.add ((x15_4).toNat * 4)).off + 2, none⟩ = some (.int .i64 ((rd_T57 t458 x15_4).f2)) ∧ w'.cell? ⟨(ad486.add ((x15_4).toNat * 4)).block, (ad486.add ((x15_4).toNat * 4)).off + 3, none⟩ = some (.int .i64 ((rd_T57 t458 x15_4).f3)) ∧ w'.cell? (ad487.add ((x15_4).toNat * 4)) = some (.int .i64 ((rd_T57 t478 x15_4).f0)) ∧ w'.cell? ⟨(ad487.add ((x15_4).toNat * 4)).block, (ad487.add ((x15_4).toNat * 4)).off + 1, none⟩ = some (.int .i64 ((rd_T57 t478 x15_4).f1)) ∧ w'.cell? ⟨(ad487.add ((x15_4).toNat * 4)).block, (ad487.add ((x15_4).toNat * 4)).off + 2, none⟩ = some (.int .i64 ((rd_T57 t478 x15_4).f2)) ∧ w'.cell? ⟨(ad487.add ((x15_4).toNat * 4)).block, (ad487.add ((x15_4).toNat * 4)).off + 3, none⟩ = some (.int .i64 ((rd_T57 t478 x15_4).f3))) (ds := []) #[false, false, false, false, false, false, false, false, false] (by kernel_rfl) rfl rfl ⟨hx486_0, hx486_1, hx486_2, hx486_3, hx487_0, hx487_1, hx487_2, hx487_3⟩ (fun hHeld => ?_); refine with_tabW tickinglaw07_TestsGreedy.tab24 tickinglaw07_TestsGreedy.bits24 (fun HT_ HW_ => ?_)
                  generalize wr.drew = w102 at HO_4 HO_12 HO_458000 HO_458001 HO_458002 BK447 BK457 HB hx486_0 hx486_1 hx486_2 hx486_3 hx487_0 hx487_1 hx487_2 hx487_3 hHeld ⊢
                  refine pure_ (i := 0) (N := some 149) (v := ?_) (a' := ?_) #[true, false, false, false, false, false, false, false, false] rfl rfl (any_of HT_.out (by kernel_rfl)) (fun _ _ _ h => h) (Or.inl ⟨by rfl, ?_⟩) ?_ ?_
                  rotate_left
                  ·intro w'
                   go_simp
                   with_reducible rfl
                  rotate_left
                  ·simp only [Act.put, List.setIfInBounds_toArray, List.set_cons_zero, List.set_cons_succ, i64_w, i32_w]
                   rfl
                  refine pure_ (i := 1) (N := some 150) (v := ?_) (a' := ?_) #[true, true, false, false, false, false, false, false, false] rfl rfl (any_of HT_.out (by kernel_rfl)) (fun _ _ _ h => h) (Or.inl ⟨by rfl, ?_⟩) ?_ ?_
                  rotate_left
                  ·intro w'
                   go_simp
                   with_reducible rfl
                  rotate_left
                  ·simp only [Act.put, List.setIfInBounds_toArray, List.set_cons_zero, List.set_cons_succ, i64_w, i32_w]
                   rfl
                  refine pure_ (i := 2) (N := some 151) (v := ?_) (a' := ?_) #[true, true, true, false, false, false, false, false, false] rfl rfl (any_of HT_.out (by kernel_rfl)) (fun _ _ _ h => h) (Or.inl ⟨by rfl, ?_⟩) ?_ ?_
                  rotate_left
                  ·intro w'
                   go_simp
                   with_reducible rfl
                  rotate_left
                  ·simp only [Act.put, List.setIfInBounds_toArray, List.set_cons_zero, List.set_cons_succ, i64_w, i32_w]
                   rfl
                  refine pure_ (i := 4) (N := some 153) (v := ?_) (a' := ?_) #[true, true, true, false, true, false, false, false, false] rfl rfl (any_of HT_.out (by kernel_rfl)) (fun _ _ _ h => h) (Or.inl ⟨by rfl, ?_⟩) ?_ ?_
                  rotate_left
                  ·intro w'
                   go_simp
                   with_reducible rfl
                  rotate_left
                  ·simp only [Act.put, List.setIfInBounds_toArray, List.set_cons_zero, List.set_cons_succ, i64_w, i32_w]
                   rfl
                  refine pure_ (i := 5) (N := some 154) (v := ?_) (a' := ?_) #[true, true, true, false, true, true, false, false, false] rfl rfl (any_of HT_.out (by kernel_rfl)) (fun _ _ _ h => h) (Or.inl ⟨by rfl, ?_⟩) ?_ ?_
                  rotate_left
                  ·intro w'
                   go_simp
                   with_reducible rfl
                  rotate_left
                  ·simp only [Act.put, List.setIfInBounds_toArray, List.set_cons_zero, List.set_cons_succ, i64_w, i32_w]
                   rfl
                  refine pure_ (i := 6) (N := some 155) (v := ?_) (a' := ?_) #[true, true, true, false, true, true, true, false, false] rfl rfl (any_of HT_.out (by kernel_rfl)) (fun _ _ _ h => h) (Or.inl ⟨by rfl, ?_⟩) ?_ ?_
                  rotate_left
                  ·intro w'
                   go_simp
                   with_reducible rfl
                  rotate_left
                  ·simp only [Act.put, List.setIfInBounds_toArray, List.set_cons_zero, List.set_cons_succ, i64_w, i32_w]
                   rfl
                  refine take_ (i := 3) (N := some 152) (v := ?_) (a' := ?_) #[true, true, true, true, true, true, true, false, false] rfl rfl (take_ofW HT_.out HW_.out (by kernel_rfl)) (fun _ _ _ h => h) (Or.inl ⟨by rfl, ?_⟩) hHeld ?_ ?_
                  rotate_left
                  ·rintro w' ⟨s0, s1, s2, s3, s4, s5, s6, s7⟩
                   go_simp
                   with_reducible rfl
                  rotate_left
                  ·simp only [Act.put, List.setIfInBounds_toArray, List.set_cons_zero, List.set_cons_succ, i64_w, i32_w]
                   rfl
                  refine take_ (i := 7) (N := some 156) (v := ?_) (a' := ?_) #[true, true, true, true, true, true, true, true, false] rfl rfl (take_ofW HT_.out HW_.out (by kernel_rfl)) (fun _ _ _ h => h) (Or.inl ⟨by rfl, ?_⟩) hHeld ?_ ?_
                  rotate_left
                  ·rintro w' ⟨s0, s1, s2, s3, s4, s5, s6, s7⟩
                   go_simp
                   with_reducible rfl
                  rotate_left
                  ·simp only [Act.put, List.setIfInBounds_toArray, List.set_cons_zero, List.set_cons_succ, i64_w, i32_w]
                   rfl
                  refine pure_ (i := 8) (N := some 157) (v := ?_) (a' := ?_) #[true, true, true, true, true, true, true, true, true] rfl rfl (any_of HT_.out (by kernel_rfl)) (fun _ _ _ h => h) (Or.inl ⟨by rfl, ?_⟩) ?_ ?_
                  rotate_left
                  ·intro w'
                   go_simp
                   with_reducible rfl
                  rotate_left
                  ·simp only [Act.put, List.setIfInBounds_toArray, List.set_cons_zero, List.set_cons_succ, i64_w, i32_w]
                   rfl
                  refine done_ (done_of HT_.out (by kernel_rfl)) ?_
                  try go_wp2
                  go_ret
                  exact ⟨by first | rfl | (simp [errW_none, errW_some] <;> rfl) | (simp only [← hji69]; first | rfl | (simp [errW_none, errW_some] <;> rfl)) | (simp [*, errW_none, errW_some] <;> rfl), by repeat (first | (with_reducible first | exact HB.out | apply below_alloc | apply pw_below_drewN | apply below_drew1 | refine below_set ?_ GE447.out | refine below_set ?_ GE457.out) | exact HB.out)⟩
                 ·rw [if_neg c100] at H
                  have c100b0 : (!(((rd_T57 t458 x15_4).f0) == ((rd_T57 t478 x15_4).f0)) || (!(((rd_T57 t458 x15_4).f1) == ((rd_T57 t478 x15_4).f1)) || (!(((rd_T57 t458 x15_4).f2) == ((rd_T57 t478 x15_4).f2)) || (!(((rd_T57 t458 x15_4).f3) == ((rd_T57 t478 x15_4).f3)))))) = false := by simpa using c100
                  clear c100
                  have H' := Aside0.mk H
                  clear H
                  obtain ⟨Ao104, co104, eo104⟩ := Kd.R_slice HO_4.out
                  subst eo104
                  try go_wp2
                  have n0_ := Aside0.mk (Kd.R_drew HO_4.out)
                  have n1_ := Aside0.mk (Kd.R_drew HO_12.out)
                  have n2_ := Aside0.mk (Kd.R_drew HO_458000.out)
                  have n3_ := Aside0.mk (Kd.S_drew HO_458001.out)
                  have n4_ := Aside0.mk (Kd.R_drew HO_458002.out)
                  have n5_ := Aside0.mk (blk_drew BK447.out)
                  have n6_ := Aside0.mk (blk_drew BK457.out)
                  have n7_ := Aside0.mk (below_drew1 HB.out)
                  clear HO_4
                  clear HO_12
                  clear HO_458000
                  clear HO_458001
                  clear HO_458002
                  clear BK447
                  clear BK457
                  clear HB
                  have HO_4 := n0_
                  have HO_12 := n1_
                  have HO_458000 := n2_
                  have HO_458001 := n3_
                  have HO_458002 := n4_
                  have BK447 := n5_
                  have BK457 := n6_
                  have HB := n7_
                  clear n0_ n1_ n2_ n3_ n4_ n5_ n6_ n7_
                  have p486 : 0 ≤ (x15_4 : Int) := of_decide_eq_true az
                  have q486 : x15_4 < (t458.length : Int) := of_decide_eq_true az
                  obtain ⟨ad486, e486, hx486_0, hx486_1, hx486_2, hx486_3⟩ := at_T57 (Kd.R_reads' HO_4.out).2.2 x15_4 p486 q486
                  cases e486
                  replace p486 := eq_true p486
                  replace q486 := eq_true q486
                  obtain ⟨Ao106, co106, eo106⟩ := Kd.R_slice HO_12.out
                  (first | subst eo106 | (injection eo106 with f1_ f2_ f3_; have f4_ := f1_.symm; have f5_ := f3_.symm; clear f1_ f2_ f3_; subst f4_; subst f5_))
                  have p487 : 0 ≤ (x15_4 : Int) := of_decide_eq_true az
                  have q487 : x15_4 < (t478.length : Int) := of_decide_eq_true az
                  obtain ⟨ad487, e487, hx487_0, hx487_1, hx487_2, hx487_3⟩ := at_T57 (Kd.R_reads' HO_12.out).2.2 x15_4 p487 q487
                  cases e487
                  replace p487 := eq_true p487
                  replace q487 := eq_true q487
                  refine start_ (n := 9) (S := fun w' => w'.cell? (ad486.add ((x15_4).toNat * 4)) = some (.int .i64 ((rd_T57 t458 x15_4).f0)) ∧ w'.cell? ⟨(ad486.add ((x15_4).toNat * 4)).block, (ad486.add ((x15_4).toNat * 4)).off + 1, none⟩ = some (.int .i64 ((rd_T57 t458 x15_4).f1)) ∧ w'.cell? ⟨(ad486.add ((x15_4).toNat * 4)).block, (ad486.add ((x15_4).toNat * 4)).off + 2, none⟩ = some (.int .i64 ((rd_T57 t458 x15_4).f2)) ∧ w'.cell? ⟨(ad486.add ((x15_4).toNat * 4)).block, (ad486.add ((x15_4).toNat * 4)).off + 3, none⟩ = some (.int .i64 ((rd_T57 t458 x15_4).f3)) ∧ w'.cell? (ad487.add ((x15_4).toNat * 4)) = some (.int .i64 ((rd_T57 t478 x15_4).f0)) ∧ w'.cell? ⟨(ad487.add ((x15_4).toNat * 4)).block, (ad487.add ((x15_4).toNat * 4)).off + 1, none⟩ = some (.int .i64 ((rd_T57 t478 x15_4).f1)) ∧ w'.cell? ⟨(ad487.add ((x15_4).toNat * 4)).block, (ad487.add ((x15_4).toNat * 4)).off + 2, none⟩ = some (.int .i64 ((rd_T57 t478 x15_4).f2)) ∧ w'.cell? ⟨(ad487.add ((x15_4).toNat * 4)).block, (ad487.add ((x15_4).toNat * 4)).off + 3, none⟩ = some (.int .i64 ((rd_T57 t478 x15_4).f3))) (ds := []) #[false, false, false, false, false, false, false, false, false] (by kernel_rfl) rfl rfl ⟨hx486_0, hx486_1, hx486_2, hx486_3, hx487_0, hx487_1, hx487_2, hx487_3⟩ (fun hHeld => ?_); refine with_tabW tickinglaw07_TestsGreedy.tab24 tickinglaw07_TestsGreedy.bits24 (fun HT_ HW_ => ?_)
                  generalize wr.drew = w105 at HO_4 HO_12 HO_458000 HO_458001 HO_458002 BK447 BK457 HB hx486_0 hx486_1 hx486_2 hx486_3 hx487_0 hx487_1 hx487_2 hx487_3 hHeld ⊢
                  refine pure_ (i := 0) (N := some 149) (v := ?_) (a' := ?_) #[true, false, false, false, false, false, false, false, false] rfl rfl (any_of HT_.out (by kernel_rfl)) (fun _ _ _ h => h) (Or.inl ⟨by rfl, ?_⟩) ?_ ?_
                  rotate_left
                  ·intro w'
                   go_simp
                   with_reducible rfl
                  rotate_left
                  ·simp only [Act.put, List.setIfInBounds_toArray, List.set_cons_zero, List.set_cons_succ, i64_w, i32_w]
                   rfl
                  refine pure_ (i := 1) (N := some 150) (v := ?_) (a' := ?_) #[true, true, false, false, false, false, false, false, false] rfl rfl (any_of HT_.out (by kernel_rfl)) (fun _ _ _ h => h) (Or.inl ⟨by rfl, ?_⟩) ?_ ?_
                  rotate_left
                  ·intro w'
                   go_simp
                   with_reducible rfl
                  rotate_left
                  ·simp only [Act.put, List.setIfInBounds_toArray, List.set_cons_zero, List.set_cons_succ, i64_w, i32_w]
                   rfl
                  refine pure_ (i := 2) (N := some 151) (v := ?_) (a' := ?_) #[true, true, true, false, false, false, false, false, false] rfl rfl (any_of HT_.out (by kernel_rfl)) (fun _ _ _ h => h) (Or.inl ⟨by rfl, ?_⟩) ?_ ?_
                  rotate_left
                  ·intro w'
                   go_simp
                   with_reducible rfl
                  rotate_left
                  ·simp only [Act.put, List.setIfInBounds_toArray, List.set_cons_zero, List.set_cons_succ, i64_w, i32_w]
                   rfl
                  refine pure_ (i := 4) (N := some 153) (v := ?_) (a' := ?_) #[true, true, true, false, true, false, false, false, false] rfl rfl (any_of HT_.out (by kernel_rfl)) (fun _ _ _ h => h) (Or.inl ⟨by rfl, ?_⟩) ?_ ?_
                  rotate_left
                  ·intro w'
                   go_simp
                   with_reducible rfl
                  rotate_left
                  ·simp only [Act.put, List.setIfInBounds_toArray, List.set_cons_zero, List.set_cons_succ, i64_w, i32_w]
                   rfl
                  refine pure_ (i := 5) (N := some 154) (v := ?_) (a' := ?_) #[true, true, true, false, true, true, false, false, false] rfl rfl (any_of HT_.out (by kernel_rfl)) (fun _ _ _ h => h) (Or.inl ⟨by rfl, ?_⟩) ?_ ?_
                  rotate_left
                  ·intro w'
                   go_simp
                   with_reducible rfl
                  rotate_left
                  ·simp only [Act.put, List.setIfInBounds_toArray, List.set_cons_zero, List.set_cons_succ, i64_w, i32_w]
                   rfl
                  refine pure_ (i := 6) (N := some 155) (v := ?_) (a' := ?_) #[true, true, true, false, true, true, true, false, false] rfl rfl (any_of HT_.out (by kernel_rfl)) (fun _ _ _ h => h) (Or.inl ⟨by rfl, ?_⟩) ?_ ?_
                  rotate_left
                  ·intro w'
                   go_simp
                   with_reducible rfl
                  rotate_left
                  ·simp only [Act.put, List.setIfInBounds_toArray, List.set_cons_zero, List.set_cons_succ, i64_w, i32_w]
                   rfl
                  refine take_ (i := 3) (N := some 152) (v := ?_) (a' := ?_) #[true, true, true, true, true, true, true, false, false] rfl rfl (take_ofW HT_.out HW_.out (by kernel_rfl)) (fun _ _ _ h => h) (Or.inl ⟨by rfl, ?_⟩) hHeld ?_ ?_
                  rotate_left
                  ·rintro w' ⟨s0, s1, s2, s3, s4, s5, s6, s7⟩
                   go_simp
                   with_reducible rfl
                  rotate_left
                  ·simp only [Act.put, List.setIfInBounds_toArray, List.set_cons_zero, List.set_cons_succ, i64_w, i32_w]
                   rfl
                  refine take_ (i := 7) (N := some 156) (v := ?_) (a' := ?_) #[true, true, true, true, true, true, true, true, false] rfl rfl (take_ofW HT_.out HW_.out (by kernel_rfl)) (fun _ _ _ h => h) (Or.inl ⟨by rfl, ?_⟩) hHeld ?_ ?_
                  rotate_left
                  ·rintro w' ⟨s0, s1, s2, s3, s4, s5, s6, s7⟩
                   go_simp
                   with_reducible rfl
                  rotate_left
                  ·simp only [Act.put, List.setIfInBounds_toArray, List.set_cons_zero, List.set_cons_succ, i64_w, i32_w]
                   rfl
                  refine pure_ (i := 8) (N := some 157) (v := ?_) (a' := ?_) #[true, true, true, true, true, true, true, true, true] rfl rfl (any_of HT_.out (by kernel_rfl)) (fun _ _ _ h => h) (Or.inl ⟨by rfl, ?_⟩) ?_ ?_
                  rotate_left
                  ·intro w'
                   go_simp
                   with_reducible rfl
                  rotate_left
                  ·simp only [Act.put, List.setIfInBounds_toArray, List.set_cons_zero, List.set_cons_succ, i64_w, i32_w]
                   rfl
                  refine done_ (done_of HT_.out (by kernel_rfl)) ?_
                  try go_wp2
                  go_roundg k4
                  case measure => have := HJ8.out; have := HK2.out; have := HJ71.out; have := HK4.out; omega
                  case rel => exact ⟨(wrap64 (x15_4 + 1)), (by first | rfl | (simp; done) | (simp [*]; done)), H', ⟨by have := HJ8.out; have := HK2.out; have := HJ71.out; have := HK4.out; omega⟩, ⟨by (with_reducible repeat (first | apply Kd.R_alloc | apply Kd.R_drewN | apply Kd.R_drew)); exact HO_4.out⟩, ⟨by (with_reducible repeat (first | apply Kd.R_alloc | apply Kd.R_drewN | apply Kd.R_drew)); exact HO_12.out⟩, ⟨by (with_reducible repeat (first | apply Kd.R_alloc | apply Kd.R_drewN | apply Kd.R_drew)); exact HO_458000.out⟩, ⟨by (with_reducible repeat (first | apply Kd.S_alloc | apply Kd.S_drewN | apply Kd.S_drew)); exact HO_458001.out⟩, ⟨by (with_reducible repeat (first | apply Kd.R_alloc | apply Kd.R_drewN | apply Kd.R_drew)); exact HO_458002.out⟩, ⟨by (with_reducible repeat (first | refine blk_drewN ?_ _ | refine blk_drew ?_ | refine blk_alloc ?_ _)); exact BK447.out⟩, ⟨by (with_reducible repeat (first | refine blk_drewN ?_ _ | refine blk_drew ?_ | refine blk_alloc ?_ _)); exact BK457.out⟩, ⟨by repeat (first | (with_reducible first | exact HB.out | apply below_alloc | apply pw_below_drewN | apply below_drew1 | refine below_set ?_ GE447.out | refine below_set ?_ GE457.out) | exact HB.out)⟩⟩
                ·rw [if_neg c99] at H
                 exact absurd H (by simp)
               ·rw [if_neg c98] at H
                exact absurd H (by simp)
              ·rw [if_neg c97] at H
               have c97b0 : decide (x15_4 < (t458.length : Int)) = false := decide_eq_false c97
               clear c97
               replace H := Option.bind_eq_some_iff.mp H
               obtain ⟨t488, A1070, H⟩ := H
               replace H : (some t488) = some r := H
               have A107 := Aside0.mk A1070
               clear A1070
               obtain rfl := Option.some.inj H
               obtain ⟨Ao108, co108, eo108⟩ := Kd.R_slice HO_4.out
               subst eo108
               go_wp2_with (first | ((with_reducible refine gate_callee (f := 17) rfl ?_); refine goesL_ (some 158) rfl rfl Tryd.func17 (by kernel_rfl) rfl #[] rfl dz ?_; (with_reducible refine (tickinglaw07_awake.calls k4  t488 _ A107.out ?sideT).mono ?_); (case sideT => exact HTab.out.below bz); rintro e w109 ⟨rfl, hb⟩; refine ⟨_, rfl, ?_⟩; have n0_ := Aside0.mk (Kd.R_below (rz HO_4.out) hb); have n1_ := Aside0.mk (Kd.R_below (rz HO_12.out) hb); have n2_ := Aside0.mk (Kd.R_below (rz HO_458000.out) hb); have n3_ := Aside0.mk (Kd.S_below (sz HO_458001.out) hb); have n4_ := Aside0.mk (Kd.R_below (rz HO_458002.out) hb); have n5_ := Aside0.mk (kb BK447.out hb); have n6_ := Aside0.mk (kb BK457.out hb); have n7_ := Aside0.mk (below_step bz hb); clear HO_4; clear HO_12; clear HO_458000; clear HO_458001; clear HO_458002; clear BK447; clear BK457; clear HB; have HO_4 := n0_; have HO_12 := n1_; have HO_458000 := n2_; have HO_458001 := n3_; have HO_458002 := n4_; have BK447 := n5_; have BK457 := n6_; have HB := n7_; clear n0_ n1_ n2_ n3_ n4_ n5_ n6_ n7_; (try clear hb); (try clear hb2); (try clear hk); (try clear hi)))
               go_ret
               exact ⟨by first | rfl | (simp [errW_none, errW_some] <;> rfl) | (simp only [← hji69]; first | rfl | (simp [errW_none, errW_some] <;> rfl)) | (simp [*, errW_none, errW_some] <;> rfl), by repeat (first | (with_reducible first | exact HB.out | apply below_alloc | apply pw_below_drewN | apply below_drew1 | refine below_set ?_ GE447.out | refine below_set ?_ GE457.out) | exact HB.out)⟩
 ·replace c7 := Bool.eq_false_iff.mpr c7
  subst c7
  have H1 : (if (t458.length : Int) = 0 then (if t461 = 2 then (if (t462.length : Int) = 0 then (if t465 = 2 then (if (t466.length : Int) = 0 then (if t469 = 2 then ((tickinglaw07_awake.f k).bind fun t471 => (some t471)) else (some false)) else (some false)) else (some false)) else (some false)) else (some false)) else (some false)) = some r := by rw [if_neg (show ¬ (false = true) by decide)] at H; exact H
  clear H
  have H := H1
  clear H1
  by_cases c110 : (t458.length : Int) = 0
  ·rw [if_pos c110] at H
   have c110b0 : ((t458.length : Int) == 0) = true := beq_iff_eq.mpr c110
   have c110b1 : ((t458.length : Int) != 0) = false := bne_eq_false_iff_eq.mpr c110
   clear c110
   by_cases c111 : t461 = 2
   ·rw [if_pos c111] at H
    have c111b0 : (t461 == 2) = true := beq_iff_eq.mpr c111
    have c111b1 : (t461 != 2) = false := bne_eq_false_iff_eq.mpr c111
    clear c111
    by_cases c112 : (t462.length : Int) = 0
    ·rw [if_pos c112] at H
     have c112b0 : ((t462.length : Int) == 0) = true := beq_iff_eq.mpr c112
     have c112b1 : ((t462.length : Int) != 0) = false := bne_eq_false_iff_eq.mpr c112
     clear c112
     by_cases c113 : t465 = 2
     ·rw [if_pos c113] at H
      have c113b0 : (t465 == 2) = true := beq_iff_eq.mpr c113
      have c113b1 : (t465 != 2) = false := bne_eq_false_iff_eq.mpr c113
      clear c113
      go_wp2_with (first | ((with_reducible refine gate_callee (f := 16) rfl ?_); refine goesL_ (some 34) rfl rfl Tryd.func16 (by kernel_rfl) rfl #[.agg #[.slice Ao14 t448.length co14, .slice Ao17 t451.length co17, .slice Ao18 t454.length co18]] rfl dz ?_; (with_reducible refine (tickingref07_Case.calls k _ _ t448 _ _ t451 _ _ t454 false _ ?side1 ?side2 ?side3 ?side4 ?side5 ?side6 A6.out).mono ?_); (case side1 => exact cz ((Kd.R_reads' HO450.out).2.2)); (case side2 => exact (Kd.R_reads' HO450.out).2.1); (case side3 => exact cz ((Kd.S_reads' HO453.out).2.2)); (case side4 => exact (Kd.S_reads' HO453.out).2.1); (case side5 => exact cz ((Kd.R_reads' HO456.out).2.2)); (case side6 => exact (Kd.R_reads' HO456.out).2.1); rintro e w132 ⟨rfl, hb⟩; refine ⟨_, rfl, ?_⟩; have n0_ := Aside0.mk (Kd.R_below (rz HO450.out) hb); have n1_ := Aside0.mk (Kd.S_below (sz HO453.out) hb); have n2_ := Aside0.mk (Kd.R_below (rz HO456.out) hb); have n3_ := Aside0.mk (Kd.R_below (rz HO460.out) hb); have n4_ := Aside0.mk (Kd.R_below (rz HO464.out) hb); have n5_ := Aside0.mk (Kd.R_below (rz HO468.out) hb); have n6_ := Aside0.mk (kb BK447.out hb); have n7_ := Aside0.mk (kb BK457.out hb); have n8_ := Aside0.mk (below_step bz hb); clear HO450; clear HO453; clear HO456; clear HO460; clear HO464; clear HO468; clear BK447; clear BK457; clear HB; have HO450 := n0_; have HO453 := n1_; have HO456 := n2_; have HO460 := n3_; have HO464 := n4_; have HO468 := n5_; have BK447 := n6_; have BK457 := n7_; have HB := n8_; clear n0_ n1_ n2_ n3_ n4_ n5_ n6_ n7_ n8_; (try clear hb); (try clear hb2); (try clear hk); (try clear hi); obtain ⟨Ao133, co133, eo133⟩ := Kd.R_slice HO460.out; subst eo133; obtain ⟨Ao134, co134, eo134⟩ := Kd.R_slice HO464.out; subst eo134; obtain ⟨Ao135, co135, eo135⟩ := Kd.R_slice HO468.out; subst eo135; refine hold_ ?_; intro P_ hP_))
      refine hP_.out ?_
      clear hP_ P_
      by_cases c114 : (t466.length : Int) = 0
      ·rw [if_pos c114] at H
       have c114b0 : ((t466.length : Int) == 0) = true := beq_iff_eq.mpr c114
       have c114b1 : ((t466.length : Int) != 0) = false := bne_eq_false_iff_eq.mpr c114
       clear c114
       by_cases c115 : t469 = 2
       ·rw [if_pos c115] at H
        have c115b0 : (t469 == 2) = true := beq_iff_eq.mpr c115
        have c115b1 : (t469 != 2) = false := bne_eq_false_iff_eq.mpr c115
        clear c115
        replace H := Option.bind_eq_some_iff.mp H
        obtain ⟨t471, A1160, H⟩ := H
        replace H : (some t471) = some r := H
        have A116 := Aside0.mk A1160
        clear A1160
        obtain rfl := Option.some.inj H
        go_wp2_with (first | (go_at_call 17; (with_reducible refine (tickinglaw07_awake.calls k  t471 _ A116.out ?sideT).mono ?_); (case sideT => exact HTab.out.below bz); rintro e w136 ⟨rfl, hb⟩; have n0_ := Aside0.mk (Kd.R_below (rz HO450.out) hb); have n1_ := Aside0.mk (Kd.S_below (sz HO453.out) hb); have n2_ := Aside0.mk (Kd.R_below (rz HO456.out) hb); have n3_ := Aside0.mk (Kd.R_below (rz HO460.out) hb); have n4_ := Aside0.mk (Kd.R_below (rz HO464.out) hb); have n5_ := Aside0.mk (Kd.R_below (rz HO468.out) hb); have n6_ := Aside0.mk (kb BK447.out hb); have n7_ := Aside0.mk (kb BK457.out hb); have n8_ := Aside0.mk (below_step bz hb); clear HO450; clear HO453; clear HO456; clear HO460; clear HO464; clear HO468; clear BK447; clear BK457; clear HB; have HO450 := n0_; have HO453 := n1_; have HO456 := n2_; have HO460 := n3_; have HO464 := n4_; have HO468 := n5_; have BK447 := n6_; have BK457 := n7_; have HB := n8_; clear n0_ n1_ n2_ n3_ n4_ n5_ n6_ n7_ n8_; (try clear hb); (try clear hb2); (try clear hk); (try clear hi)))
        go_ret
        exact ⟨by first | rfl | (simp [errW_none, errW_some] <;> rfl) | (simp [*, errW_none, errW_some] <;> rfl), by repeat (first | (with_reducible first | exact HB.out | apply below_alloc | apply pw_below_drewN | apply below_drew1 | refine below_set ?_ GE447.out | refine below_set ?_ GE457.out) | exact HB.out)⟩
       ·rw [if_neg c115] at H
        have c115b0 : (t469 == 2) = false := beq_eq_false_iff_ne.mpr c115
        have c115b1 : (t469 != 2) = true := bne_iff_ne.mpr c115
        obtain rfl := Option.some.inj H
        go_wp2_with fail
        go_ret
        exact ⟨by first | rfl | (simp [errW_none, errW_some] <;> rfl) | (simp [*, errW_none, errW_some] <;> rfl), by repeat (first | (with_reducible first | exact HB.out | apply below_alloc | apply pw_below_drewN | apply below_drew1 | refine below_set ?_ GE447.out | refine below_set ?_ GE457.out) | exact HB.out)⟩
      ·rw [if_neg c114] at H
       have c114b0 : ((t466.length : Int) == 0) = false := beq_eq_false_iff_ne.mpr c114
       have c114b1 : ((t466.length : Int) != 0) = true := bne_iff_ne.mpr c114
       have c114b2 : ¬ (t466 = []) := fun h_ => c114 (by rw [h_]; rfl)
       obtain rfl := Option.some.inj H
       go_wp2_with fail
       go_ret
       exact ⟨by first | rfl | (simp [errW_none, errW_some] <;> rfl) | (simp [*, errW_none, errW_some] <;> rfl), by repeat (first | (with_reducible first | exact HB.out | apply below_alloc | apply pw_below_drewN | apply below_drew1 | refine below_set ?_ GE447.out | refine below_set ?_ GE457.out) | exact HB.out)⟩
     ·rw [if_neg c113] at H
      have c113b0 : (t465 == 2) = false := beq_eq_false_iff_ne.mpr c113
      have c113b1 : (t465 != 2) = true := bne_iff_ne.mpr c113
      obtain rfl := Option.some.inj H
      go_wp2_with (first | ((with_reducible refine gate_callee (f := 16) rfl ?_); refine goesL_ (some 34) rfl rfl Tryd.func16 (by kernel_rfl) rfl #[.agg #[.slice Ao14 t448.length co14, .slice Ao17 t451.length co17, .slice Ao18 t454.length co18]] rfl dz ?_; (with_reducible refine (tickingref07_Case.calls k _ _ t448 _ _ t451 _ _ t454 false _ ?side1 ?side2 ?side3 ?side4 ?side5 ?side6 A6.out).mono ?_); (case side1 => exact cz ((Kd.R_reads' HO450.out).2.2)); (case side2 => exact (Kd.R_reads' HO450.out).2.1); (case side3 => exact cz ((Kd.S_reads' HO453.out).2.2)); (case side4 => exact (Kd.S_reads' HO453.out).2.1); (case side5 => exact cz ((Kd.R_reads' HO456.out).2.2)); (case side6 => exact (Kd.R_reads' HO456.out).2.1); rintro e w190 ⟨rfl, hb⟩; refine ⟨_, rfl, ?_⟩; have n0_ := Aside0.mk (Kd.R_below (rz HO450.out) hb); have n1_ := Aside0.mk (Kd.S_below (sz HO453.out) hb); have n2_ := Aside0.mk (Kd.R_below (rz HO456.out) hb); have n3_ := Aside0.mk (Kd.R_below (rz HO460.out) hb); have n4_ := Aside0.mk (Kd.R_below (rz HO464.out) hb); have n5_ := Aside0.mk (Kd.R_below (rz HO468.out) hb); have n6_ := Aside0.mk (kb BK447.out hb); have n7_ := Aside0.mk (kb BK457.out hb); have n8_ := Aside0.mk (below_step bz hb); clear HO450; clear HO453; clear HO456; clear HO460; clear HO464; clear HO468; clear BK447; clear BK457; clear HB; have HO450 := n0_; have HO453 := n1_; have HO456 := n2_; have HO460 := n3_; have HO464 := n4_; have HO468 := n5_; have BK447 := n6_; have BK457 := n7_; have HB := n8_; clear n0_ n1_ n2_ n3_ n4_ n5_ n6_ n7_ n8_; (try clear hb); (try clear hb2); (try clear hk); (try clear hi); obtain ⟨Ao191, co191, eo191⟩ := Kd.R_slice HO460.out; subst eo191; obtain ⟨Ao192, co192, eo192⟩ := Kd.R_slice HO464.out; subst eo192))
      go_ret
      exact ⟨by first | rfl | (simp [errW_none, errW_some] <;> rfl) | (simp [*, errW_none, errW_some] <;> rfl), by repeat (first | (with_reducible first | exact HB.out | apply below_alloc | apply pw_below_drewN | apply below_drew1 | refine below_set ?_ GE447.out | refine below_set ?_ GE457.out) | exact HB.out)⟩
    ·rw [if_neg c112] at H
     have c112b0 : ((t462.length : Int) == 0) = false := beq_eq_false_iff_ne.mpr c112
     have c112b1 : ((t462.length : Int) != 0) = true := bne_iff_ne.mpr c112
     have c112b2 : ¬ (t462 = []) := fun h_ => c112 (by rw [h_]; rfl)
     obtain rfl := Option.some.inj H
     go_wp2_with (first | ((with_reducible refine gate_callee (f := 16) rfl ?_); refine goesL_ (some 34) rfl rfl Tryd.func16 (by kernel_rfl) rfl #[.agg #[.slice Ao14 t448.length co14, .slice Ao17 t451.length co17, .slice Ao18 t454.length co18]] rfl dz ?_; (with_reducible refine (tickingref07_Case.calls k _ _ t448 _ _ t451 _ _ t454 false _ ?side1 ?side2 ?side3 ?side4 ?side5 ?side6 A6.out).mono ?_); (case side1 => exact cz ((Kd.R_reads' HO450.out).2.2)); (case side2 => exact (Kd.R_reads' HO450.out).2.1); (case side3 => exact cz ((Kd.S_reads' HO453.out).2.2)); (case side4 => exact (Kd.S_reads' HO453.out).2.1); (case side5 => exact cz ((Kd.R_reads' HO456.out).2.2)); (case side6 => exact (Kd.R_reads' HO456.out).2.1); rintro e w208 ⟨rfl, hb⟩; refine ⟨_, rfl, ?_⟩; have n0_ := Aside0.mk (Kd.R_below (rz HO450.out) hb); have n1_ := Aside0.mk (Kd.S_below (sz HO453.out) hb); have n2_ := Aside0.mk (Kd.R_below (rz HO456.out) hb); have n3_ := Aside0.mk (Kd.R_below (rz HO460.out) hb); have n4_ := Aside0.mk (Kd.R_below (rz HO464.out) hb); have n5_ := Aside0.mk (Kd.R_below (rz HO468.out) hb); have n6_ := Aside0.mk (kb BK447.out hb); have n7_ := Aside0.mk (kb BK457.out hb); have n8_ := Aside0.mk (below_step bz hb); clear HO450; clear HO453; clear HO456; clear HO460; clear HO464; clear HO468; clear BK447; clear BK457; clear HB; have HO450 := n0_; have HO453 := n1_; have HO456 := n2_; have HO460 := n3_; have HO464 := n4_; have HO468 := n5_; have BK447 := n6_; have BK457 := n7_; have HB := n8_; clear n0_ n1_ n2_ n3_ n4_ n5_ n6_ n7_ n8_; (try clear hb); (try clear hb2); (try clear hk); (try clear hi); obtain ⟨Ao209, co209, eo209⟩ := Kd.R_slice HO460.out; subst eo209; obtain ⟨Ao210, co210, eo210⟩ := Kd.R_slice HO464.out; subst eo210))
     go_ret
     exact ⟨by first | rfl | (simp [errW_none, errW_some] <;> rfl) | (simp [*, errW_none, errW_some] <;> rfl), by repeat (first | (with_reducible first | exact HB.out | apply below_alloc | apply pw_below_drewN | apply below_drew1 | refine below_set ?_ GE447.out | refine below_set ?_ GE457.out) | exact HB.out)⟩
   ·rw [if_neg c111] at H
    have c111b0 : (t461 == 2) = false := beq_eq_false_iff_ne.mpr c111
    have c111b1 : (t461 != 2) = true := bne_iff_ne.mpr c111
    obtain rfl := Option.some.inj H
    go_wp2_with (first | ((with_reducible refine gate_callee (f := 16) rfl ?_); refine goesL_ (some 34) rfl rfl Tryd.func16 (by kernel_rfl) rfl #[.agg #[.slice Ao14 t448.length co14, .slice Ao17 t451.length co17, .slice Ao18 t454.length co18]] rfl dz ?_; (with_reducible refine (tickingref07_Case.calls k _ _ t448 _ _ t451 _ _ t454 false _ ?side1 ?side2 ?side3 ?side4 ?side5 ?side6 A6.out).mono ?_); (case side1 => exact cz ((Kd.R_reads' HO450.out).2.2)); (case side2 => exact (Kd.R_reads' HO450.out).2.1); (case side3 => exact cz ((Kd.S_reads' HO453.out).2.2)); (case side4 => exact (Kd.S_reads' HO453.out).2.1); (case side5 => exact cz ((Kd.R_reads' HO456.out).2.2)); (case side6 => exact (Kd.R_reads' HO456.out).2.1); rintro e w226 ⟨rfl, hb⟩; refine ⟨_, rfl, ?_⟩; have n0_ := Aside0.mk (Kd.R_below (rz HO450.out) hb); have n1_ := Aside0.mk (Kd.S_below (sz HO453.out) hb); have n2_ := Aside0.mk (Kd.R_below (rz HO456.out) hb); have n3_ := Aside0.mk (Kd.R_below (rz HO460.out) hb); have n4_ := Aside0.mk (Kd.R_below (rz HO464.out) hb); have n5_ := Aside0.mk (Kd.R_below (rz HO468.out) hb); have n6_ := Aside0.mk (kb BK447.out hb); have n7_ := Aside0.mk (kb BK457.out hb); have n8_ := Aside0.mk (below_step bz hb); clear HO450; clear HO453; clear HO456; clear HO460; clear HO464; clear HO468; clear BK447; clear BK457; clear HB; have HO450 := n0_; have HO453 := n1_; have HO456 := n2_; have HO460 := n3_; have HO464 := n4_; have HO468 := n5_; have BK447 := n6_; have BK457 := n7_; have HB := n8_; clear n0_ n1_ n2_ n3_ n4_ n5_ n6_ n7_ n8_; (try clear hb); (try clear hb2); (try clear hk); (try clear hi); obtain ⟨Ao227, co227, eo227⟩ := Kd.R_slice HO460.out; subst eo227))
    go_ret
    exact ⟨by first | rfl | (simp [errW_none, errW_some] <;> rfl) | (simp [*, errW_none, errW_some] <;> rfl), by repeat (first | (with_reducible first | exact HB.out | apply below_alloc | apply pw_below_drewN | apply below_drew1 | refine below_set ?_ GE447.out | refine below_set ?_ GE457.out) | exact HB.out)⟩
  ·rw [if_neg c110] at H
   have c110b0 : ((t458.length : Int) == 0) = false := beq_eq_false_iff_ne.mpr c110
   have c110b1 : ((t458.length : Int) != 0) = true := bne_iff_ne.mpr c110
   have c110b2 : ¬ (t458 = []) := fun h_ => c110 (by rw [h_]; rfl)
   obtain rfl := Option.some.inj H
   go_wp2_with (first | ((with_reducible refine gate_callee (f := 16) rfl ?_); refine goesL_ (some 34) rfl rfl Tryd.func16 (by kernel_rfl) rfl #[.agg #[.slice Ao14 t448.length co14, .slice Ao17 t451.length co17, .slice Ao18 t454.length co18]] rfl dz ?_; (with_reducible refine (tickingref07_Case.calls k _ _ t448 _ _ t451 _ _ t454 false _ ?side1 ?side2 ?side3 ?side4 ?side5 ?side6 A6.out).mono ?_); (case side1 => exact cz ((Kd.R_reads' HO450.out).2.2)); (case side2 => exact (Kd.R_reads' HO450.out).2.1); (case side3 => exact cz ((Kd.S_reads' HO453.out).2.2)); (case side4 => exact (Kd.S_reads' HO453.out).2.1); (case side5 => exact cz ((Kd.R_reads' HO456.out).2.2)); (case side6 => exact (Kd.R_reads' HO456.out).2.1); rintro e w243 ⟨rfl, hb⟩; refine ⟨_, rfl, ?_⟩; have n0_ := Aside0.mk (Kd.R_below (rz HO450.out) hb); have n1_ := Aside0.mk (Kd.S_below (sz HO453.out) hb); have n2_ := Aside0.mk (Kd.R_below (rz HO456.out) hb); have n3_ := Aside0.mk (Kd.R_below (rz HO460.out) hb); have n4_ := Aside0.mk (Kd.R_below (rz HO464.out) hb); have n5_ := Aside0.mk (Kd.R_below (rz HO468.out) hb); have n6_ := Aside0.mk (kb BK447.out hb); have n7_ := Aside0.mk (kb BK457.out hb); have n8_ := Aside0.mk (below_step bz hb); clear HO450; clear HO453; clear HO456; clear HO460; clear HO464; clear HO468; clear BK447; clear BK457; clear HB; have HO450 := n0_; have HO453 := n1_; have HO456 := n2_; have HO460 := n3_; have HO464 := n4_; have HO468 := n5_; have BK447 := n6_; have BK457 := n7_; have HB := n8_; clear n0_ n1_ n2_ n3_ n4_ n5_ n6_ n7_ n8_; (try clear hb); (try clear hb2); (try clear hk); (try clear hi); obtain ⟨Ao244, co244, eo244⟩ := Kd.R_slice HO460.out; subst eo244))
   go_ret
   exact ⟨by first | rfl | (simp [errW_none, errW_some] <;> rfl) | (simp [*, errW_none, errW_some] <;> rfl), by repeat (first | (with_reducible first | exact HB.out | apply below_alloc | apply pw_below_drewN | apply below_drew1 | refine below_set ?_ GE447.out | refine below_set ?_ GE457.out) | exact HB.out)⟩

end Go.Proofs.YtekmiepdodaidaaDoor.X
end
