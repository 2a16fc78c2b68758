/- Texts behind TestsBest, part 32: contracts of the program's functions and the plain words for them. -/
import Derived.Test.YtekmiepdodaidaaDoorTpar
import Derived.Test.YtekmiepdodaidaaDoorTpav
import Derived.Test.YtekmiepdodaidaaDoorTpaw
import Derived.Test.YtekmiepdodaidaaDoorTpax
import Derived.Test.YtekmiepdodaidaaDoorTpaz
import Derived.Test.YtekmiepdodaidaaDoorTpba
import Derived.Test.YtekmiepdodaidaaDoorTpbb
import Derived.Test.YtekmiepdodaidaaDoorTpbe
section
namespace Go.Proofs.YtekmiepdodaidaaDoor.X
open Go.RowKit Go.Proofs.YtekmiepdodaidaaDoorW.PrintWords Go.Proofs.YtekmiepdodaidaaDoorW.PrintLast Go.Proofs.YtekmiepdodaidaaDoorW.PrintMore
attribute [local go_sem] max2_int min2_int max_two min_two max_three min_three max_four min_four   -- for this text's walks alone
set_option linter.unusedVariables false
set_option linter.unusedSimpArgs false

def tickinglaw07_TestsBest.j0 : Nat → List (S57) → List (S57) → Int → Int → Bool → List Int → List (List Int) → List Int → Option (Bool)
 | 0, _, _, _, _, _, _, _, _ => none
 | k + 1, x4, x7, x10, x11, x123, x286000, x286001, x286002 => if x123 = true then (some false) else ((tickingref07_Correct.f k x286000 x286001 x286002 x4).bind fun bt304 => ((tickingref07_Correct.f k x286000 x286001 x286002 x7).bind fun bt307 => (if bt304.2.2 = true then (if bt307.2.2 = true then (if bt304.1 = x10 then (if bt307.2.1 = x11 then ((tickinglaw07_awake.f k).bind fun t310 => (some t310)) else (some false)) else (some false)) else (some false)) else (some false))))
def tickinglaw07_TestsBest.f (k : Nat) (l0_0 : List Int) (l0_1 : List (List Int)) (l0_2 : List Int) : Option (Bool) := (tickinglaw07_own.f k l0_0 l0_1 l0_2).bind fun bt276 => ((tests_Best.f bt276.1 bt276.2.1 bt276.2.2).bind fun bt286 => ((tests_Worst.f bt276.1 bt276.2.1 bt276.2.2).bind fun bt291 => ((tickingref07_Case.f k bt276.1 bt276.2.1 bt276.2.2).bind fun t296 => (if t296 = true then ((tickingref07_Alike.f k bt276.1 bt276.2.1 bt276.2.2).bind fun t298 => (if (t298.length : Int) > 0 then (if (bt286.1.length : Int) = 0 then (if bt286.2.1 = 0 then (if bt286.2.2 = 6 then (if (bt291.1.length : Int) = 0 then (if bt291.2.1 = 0 then (if bt291.2.2 = 6 then ((tickinglaw07_awake.f k).bind fun t301 => (some t301)) else (some false)) else (some false)) else (some false)) else (some false)) else (some false)) else (some false)) else ((tickingref07_Best.f k bt276.1 bt276.2.1 bt276.2.2).bind fun bt302 => (if bt286.2.2 = 0 then (if bt291.2.2 = 0 then (if bt286.2.1 = bt302.1 then (if bt291.2.1 = bt302.2 then (if (bt286.1.length : Int) > 1000 then (tickinglaw07_TestsBest.j0 k bt286.1 bt291.1 bt302.1 bt302.2 true bt276.1 bt276.2.1 bt276.2.2) else (tickinglaw07_TestsBest.j0 k bt286.1 bt291.1 bt302.1 bt302.2 (decide ((bt291.1.length : Int) > 1000)) bt276.1 bt276.2.1 bt276.2.2)) else (tickinglaw07_TestsBest.j0 k bt286.1 bt291.1 bt302.1 bt302.2 true bt276.1 bt276.2.1 bt276.2.2)) else (tickinglaw07_TestsBest.j0 k bt286.1 bt291.1 bt302.1 bt302.2 true bt276.1 bt276.2.1 bt276.2.2)) else (tickinglaw07_TestsBest.j0 k bt286.1 bt291.1 bt302.1 bt302.2 true bt276.1 bt276.2.1 bt276.2.2)) else (tickinglaw07_TestsBest.j0 k bt286.1 bt291.1 bt302.1 bt302.2 true bt276.1 bt276.2.1 bt276.2.2))))) else (if (bt286.1.length : Int) = 0 then (if bt286.2.1 = 0 then (if bt286.2.2 = 2 then (if (bt291.1.length : Int) = 0 then (if bt291.2.1 = 0 then (if bt291.2.2 = 2 then ((tickinglaw07_awake.f k).bind fun t297 => (some t297)) else (some false)) else (some false)) else (some false)) else (some false)) else (some false)) else (some false))))))
set_option maxHeartbeats 8000000 in
set_option maxRecDepth 100000 in
theorem tickinglaw07_TestsBest.calls (k : Nat) (A0_0 : Option Addr) (c0_0 : Nat) (l0_0 : List Int) (A0_1 : Option Addr) (c0_1 : Nat) (l0_1 : List (List Int)) (A0_2 : Option Addr) (c0_2 : Nat) (l0_2 : List Int) (r : Bool) (w : World) (hr0_0 : Kd.C (Kd.int .i64) w A0_0 l0_0.length l0_0) (hc0_0 : l0_0.length ≤ c0_0) (hr0_1 : Kd.C (Kd.slice 3 (Kd.int .i64)) w A0_1 l0_1.length l0_1) (hc0_1 : l0_1.length ≤ c0_1) (hr0_2 : Kd.C (Kd.int .i64) w A0_2 l0_2.length l0_2) (hc0_2 : l0_2.length ≤ c0_2) (h : tickinglaw07_TestsBest.f k l0_0 l0_1 l0_2 = some r) (hTab : Tab w) :
  Calls Tryd.prog 3 #[.agg #[.slice A0_0 l0_0.length c0_0, .slice A0_1 l0_1.length c0_1, .slice A0_2 l0_2.length c0_2]] w fun e w' => e = .returned (.bool r) ∧ Below w.heap.size w w' := by
 have HTab := Aside0.mk hTab
 clear hTab
 have hu25 := Tryd.underlying25
 have HR0_0 := Aside0.mk hr0_0
 have HC0_0 := Aside0.mk hc0_0
 clear hr0_0 hc0_0
 have HR0_1 := Aside0.mk hr0_1
 have HC0_1 := Aside0.mk hc0_1
 clear hr0_1 hc0_1
 have HR0_2 := Aside0.mk hr0_2
 have HC0_2 := Aside0.mk hc0_2
 clear hr0_2 hc0_2
 have HB := Aside0.mk (Below.refl w.heap.size w)
 have H : ((tickinglaw07_own.f k l0_0 l0_1 l0_2).bind fun bt276 => ((tests_Best.f bt276.1 bt276.2.1 bt276.2.2).bind fun bt286 => ((tests_Worst.f bt276.1 bt276.2.1 bt276.2.2).bind fun bt291 => ((tickingref07_Case.f k bt276.1 bt276.2.1 bt276.2.2).bind fun t296 => (if t296 = true then ((tickingref07_Alike.f k bt276.1 bt276.2.1 bt276.2.2).bind fun t298 => (if (t298.length : Int) > 0 then (if (bt286.1.length : Int) = 0 then (if bt286.2.1 = 0 then (if bt286.2.2 = 6 then (if (bt291.1.length : Int) = 0 then (if bt291.2.1 = 0 then (if bt291.2.2 = 6 then ((tickinglaw07_awake.f k).bind fun t301 => (some t301)) else (some false)) else (some false)) else (some false)) else (some false)) else (some false)) else (some false)) else ((tickingref07_Best.f k bt276.1 bt276.2.1 bt276.2.2).bind fun bt302 => (if bt286.2.2 = 0 then (if bt291.2.2 = 0 then (if bt286.2.1 = bt302.1 then (if bt291.2.1 = bt302.2 then (if (bt286.1.length : Int) > 1000 then (tickinglaw07_TestsBest.j0 k bt286.1 bt291.1 bt302.1 bt302.2 true bt276.1 bt276.2.1 bt276.2.2) else (tickinglaw07_TestsBest.j0 k bt286.1 bt291.1 bt302.1 bt302.2 (decide ((bt291.1.length : Int) > 1000)) bt276.1 bt276.2.1 bt276.2.2)) else (tickinglaw07_TestsBest.j0 k bt286.1 bt291.1 bt302.1 bt302.2 true bt276.1 bt276.2.1 bt276.2.2)) else (tickinglaw07_TestsBest.j0 k bt286.1 bt291.1 bt302.1 bt302.2 true bt276.1 bt276.2.1 bt276.2.2)) else (tickinglaw07_TestsBest.j0 k bt286.1 bt291.1 bt302.1 bt302.2 true bt276.1 bt276.2.1 bt276.2.2)) else (tickinglaw07_TestsBest.j0 k bt286.1 bt291.1 bt302.1 bt302.2 true bt276.1 bt276.2.1 bt276.2.2))))) else (if (bt286.1.length : Int) = 0 then (if bt286.2.1 = 0 then (if bt286.2.2 = 2 then (if (bt291.1.length : Int) = 0 then (if bt291.2.1 = 0 then (if bt291.2.2 = 2 then ((tickinglaw07_awake.f k).bind fun t297 => (some t297)) else (some false)) else (some false)) else (some false)) else (some false)) else (some false)) else (some false))))))) = some r := h
 clear h
 replace H := Option.bind_eq_some_iff.mp H
 obtain ⟨⟨t276, t279, t282⟩, A20, H⟩ := H
 replace H : ((tests_Best.f t276 t279 t282).bind fun bt286 => ((tests_Worst.f t276 t279 t282).bind fun bt291 => ((tickingref07_Case.f k t276 t279 t282).bind fun t296 => (if t296 = true then ((tickingref07_Alike.f k t276 t279 t282).bind fun t298 => (if (t298.length : Int) > 0 then (if (bt286.1.length : Int) = 0 then (if bt286.2.1 = 0 then (if bt286.2.2 = 6 then (if (bt291.1.length : Int) = 0 then (if bt291.2.1 = 0 then (if bt291.2.2 = 6 then ((tickinglaw07_awake.f k).bind fun t301 => (some t301)) else (some false)) else (some false)) else (some false)) else (some false)) else (some false)) else (some false)) else ((tickingref07_Best.f k t276 t279 t282).bind fun bt302 => (if bt286.2.2 = 0 then (if bt291.2.2 = 0 then (if bt286.2.1 = bt302.1 then (if bt291.2.1 = bt302.2 then (if (bt286.1.length : Int) > 1000 then (tickinglaw07_TestsBest.j0 k bt286.1 bt291.1 bt302.1 bt302.2 true t276 t279 t282) else (tickinglaw07_TestsBest.j0 k bt286.1 bt291.1 bt302.1 bt302.2 (decide ((bt291.1.length : Int) > 1000)) t276 t279 t282)) else (tickinglaw07_TestsBest.j0 k bt286.1 bt291.1 bt302.1 bt302.2 true t276 t279 t282)) else (tickinglaw07_TestsBest.j0 k bt286.1 bt291.1 bt302.1 bt302.2 true t276 t279 t282)) else (tickinglaw07_TestsBest.j0 k bt286.1 bt291.1 bt302.1 bt302.2 true t276 t279 t282)) else (tickinglaw07_TestsBest.j0 k bt286.1 bt291.1 bt302.1 bt302.2 true t276 t279 t282))))) else (if (bt286.1.length : Int) = 0 then (if bt286.2.1 = 0 then (if bt286.2.2 = 2 then (if (bt291.1.length : Int) = 0 then (if bt291.2.1 = 0 then (if bt291.2.2 = 2 then ((tickinglaw07_awake.f k).bind fun t297 => (some t297)) else (some false)) else (some false)) else (some false)) else (some false)) else (some false)) else (some false)))))) = some r := H
 have A2 := Aside0.mk A20
 clear A20
 replace H := Option.bind_eq_some_iff.mp H
 obtain ⟨⟨t286, t289, t290⟩, A30, H⟩ := H
 replace H : ((tests_Worst.f t276 t279 t282).bind fun bt291 => ((tickingref07_Case.f k t276 t279 t282).bind fun t296 => (if t296 = true then ((tickingref07_Alike.f k t276 t279 t282).bind fun t298 => (if (t298.length : Int) > 0 then (if (t286.length : Int) = 0 then (if t289 = 0 then (if t290 = 6 then (if (bt291.1.length : Int) = 0 then (if bt291.2.1 = 0 then (if bt291.2.2 = 6 then ((tickinglaw07_awake.f k).bind fun t301 => (some t301)) else (some false)) else (some false)) else (some false)) else (some false)) else (some false)) else (some false)) else ((tickingref07_Best.f k t276 t279 t282).bind fun bt302 => (if t290 = 0 then (if bt291.2.2 = 0 then (if t289 = bt302.1 then (if bt291.2.1 = bt302.2 then (if (t286.length : Int) > 1000 then (tickinglaw07_TestsBest.j0 k t286 bt291.1 bt302.1 bt302.2 true t276 t279 t282) else (tickinglaw07_TestsBest.j0 k t286 bt291.1 bt302.1 bt302.2 (decide ((bt291.1.length : Int) > 1000)) t276 t279 t282)) else (tickinglaw07_TestsBest.j0 k t286 bt291.1 bt302.1 bt302.2 true t276 t279 t282)) else (tickinglaw07_TestsBest.j0 k t286 bt291.1 bt302.1 bt302.2 true t276 t279 t282)) else (tickinglaw07_TestsBest.j0 k t286 bt291.1 bt302.1 bt302.2 true t276 t279 t282)) else (tickinglaw07_TestsBest.j0 k t286 bt291.1 bt302.1 bt302.2 true t276 t279 t282))))) else (if (t286.length : Int) = 0 then (if t289 = 0 then (if t290 = 2 then (if (bt291.1.length : Int) = 0 then (if bt291.2.1 = 0 then (if bt291.2.2 = 2 then ((tickinglaw07_awake.f k).bind fun t297 => (some t297)) else (some false)) else (some false)) else (some false)) else (some false)) else (some false)) else (some false))))) = some r := H
 have A3 := Aside0.mk A30
 clear A30
 replace H := Option.bind_eq_some_iff.mp H
 obtain ⟨⟨t291, t294, t295⟩, A40, H⟩ := H
 replace H : ((tickingref07_Case.f k t276 t279 t282).bind fun t296 => (if t296 = true then ((tickingref07_Alike.f k t276 t279 t282).bind fun t298 => (if (t298.length : Int) > 0 then (if (t286.length : Int) = 0 then (if t289 = 0 then (if t290 = 6 then (if (t291.length : Int) = 0 then (if t294 = 0 then (if t295 = 6 then ((tickinglaw07_awake.f k).bind fun t301 => (some t301)) else (some false)) else (some false)) else (some false)) else (some false)) else (some false)) else (some false)) else ((tickingref07_Best.f k t276 t279 t282).bind fun bt302 => (if t290 = 0 then (if t295 = 0 then (if t289 = bt302.1 then (if t294 = bt302.2 then (if (t286.length : Int) > 1000 then (tickinglaw07_TestsBest.j0 k t286 t291 bt302.1 bt302.2 true t276 t279 t282) else (tickinglaw07_TestsBest.j0 k t286 t291 bt302.1 bt302.2 (decide ((t291.length : Int) > 1000)) t276 t279 t282)) else (tickinglaw07_TestsBest.j0 k t286 t291 bt302.1 bt302.2 true t276 t279 t282)) else (tickinglaw07_TestsBest.j0 k t286 t291 bt302.1 bt302.2 true t276 t279 t282)) else (tickinglaw07_TestsBest.j0 k t286 t291 bt302.1 bt302.2 true t276 t279 t282)) else (tickinglaw07_TestsBest.j0 k t286 t291 bt302.1 bt302.2 true t276 t279 t282))))) else (if (t286.length : Int) = 0 then (if t289 = 0 then (if t290 = 2 then (if (t291.length : Int) = 0 then (if t294 = 0 then (if t295 = 2 then ((tickinglaw07_awake.f k).bind fun t297 => (some t297)) else (some false)) else (some false)) else (some false)) else (some false)) else (some false)) else (some false)))) = some r := H
 have A4 := Aside0.mk A40
 clear A40
 replace H := Option.bind_eq_some_iff.mp H
 obtain ⟨t296, A50, H⟩ := H
 replace H : (if t296 = true then ((tickingref07_Alike.f k t276 t279 t282).bind fun t298 => (if (t298.length : Int) > 0 then (if (t286.length : Int) = 0 then (if t289 = 0 then (if t290 = 6 then (if (t291.length : Int) = 0 then (if t294 = 0 then (if t295 = 6 then ((tickinglaw07_awake.f k).bind fun t301 => (some t301)) else (some false)) else (some false)) else (some false)) else (some false)) else (some false)) else (some false)) else ((tickingref07_Best.f k t276 t279 t282).bind fun bt302 => (if t290 = 0 then (if t295 = 0 then (if t289 = bt302.1 then (if t294 = bt302.2 then (if (t286.length : Int) > 1000 then (tickinglaw07_TestsBest.j0 k t286 t291 bt302.1 bt302.2 true t276 t279 t282) else (tickinglaw07_TestsBest.j0 k t286 t291 bt302.1 bt302.2 (decide ((t291.length : Int) > 1000)) t276 t279 t282)) else (tickinglaw07_TestsBest.j0 k t286 t291 bt302.1 bt302.2 true t276 t279 t282)) else (tickinglaw07_TestsBest.j0 k t286 t291 bt302.1 bt302.2 true t276 t279 t282)) else (tickinglaw07_TestsBest.j0 k t286 t291 bt302.1 bt302.2 true t276 t279 t282)) else (tickinglaw07_TestsBest.j0 k t286 t291 bt302.1 bt302.2 true t276 t279 t282))))) else (if (t286.length : Int) = 0 then (if t289 = 0 then (if t290 = 2 then (if (t291.length : Int) = 0 then (if t294 = 0 then (if t295 = 2 then ((tickinglaw07_awake.f k).bind fun t297 => (some t297)) else (some false)) else (some false)) else (some false)) else (some false)) else (some false)) else (some false))) = some r := H
 have A5 := Aside0.mk A50
 clear A50
 go_enter Tryd.func3, Tryd.ntmps3
 go_wp2_with (first | ((with_reducible refine gate_dst (N := 1) rfl ?_); (try (refine gate_guard (by rfl) ?_; dsimp only)); refine box_event ?hg (N := 1) ?hd (cs := #[.slice A0_0 l0_0.length c0_0, .slice A0_1 l0_1.length c0_1, .slice A0_2 l0_2.length c0_2]) (t := 25) ?hr ?_; (case hd => rfl); (case hg => rfl); (case hr => first | (go_simp; done) | (go_simp; rfl)); intro gb275 hg w16 hbox hb; have n0_ := Aside0.mk (below_step bz hb); have n1_ := Aside0.mk (hbox); have n2_ := Aside0.mk ((by rw [hg]; exact (below_size bz) : w.heap.size ≤ gb275)); have n3_ := Aside0.mk ((by rw [hg]; exact (below_size bz) : w.heap.size ≤ gb275)); clear HB; have HB := n0_; have BK275 := n1_; have GW275 := n2_; have GE275 := n3_; clear n0_ n1_ n2_ n3_; clear hb hbox hg; have hcz17_0 : w16.cell? ⟨gb275, 0, none⟩ = some (.slice A0_0 l0_0.length c0_0) := (blk_cell BK275.out 0).trans rfl; have hcz17_1 : w16.cell? ⟨gb275, 1, none⟩ = some (.slice A0_1 l0_1.length c0_1) := (blk_cell BK275.out 1).trans rfl; have hcz17_2 : w16.cell? ⟨gb275, 2, none⟩ = some (.slice A0_2 l0_2.length c0_2) := (blk_cell BK275.out 2).trans rfl; have hfz17_0 := blk_frozen BK275.out 0; have hfz17_1 := blk_frozen BK275.out 1; have hfz17_2 := blk_frozen BK275.out 2) | ((with_reducible refine gate_callee (f := 13) rfl ?_); refine goesL_ (some 19) rfl rfl Tryd.func13 (by kernel_rfl) rfl #[.agg #[.slice A0_0 l0_0.length c0_0, .slice A0_1 l0_1.length c0_1, .slice A0_2 l0_2.length c0_2]] rfl dz ?_; (with_reducible refine (tickinglaw07_own.calls k _ _ l0_0 _ _ l0_1 _ _ l0_2 t276 t279 t282 _ ?side1 ?side2 ?side3 ?side4 ?side5 ?side6 A2.out).mono ?_); (case side1 => exact cz ((Kd.C_below HR0_0.out HB.out))); (case side2 => exact HC0_0.out); (case side3 => exact cz ((Kd.C_below HR0_1.out HB.out))); (case side4 => exact HC0_1.out); (case side5 => exact cz ((Kd.C_below HR0_2.out HB.out))); (case side6 => exact HC0_2.out); rintro e w18 ⟨v277, v280, v283, rfl, ho0, ho1, ho2, hb⟩; refine ⟨_, rfl, ?_⟩; have n0_ := Aside0.mk (Kd.R_lower ho0 (below_size bz)); have n1_ := Aside0.mk (Kd.S_lower ho1 (below_size bz)); have n2_ := Aside0.mk (Kd.R_lower ho2 (below_size bz)); have n3_ := Aside0.mk (kb BK275.out hb); have n4_ := Aside0.mk (below_step bz hb); clear BK275; clear HB; have HO278 := n0_; have HO281 := n1_; have HO284 := n2_; have BK275 := n3_; have HB := n4_; clear n0_ n1_ n2_ n3_ n4_; (try clear hb); (try clear hb2); (try clear hk); (try clear hi); (try clear ho0); (try clear ho1); (try clear ho2)) | ((with_reducible refine gate_dst (N := 3) rfl ?_); (try (refine gate_guard (by rfl) ?_; dsimp only)); refine box_event ?hg (N := 3) ?hd (cs := #[.slice none 0 0, .slice none 0 0, .slice none 0 0]) (t := 25) ?hr ?_; (case hd => rfl); (case hg => rfl); (case hr => first | (go_simp; done) | (go_simp; rfl)); intro gb285 hg w19 hbox hb; have n0_ := Aside0.mk (Kd.R_below (rz HO278.out) hb); have n1_ := Aside0.mk (Kd.S_below (sz HO281.out) hb); have n2_ := Aside0.mk (Kd.R_below (rz HO284.out) hb); have n3_ := Aside0.mk (kb BK275.out hb); have n4_ := Aside0.mk (below_step bz hb); have n5_ := Aside0.mk (hbox); have n6_ := Aside0.mk ((by rw [hg]; exact (below_size bz) : w.heap.size ≤ gb285)); have n7_ := Aside0.mk ((by rw [hg]; exact (below_size bz) : w.heap.size ≤ gb285)); have n8_ := Aside0.mk ((by rw [hg]; exact Nat.ne_of_lt (kl BK275.out) : gb275 ≠ gb285)); have n9_ := Aside0.mk ((by rw [hg]; exact Nat.ne_of_gt (kl BK275.out) : gb285 ≠ gb275)); clear HO278; clear HO281; clear HO284; clear BK275; clear HB; have HO278 := n0_; have HO281 := n1_; have HO284 := n2_; have BK275 := n3_; have HB := n4_; have BK285 := n5_; have GW285 := n6_; have GE285 := n7_; have NB275_285 := n8_; have NB285_275 := n9_; clear n0_ n1_ n2_ n3_ n4_ n5_ n6_ n7_ n8_ n9_; clear hb hbox hg; obtain ⟨Ao20, co20, eo20⟩ := Kd.R_slice HO278.out; subst eo20; have hnb21 := NB285_275.out; have hnc21 := NB275_285.out; have hcz22_0 : w19.cell? ⟨gb285, 0, none⟩ = some (.slice none 0 0) := (blk_cell BK285.out 0).trans rfl; have hcz22_1 : w19.cell? ⟨gb285, 1, none⟩ = some (.slice none 0 0) := (blk_cell BK285.out 1).trans rfl; have hcz22_2 : w19.cell? ⟨gb285, 2, none⟩ = some (.slice none 0 0) := (blk_cell BK285.out 2).trans rfl; have hfz22_0 := blk_frozen BK285.out 0; have hfz22_1 := blk_frozen BK285.out 1; have hfz22_2 := blk_frozen BK285.out 2; obtain ⟨Ao23, co23, eo23⟩ := Kd.S_slice HO281.out; subst eo23; obtain ⟨Ao24, co24, eo24⟩ := Kd.R_slice HO284.out; subst eo24) | ((with_reducible refine gate_callee (f := 14) rfl ?_); refine goesL_ (some 22) rfl rfl Tryd.func14 (by kernel_rfl) rfl #[.agg #[.slice Ao20 t276.length co20, .slice Ao23 t279.length co23, .slice Ao24 t282.length co24]] rfl dz ?_; (with_reducible refine (tests_Best.calls _ _ t276 _ _ t279 _ _ t282 t286 t289 t290 _ ?side1 ?side2 ?side3 ?side4 ?side5 ?side6 A3.out ?sideT).mono ?_); (case sideT => exact HTab.out.below bz); (case side1 => refine (Kd.R_reads' (e := 3) (base := w.heap.size) (ok := fun k_ => some k_ ≠ (.slice Ao24 t282.length co24 : Value).ownBlock) (n := t276.length) (c := co20) ?_).2.2; exact (by (with_reducible repeat (first | apply Kd.R_alloc | apply Kd.R_drewN | apply Kd.R_drew)); exact (Kd.R_mono (Kd.R_far (p := ⟨gb285, 2, none⟩) (Kd.R_far (p := ⟨gb285, 1, none⟩) (Kd.R_far (p := ⟨gb285, 0, none⟩) (Kd.R_types HO278.out BK285.out (by decide)) (fun _ hk => hk.2) (.slice Ao20 t276.length co20)) (fun _ hk => hk.2) (.slice Ao23 t279.length co23)) (fun _ hk => hk.2) (.slice Ao24 t282.length co24)) (fun _ h_ => h_.1)))); (case side2 => exact (Kd.R_reads' HO278.out).2.1); (case side3 => refine (Kd.S_reads' (e := 22) (base := w.heap.size) (ok := fun k_ => (some k_ ≠ (.slice Ao20 t276.length co20 : Value).ownBlock ∧ some k_ ≠ (.slice Ao24 t282.length co24 : Value).ownBlock)) (n := t279.length) (c := co23) ?_).2.2; exact (by (with_reducible repeat (first | apply Kd.S_alloc | apply Kd.S_drewN | apply Kd.S_drew)); exact (Kd.S_mono (Kd.S_far (p := ⟨gb285, 2, none⟩) (Kd.S_far (p := ⟨gb285, 1, none⟩) (Kd.S_far (p := ⟨gb285, 0, none⟩) (Kd.S_types HO281.out BK285.out (by decide)) (fun _ hk => hk.2) (.slice Ao20 t276.length co20)) (fun _ hk => hk.2) (.slice Ao23 t279.length co23)) (fun _ hk => hk.2) (.slice Ao24 t282.length co24)) (fun _ h_ => h_.1)))); (case side4 => exact (Kd.S_reads' HO281.out).2.1); (case side5 => refine (Kd.R_reads' (e := 3) (base := w.heap.size) (ok := fun k_ => some k_ ≠ (.slice Ao20 t276.length co20 : Value).ownBlock) (n := t282.length) (c := co24) ?_).2.2; exact (by (with_reducible repeat (first | apply Kd.R_alloc | apply Kd.R_drewN | apply Kd.R_drew)); exact (Kd.R_mono (Kd.R_far (p := ⟨gb285, 2, none⟩) (Kd.R_far (p := ⟨gb285, 1, none⟩) (Kd.R_far (p := ⟨gb285, 0, none⟩) (Kd.R_types HO284.out BK285.out (by decide)) (fun _ hk => hk.2) (.slice Ao20 t276.length co20)) (fun _ hk => hk.2) (.slice Ao23 t279.length co23)) (fun _ hk => hk.2) (.slice Ao24 t282.length co24)) (fun _ h_ => h_.1)))); (case side6 => exact (Kd.R_reads' HO284.out).2.1); rintro e w25 ⟨v287, rfl, ho0, hb⟩; refine ⟨_, rfl, ?_⟩; have n0_ := Aside0.mk (Kd.R_below (by (with_reducible repeat (first | apply Kd.R_alloc | apply Kd.R_drewN | apply Kd.R_drew)); exact (Kd.R_mono (Kd.R_far (p := ⟨gb285, 2, none⟩) (Kd.R_far (p := ⟨gb285, 1, none⟩) (Kd.R_far (p := ⟨gb285, 0, none⟩) (Kd.R_types HO278.out BK285.out (by decide)) (fun _ hk => hk.2) (.slice Ao20 t276.length co20)) (fun _ hk => hk.2) (.slice Ao23 t279.length co23)) (fun _ hk => hk.2) (.slice Ao24 t282.length co24)) (fun _ h_ => h_.1))) hb); have n1_ := Aside0.mk (Kd.S_below (by (with_reducible repeat (first | apply Kd.S_alloc | apply Kd.S_drewN | apply Kd.S_drew)); exact (Kd.S_mono (Kd.S_far (p := ⟨gb285, 2, none⟩) (Kd.S_far (p := ⟨gb285, 1, none⟩) (Kd.S_far (p := ⟨gb285, 0, none⟩) (Kd.S_types HO281.out BK285.out (by decide)) (fun _ hk => hk.2) (.slice Ao20 t276.length co20)) (fun _ hk => hk.2) (.slice Ao23 t279.length co23)) (fun _ hk => hk.2) (.slice Ao24 t282.length co24)) (fun _ h_ => h_.1))) hb); have n2_ := Aside0.mk (Kd.R_below (by (with_reducible repeat (first | apply Kd.R_alloc | apply Kd.R_drewN | apply Kd.R_drew)); exact (Kd.R_mono (Kd.R_far (p := ⟨gb285, 2, none⟩) (Kd.R_far (p := ⟨gb285, 1, none⟩) (Kd.R_far (p := ⟨gb285, 0, none⟩) (Kd.R_types HO284.out BK285.out (by decide)) (fun _ hk => hk.2) (.slice Ao20 t276.length co20)) (fun _ hk => hk.2) (.slice Ao23 t279.length co23)) (fun _ hk => hk.2) (.slice Ao24 t282.length co24)) (fun _ h_ => h_.1))) hb); have n3_ := Aside0.mk (Kd.R_lower ho0 (below_size bz)); have n4_ := Aside0.mk (blk_below (g := gb275) (o := .cells #[.slice A0_0 l0_0.length c0_0, .slice A0_1 l0_1.length c0_1, .slice A0_2 l0_2.length c0_2] 25 (0, 0)) (by (with_reducible repeat (first | refine blk_drewN ?_ _ | refine blk_drew ?_ | refine blk_alloc ?_ _)); refine blk_far ?_ NB275_285.out _; (with_reducible repeat (first | refine blk_drewN ?_ _ | refine blk_drew ?_ | refine blk_alloc ?_ _)); refine blk_far ?_ NB275_285.out _; (with_reducible repeat (first | refine blk_drewN ?_ _ | refine blk_drew ?_ | refine blk_alloc ?_ _)); refine blk_far ?_ NB275_285.out _; (with_reducible repeat (first | refine blk_drewN ?_ _ | refine blk_drew ?_ | refine blk_alloc ?_ _)); exact BK275.out) hb); have n5_ := Aside0.mk (blk_below (g := gb285) (o := .cells #[.slice Ao20 t276.length co20, .slice Ao23 t279.length co23, .slice Ao24 t282.length co24] 25 (0, 0)) (by (with_reducible repeat (first | refine blk_drewN ?_ _ | refine blk_drew ?_ | refine blk_alloc ?_ _)); refine blk_put (cs := #[.slice Ao20 t276.length co20, .slice Ao23 t279.length co23, .slice none 0 0]) ?_ 2 _ rfl; (with_reducible repeat (first | refine blk_drewN ?_ _ | refine blk_drew ?_ | refine blk_alloc ?_ _)); refine blk_put (cs := #[.slice Ao20 t276.length co20, .slice none 0 0, .slice none 0 0]) ?_ 1 _ rfl; (with_reducible repeat (first | refine blk_drewN ?_ _ | refine blk_drew ?_ | refine blk_alloc ?_ _)); refine blk_put (cs := #[.slice none 0 0, .slice none 0 0, .slice none 0 0]) ?_ 0 _ rfl; (with_reducible repeat (first | refine blk_drewN ?_ _ | refine blk_drew ?_ | refine blk_alloc ?_ _)); exact BK285.out) hb); have n6_ := Aside0.mk (below_step bz hb); clear HO278; clear HO281; clear HO284; clear BK275; clear BK285; clear HB; have HO278 := n0_; have HO281 := n1_; have HO284 := n2_; have HO288 := n3_; have BK275 := n4_; have BK285 := n5_; have HB := n6_; clear n0_ n1_ n2_ n3_ n4_ n5_ n6_; (try clear hb); (try clear hb2); (try clear hk); (try clear hi); (try clear ho0); have hcz26_0 : w25.cell? ⟨gb285, 0, none⟩ = some (.slice Ao20 t276.length co20) := (blk_cell BK285.out 0).trans rfl; have hcz26_1 : w25.cell? ⟨gb285, 1, none⟩ = some (.slice Ao23 t279.length co23) := (blk_cell BK285.out 1).trans rfl; have hcz26_2 : w25.cell? ⟨gb285, 2, none⟩ = some (.slice Ao24 t282.length co24) := (blk_cell BK285.out 2).trans rfl; have hfz26_0 := blk_frozen BK285.out 0; have hfz26_1 := blk_frozen BK285.out 1; have hfz26_2 := blk_frozen BK285.out 2) | ((with_reducible refine gate_callee (f := 15) rfl ?_); refine goesL_ (some 28) rfl rfl Tryd.func15 (by kernel_rfl) rfl #[.agg #[.slice Ao20 t276.length co20, .slice Ao23 t279.length co23, .slice Ao24 t282.length co24]] rfl dz ?_; (with_reducible refine (tests_Worst.calls _ _ t276 _ _ t279 _ _ t282 t291 t294 t295 _ ?side1 ?side2 ?side3 ?side4 ?side5 ?side6 A4.out ?sideT).mono ?_); (case sideT => exact HTab.out.below bz); (case side1 => exact cz ((Kd.R_reads' HO278.out).2.2)); (case side2 => exact (Kd.R_reads' HO278.out).2.1); (case side3 => exact cz ((Kd.S_reads' HO281.out).2.2)); (case side4 => exact (Kd.S_reads' HO281.out).2.1); (case side5 => exact cz ((Kd.R_reads' HO284.out).2.2)); (case side6 => exact (Kd.R_reads' HO284.out).2.1); rintro e w27 ⟨v292, rfl, ho0, hb⟩; refine ⟨_, rfl, ?_⟩; have n0_ := Aside0.mk (Kd.R_below (rz HO278.out) hb); have n1_ := Aside0.mk (Kd.S_below (sz HO281.out) hb); have n2_ := Aside0.mk (Kd.R_below (rz HO284.out) hb); have n3_ := Aside0.mk (Kd.R_elder' (rz HO288.out) (Kd.R_base ho0) hb); have n4_ := Aside0.mk (Kd.R_lower (Kd.R_new' ho0 (Kd.R_lt (rz HO288.out))) (below_size bz)); have n5_ := Aside0.mk (kb BK275.out hb); have n6_ := Aside0.mk (kb BK285.out hb); have n7_ := Aside0.mk (below_step bz hb); clear HO278; clear HO281; clear HO284; clear HO288; clear BK275; clear BK285; clear HB; have HO278 := n0_; have HO281 := n1_; have HO284 := n2_; have HO288 := n3_; have HO293 := n4_; have BK275 := n5_; have BK285 := n6_; have HB := n7_; clear n0_ n1_ n2_ n3_ n4_ n5_ n6_ n7_; (try clear hb); (try clear hb2); (try clear hk); (try clear hi); (try clear ho0); have hcz28_0 : w27.cell? ⟨gb285, 0, none⟩ = some (.slice Ao20 t276.length co20) := (blk_cell BK285.out 0).trans rfl; have hcz28_1 : w27.cell? ⟨gb285, 1, none⟩ = some (.slice Ao23 t279.length co23) := (blk_cell BK285.out 1).trans rfl; have hcz28_2 : w27.cell? ⟨gb285, 2, none⟩ = some (.slice Ao24 t282.length co24) := (blk_cell BK285.out 2).trans rfl; have hfz28_0 := blk_frozen BK285.out 0; have hfz28_1 := blk_frozen BK285.out 1; have hfz28_2 := blk_frozen BK285.out 2; refine hold_ ?_; intro P_ hP_))
 refine hP_.out ?_
 clear hP_ P_
 by_cases c6 : t296 = true
 ·subst c6
  have H1 : ((tickingref07_Alike.f k t276 t279 t282).bind fun t298 => (if (t298.length : Int) > 0 then (if (t286.length : Int) = 0 then (if t289 = 0 then (if t290 = 6 then (if (t291.length : Int) = 0 then (if t294 = 0 then (if t295 = 6 then ((tickinglaw07_awake.f k).bind fun t301 => (some t301)) else (some false)) else (some false)) else (some false)) else (some false)) else (some false)) else (some false)) else ((tickingref07_Best.f k t276 t279 t282).bind fun bt302 => (if t290 = 0 then (if t295 = 0 then (if t289 = bt302.1 then (if t294 = bt302.2 then (if (t286.length : Int) > 1000 then (tickinglaw07_TestsBest.j0 k t286 t291 bt302.1 bt302.2 true t276 t279 t282) else (tickinglaw07_TestsBest.j0 k t286 t291 bt302.1 bt302.2 (decide ((t291.length : Int) > 1000)) t276 t279 t282)) else (tickinglaw07_TestsBest.j0 k t286 t291 bt302.1 bt302.2 true t276 t279 t282)) else (tickinglaw07_TestsBest.j0 k t286 t291 bt302.1 bt302.2 true t276 t279 t282)) else (tickinglaw07_TestsBest.j0 k t286 t291 bt302.1 bt302.2 true t276 t279 t282)) else (tickinglaw07_TestsBest.j0 k t286 t291 bt302.1 bt302.2 true t276 t279 t282))))) = some r := by rw [if_pos rfl] at H; exact H
  clear H
  have H := H1
  clear H1
  replace H := Option.bind_eq_some_iff.mp H
  obtain ⟨t298, A70, H⟩ := H
  replace H : (if (t298.length : Int) > 0 then (if (t286.length : Int) = 0 then (if t289 = 0 then (if t290 = 6 then (if (t291.length : Int) = 0 then (if t294 = 0 then (if t295 = 6 then ((tickinglaw07_awake.f k).bind fun t301 => (some t301)) else (some false)) else (some false)) else (some false)) else (some false)) else (some false)) else (some false)) else ((tickingref07_Best.f k t276 t279 t282).bind fun bt302 => (if t290 = 0 then (if t295 = 0 then (if t289 = bt302.1 then (if t294 = bt302.2 then (if (t286.length : Int) > 1000 then (tickinglaw07_TestsBest.j0 k t286 t291 bt302.1 bt302.2 true t276 t279 t282) else (tickinglaw07_TestsBest.j0 k t286 t291 bt302.1 bt302.2 (decide ((t291.length : Int) > 1000)) t276 t279 t282)) else (tickinglaw07_TestsBest.j0 k t286 t291 bt302.1 bt302.2 true t276 t279 t282)) else (tickinglaw07_TestsBest.j0 k t286 t291 bt302.1 bt302.2 true t276 t279 t282)) else (tickinglaw07_TestsBest.j0 k t286 t291 bt302.1 bt302.2 true t276 t279 t282)) else (tickinglaw07_TestsBest.j0 k t286 t291 bt302.1 bt302.2 true t276 t279 t282)))) = some r := H
  have A7 := Aside0.mk A70
  clear A70
  go_wp2_with (first | ((with_reducible refine gate_callee (f := 16) rfl ?_); refine goesL_ (some 33) rfl rfl Tryd.func16 (by kernel_rfl) rfl #[.agg #[.slice Ao20 t276.length co20, .slice Ao23 t279.length co23, .slice Ao24 t282.length co24]] rfl dz ?_; (with_reducible refine (tickingref07_Case.calls k _ _ t276 _ _ t279 _ _ t282 true _ ?side1 ?side2 ?side3 ?side4 ?side5 ?side6 A5.out).mono ?_); (case side1 => exact cz ((Kd.R_reads' HO278.out).2.2)); (case side2 => exact (Kd.R_reads' HO278.out).2.1); (case side3 => exact cz ((Kd.S_reads' HO281.out).2.2)); (case side4 => exact (Kd.S_reads' HO281.out).2.1); (case side5 => exact cz ((Kd.R_reads' HO284.out).2.2)); (case side6 => exact (Kd.R_reads' HO284.out).2.1); rintro e w29 ⟨rfl, hb⟩; refine ⟨_, rfl, ?_⟩; have n0_ := Aside0.mk (Kd.R_below (rz HO278.out) hb); have n1_ := Aside0.mk (Kd.S_below (sz HO281.out) hb); have n2_ := Aside0.mk (Kd.R_below (rz HO284.out) hb); have n3_ := Aside0.mk (Kd.R_below (rz HO288.out) hb); have n4_ := Aside0.mk (Kd.R_below (rz HO293.out) hb); have n5_ := Aside0.mk (kb BK275.out hb); have n6_ := Aside0.mk (kb BK285.out hb); have n7_ := Aside0.mk (below_step bz hb); clear HO278; clear HO281; clear HO284; clear HO288; clear HO293; clear BK275; clear BK285; clear HB; have HO278 := n0_; have HO281 := n1_; have HO284 := n2_; have HO288 := n3_; have HO293 := n4_; have BK275 := n5_; have BK285 := n6_; have HB := n7_; clear n0_ n1_ n2_ n3_ n4_ n5_ n6_ n7_; (try clear hb); (try clear hb2); (try clear hk); (try clear hi); have hcz30_0 : w29.cell? ⟨gb285, 0, none⟩ = some (.slice Ao20 t276.length co20) := (blk_cell BK285.out 0).trans rfl; have hcz30_1 : w29.cell? ⟨gb285, 1, none⟩ = some (.slice Ao23 t279.length co23) := (blk_cell BK285.out 1).trans rfl; have hcz30_2 : w29.cell? ⟨gb285, 2, none⟩ = some (.slice Ao24 t282.length co24) := (blk_cell BK285.out 2).trans rfl; have hfz30_0 := blk_frozen BK285.out 0; have hfz30_1 := blk_frozen BK285.out 1; have hfz30_2 := blk_frozen BK285.out 2; refine hold_ ?_; intro P_ hP_))
  refine hP_.out ?_
  clear hP_ P_
  by_cases c8 : (t298.length : Int) > 0
  ·rw [if_pos c8] at H
   have c8b0 : decide (0 < (t298.length : Int)) = true := decide_eq_true c8
   have c8b1 : decide (0 < t298.length) = true := decide_eq_true (by omega)
   clear c8
   by_cases c9 : (t286.length : Int) = 0
   ·rw [if_pos c9] at H
    have c9b0 : ((t286.length : Int) == 0) = true := beq_iff_eq.mpr c9
    have c9b1 : ((t286.length : Int) != 0) = false := bne_eq_false_iff_eq.mpr c9
    clear c9
    by_cases c10 : t289 = 0
    ·rw [if_pos c10] at H
     have c10b0 : (t289 == 0) = true := beq_iff_eq.mpr c10
     have c10b1 : (t289 != 0) = false := bne_eq_false_iff_eq.mpr c10
     clear c10
     by_cases c11 : t290 = 6
     ·rw [if_pos c11] at H
      have c11b0 : (t290 == 6) = true := beq_iff_eq.mpr c11
      have c11b1 : (t290 != 6) = false := bne_eq_false_iff_eq.mpr c11
      clear c11
      go_wp2_with (first | ((with_reducible refine gate_callee (f := 18) rfl ?_); refine goesL_ (some 63) rfl rfl Tryd.func18 (by kernel_rfl) rfl #[.agg #[.slice Ao20 t276.length co20, .slice Ao23 t279.length co23, .slice Ao24 t282.length co24]] rfl dz ?_; (with_reducible refine (tickingref07_Alike.calls k _ _ t276 _ _ t279 _ _ t282 t298 _ ?side1 ?side2 ?side3 ?side4 ?side5 ?side6 A7.out).mono ?_); (case side1 => exact cz ((Kd.R_reads' HO278.out).2.2)); (case side2 => exact (Kd.R_reads' HO278.out).2.1); (case side3 => exact cz ((Kd.S_reads' HO281.out).2.2)); (case side4 => exact (Kd.S_reads' HO281.out).2.1); (case side5 => exact cz ((Kd.R_reads' HO284.out).2.2)); (case side6 => exact (Kd.R_reads' HO284.out).2.1); rintro e w31 ⟨v299, rfl, ho0, hb⟩; refine ⟨_, rfl, ?_⟩; have n0_ := Aside0.mk (Kd.R_below (rz HO278.out) hb); have n1_ := Aside0.mk (Kd.S_below (sz HO281.out) hb); have n2_ := Aside0.mk (Kd.R_below (rz HO284.out) hb); have n3_ := Aside0.mk (Kd.R_below (rz HO288.out) hb); have n4_ := Aside0.mk (Kd.R_below (rz HO293.out) hb); have n5_ := Aside0.mk (Kd.R_lower ho0 (below_size bz)); have n6_ := Aside0.mk (kb BK275.out hb); have n7_ := Aside0.mk (kb BK285.out hb); have n8_ := Aside0.mk (below_step bz hb); clear HO278; clear HO281; clear HO284; clear HO288; clear HO293; clear BK275; clear BK285; clear HB; have HO278 := n0_; have HO281 := n1_; have HO284 := n2_; have HO288 := n3_; have HO293 := n4_; have HO300 := n5_; have BK275 := n6_; have BK285 := n7_; have HB := n8_; clear n0_ n1_ n2_ n3_ n4_ n5_ n6_ n7_ n8_; (try clear hb); (try clear hb2); (try clear hk); (try clear hi); (try clear ho0); obtain ⟨Ao32, co32, eo32⟩ := Kd.R_slice HO300.out; subst eo32; obtain ⟨Ao33, co33, eo33⟩ := Kd.R_slice HO288.out; subst eo33; obtain ⟨Ao34, co34, eo34⟩ := Kd.R_slice HO293.out; subst eo34; refine hold_ ?_; intro P_ hP_))
      refine hP_.out ?_
      clear hP_ P_
      by_cases c12 : (t291.length : Int) = 0
      ·rw [if_pos c12] at H
       have c12b0 : ((t291.length : Int) == 0) = true := beq_iff_eq.mpr c12
       have c12b1 : ((t291.length : Int) != 0) = false := bne_eq_false_iff_eq.mpr c12
       clear c12
       by_cases c13 : t294 = 0
       ·rw [if_pos c13] at H
        have c13b0 : (t294 == 0) = true := beq_iff_eq.mpr c13
        have c13b1 : (t294 != 0) = false := bne_eq_false_iff_eq.mpr c13
        clear c13
        by_cases c14 : t295 = 6
        ·rw [if_pos c14] at H
         have c14b0 : (t295 == 6) = true := beq_iff_eq.mpr c14
         have c14b1 : (t295 != 6) = false := bne_eq_false_iff_eq.mpr c14
         clear c14
         replace H := Option.bind_eq_some_iff.mp H
         obtain ⟨t301, A150, H⟩ := H
         replace H : (some t301) = some r := H
         have A15 := Aside0.mk A150
         clear A150
         obtain rfl := Option.some.inj H
         go_wp2_with (first | (go_at_call 17; (with_reducible refine (tickinglaw07_awake.calls k  t301 _ A15.out ?sideT).mono ?_); (case sideT => exact HTab.out.below bz); rintro e w35 ⟨rfl, hb⟩; have n0_ := Aside0.mk (Kd.R_below (rz HO278.out) hb); have n1_ := Aside0.mk (Kd.S_below (sz HO281.out) hb); have n2_ := Aside0.mk (Kd.R_below (rz HO284.out) hb); have n3_ := Aside0.mk (Kd.R_below (rz HO288.out) hb); have n4_ := Aside0.mk (Kd.R_below (rz HO293.out) hb); have n5_ := Aside0.mk (Kd.R_below (rz HO300.out) hb); have n6_ := Aside0.mk (kb BK275.out hb); have n7_ := Aside0.mk (kb BK285.out hb); have n8_ := Aside0.mk (below_step bz hb); clear HO278; clear HO281; clear HO284; clear HO288; clear HO293; clear HO300; clear BK275; clear BK285; clear HB; have HO278 := n0_; have HO281 := n1_; have HO284 := n2_; have HO288 := n3_; have HO293 := n4_; have HO300 := n5_; have BK275 := n6_; have BK285 := n7_; have HB := n8_; clear n0_ n1_ n2_ n3_ n4_ n5_ n6_ n7_ n8_; (try clear hb); (try clear hb2); (try clear hk); (try clear hi)))
         go_ret
         exact ⟨by first | rfl | (simp [errW_none, errW_some] <;> rfl) | (simp [*, errW_none, errW_some] <;> rfl), by repeat (first | (with_reducible first | exact HB.out | apply below_alloc | apply pw_below_drewN | apply below_drew1 | refine below_set ?_ GE275.out | refine below_set ?_ GE285.out) | exact HB.out)⟩
        ·rw [if_neg c14] at H
         have c14b0 : (t295 == 6) = false := beq_eq_false_iff_ne.mpr c14
         have c14b1 : (t295 != 6) = true := bne_iff_ne.mpr c14
         obtain rfl := Option.some.inj H
         go_wp2_with fail
         go_ret
         exact ⟨by first | rfl | (simp [errW_none, errW_some] <;> rfl) | (simp [*, errW_none, errW_some] <;> rfl), by repeat (first | (with_reducible first | exact HB.out | apply below_alloc | apply pw_below_drewN | apply below_drew1 | refine below_set ?_ GE275.out | refine below_set ?_ GE285.out) | exact HB.out)⟩
       ·rw [if_neg c13] at H
        have c13b0 : (t294 == 0) = false := beq_eq_false_iff_ne.mpr c13
        have c13b1 : (t294 != 0) = true := bne_iff_ne.mpr c13
        obtain rfl := Option.some.inj H
        go_wp2_with fail
        go_ret
        exact ⟨by first | rfl | (simp [errW_none, errW_some] <;> rfl) | (simp [*, errW_none, errW_some] <;> rfl), by repeat (first | (with_reducible first | exact HB.out | apply below_alloc | apply pw_below_drewN | apply below_drew1 | refine below_set ?_ GE275.out | refine below_set ?_ GE285.out) | exact HB.out)⟩
      ·rw [if_neg c12] at H
       have c12b0 : ((t291.length : Int) == 0) = false := beq_eq_false_iff_ne.mpr c12
       have c12b1 : ((t291.length : Int) != 0) = true := bne_iff_ne.mpr c12
       have c12b2 : ¬ (t291 = []) := fun h_ => c12 (by rw [h_]; rfl)
       obtain rfl := Option.some.inj H
       go_wp2_with fail
       go_ret
       exact ⟨by first | rfl | (simp [errW_none, errW_some] <;> rfl) | (simp [*, errW_none, errW_some] <;> rfl), by repeat (first | (with_reducible first | exact HB.out | apply below_alloc | apply pw_below_drewN | apply below_drew1 | refine below_set ?_ GE275.out | refine below_set ?_ GE285.out) | exact HB.out)⟩
     ·rw [if_neg c11] at H
      have c11b0 : (t290 == 6) = false := beq_eq_false_iff_ne.mpr c11
      have c11b1 : (t290 != 6) = true := bne_iff_ne.mpr c11
      obtain rfl := Option.some.inj H
      go_wp2_with (first | ((with_reducible refine gate_callee (f := 18) rfl ?_); refine goesL_ (some 63) rfl rfl Tryd.func18 (by kernel_rfl) rfl #[.agg #[.slice Ao20 t276.length co20, .slice Ao23 t279.length co23, .slice Ao24 t282.length co24]] rfl dz ?_; (with_reducible refine (tickingref07_Alike.calls k _ _ t276 _ _ t279 _ _ t282 t298 _ ?side1 ?side2 ?side3 ?side4 ?side5 ?side6 A7.out).mono ?_); (case side1 => exact cz ((Kd.R_reads' HO278.out).2.2)); (case side2 => exact (Kd.R_reads' HO278.out).2.1); (case side3 => exact cz ((Kd.S_reads' HO281.out).2.2)); (case side4 => exact (Kd.S_reads' HO281.out).2.1); (case side5 => exact cz ((Kd.R_reads' HO284.out).2.2)); (case side6 => exact (Kd.R_reads' HO284.out).2.1); rintro e w108 ⟨v299, rfl, ho0, hb⟩; refine ⟨_, rfl, ?_⟩; have n0_ := Aside0.mk (Kd.R_below (rz HO278.out) hb); have n1_ := Aside0.mk (Kd.S_below (sz HO281.out) hb); have n2_ := Aside0.mk (Kd.R_below (rz HO284.out) hb); have n3_ := Aside0.mk (Kd.R_below (rz HO288.out) hb); have n4_ := Aside0.mk (Kd.R_below (rz HO293.out) hb); have n5_ := Aside0.mk (Kd.R_lower ho0 (below_size bz)); have n6_ := Aside0.mk (kb BK275.out hb); have n7_ := Aside0.mk (kb BK285.out hb); have n8_ := Aside0.mk (below_step bz hb); clear HO278; clear HO281; clear HO284; clear HO288; clear HO293; clear BK275; clear BK285; clear HB; have HO278 := n0_; have HO281 := n1_; have HO284 := n2_; have HO288 := n3_; have HO293 := n4_; have HO300 := n5_; have BK275 := n6_; have BK285 := n7_; have HB := n8_; clear n0_ n1_ n2_ n3_ n4_ n5_ n6_ n7_ n8_; (try clear hb); (try clear hb2); (try clear hk); (try clear hi); (try clear ho0); obtain ⟨Ao109, co109, eo109⟩ := Kd.R_slice HO300.out; subst eo109; obtain ⟨Ao110, co110, eo110⟩ := Kd.R_slice HO288.out; subst eo110))
      go_ret
      exact ⟨by first | rfl | (simp [errW_none, errW_some] <;> rfl) | (simp [*, errW_none, errW_some] <;> rfl), by repeat (first | (with_reducible first | exact HB.out | apply below_alloc | apply pw_below_drewN | apply below_drew1 | refine below_set ?_ GE275.out | refine below_set ?_ GE285.out) | exact HB.out)⟩
    ·rw [if_neg c10] at H
     have c10b0 : (t289 == 0) = false := beq_eq_false_iff_ne.mpr c10
     have c10b1 : (t289 != 0) = true := bne_iff_ne.mpr c10
     obtain rfl := Option.some.inj H
     go_wp2_with (first | ((with_reducible refine gate_callee (f := 18) rfl ?_); refine goesL_ (some 63) rfl rfl Tryd.func18 (by kernel_rfl) rfl #[.agg #[.slice Ao20 t276.length co20, .slice Ao23 t279.length co23, .slice Ao24 t282.length co24]] rfl dz ?_; (with_reducible refine (tickingref07_Alike.calls k _ _ t276 _ _ t279 _ _ t282 t298 _ ?side1 ?side2 ?side3 ?side4 ?side5 ?side6 A7.out).mono ?_); (case side1 => exact cz ((Kd.R_reads' HO278.out).2.2)); (case side2 => exact (Kd.R_reads' HO278.out).2.1); (case side3 => exact cz ((Kd.S_reads' HO281.out).2.2)); (case side4 => exact (Kd.S_reads' HO281.out).2.1); (case side5 => exact cz ((Kd.R_reads' HO284.out).2.2)); (case side6 => exact (Kd.R_reads' HO284.out).2.1); rintro e w126 ⟨v299, rfl, ho0, hb⟩; refine ⟨_, rfl, ?_⟩; have n0_ := Aside0.mk (Kd.R_below (rz HO278.out) hb); have n1_ := Aside0.mk (Kd.S_below (sz HO281.out) hb); have n2_ := Aside0.mk (Kd.R_below (rz HO284.out) hb); have n3_ := Aside0.mk (Kd.R_below (rz HO288.out) hb); have n4_ := Aside0.mk (Kd.R_below (rz HO293.out) hb); have n5_ := Aside0.mk (Kd.R_lower ho0 (below_size bz)); have n6_ := Aside0.mk (kb BK275.out hb); have n7_ := Aside0.mk (kb BK285.out hb); have n8_ := Aside0.mk (below_step bz hb); clear HO278; clear HO281; clear HO284; clear HO288; clear HO293; clear BK275; clear BK285; clear HB; have HO278 := n0_; have HO281 := n1_; have HO284 := n2_; have HO288 := n3_; have HO293 := n4_; have HO300 := n5_; have BK275 := n6_; have BK285 := n7_; have HB := n8_; clear n0_ n1_ n2_ n3_ n4_ n5_ n6_ n7_ n8_; (try clear hb); (try clear hb2); (try clear hk); (try clear hi); (try clear ho0); obtain ⟨Ao127, co127, eo127⟩ := Kd.R_slice HO300.out; subst eo127; obtain ⟨Ao128, co128, eo128⟩ := Kd.R_slice HO288.out; subst eo128))
     go_ret
     exact ⟨by first | rfl | (simp [errW_none, errW_some] <;> rfl) | (simp [*, errW_none, errW_some] <;> rfl), by repeat (first | (with_reducible first | exact HB.out | apply below_alloc | apply pw_below_drewN | apply below_drew1 | refine below_set ?_ GE275.out | refine below_set ?_ GE285.out) | exact HB.out)⟩
   ·rw [if_neg c9] at H
    have c9b0 : ((t286.length : Int) == 0) = false := beq_eq_false_iff_ne.mpr c9
    have c9b1 : ((t286.length : Int) != 0) = true := bne_iff_ne.mpr c9
    have c9b2 : ¬ (t286 = []) := fun h_ => c9 (by rw [h_]; rfl)
    obtain rfl := Option.some.inj H
    go_wp2_with (first | ((with_reducible refine gate_callee (f := 18) rfl ?_); refine goesL_ (some 63) rfl rfl Tryd.func18 (by kernel_rfl) rfl #[.agg #[.slice Ao20 t276.length co20, .slice Ao23 t279.length co23, .slice Ao24 t282.length co24]] rfl dz ?_; (with_reducible refine (tickingref07_Alike.calls k _ _ t276 _ _ t279 _ _ t282 t298 _ ?side1 ?side2 ?side3 ?side4 ?side5 ?side6 A7.out).mono ?_); (case side1 => exact cz ((Kd.R_reads' HO278.out).2.2)); (case side2 => exact (Kd.R_reads' HO278.out).2.1); (case side3 => exact cz ((Kd.S_reads' HO281.out).2.2)); (case side4 => exact (Kd.S_reads' HO281.out).2.1); (case side5 => exact cz ((Kd.R_reads' HO284.out).2.2)); (case side6 => exact (Kd.R_reads' HO284.out).2.1); rintro e w144 ⟨v299, rfl, ho0, hb⟩; refine ⟨_, rfl, ?_⟩; have n0_ := Aside0.mk (Kd.R_below (rz HO278.out) hb); have n1_ := Aside0.mk (Kd.S_below (sz HO281.out) hb); have n2_ := Aside0.mk (Kd.R_below (rz HO284.out) hb); have n3_ := Aside0.mk (Kd.R_below (rz HO288.out) hb); have n4_ := Aside0.mk (Kd.R_below (rz HO293.out) hb); have n5_ := Aside0.mk (Kd.R_lower ho0 (below_size bz)); have n6_ := Aside0.mk (kb BK275.out hb); have n7_ := Aside0.mk (kb BK285.out hb); have n8_ := Aside0.mk (below_step bz hb); clear HO278; clear HO281; clear HO284; clear HO288; clear HO293; clear BK275; clear BK285; clear HB; have HO278 := n0_; have HO281 := n1_; have HO284 := n2_; have HO288 := n3_; have HO293 := n4_; have HO300 := n5_; have BK275 := n6_; have BK285 := n7_; have HB := n8_; clear n0_ n1_ n2_ n3_ n4_ n5_ n6_ n7_ n8_; (try clear hb); (try clear hb2); (try clear hk); (try clear hi); (try clear ho0); obtain ⟨Ao145, co145, eo145⟩ := Kd.R_slice HO300.out; subst eo145; obtain ⟨Ao146, co146, eo146⟩ := Kd.R_slice HO288.out; subst eo146))
    go_ret
    exact ⟨by first | rfl | (simp [errW_none, errW_some] <;> rfl) | (simp [*, errW_none, errW_some] <;> rfl), by repeat (first | (with_reducible first | exact HB.out | apply below_alloc | apply pw_below_drewN | apply below_drew1 | refine below_set ?_ GE275.out | refine below_set ?_ GE285.out) | exact HB.out)⟩
  ·rw [if_neg c8] at H
   have c8b0 : decide (0 < (t298.length : Int)) = false := decide_eq_false c8
   have c8b1 : decide (0 < t298.length) = false := decide_eq_false (by omega)
   clear c8
   replace H := Option.bind_eq_some_iff.mp H
   obtain ⟨⟨t302, t303⟩, A1470, H⟩ := H
   replace H : (if t290 = 0 then (if t295 = 0 then (if t289 = t302 then (if t294 = t303 then (if (t286.length : Int) > 1000 then (tickinglaw07_TestsBest.j0 k t286 t291 t302 t303 true t276 t279 t282) else (tickinglaw07_TestsBest.j0 k t286 t291 t302 t303 (decide ((t291.length : Int) > 1000)) t276 t279 t282)) else (tickinglaw07_TestsBest.j0 k t286 t291 t302 t303 true t276 t279 t282)) else (tickinglaw07_TestsBest.j0 k t286 t291 t302 t303 true t276 t279 t282)) else (tickinglaw07_TestsBest.j0 k t286 t291 t302 t303 true t276 t279 t282)) else (tickinglaw07_TestsBest.j0 k t286 t291 t302 t303 true t276 t279 t282)) = some r := H
   have A147 := Aside0.mk A1470
   clear A1470
   have HC148 := Aside0.mk H
   clear H
   go_upto_region 9 with (first | ((with_reducible refine gate_callee (f := 18) rfl ?_); refine goesL_ (some 63) rfl rfl Tryd.func18 (by kernel_rfl) rfl #[.agg #[.slice Ao20 t276.length co20, .slice Ao23 t279.length co23, .slice Ao24 t282.length co24]] rfl dz ?_; (with_reducible refine (tickingref07_Alike.calls k _ _ t276 _ _ t279 _ _ t282 t298 _ ?side1 ?side2 ?side3 ?side4 ?side5 ?side6 A7.out).mono ?_); (case side1 => exact cz ((Kd.R_reads' HO278.out).2.2)); (case side2 => exact (Kd.R_reads' HO278.out).2.1); (case side3 => exact cz ((Kd.S_reads' HO281.out).2.2)); (case side4 => exact (Kd.S_reads' HO281.out).2.1); (case side5 => exact cz ((Kd.R_reads' HO284.out).2.2)); (case side6 => exact (Kd.R_reads' HO284.out).2.1); rintro e w164 ⟨v299, rfl, ho0, hb⟩; refine ⟨_, rfl, ?_⟩; have n0_ := Aside0.mk (Kd.R_below (rz HO278.out) hb); have n1_ := Aside0.mk (Kd.S_below (sz HO281.out) hb); have n2_ := Aside0.mk (Kd.R_below (rz HO284.out) hb); have n3_ := Aside0.mk (Kd.R_below (rz HO288.out) hb); have n4_ := Aside0.mk (Kd.R_below (rz HO293.out) hb); have n5_ := Aside0.mk (Kd.R_lower ho0 (below_size bz)); have n6_ := Aside0.mk (kb BK275.out hb); have n7_ := Aside0.mk (kb BK285.out hb); have n8_ := Aside0.mk (below_step bz hb); clear HO278; clear HO281; clear HO284; clear HO288; clear HO293; clear BK275; clear BK285; clear HB; have HO278 := n0_; have HO281 := n1_; have HO284 := n2_; have HO288 := n3_; have HO293 := n4_; have HO300 := n5_; have BK275 := n6_; have BK285 := n7_; have HB := n8_; clear n0_ n1_ n2_ n3_ n4_ n5_ n6_ n7_ n8_; (try clear hb); (try clear hb2); (try clear hk); (try clear hi); (try clear ho0); obtain ⟨Ao165, co165, eo165⟩ := Kd.R_slice HO300.out; subst eo165; have hcz166_0 : w164.cell? ⟨gb285, 0, none⟩ = some (.slice Ao20 t276.length co20) := (blk_cell BK285.out 0).trans rfl; have hcz166_1 : w164.cell? ⟨gb285, 1, none⟩ = some (.slice Ao23 t279.length co23) := (blk_cell BK285.out 1).trans rfl; have hcz166_2 : w164.cell? ⟨gb285, 2, none⟩ = some (.slice Ao24 t282.length co24) := (blk_cell BK285.out 2).trans rfl; have hfz166_0 := blk_frozen BK285.out 0; have hfz166_1 := blk_frozen BK285.out 1; have hfz166_2 := blk_frozen BK285.out 2) | ((with_reducible refine gate_callee (f := 19) rfl ?_); refine goesL_ (some 95) rfl rfl Tryd.func19 (by kernel_rfl) rfl #[.agg #[.slice Ao20 t276.length co20, .slice Ao23 t279.length co23, .slice Ao24 t282.length co24]] rfl dz ?_; (with_reducible refine (tickingref07_Best.calls k _ _ t276 _ _ t279 _ _ t282 t302 t303 _ ?side1 ?side2 ?side3 ?side4 ?side5 ?side6 A147.out).mono ?_); (case side1 => exact cz ((Kd.R_reads' HO278.out).2.2)); (case side2 => exact (Kd.R_reads' HO278.out).2.1); (case side3 => exact cz ((Kd.S_reads' HO281.out).2.2)); (case side4 => exact (Kd.S_reads' HO281.out).2.1); (case side5 => exact cz ((Kd.R_reads' HO284.out).2.2)); (case side6 => exact (Kd.R_reads' HO284.out).2.1); rintro e w167 ⟨rfl, hb⟩; refine ⟨_, rfl, ?_⟩; have n0_ := Aside0.mk (Kd.R_below (rz HO278.out) hb); have n1_ := Aside0.mk (Kd.S_below (sz HO281.out) hb); have n2_ := Aside0.mk (Kd.R_below (rz HO284.out) hb); have n3_ := Aside0.mk (Kd.R_below (rz HO288.out) hb); have n4_ := Aside0.mk (Kd.R_below (rz HO293.out) hb); have n5_ := Aside0.mk (Kd.R_below (rz HO300.out) hb); have n6_ := Aside0.mk (kb BK275.out hb); have n7_ := Aside0.mk (kb BK285.out hb); have n8_ := Aside0.mk (below_step bz hb); clear HO278; clear HO281; clear HO284; clear HO288; clear HO293; clear HO300; clear BK275; clear BK285; clear HB; have HO278 := n0_; have HO281 := n1_; have HO284 := n2_; have HO288 := n3_; have HO293 := n4_; have HO300 := n5_; have BK275 := n6_; have BK285 := n7_; have HB := n8_; clear n0_ n1_ n2_ n3_ n4_ n5_ n6_ n7_ n8_; (try clear hb); (try clear hb2); (try clear hk); (try clear hi)))
   (try simp only [Act.put, List.setIfInBounds_toArray, List.set_cons_zero, List.set_cons_succ])
   go_cut [123] (fun v123 wc => ∃ (kq : Nat) (x123_147 : Bool), v123 = .bool x123_147 ∧ Aside0 (tickinglaw07_TestsBest.j0 kq t286 t291 t302 t303 x123_147 t276 t279 t282 = some r) ∧ Aside0 (kq ≤ k) ∧ Aside0 (Kd.R k57 57 wc w.heap.size (fun k_ => some k_ ≠ (v292 : Value).ownBlock) v287 t286) ∧ Aside0 (Kd.R k57 57 wc w.heap.size (fun k_ => some k_ ≠ (v287 : Value).ownBlock) v292 t291) ∧ Aside0 (Kd.R (Kd.int .i64) 3 wc w.heap.size (fun k_ => some k_ ≠ ((.slice Ao24 t282.length co24) : Value).ownBlock) (.slice Ao20 t276.length co20) t276) ∧ Aside0 (Kd.S (Kd.slice 3 (Kd.int .i64)) 22 wc w.heap.size (fun k_ => some k_ ≠ ((.slice Ao20 t276.length co20) : Value).ownBlock ∧ some k_ ≠ ((.slice Ao24 t282.length co24) : Value).ownBlock) (.slice Ao23 t279.length co23) t279) ∧ Aside0 (Kd.R (Kd.int .i64) 3 wc w.heap.size (fun k_ => some k_ ≠ ((.slice Ao20 t276.length co20) : Value).ownBlock) (.slice Ao24 t282.length co24) t282) ∧ Aside0 (wc.heap[gb275]? = some (.cells #[(.slice A0_0 l0_0.length c0_0), (.slice A0_1 l0_1.length c0_1), (.slice A0_2 l0_2.length c0_2)] 25 (0, 0))) ∧ Aside0 (wc.heap[gb285]? = some (.cells #[(.slice Ao20 t276.length co20), (.slice Ao23 t279.length co23), (.slice Ao24 t282.length co24)] 25 (0, 0))) ∧ Aside0 (Below w.heap.size w wc))
   case first =>
    have H := HC148.out
    clear HC148
    by_cases c168 : t290 = 0
    ·rw [if_pos c168] at H
     have c168b0 : (t290 == 0) = true := beq_iff_eq.mpr c168
     have c168b1 : (t290 != 0) = false := bne_eq_false_iff_eq.mpr c168
     clear c168
     (first | rw [c168b0] | (simp only [i64_w, i32_w]; rw [c168b0]) | skip)
     by_cases c169 : t295 = 0
     ·rw [if_pos c169] at H
      have c169b0 : (t295 == 0) = true := beq_iff_eq.mpr c169
      have c169b1 : (t295 != 0) = false := bne_eq_false_iff_eq.mpr c169
      clear c169
      by_cases c170 : t289 = t302
      ·rw [if_pos c170] at H
       have c170b0 : (t289 == t302) = true := beq_iff_eq.mpr c170
       have c170b1 : (t289 != t302) = false := bne_eq_false_iff_eq.mpr c170
       clear c170
       by_cases c171 : t294 = t303
       ·rw [if_pos c171] at H
        have c171b0 : (t294 == t303) = true := beq_iff_eq.mpr c171
        have c171b1 : (t294 != t303) = false := bne_eq_false_iff_eq.mpr c171
        clear c171
        by_cases c172 : (t286.length : Int) > 1000
        ·rw [if_pos c172] at H
         have c172b0 : decide (1000 < (t286.length : Int)) = true := decide_eq_true c172
         have c172b1 : decide (1000 < t286.length) = true := decide_eq_true (by omega)
         clear c172
         have H' := Aside0.mk H
         clear H
         obtain ⟨Ao173, co173, eo173⟩ := Kd.R_slice HO288.out
         subst eo173
         go_wp2
         go_meet
         case rel => exact ⟨_, (true), (by first | rfl | (simp; done) | (simp [*]; done)), H', ⟨by first | omega | exact Nat.le_refl _⟩, ⟨by (with_reducible repeat (first | apply Kd.R_alloc | apply Kd.R_drewN | apply Kd.R_drew)); exact Kd.R_mono HO288.out (fun _ hk => hk.2)⟩, ⟨by (with_reducible repeat (first | apply Kd.R_alloc | apply Kd.R_drewN | apply Kd.R_drew)); exact Kd.R_mono HO293.out (fun _ hk => hk.2)⟩, ⟨by (with_reducible repeat (first | apply Kd.R_alloc | apply Kd.R_drewN | apply Kd.R_drew)); exact HO278.out⟩, ⟨by (with_reducible repeat (first | apply Kd.S_alloc | apply Kd.S_drewN | apply Kd.S_drew)); exact HO281.out⟩, ⟨by (with_reducible repeat (first | apply Kd.R_alloc | apply Kd.R_drewN | apply Kd.R_drew)); exact HO284.out⟩, ⟨by (with_reducible repeat (first | refine blk_drewN ?_ _ | refine blk_drew ?_ | refine blk_alloc ?_ _)); exact BK275.out⟩, ⟨by (with_reducible repeat (first | refine blk_drewN ?_ _ | refine blk_drew ?_ | refine blk_alloc ?_ _)); exact BK285.out⟩, ⟨by repeat (first | (with_reducible first | exact HB.out | apply below_alloc | apply pw_below_drewN | apply below_drew1 | refine below_set ?_ GE275.out | refine below_set ?_ GE285.out) | exact HB.out)⟩⟩
        ·rw [if_neg c172] at H
         have c172b0 : decide (1000 < (t286.length : Int)) = false := decide_eq_false c172
         have c172b1 : decide (1000 < t286.length) = false := decide_eq_false (by omega)
         clear c172
         have H' := Aside0.mk H
         clear H
         obtain ⟨Ao174, co174, eo174⟩ := Kd.R_slice HO288.out
         subst eo174
         obtain ⟨Ao175, co175, eo175⟩ := Kd.R_slice HO293.out
         subst eo175
         go_wp2
         go_meet
         case rel => exact ⟨_, (decide ((t291.length : Int) > 1000)), (by first | rfl | (simp; done) | (simp [*]; done)), H', ⟨by first | omega | exact Nat.le_refl _⟩, ⟨by (with_reducible repeat (first | apply Kd.R_alloc | apply Kd.R_drewN | apply Kd.R_drew)); exact Kd.R_mono HO288.out (fun _ hk => hk.2)⟩, ⟨by (with_reducible repeat (first | apply Kd.R_alloc | apply Kd.R_drewN | apply Kd.R_drew)); exact Kd.R_mono HO293.out (fun _ hk => hk.2)⟩, ⟨by (with_reducible repeat (first | apply Kd.R_alloc | apply Kd.R_drewN | apply Kd.R_drew)); exact HO278.out⟩, ⟨by (with_reducible repeat (first | apply Kd.S_alloc | apply Kd.S_drewN | apply Kd.S_drew)); exact HO281.out⟩, ⟨by (with_reducible repeat (first | apply Kd.R_alloc | apply Kd.R_drewN | apply Kd.R_drew)); exact HO284.out⟩, ⟨by (with_reducible repeat (first | refine blk_drewN ?_ _ | refine blk_drew ?_ | refine blk_alloc ?_ _)); exact BK275.out⟩, ⟨by (with_reducible repeat (first | refine blk_drewN ?_ _ | refine blk_drew ?_ | refine blk_alloc ?_ _)); exact BK285.out⟩, ⟨by repeat (first | (with_reducible first | exact HB.out | apply below_alloc | apply pw_below_drewN | apply below_drew1 | refine below_set ?_ GE275.out | refine below_set ?_ GE285.out) | exact HB.out)⟩⟩
       ·rw [if_neg c171] at H
        have c171b0 : (t294 == t303) = false := beq_eq_false_iff_ne.mpr c171
        have c171b1 : (t294 != t303) = true := bne_iff_ne.mpr c171
        have H' := Aside0.mk H
        clear H
        go_wp2
        go_meet
        case rel => exact ⟨_, (true), (by first | rfl | (simp; done) | (simp [*]; done)), H', ⟨by first | omega | exact Nat.le_refl _⟩, ⟨by (with_reducible repeat (first | apply Kd.R_alloc | apply Kd.R_drewN | apply Kd.R_drew)); exact Kd.R_mono HO288.out (fun _ hk => hk.2)⟩, ⟨by (with_reducible repeat (first | apply Kd.R_alloc | apply Kd.R_drewN | apply Kd.R_drew)); exact Kd.R_mono HO293.out (fun _ hk => hk.2)⟩, ⟨by (with_reducible repeat (first | apply Kd.R_alloc | apply Kd.R_drewN | apply Kd.R_drew)); exact HO278.out⟩, ⟨by (with_reducible repeat (first | apply Kd.S_alloc | apply Kd.S_drewN | apply Kd.S_drew)); exact HO281.out⟩, ⟨by (with_reducible repeat (first | apply Kd.R_alloc | apply Kd.R_drewN | apply Kd.R_drew)); exact HO284.out⟩, ⟨by (with_reducible repeat (first | refine blk_drewN ?_ _ | refine blk_drew ?_ | refine blk_alloc ?_ _)); exact BK275.out⟩, ⟨by (with_reducible repeat (first | refine blk_drewN ?_ _ | refine blk_drew ?_ | refine blk_alloc ?_ _)); exact BK285.out⟩, ⟨by repeat (first | (with_reducible first | exact HB.out | apply below_alloc | apply pw_below_drewN | apply below_drew1 | refine below_set ?_ GE275.out | refine below_set ?_ GE285.out) | exact HB.out)⟩⟩
      ·rw [if_neg c170] at H
       have c170b0 : (t289 == t302) = false := beq_eq_false_iff_ne.mpr c170
       have c170b1 : (t289 != t302) = true := bne_iff_ne.mpr c170
       have H' := Aside0.mk H
       clear H
       go_wp2
       go_meet
       case rel => exact ⟨_, (true), (by first | rfl | (simp; done) | (simp [*]; done)), H', ⟨by first | omega | exact Nat.le_refl _⟩, ⟨by (with_reducible repeat (first | apply Kd.R_alloc | apply Kd.R_drewN | apply Kd.R_drew)); exact Kd.R_mono HO288.out (fun _ hk => hk.2)⟩, ⟨by (with_reducible repeat (first | apply Kd.R_alloc | apply Kd.R_drewN | apply Kd.R_drew)); exact Kd.R_mono HO293.out (fun _ hk => hk.2)⟩, ⟨by (with_reducible repeat (first | apply Kd.R_alloc | apply Kd.R_drewN | apply Kd.R_drew)); exact HO278.out⟩, ⟨by (with_reducible repeat (first | apply Kd.S_alloc | apply Kd.S_drewN | apply Kd.S_drew)); exact HO281.out⟩, ⟨by (with_reducible repeat (first | apply Kd.R_alloc | apply Kd.R_drewN | apply Kd.R_drew)); exact HO284.out⟩, ⟨by (with_reducible repeat (first | refine blk_drewN ?_ _ | refine blk_drew ?_ | refine blk_alloc ?_ _)); exact BK275.out⟩, ⟨by (with_reducible repeat (first | refine blk_drewN ?_ _ | refine blk_drew ?_ | refine blk_alloc ?_ _)); exact BK285.out⟩, ⟨by repeat (first | (with_reducible first | exact HB.out | apply below_alloc | apply pw_below_drewN | apply below_drew1 | refine below_set ?_ GE275.out | refine below_set ?_ GE285.out) | exact HB.out)⟩⟩
     ·rw [if_neg c169] at H
      have c169b0 : (t295 == 0) = false := beq_eq_false_iff_ne.mpr c169
      have c169b1 : (t295 != 0) = true := bne_iff_ne.mpr c169
      have H' := Aside0.mk H
      clear H
      go_wp2
      go_meet
      case rel => exact ⟨_, (true), (by first | rfl | (simp; done) | (simp [*]; done)), H', ⟨by first | omega | exact Nat.le_refl _⟩, ⟨by (with_reducible repeat (first | apply Kd.R_alloc | apply Kd.R_drewN | apply Kd.R_drew)); exact Kd.R_mono HO288.out (fun _ hk => hk.2)⟩, ⟨by (with_reducible repeat (first | apply Kd.R_alloc | apply Kd.R_drewN | apply Kd.R_drew)); exact Kd.R_mono HO293.out (fun _ hk => hk.2)⟩, ⟨by (with_reducible repeat (first | apply Kd.R_alloc | apply Kd.R_drewN | apply Kd.R_drew)); exact HO278.out⟩, ⟨by (with_reducible repeat (first | apply Kd.S_alloc | apply Kd.S_drewN | apply Kd.S_drew)); exact HO281.out⟩, ⟨by (with_reducible repeat (first | apply Kd.R_alloc | apply Kd.R_drewN | apply Kd.R_drew)); exact HO284.out⟩, ⟨by (with_reducible repeat (first | refine blk_drewN ?_ _ | refine blk_drew ?_ | refine blk_alloc ?_ _)); exact BK275.out⟩, ⟨by (with_reducible repeat (first | refine blk_drewN ?_ _ | refine blk_drew ?_ | refine blk_alloc ?_ _)); exact BK285.out⟩, ⟨by repeat (first | (with_reducible first | exact HB.out | apply below_alloc | apply pw_below_drewN | apply below_drew1 | refine below_set ?_ GE275.out | refine below_set ?_ GE285.out) | exact HB.out)⟩⟩
    ·rw [if_neg c168] at H
     have c168b0 : (t290 == 0) = false := beq_eq_false_iff_ne.mpr c168
     have c168b1 : (t290 != 0) = true := bne_iff_ne.mpr c168
     (first | rw [c168b0] | (simp only [i64_w, i32_w]; rw [c168b0]) | skip)
     have H' := Aside0.mk H
     clear H
     go_wp2
     go_meet
     case rel => exact ⟨_, (true), (by first | rfl | (simp; done) | (simp [*]; done)), H', ⟨by first | omega | exact Nat.le_refl _⟩, ⟨by (with_reducible repeat (first | apply Kd.R_alloc | apply Kd.R_drewN | apply Kd.R_drew)); exact Kd.R_mono HO288.out (fun _ hk => hk.2)⟩, ⟨by (with_reducible repeat (first | apply Kd.R_alloc | apply Kd.R_drewN | apply Kd.R_drew)); exact Kd.R_mono HO293.out (fun _ hk => hk.2)⟩, ⟨by (with_reducible repeat (first | apply Kd.R_alloc | apply Kd.R_drewN | apply Kd.R_drew)); exact HO278.out⟩, ⟨by (with_reducible repeat (first | apply Kd.S_alloc | apply Kd.S_drewN | apply Kd.S_drew)); exact HO281.out⟩, ⟨by (with_reducible repeat (first | apply Kd.R_alloc | apply Kd.R_drewN | apply Kd.R_drew)); exact HO284.out⟩, ⟨by (with_reducible repeat (first | refine blk_drewN ?_ _ | refine blk_drew ?_ | refine blk_alloc ?_ _)); exact BK275.out⟩, ⟨by (with_reducible repeat (first | refine blk_drewN ?_ _ | refine blk_drew ?_ | refine blk_alloc ?_ _)); exact BK285.out⟩, ⟨by repeat (first | (with_reducible first | exact HB.out | apply below_alloc | apply pw_below_drewN | apply below_drew1 | refine below_set ?_ GE275.out | refine below_set ?_ GE285.out) | exact HB.out)⟩⟩
   case rest =>
    clear HC148
    try clear c1
    try clear c2
    try clear p2
    try clear c3
    try clear c4
    try clear c6
    try clear c7
    try clear c8
    try clear c8b0
    try clear c8b1
    try clear c9
    try clear c9b0
    try clear c9b1
    try clear c9b2
    try clear c10
    try clear c10b0
    try clear c10b1
    try clear c11
    try clear c11b0
    try clear c11b1
    try clear c12
    try clear c12b0
    try clear c12b1
    try clear c12b2
    try clear c13
    try clear c13b0
    try clear c13b1
    try clear c14
    try clear c14b0
    try clear c14b1
    try clear c15
    try clear c16
    try clear c17
    try clear c18
    try clear c19
    try clear c21
    try clear c41
    try clear c60
    try clear c79
    try clear c98
    try clear c116
    try clear c134
    try clear c154
    try clear c168
    try clear c168b0
    try clear c168b1
    try clear c169
    try clear c169b0
    try clear c169b1
    try clear c170
    try clear c170b0
    try clear c170b1
    try clear c171
    try clear c171b0
    try clear c171b1
    try clear c172
    try clear c172b0
    try clear c172b1
    try clear hcz103_0
    try clear hcz103_1
    try clear hcz103_2
    try clear hcz105_0
    try clear hcz105_1
    try clear hcz105_2
    try clear hcz107_0
    try clear hcz107_1
    try clear hcz107_2
    try clear hcz112_0
    try clear hcz112_1
    try clear hcz112_2
    try clear hcz117_0
    try clear hcz117_1
    try clear hcz117_2
    try clear hcz121_0
    try clear hcz121_1
    try clear hcz121_2
    try clear hcz123_0
    try clear hcz123_1
    try clear hcz123_2
    try clear hcz125_0
    try clear hcz125_1
    try clear hcz125_2
    try clear hcz130_0
    try clear hcz130_1
    try clear hcz130_2
    try clear hcz135_0
    try clear hcz135_1
    try clear hcz135_2
    try clear hcz139_0
    try clear hcz139_1
    try clear hcz139_2
    try clear hcz141_0
    try clear hcz141_1
    try clear hcz141_2
    try clear hcz143_0
    try clear hcz143_1
    try clear hcz143_2
    try clear hcz17_0
    try clear hcz17_1
    try clear hcz17_2
    try clear hcz22_0
    try clear hcz22_1
    try clear hcz22_2
    try clear hcz26_0
    try clear hcz26_1
    try clear hcz26_2
    try clear hcz28_0
    try clear hcz28_1
    try clear hcz28_2
    try clear hcz30_0
    try clear hcz30_1
    try clear hcz30_2
    try clear hcz166_0
    try clear hcz166_1
    try clear hcz166_2
    try clear hcz17_0
    try clear hcz17_1
    try clear hcz17_2
    try clear hcz22_0
    try clear hcz22_1
    try clear hcz22_2
    try clear hcz26_0
    try clear hcz26_1
    try clear hcz26_2
    try clear hcz28_0
    try clear hcz28_1
    try clear hcz28_2
    try clear hcz30_0
    try clear hcz30_1
    try clear hcz30_2
    try clear hcz37_0
    try clear hcz37_1
    try clear hcz37_2
    try clear hcz42_0
    try clear hcz42_1
    try clear hcz42_2
    try clear hcz46_0
    try clear hcz46_1
    try clear hcz46_2
    try clear hcz48_0
    try clear hcz48_1
    try clear hcz48_2
    try clear hcz50_0
    try clear hcz50_1
    try clear hcz50_2
    try clear hcz56_0
    try clear hcz56_1
    try clear hcz56_2
    try clear hcz61_0
    try clear hcz61_1
    try clear hcz61_2
    try clear hcz65_0
    try clear hcz65_1
    try clear hcz65_2
    try clear hcz67_0
    try clear hcz67_1
    try clear hcz67_2
    try clear hcz69_0
    try clear hcz69_1
    try clear hcz69_2
    try clear hcz75_0
    try clear hcz75_1
    try clear hcz75_2
    try clear hcz80_0
    try clear hcz80_1
    try clear hcz80_2
    try clear hcz84_0
    try clear hcz84_1
    try clear hcz84_2
    try clear hcz86_0
    try clear hcz86_1
    try clear hcz86_2
    try clear hcz88_0
    try clear hcz88_1
    try clear hcz88_2
    try clear hcz94_0
    try clear hcz94_1
    try clear hcz94_2
    try clear hcz99_0
    try clear hcz99_1
    try clear hcz99_2
    try clear hfz103_0
    try clear hfz103_1
    try clear hfz103_2
    try clear hfz105_0
    try clear hfz105_1
    try clear hfz105_2
    try clear hfz107_0
    try clear hfz107_1
    try clear hfz107_2
    try clear hfz112_0
    try clear hfz112_1
    try clear hfz112_2
    try clear hfz117_0
    try clear hfz117_1
    try clear hfz117_2
    try clear hfz121_0
    try clear hfz121_1
    try clear hfz121_2
    try clear hfz123_0
    try clear hfz123_1
    try clear hfz123_2
    try clear hfz125_0
    try clear hfz125_1
    try clear hfz125_2
    try clear hfz130_0
    try clear hfz130_1
    try clear hfz130_2
    try clear hfz135_0
    try clear hfz135_1
    try clear hfz135_2
    try clear hfz139_0
    try clear hfz139_1
    try clear hfz139_2
    try clear hfz141_0
    try clear hfz141_1
    try clear hfz141_2
    try clear hfz143_0
    try clear hfz143_1
    try clear hfz143_2
    try clear hfz17_0
    try clear hfz17_1
    try clear hfz17_2
    try clear hfz22_0
    try clear hfz22_1
    try clear hfz22_2
    try clear hfz26_0
    try clear hfz26_1
    try clear hfz26_2
    try clear hfz28_0
    try clear hfz28_1
    try clear hfz28_2
    try clear hfz30_0
    try clear hfz30_1
    try clear hfz30_2
    try clear hfz166_0
    try clear hfz166_1
    try clear hfz166_2
    try clear hfz17_0
    try clear hfz17_1
    try clear hfz17_2
    try clear hfz22_0
    try clear hfz22_1
    try clear hfz22_2
    try clear hfz26_0
    try clear hfz26_1
    try clear hfz26_2
    try clear hfz28_0
    try clear hfz28_1
    try clear hfz28_2
    try clear hfz30_0
    try clear hfz30_1
    try clear hfz30_2
    try clear hfz37_0
    try clear hfz37_1
    try clear hfz37_2
    try clear hfz42_0
    try clear hfz42_1
    try clear hfz42_2
    try clear hfz46_0
    try clear hfz46_1
    try clear hfz46_2
    try clear hfz48_0
    try clear hfz48_1
    try clear hfz48_2
    try clear hfz50_0
    try clear hfz50_1
    try clear hfz50_2
    try clear hfz56_0
    try clear hfz56_1
    try clear hfz56_2
    try clear hfz61_0
    try clear hfz61_1
    try clear hfz61_2
    try clear hfz65_0
    try clear hfz65_1
    try clear hfz65_2
    try clear hfz67_0
    try clear hfz67_1
    try clear hfz67_2
    try clear hfz69_0
    try clear hfz69_1
    try clear hfz69_2
    try clear hfz75_0
    try clear hfz75_1
    try clear hfz75_2
    try clear hfz80_0
    try clear hfz80_1
    try clear hfz80_2
    try clear hfz84_0
    try clear hfz84_1
    try clear hfz84_2
    try clear hfz86_0
    try clear hfz86_1
    try clear hfz86_2
    try clear hfz88_0
    try clear hfz88_1
    try clear hfz88_2
    try clear hfz94_0
    try clear hfz94_1
    try clear hfz94_2
    try clear hfz99_0
    try clear hfz99_1
    try clear hfz99_2
    obtain ⟨kq, x123_147, rfl, HA, HJ147, HO_4, HO_7, HO_286000, HO_286001, HO_286002, BK275, BK285, HB⟩ := hcut
    cases kq with
    | zero => exact absurd HA.out (by simp [tickinglaw07_TestsBest.j0])
    | succ kj147 =>
     have H := HA.out
     clear HA
     simp only [tickinglaw07_TestsBest.j0] at H
     by_cases c176 : x123_147 = true
     ·subst c176
      have H1 : (some false) = some r := by rw [if_pos rfl] at H; exact H
      clear H
      have H := H1
      clear H1
      obtain rfl := Option.some.inj H
      go_wp2
      go_ret
      exact ⟨by first | rfl | (simp [errW_none, errW_some] <;> rfl) | (simp [*, errW_none, errW_some] <;> rfl), by repeat (first | (with_reducible first | exact HB.out | apply below_alloc | apply pw_below_drewN | apply below_drew1 | refine below_set ?_ GE275.out | refine below_set ?_ GE285.out) | exact HB.out)⟩
     ·replace c176 := Bool.eq_false_iff.mpr c176
      subst c176
      have H1 : ((tickingref07_Correct.f kj147 t276 t279 t282 t286).bind fun bt304 => ((tickingref07_Correct.f kj147 t276 t279 t282 t291).bind fun bt307 => (if bt304.2.2 = true then (if bt307.2.2 = true then (if bt304.1 = t302 then (if bt307.2.1 = t303 then ((tickinglaw07_awake.f kj147).bind fun t310 => (some t310)) else (some false)) else (some false)) else (some false)) else (some false)))) = some r := by rw [if_neg (show ¬ (false = true) by decide)] at H; exact H
      clear H
      have H := H1
      clear H1
      replace H := Option.bind_eq_some_iff.mp H
      obtain ⟨⟨t304, t305, t306⟩, A1770, H⟩ := H
      replace H : ((tickingref07_Correct.f kj147 t276 t279 t282 t291).bind fun bt307 => (if t306 = true then (if bt307.2.2 = true then (if t304 = t302 then (if bt307.2.1 = t303 then ((tickinglaw07_awake.f kj147).bind fun t310 => (some t310)) else (some false)) else (some false)) else (some false)) else (some false))) = some r := H
      have A177 := Aside0.mk A1770
      clear A1770
      replace H := Option.bind_eq_some_iff.mp H
      obtain ⟨⟨t307, t308, t309⟩, A1780, H⟩ := H
      replace H : (if t306 = true then (if t309 = true then (if t304 = t302 then (if t308 = t303 then ((tickinglaw07_awake.f kj147).bind fun t310 => (some t310)) else (some false)) else (some false)) else (some false)) else (some false)) = some r := H
      have A178 := Aside0.mk A1780
      clear A1780
      by_cases c179 : t306 = true
      ·subst c179
       have H1 : (if t309 = true then (if t304 = t302 then (if t308 = t303 then ((tickinglaw07_awake.f kj147).bind fun t310 => (some t310)) else (some false)) else (some false)) else (some false)) = some r := by rw [if_pos rfl] at H; exact H
       clear H
       have H := H1
       clear H1
       by_cases c180 : t309 = true
       ·subst c180
        have H1 : (if t304 = t302 then (if t308 = t303 then ((tickinglaw07_awake.f kj147).bind fun t310 => (some t310)) else (some false)) else (some false)) = some r := by rw [if_pos rfl] at H; exact H
        clear H
        have H := H1
        clear H1
        by_cases c181 : t304 = t302
        ·rw [if_pos c181] at H
         have c181b0 : (t304 == t302) = true := beq_iff_eq.mpr c181
         have c181b1 : (t304 != t302) = false := bne_eq_false_iff_eq.mpr c181
         clear c181
         by_cases c182 : t308 = t303
         ·rw [if_pos c182] at H
          have c182b0 : (t308 == t303) = true := beq_iff_eq.mpr c182
          have c182b1 : (t308 != t303) = false := bne_eq_false_iff_eq.mpr c182
          clear c182
          replace H := Option.bind_eq_some_iff.mp H
          obtain ⟨t310, A1830, H⟩ := H
          replace H : (some t310) = some r := H
          have A183 := Aside0.mk A1830
          clear A1830
          obtain rfl := Option.some.inj H
          have hnb184 := NB285_275.out
          have hnc184 := NB275_285.out
          have hcz185_0 : wc.cell? ⟨gb285, 0, none⟩ = some (.slice Ao20 t276.length co20) := (blk_cell BK285.out 0).trans rfl
          have hcz185_1 : wc.cell? ⟨gb285, 1, none⟩ = some (.slice Ao23 t279.length co23) := (blk_cell BK285.out 1).trans rfl
          have hcz185_2 : wc.cell? ⟨gb285, 2, none⟩ = some (.slice Ao24 t282.length co24) := (blk_cell BK285.out 2).trans rfl
          have hfz185_0 := blk_frozen BK285.out 0
          have hfz185_1 := blk_frozen BK285.out 1
          have hfz185_2 := blk_frozen BK285.out 2
          obtain ⟨Ao186, co186, eo186⟩ := Kd.R_slice HO_4.out
          subst eo186
          go_wp2_with (first | ((with_reducible refine gate_callee (f := 20) rfl ?_); refine goesL_ (some 127) rfl rfl Tryd.func20 (by kernel_rfl) rfl #[.agg #[.slice Ao20 t276.length co20, .slice Ao23 t279.length co23, .slice Ao24 t282.length co24], .slice Ao186 t286.length co186] rfl dz ?_; (with_reducible refine (tickingref07_Correct.calls kj147 _ _ t276 _ _ t279 _ _ t282 _ _ t286 t304 t305 true _ ?side1 ?side2 ?side3 ?side4 ?side5 ?side6 ?side7 ?side8 A177.out).mono ?_); (case side1 => exact cz ((Kd.R_reads' HO_286000.out).2.2)); (case side2 => exact (Kd.R_reads' HO_286000.out).2.1); (case side3 => exact cz ((Kd.S_reads' HO_286001.out).2.2)); (case side4 => exact (Kd.S_reads' HO_286001.out).2.1); (case side5 => exact cz ((Kd.R_reads' HO_286002.out).2.2)); (case side6 => exact (Kd.R_reads' HO_286002.out).2.1); (case side7 => exact cz ((Kd.R_reads' HO_4.out).2.2)); (case side8 => exact (Kd.R_reads' HO_4.out).2.1); rintro e w187 ⟨rfl, hb⟩; refine ⟨_, rfl, ?_⟩; have n0_ := Aside0.mk (Kd.R_below (rz HO_4.out) hb); have n1_ := Aside0.mk (Kd.R_below (rz HO_7.out) hb); have n2_ := Aside0.mk (Kd.R_below (rz HO_286000.out) hb); have n3_ := Aside0.mk (Kd.S_below (sz HO_286001.out) hb); have n4_ := Aside0.mk (Kd.R_below (rz HO_286002.out) hb); have n5_ := Aside0.mk (kb BK275.out hb); have n6_ := Aside0.mk (kb BK285.out hb); have n7_ := Aside0.mk (below_step bz hb); clear HO_4; clear HO_7; clear HO_286000; clear HO_286001; clear HO_286002; clear BK275; clear BK285; clear HB; have HO_4 := n0_; have HO_7 := n1_; have HO_286000 := n2_; have HO_286001 := n3_; have HO_286002 := n4_; have BK275 := n5_; have BK285 := n6_; have HB := n7_; clear n0_ n1_ n2_ n3_ n4_ n5_ n6_ n7_; (try clear hb); (try clear hb2); (try clear hk); (try clear hi); have hcz188_0 : w187.cell? ⟨gb285, 0, none⟩ = some (.slice Ao20 t276.length co20) := (blk_cell BK285.out 0).trans rfl; have hcz188_1 : w187.cell? ⟨gb285, 1, none⟩ = some (.slice Ao23 t279.length co23) := (blk_cell BK285.out 1).trans rfl; have hcz188_2 : w187.cell? ⟨gb285, 2, none⟩ = some (.slice Ao24 t282.length co24) := (blk_cell BK285.out 2).trans rfl; have hfz188_0 := blk_frozen BK285.out 0; have hfz188_1 := blk_frozen BK285.out 1; have hfz188_2 := blk_frozen BK285.out 2; obtain ⟨Ao189, co189, eo189⟩ := Kd.R_slice HO_7.out; subst eo189) | ((with_reducible refine gate_callee (f := 20) rfl ?_); refine goesL_ (some 134) rfl rfl Tryd.func20 (by kernel_rfl) rfl #[.agg #[.slice Ao20 t276.length co20, .slice Ao23 t279.length co23, .slice Ao24 t282.length co24], .slice Ao189 t291.length co189] rfl dz ?_; (with_reducible refine (tickingref07_Correct.calls kj147 _ _ t276 _ _ t279 _ _ t282 _ _ t291 t307 t308 true _ ?side1 ?side2 ?side3 ?side4 ?side5 ?side6 ?side7 ?side8 A178.out).mono ?_); (case side1 => exact cz ((Kd.R_reads' HO_286000.out).2.2)); (case side2 => exact (Kd.R_reads' HO_286000.out).2.1); (case side3 => exact cz ((Kd.S_reads' HO_286001.out).2.2)); (case side4 => exact (Kd.S_reads' HO_286001.out).2.1); (case side5 => exact cz ((Kd.R_reads' HO_286002.out).2.2)); (case side6 => exact (Kd.R_reads' HO_286002.out).2.1); (case side7 => exact cz ((Kd.R_reads' HO_7.out).2.2)); (case side8 => exact (Kd.R_reads' HO_7.out).2.1); rintro e w190 ⟨rfl, hb⟩; refine ⟨_, rfl, ?_⟩; have n0_ := Aside0.mk (Kd.R_below (rz HO_4.out) hb); have n1_ := Aside0.mk (Kd.R_below (rz HO_7.out) hb); have n2_ := Aside0.mk (Kd.R_below (rz HO_286000.out) hb); have n3_ := Aside0.mk (Kd.S_below (sz HO_286001.out) hb); have n4_ := Aside0.mk (Kd.R_below (rz HO_286002.out) hb); have n5_ := Aside0.mk (kb BK275.out hb); have n6_ := Aside0.mk (kb BK285.out hb); have n7_ := Aside0.mk (below_step bz hb); clear HO_4; clear HO_7; clear HO_286000; clear HO_286001; clear HO_286002; clear BK275; clear BK285; clear HB; have HO_4 := n0_; have HO_7 := n1_; have HO_286000 := n2_; have HO_286001 := n3_; have HO_286002 := n4_; have BK275 := n5_; have BK285 := n6_; have HB := n7_; clear n0_ n1_ n2_ n3_ n4_ n5_ n6_ n7_; (try clear hb); (try clear hb2); (try clear hk); (try clear hi)) | (go_at_call 17; (with_reducible refine (tickinglaw07_awake.calls kj147  t310 _ A183.out ?sideT).mono ?_); (case sideT => exact HTab.out.below bz); rintro e w191 ⟨rfl, hb⟩; have n0_ := Aside0.mk (Kd.R_below (rz HO_4.out) hb); have n1_ := Aside0.mk (Kd.R_below (rz HO_7.out) hb); have n2_ := Aside0.mk (Kd.R_below (rz HO_286000.out) hb); have n3_ := Aside0.mk (Kd.S_below (sz HO_286001.out) hb); have n4_ := Aside0.mk (Kd.R_below (rz HO_286002.out) hb); have n5_ := Aside0.mk (kb BK275.out hb); have n6_ := Aside0.mk (kb BK285.out hb); have n7_ := Aside0.mk (below_step bz hb); clear HO_4; clear HO_7; clear HO_286000; clear HO_286001; clear HO_286002; clear BK275; clear BK285; clear HB; have HO_4 := n0_; have HO_7 := n1_; have HO_286000 := n2_; have HO_286001 := n3_; have HO_286002 := n4_; have BK275 := n5_; have BK285 := n6_; have HB := n7_; clear n0_ n1_ n2_ n3_ n4_ n5_ n6_ n7_; (try clear hb); (try clear hb2); (try clear hk); (try clear hi)))
          go_ret
          exact ⟨by first | rfl | (simp [errW_none, errW_some] <;> rfl) | (simp [*, errW_none, errW_some] <;> rfl), by repeat (first | (with_reducible first | exact HB.out | apply below_alloc | apply pw_below_drewN | apply below_drew1 | refine below_set ?_ GE275.out | refine below_set ?_ GE285.out) | exact HB.out)⟩
         ·rw [if_neg c182] at H
          have c182b0 : (t308 == t303) = false := beq_eq_false_iff_ne.mpr c182
          have c182b1 : (t308 != t303) = true := bne_iff_ne.mpr c182
          obtain rfl := Option.some.inj H
          have hnb192 := NB285_275.out
          have hnc192 := NB275_285.out
          have hcz193_0 : wc.cell? ⟨gb285, 0, none⟩ = some (.slice Ao20 t276.length co20) := (blk_cell BK285.out 0).trans rfl
          have hcz193_1 : wc.cell? ⟨gb285, 1, none⟩ = some (.slice Ao23 t279.length co23) := (blk_cell BK285.out 1).trans rfl
          have hcz193_2 : wc.cell? ⟨gb285, 2, none⟩ = some (.slice Ao24 t282.length co24) := (blk_cell BK285.out 2).trans rfl
          have hfz193_0 := blk_frozen BK285.out 0
          have hfz193_1 := blk_frozen BK285.out 1
          have hfz193_2 := blk_frozen BK285.out 2
          obtain ⟨Ao194, co194, eo194⟩ := Kd.R_slice HO_4.out
          subst eo194
          go_wp2_with (first | ((with_reducible refine gate_callee (f := 20) rfl ?_); refine goesL_ (some 127) rfl rfl Tryd.func20 (by kernel_rfl) rfl #[.agg #[.slice Ao20 t276.length co20, .slice Ao23 t279.length co23, .slice Ao24 t282.length co24], .slice Ao194 t286.length co194] rfl dz ?_; (with_reducible refine (tickingref07_Correct.calls kj147 _ _ t276 _ _ t279 _ _ t282 _ _ t286 t304 t305 true _ ?side1 ?side2 ?side3 ?side4 ?side5 ?side6 ?side7 ?side8 A177.out).mono ?_); (case side1 => exact cz ((Kd.R_reads' HO_286000.out).2.2)); (case side2 => exact (Kd.R_reads' HO_286000.out).2.1); (case side3 => exact cz ((Kd.S_reads' HO_286001.out).2.2)); (case side4 => exact (Kd.S_reads' HO_286001.out).2.1); (case side5 => exact cz ((Kd.R_reads' HO_286002.out).2.2)); (case side6 => exact (Kd.R_reads' HO_286002.out).2.1); (case side7 => exact cz ((Kd.R_reads' HO_4.out).2.2)); (case side8 => exact (Kd.R_reads' HO_4.out).2.1); rintro e w195 ⟨rfl, hb⟩; refine ⟨_, rfl, ?_⟩; have n0_ := Aside0.mk (Kd.R_below (rz HO_4.out) hb); have n1_ := Aside0.mk (Kd.R_below (rz HO_7.out) hb); have n2_ := Aside0.mk (Kd.R_below (rz HO_286000.out) hb); have n3_ := Aside0.mk (Kd.S_below (sz HO_286001.out) hb); have n4_ := Aside0.mk (Kd.R_below (rz HO_286002.out) hb); have n5_ := Aside0.mk (kb BK275.out hb); have n6_ := Aside0.mk (kb BK285.out hb); have n7_ := Aside0.mk (below_step bz hb); clear HO_4; clear HO_7; clear HO_286000; clear HO_286001; clear HO_286002; clear BK275; clear BK285; clear HB; have HO_4 := n0_; have HO_7 := n1_; have HO_286000 := n2_; have HO_286001 := n3_; have HO_286002 := n4_; have BK275 := n5_; have BK285 := n6_; have HB := n7_; clear n0_ n1_ n2_ n3_ n4_ n5_ n6_ n7_; (try clear hb); (try clear hb2); (try clear hk); (try clear hi); have hcz196_0 : w195.cell? ⟨gb285, 0, none⟩ = some (.slice Ao20 t276.length co20) := (blk_cell BK285.out 0).trans rfl; have hcz196_1 : w195.cell? ⟨gb285, 1, none⟩ = some (.slice Ao23 t279.length co23) := (blk_cell BK285.out 1).trans rfl; have hcz196_2 : w195.cell? ⟨gb285, 2, none⟩ = some (.slice Ao24 t282.length co24) := (blk_cell BK285.out 2).trans rfl; have hfz196_0 := blk_frozen BK285.out 0; have hfz196_1 := blk_frozen BK285.out 1; have hfz196_2 := blk_frozen BK285.out 2; obtain ⟨Ao197, co197, eo197⟩ := Kd.R_slice HO_7.out; subst eo197) | ((with_reducible refine gate_callee (f := 20) rfl ?_); refine goesL_ (some 134) rfl rfl Tryd.func20 (by kernel_rfl) rfl #[.agg #[.slice Ao20 t276.length co20, .slice Ao23 t279.length co23, .slice Ao24 t282.length co24], .slice Ao197 t291.length co197] rfl dz ?_; (with_reducible refine (tickingref07_Correct.calls kj147 _ _ t276 _ _ t279 _ _ t282 _ _ t291 t307 t308 true _ ?side1 ?side2 ?side3 ?side4 ?side5 ?side6 ?side7 ?side8 A178.out).mono ?_); (case side1 => exact cz ((Kd.R_reads' HO_286000.out).2.2)); (case side2 => exact (Kd.R_reads' HO_286000.out).2.1); (case side3 => exact cz ((Kd.S_reads' HO_286001.out).2.2)); (case side4 => exact (Kd.S_reads' HO_286001.out).2.1); (case side5 => exact cz ((Kd.R_reads' HO_286002.out).2.2)); (case side6 => exact (Kd.R_reads' HO_286002.out).2.1); (case side7 => exact cz ((Kd.R_reads' HO_7.out).2.2)); (case side8 => exact (Kd.R_reads' HO_7.out).2.1); rintro e w198 ⟨rfl, hb⟩; refine ⟨_, rfl, ?_⟩; have n0_ := Aside0.mk (Kd.R_below (rz HO_4.out) hb); have n1_ := Aside0.mk (Kd.R_below (rz HO_7.out) hb); have n2_ := Aside0.mk (Kd.R_below (rz HO_286000.out) hb); have n3_ := Aside0.mk (Kd.S_below (sz HO_286001.out) hb); have n4_ := Aside0.mk (Kd.R_below (rz HO_286002.out) hb); have n5_ := Aside0.mk (kb BK275.out hb); have n6_ := Aside0.mk (kb BK285.out hb); have n7_ := Aside0.mk (below_step bz hb); clear HO_4; clear HO_7; clear HO_286000; clear HO_286001; clear HO_286002; clear BK275; clear BK285; clear HB; have HO_4 := n0_; have HO_7 := n1_; have HO_286000 := n2_; have HO_286001 := n3_; have HO_286002 := n4_; have BK275 := n5_; have BK285 := n6_; have HB := n7_; clear n0_ n1_ n2_ n3_ n4_ n5_ n6_ n7_; (try clear hb); (try clear hb2); (try clear hk); (try clear hi)))
          go_ret
          exact ⟨by first | rfl | (simp [errW_none, errW_some] <;> rfl) | (simp [*, errW_none, errW_some] <;> rfl), by repeat (first | (with_reducible first | exact HB.out | apply below_alloc | apply pw_below_drewN | apply below_drew1 | refine below_set ?_ GE275.out | refine below_set ?_ GE285.out) | exact HB.out)⟩
        ·rw [if_neg c181] at H
         have c181b0 : (t304 == t302) = false := beq_eq_false_iff_ne.mpr c181
         have c181b1 : (t304 != t302) = true := bne_iff_ne.mpr c181
         obtain rfl := Option.some.inj H
         have hnb199 := NB285_275.out
         have hnc199 := NB275_285.out
         have hcz200_0 : wc.cell? ⟨gb285, 0, none⟩ = some (.slice Ao20 t276.length co20) := (blk_cell BK285.out 0).trans rfl
         have hcz200_1 : wc.cell? ⟨gb285, 1, none⟩ = some (.slice Ao23 t279.length co23) := (blk_cell BK285.out 1).trans rfl
         have hcz200_2 : wc.cell? ⟨gb285, 2, none⟩ = some (.slice Ao24 t282.length co24) := (blk_cell BK285.out 2).trans rfl
         have hfz200_0 := blk_frozen BK285.out 0
         have hfz200_1 := blk_frozen BK285.out 1
         have hfz200_2 := blk_frozen BK285.out 2
         obtain ⟨Ao201, co201, eo201⟩ := Kd.R_slice HO_4.out
         subst eo201
         go_wp2_with (first | ((with_reducible refine gate_callee (f := 20) rfl ?_); refine goesL_ (some 127) rfl rfl Tryd.func20 (by kernel_rfl) rfl #[.agg #[.slice Ao20 t276.length co20, .slice Ao23 t279.length co23, .slice Ao24 t282.length co24], .slice Ao201 t286.length co201] rfl dz ?_; (with_reducible refine (tickingref07_Correct.calls kj147 _ _ t276 _ _ t279 _ _ t282 _ _ t286 t304 t305 true _ ?side1 ?side2 ?side3 ?side4 ?side5 ?side6 ?side7 ?side8 A177.out).mono ?_); (case side1 => exact cz ((Kd.R_reads' HO_286000.out).2.2)); (case side2 => exact (Kd.R_reads' HO_286000.out).2.1); (case side3 => exact cz ((Kd.S_reads' HO_286001.out).2.2)); (case side4 => exact (Kd.S_reads' HO_286001.out).2.1); (case side5 => exact cz ((Kd.R_reads' HO_286002.out).2.2)); (case side6 => exact (Kd.R_reads' HO_286002.out).2.1); (case side7 => exact cz ((Kd.R_reads' HO_4.out).2.2)); (case side8 => exact (Kd.R_reads' HO_4.out).2.1); rintro e w202 ⟨rfl, hb⟩; refine ⟨_, rfl, ?_⟩; have n0_ := Aside0.mk (Kd.R_below (rz HO_4.out) hb); have n1_ := Aside0.mk (Kd.R_below (rz HO_7.out) hb); have n2_ := Aside0.mk (Kd.R_below (rz HO_286000.out) hb); have n3_ := Aside0.mk (Kd.S_below (sz HO_286001.out) hb); have n4_ := Aside0.mk (Kd.R_below (rz HO_286002.out) hb); have n5_ := Aside0.mk (kb BK275.out hb); have n6_ := Aside0.mk (kb BK285.out hb); have n7_ := Aside0.mk (below_step bz hb); clear HO_4; clear HO_7; clear HO_286000; clear HO_286001; clear HO_286002; clear BK275; clear BK285; clear HB; have HO_4 := n0_; have HO_7 := n1_; have HO_286000 := n2_; have HO_286001 := n3_; have HO_286002 := n4_; have BK275 := n5_; have BK285 := n6_; have HB := n7_; clear n0_ n1_ n2_ n3_ n4_ n5_ n6_ n7_; (try clear hb); (try clear hb2); (try clear hk); (try clear hi); have hcz203_0 : w202.cell? ⟨gb285, 0, none⟩ = some (.slice Ao20 t276.length co20) := (blk_cell BK285.out 0).trans rfl; have hcz203_1 : w202.cell? ⟨gb285, 1, none⟩ = some (.slice Ao23 t279.length co23) := (blk_cell BK285.out 1).trans rfl; have hcz203_2 : w202.cell? ⟨gb285, 2, none⟩ = some (.slice Ao24 t282.length co24) := (blk_cell BK285.out 2).trans rfl; have hfz203_0 := blk_frozen BK285.out 0; have hfz203_1 := blk_frozen BK285.out 1; have hfz203_2 := blk_frozen BK285.out 2; obtain ⟨Ao204, co204, eo204⟩ := Kd.R_slice HO_7.out; subst eo204) | ((with_reducible refine gate_callee (f := 20) rfl ?_); refine goesL_ (some 134) rfl rfl Tryd.func20 (by kernel_rfl) rfl #[.agg #[.slice Ao20 t276.length co20, .slice Ao23 t279.length co23, .slice Ao24 t282.length co24], .slice Ao204 t291.length co204] rfl dz ?_; (with_reducible refine (tickingref07_Correct.calls kj147 _ _ t276 _ _ t279 _ _ t282 _ _ t291 t307 t308 true _ ?side1 ?side2 ?side3 ?side4 ?side5 ?side6 ?side7 ?side8 A178.out).mono ?_); (case side1 => exact cz ((Kd.R_reads' HO_286000.out).2.2)); (case side2 => exact (Kd.R_reads' HO_286000.out).2.1); (case side3 => exact cz ((Kd.S_reads' HO_286001.out).2.2)); (case side4 => exact (Kd.S_reads' HO_286001.out).2.1); (case side5 => exact cz ((Kd.R_reads' HO_286002.out).2.2)); (case side6 => exact (Kd.R_reads' HO_286002.out).2.1); (case side7 => exact cz ((Kd.R_reads' HO_7.out).2.2)); (case side8 => exact (Kd.R_reads' HO_7.out).2.1); rintro e w205 ⟨rfl, hb⟩; refine ⟨_, rfl, ?_⟩; have n0_ := Aside0.mk (Kd.R_below (rz HO_4.out) hb); have n1_ := Aside0.mk (Kd.R_below (rz HO_7.out) hb); have n2_ := Aside0.mk (Kd.R_below (rz HO_286000.out) hb); have n3_ := Aside0.mk (Kd.S_below (sz HO_286001.out) hb); have n4_ := Aside0.mk (Kd.R_below (rz HO_286002.out) hb); have n5_ := Aside0.mk (kb BK275.out hb); have n6_ := Aside0.mk (kb BK285.out hb); have n7_ := Aside0.mk (below_step bz hb); clear HO_4; clear HO_7; clear HO_286000; clear HO_286001; clear HO_286002; clear BK275; clear BK285; clear HB; have HO_4 := n0_; have HO_7 := n1_; have HO_286000 := n2_; have HO_286001 := n3_; have HO_286002 := n4_; have BK275 := n5_; have BK285 := n6_; have HB := n7_; clear n0_ n1_ n2_ n3_ n4_ n5_ n6_ n7_; (try clear hb); (try clear hb2); (try clear hk); (try clear hi)))
         go_ret
         exact ⟨by first | rfl | (simp [errW_none, errW_some] <;> rfl) | (simp [*, errW_none, errW_some] <;> rfl), by repeat (first | (with_reducible first | exact HB.out | apply below_alloc | apply pw_below_drewN | apply below_drew1 | refine below_set ?_ GE275.out | refine below_set ?_ GE285.out) | exact HB.out)⟩
       ·replace c180 := Bool.eq_false_iff.mpr c180
        subst c180
        have H1 : (some false) = some r := by rw [if_neg (show ¬ (false = true) by decide)] at H; exact H
        clear H
        have H := H1
        clear H1
        obtain rfl := Option.some.inj H
        have hnb206 := NB285_275.out
        have hnc206 := NB275_285.out
        have hcz207_0 : wc.cell? ⟨gb285, 0, none⟩ = some (.slice Ao20 t276.length co20) := (blk_cell BK285.out 0).trans rfl
        have hcz207_1 : wc.cell? ⟨gb285, 1, none⟩ = some (.slice Ao23 t279.length co23) := (blk_cell BK285.out 1).trans rfl
        have hcz207_2 : wc.cell? ⟨gb285, 2, none⟩ = some (.slice Ao24 t282.length co24) := (blk_cell BK285.out 2).trans rfl
        have hfz207_0 := blk_frozen BK285.out 0
        have hfz207_1 := blk_frozen BK285.out 1
        have hfz207_2 := blk_frozen BK285.out 2
        obtain ⟨Ao208, co208, eo208⟩ := Kd.R_slice HO_4.out
        subst eo208
        go_wp2_with (first | ((with_reducible refine gate_callee (f := 20) rfl ?_); refine goesL_ (some 127) rfl rfl Tryd.func20 (by kernel_rfl) rfl #[.agg #[.slice Ao20 t276.length co20, .slice Ao23 t279.length co23, .slice Ao24 t282.length co24], .slice Ao208 t286.length co208] rfl dz ?_; (with_reducible refine (tickingref07_Correct.calls kj147 _ _ t276 _ _ t279 _ _ t282 _ _ t286 t304 t305 true _ ?side1 ?side2 ?side3 ?side4 ?side5 ?side6 ?side7 ?side8 A177.out).mono ?_); (case side1 => exact cz ((Kd.R_reads' HO_286000.out).2.2)); (case side2 => exact (Kd.R_reads' HO_286000.out).2.1); (case side3 => exact cz ((Kd.S_reads' HO_286001.out).2.2)); (case side4 => exact (Kd.S_reads' HO_286001.out).2.1); (case side5 => exact cz ((Kd.R_reads' HO_286002.out).2.2)); (case side6 => exact (Kd.R_reads' HO_286002.out).2.1); (case side7 => exact cz ((Kd.R_reads' HO_4.out).2.2)); (case side8 => exact (Kd.R_reads' HO_4.out).2.1); rintro e w209 ⟨rfl, hb⟩; refine ⟨_, rfl, ?_⟩; have n0_ := Aside0.mk (Kd.R_below (rz HO_4.out) hb); have n1_ := Aside0.mk (Kd.R_below (rz HO_7.out) hb); have n2_ := Aside0.mk (Kd.R_below (rz HO_286000.out) hb); have n3_ := Aside0.mk (Kd.S_below (sz HO_286001.out) hb); have n4_ := Aside0.mk (Kd.R_below (rz HO_286002.out) hb); have n5_ := Aside0.mk (kb BK275.out hb); have n6_ := Aside0.mk (kb BK285.out hb); have n7_ := Aside0.mk (below_step bz hb); clear HO_4; clear HO_7; clear HO_286000; clear HO_286001; clear HO_286002; clear BK275; clear BK285; clear HB; have HO_4 := n0_; have HO_7 := n1_; have HO_286000 := n2_; have HO_286001 := n3_; have HO_286002 := n4_; have BK275 := n5_; have BK285 := n6_; have HB := n7_; clear n0_ n1_ n2_ n3_ n4_ n5_ n6_ n7_; (try clear hb); (try clear hb2); (try clear hk); (try clear hi); have hcz210_0 : w209.cell? ⟨gb285, 0, none⟩ = some (.slice Ao20 t276.length co20) := (blk_cell BK285.out 0).trans rfl; have hcz210_1 : w209.cell? ⟨gb285, 1, none⟩ = some (.slice Ao23 t279.length co23) := (blk_cell BK285.out 1).trans rfl; have hcz210_2 : w209.cell? ⟨gb285, 2, none⟩ = some (.slice Ao24 t282.length co24) := (blk_cell BK285.out 2).trans rfl; have hfz210_0 := blk_frozen BK285.out 0; have hfz210_1 := blk_frozen BK285.out 1; have hfz210_2 := blk_frozen BK285.out 2; obtain ⟨Ao211, co211, eo211⟩ := Kd.R_slice HO_7.out; subst eo211) | ((with_reducible refine gate_callee (f := 20) rfl ?_); refine goesL_ (some 134) rfl rfl Tryd.func20 (by kernel_rfl) rfl #[.agg #[.slice Ao20 t276.length co20, .slice Ao23 t279.length co23, .slice Ao24 t282.length co24], .slice Ao211 t291.length co211] rfl dz ?_; (with_reducible refine (tickingref07_Correct.calls kj147 _ _ t276 _ _ t279 _ _ t282 _ _ t291 t307 t308 false _ ?side1 ?side2 ?side3 ?side4 ?side5 ?side6 ?side7 ?side8 A178.out).mono ?_); (case side1 => exact cz ((Kd.R_reads' HO_286000.out).2.2)); (case side2 => exact (Kd.R_reads' HO_286000.out).2.1); (case side3 => exact cz ((Kd.S_reads' HO_286001.out).2.2)); (case side4 => exact (Kd.S_reads' HO_286001.out).2.1); (case side5 => exact cz ((Kd.R_reads' HO_286002.out).2.2)); (case side6 => exact (Kd.R_reads' HO_286002.out).2.1); (case side7 => exact cz ((Kd.R_reads' HO_7.out).2.2)); (case side8 => exact (Kd.R_reads' HO_7.out).2.1); rintro e w212 ⟨rfl, hb⟩; refine ⟨_, rfl, ?_⟩; have n0_ := Aside0.mk (Kd.R_below (rz HO_4.out) hb); have n1_ := Aside0.mk (Kd.R_below (rz HO_7.out) hb); have n2_ := Aside0.mk (Kd.R_below (rz HO_286000.out) hb); have n3_ := Aside0.mk (Kd.S_below (sz HO_286001.out) hb); have n4_ := Aside0.mk (Kd.R_below (rz HO_286002.out) hb); have n5_ := Aside0.mk (kb BK275.out hb); have n6_ := Aside0.mk (kb BK285.out hb); have n7_ := Aside0.mk (below_step bz hb); clear HO_4; clear HO_7; clear HO_286000; clear HO_286001; clear HO_286002; clear BK275; clear BK285; clear HB; have HO_4 := n0_; have HO_7 := n1_; have HO_286000 := n2_; have HO_286001 := n3_; have HO_286002 := n4_; have BK275 := n5_; have BK285 := n6_; have HB := n7_; clear n0_ n1_ n2_ n3_ n4_ n5_ n6_ n7_; (try clear hb); (try clear hb2); (try clear hk); (try clear hi)))
        go_ret
        exact ⟨by first | rfl | (simp [errW_none, errW_some] <;> rfl) | (simp [*, errW_none, errW_some] <;> rfl), by repeat (first | (with_reducible first | exact HB.out | apply below_alloc | apply pw_below_drewN | apply below_drew1 | refine below_set ?_ GE275.out | refine below_set ?_ GE285.out) | exact HB.out)⟩
      ·replace c179 := Bool.eq_false_iff.mpr c179
       subst c179
       have H1 : (some false) = some r := by rw [if_neg (show ¬ (false = true) by decide)] at H; exact H
       clear H
       have H := H1
       clear H1
       obtain rfl := Option.some.inj H
       have hnb213 := NB285_275.out
       have hnc213 := NB275_285.out
       have hcz214_0 : wc.cell? ⟨gb285, 0, none⟩ = some (.slice Ao20 t276.length co20) := (blk_cell BK285.out 0).trans rfl
       have hcz214_1 : wc.cell? ⟨gb285, 1, none⟩ = some (.slice Ao23 t279.length co23) := (blk_cell BK285.out 1).trans rfl
       have hcz214_2 : wc.cell? ⟨gb285, 2, none⟩ = some (.slice Ao24 t282.length co24) := (blk_cell BK285.out 2).trans rfl
       have hfz214_0 := blk_frozen BK285.out 0
       have hfz214_1 := blk_frozen BK285.out 1
       have hfz214_2 := blk_frozen BK285.out 2
       obtain ⟨Ao215, co215, eo215⟩ := Kd.R_slice HO_4.out
       subst eo215
       go_wp2_with (first | ((with_reducible refine gate_callee (f := 20) rfl ?_); refine goesL_ (some 127) rfl rfl Tryd.func20 (by kernel_rfl) rfl #[.agg #[.slice Ao20 t276.length co20, .slice Ao23 t279.length co23, .slice Ao24 t282.length co24], .slice Ao215 t286.length co215] rfl dz ?_; (with_reducible refine (tickingref07_Correct.calls kj147 _ _ t276 _ _ t279 _ _ t282 _ _ t286 t304 t305 false _ ?side1 ?side2 ?side3 ?side4 ?side5 ?side6 ?side7 ?side8 A177.out).mono ?_); (case side1 => exact cz ((Kd.R_reads' HO_286000.out).2.2)); (case side2 => exact (Kd.R_reads' HO_286000.out).2.1); (case side3 => exact cz ((Kd.S_reads' HO_286001.out).2.2)); (case side4 => exact (Kd.S_reads' HO_286001.out).2.1); (case side5 => exact cz ((Kd.R_reads' HO_286002.out).2.2)); (case side6 => exact (Kd.R_reads' HO_286002.out).2.1); (case side7 => exact cz ((Kd.R_reads' HO_4.out).2.2)); (case side8 => exact (Kd.R_reads' HO_4.out).2.1); rintro e w216 ⟨rfl, hb⟩; refine ⟨_, rfl, ?_⟩; have n0_ := Aside0.mk (Kd.R_below (rz HO_4.out) hb); have n1_ := Aside0.mk (Kd.R_below (rz HO_7.out) hb); have n2_ := Aside0.mk (Kd.R_below (rz HO_286000.out) hb); have n3_ := Aside0.mk (Kd.S_below (sz HO_286001.out) hb); have n4_ := Aside0.mk (Kd.R_below (rz HO_286002.out) hb); have n5_ := Aside0.mk (kb BK275.out hb); have n6_ := Aside0.mk (kb BK285.out hb); have n7_ := Aside0.mk (below_step bz hb); clear HO_4; clear HO_7; clear HO_286000; clear HO_286001; clear HO_286002; clear BK275; clear BK285; clear HB; have HO_4 := n0_; have HO_7 := n1_; have HO_286000 := n2_; have HO_286001 := n3_; have HO_286002 := n4_; have BK275 := n5_; have BK285 := n6_; have HB := n7_; clear n0_ n1_ n2_ n3_ n4_ n5_ n6_ n7_; (try clear hb); (try clear hb2); (try clear hk); (try clear hi); have hcz217_0 : w216.cell? ⟨gb285, 0, none⟩ = some (.slice Ao20 t276.length co20) := (blk_cell BK285.out 0).trans rfl; have hcz217_1 : w216.cell? ⟨gb285, 1, none⟩ = some (.slice Ao23 t279.length co23) := (blk_cell BK285.out 1).trans rfl; have hcz217_2 : w216.cell? ⟨gb285, 2, none⟩ = some (.slice Ao24 t282.length co24) := (blk_cell BK285.out 2).trans rfl; have hfz217_0 := blk_frozen BK285.out 0; have hfz217_1 := blk_frozen BK285.out 1; have hfz217_2 := blk_frozen BK285.out 2; obtain ⟨Ao218, co218, eo218⟩ := Kd.R_slice HO_7.out; subst eo218) | ((with_reducible refine gate_callee (f := 20) rfl ?_); refine goesL_ (some 134) rfl rfl Tryd.func20 (by kernel_rfl) rfl #[.agg #[.slice Ao20 t276.length co20, .slice Ao23 t279.length co23, .slice Ao24 t282.length co24], .slice Ao218 t291.length co218] rfl dz ?_; (with_reducible refine (tickingref07_Correct.calls kj147 _ _ t276 _ _ t279 _ _ t282 _ _ t291 t307 t308 t309 _ ?side1 ?side2 ?side3 ?side4 ?side5 ?side6 ?side7 ?side8 A178.out).mono ?_); (case side1 => exact cz ((Kd.R_reads' HO_286000.out).2.2)); (case side2 => exact (Kd.R_reads' HO_286000.out).2.1); (case side3 => exact cz ((Kd.S_reads' HO_286001.out).2.2)); (case side4 => exact (Kd.S_reads' HO_286001.out).2.1); (case side5 => exact cz ((Kd.R_reads' HO_286002.out).2.2)); (case side6 => exact (Kd.R_reads' HO_286002.out).2.1); (case side7 => exact cz ((Kd.R_reads' HO_7.out).2.2)); (case side8 => exact (Kd.R_reads' HO_7.out).2.1); rintro e w219 ⟨rfl, hb⟩; refine ⟨_, rfl, ?_⟩; have n0_ := Aside0.mk (Kd.R_below (rz HO_4.out) hb); have n1_ := Aside0.mk (Kd.R_below (rz HO_7.out) hb); have n2_ := Aside0.mk (Kd.R_below (rz HO_286000.out) hb); have n3_ := Aside0.mk (Kd.S_below (sz HO_286001.out) hb); have n4_ := Aside0.mk (Kd.R_below (rz HO_286002.out) hb); have n5_ := Aside0.mk (kb BK275.out hb); have n6_ := Aside0.mk (kb BK285.out hb); have n7_ := Aside0.mk (below_step bz hb); clear HO_4; clear HO_7; clear HO_286000; clear HO_286001; clear HO_286002; clear BK275; clear BK285; clear HB; have HO_4 := n0_; have HO_7 := n1_; have HO_286000 := n2_; have HO_286001 := n3_; have HO_286002 := n4_; have BK275 := n5_; have BK285 := n6_; have HB := n7_; clear n0_ n1_ n2_ n3_ n4_ n5_ n6_ n7_; (try clear hb); (try clear hb2); (try clear hk); (try clear hi)))
       go_ret
       exact ⟨by first | rfl | (simp [errW_none, errW_some] <;> rfl) | (simp [*, errW_none, errW_some] <;> rfl), by repeat (first | (with_reducible first | exact HB.out | apply below_alloc | apply pw_below_drewN | apply below_drew1 | refine below_set ?_ GE275.out | refine below_set ?_ GE285.out) | exact HB.out)⟩
 ·replace c6 := Bool.eq_false_iff.mpr c6
  subst c6
  have H1 : (if (t286.length : Int) = 0 then (if t289 = 0 then (if t290 = 2 then (if (t291.length : Int) = 0 then (if t294 = 0 then (if t295 = 2 then ((tickinglaw07_awake.f k).bind fun t297 => (some t297)) else (some false)) else (some false)) else (some false)) else (some false)) else (some false)) else (some false)) = some r := by rw [if_neg (show ¬ (false = true) by decide)] at H; exact H
  clear H
  have H := H1
  clear H1
  by_cases c220 : (t286.length : Int) = 0
  ·rw [if_pos c220] at H
   have c220b0 : ((t286.length : Int) == 0) = true := beq_iff_eq.mpr c220
   have c220b1 : ((t286.length : Int) != 0) = false := bne_eq_false_iff_eq.mpr c220
   clear c220
   by_cases c221 : t289 = 0
   ·rw [if_pos c221] at H
    have c221b0 : (t289 == 0) = true := beq_iff_eq.mpr c221
    have c221b1 : (t289 != 0) = false := bne_eq_false_iff_eq.mpr c221
    clear c221
    by_cases c222 : t290 = 2
    ·rw [if_pos c222] at H
     have c222b0 : (t290 == 2) = true := beq_iff_eq.mpr c222
     have c222b1 : (t290 != 2) = false := bne_eq_false_iff_eq.mpr c222
     clear c222
     go_wp2_with (first | ((with_reducible refine gate_callee (f := 16) rfl ?_); refine goesL_ (some 33) rfl rfl Tryd.func16 (by kernel_rfl) rfl #[.agg #[.slice Ao20 t276.length co20, .slice Ao23 t279.length co23, .slice Ao24 t282.length co24]] rfl dz ?_; (with_reducible refine (tickingref07_Case.calls k _ _ t276 _ _ t279 _ _ t282 false _ ?side1 ?side2 ?side3 ?side4 ?side5 ?side6 A5.out).mono ?_); (case side1 => exact cz ((Kd.R_reads' HO278.out).2.2)); (case side2 => exact (Kd.R_reads' HO278.out).2.1); (case side3 => exact cz ((Kd.S_reads' HO281.out).2.2)); (case side4 => exact (Kd.S_reads' HO281.out).2.1); (case side5 => exact cz ((Kd.R_reads' HO284.out).2.2)); (case side6 => exact (Kd.R_reads' HO284.out).2.1); rintro e w240 ⟨rfl, hb⟩; refine ⟨_, rfl, ?_⟩; have n0_ := Aside0.mk (Kd.R_below (rz HO278.out) hb); have n1_ := Aside0.mk (Kd.S_below (sz HO281.out) hb); have n2_ := Aside0.mk (Kd.R_below (rz HO284.out) hb); have n3_ := Aside0.mk (Kd.R_below (rz HO288.out) hb); have n4_ := Aside0.mk (Kd.R_below (rz HO293.out) hb); have n5_ := Aside0.mk (kb BK275.out hb); have n6_ := Aside0.mk (kb BK285.out hb); have n7_ := Aside0.mk (below_step bz hb); clear HO278; clear HO281; clear HO284; clear HO288; clear HO293; clear BK275; clear BK285; clear HB; have HO278 := n0_; have HO281 := n1_; have HO284 := n2_; have HO288 := n3_; have HO293 := n4_; have BK275 := n5_; have BK285 := n6_; have HB := n7_; clear n0_ n1_ n2_ n3_ n4_ n5_ n6_ n7_; (try clear hb); (try clear hb2); (try clear hk); (try clear hi); obtain ⟨Ao241, co241, eo241⟩ := Kd.R_slice HO288.out; subst eo241; obtain ⟨Ao242, co242, eo242⟩ := Kd.R_slice HO293.out; subst eo242; refine hold_ ?_; intro P_ hP_))
     refine hP_.out ?_
     clear hP_ P_
     by_cases c223 : (t291.length : Int) = 0
     ·rw [if_pos c223] at H
      have c223b0 : ((t291.length : Int) == 0) = true := beq_iff_eq.mpr c223
      have c223b1 : ((t291.length : Int) != 0) = false := bne_eq_false_iff_eq.mpr c223
      clear c223
      by_cases c224 : t294 = 0
      ·rw [if_pos c224] at H
       have c224b0 : (t294 == 0) = true := beq_iff_eq.mpr c224
       have c224b1 : (t294 != 0) = false := bne_eq_false_iff_eq.mpr c224
       clear c224
       by_cases c225 : t295 = 2
       ·rw [if_pos c225] at H
        have c225b0 : (t295 == 2) = true := beq_iff_eq.mpr c225
        have c225b1 : (t295 != 2) = false := bne_eq_false_iff_eq.mpr c225
        clear c225
        replace H := Option.bind_eq_some_iff.mp H
        obtain ⟨t297, A2260, H⟩ := H
        replace H : (some t297) = some r := H
        have A226 := Aside0.mk A2260
        clear A2260
        obtain rfl := Option.some.inj H
        go_wp2_with (first | (go_at_call 17; (with_reducible refine (tickinglaw07_awake.calls k  t297 _ A226.out ?sideT).mono ?_); (case sideT => exact HTab.out.below bz); rintro e w243 ⟨rfl, hb⟩; have n0_ := Aside0.mk (Kd.R_below (rz HO278.out) hb); have n1_ := Aside0.mk (Kd.S_below (sz HO281.out) hb); have n2_ := Aside0.mk (Kd.R_below (rz HO284.out) hb); have n3_ := Aside0.mk (Kd.R_below (rz HO288.out) hb); have n4_ := Aside0.mk (Kd.R_below (rz HO293.out) hb); have n5_ := Aside0.mk (kb BK275.out hb); have n6_ := Aside0.mk (kb BK285.out hb); have n7_ := Aside0.mk (below_step bz hb); clear HO278; clear HO281; clear HO284; clear HO288; clear HO293; clear BK275; clear BK285; clear HB; have HO278 := n0_; have HO281 := n1_; have HO284 := n2_; have HO288 := n3_; have HO293 := n4_; have BK275 := n5_; have BK285 := n6_; have HB := n7_; clear n0_ n1_ n2_ n3_ n4_ n5_ n6_ n7_; (try clear hb); (try clear hb2); (try clear hk); (try clear hi)))
        go_ret
        exact ⟨by first | rfl | (simp [errW_none, errW_some] <;> rfl) | (simp [*, errW_none, errW_some] <;> rfl), by repeat (first | (with_reducible first | exact HB.out | apply below_alloc | apply pw_below_drewN | apply below_drew1 | refine below_set ?_ GE275.out | refine below_set ?_ GE285.out) | exact HB.out)⟩
       ·rw [if_neg c225] at H
        have c225b0 : (t295 == 2) = false := beq_eq_false_iff_ne.mpr c225
        have c225b1 : (t295 != 2) = true := bne_iff_ne.mpr c225
        obtain rfl := Option.some.inj H
        go_wp2_with fail
        go_ret
        exact ⟨by first | rfl | (simp [errW_none, errW_some] <;> rfl) | (simp [*, errW_none, errW_some] <;> rfl), by repeat (first | (with_reducible first | exact HB.out | apply below_alloc | apply pw_below_drewN | apply below_drew1 | refine below_set ?_ GE275.out | refine below_set ?_ GE285.out) | exact HB.out)⟩
      ·rw [if_neg c224] at H
       have c224b0 : (t294 == 0) = false := beq_eq_false_iff_ne.mpr c224
       have c224b1 : (t294 != 0) = true := bne_iff_ne.mpr c224
       obtain rfl := Option.some.inj H
       go_wp2_with fail
       go_ret
       exact ⟨by first | rfl | (simp [errW_none, errW_some] <;> rfl) | (simp [*, errW_none, errW_some] <;> rfl), by repeat (first | (with_reducible first | exact HB.out | apply below_alloc | apply pw_below_drewN | apply below_drew1 | refine below_set ?_ GE275.out | refine below_set ?_ GE285.out) | exact HB.out)⟩
     ·rw [if_neg c223] at H
      have c223b0 : ((t291.length : Int) == 0) = false := beq_eq_false_iff_ne.mpr c223
      have c223b1 : ((t291.length : Int) != 0) = true := bne_iff_ne.mpr c223
      have c223b2 : ¬ (t291 = []) := fun h_ => c223 (by rw [h_]; rfl)
      obtain rfl := Option.some.inj H
      go_wp2_with fail
      go_ret
      exact ⟨by first | rfl | (simp [errW_none, errW_some] <;> rfl) | (simp [*, errW_none, errW_some] <;> rfl), by repeat (first | (with_reducible first | exact HB.out | apply below_alloc | apply pw_below_drewN | apply below_drew1 | refine below_set ?_ GE275.out | refine below_set ?_ GE285.out) | exact HB.out)⟩
    ·rw [if_neg c222] at H
     have c222b0 : (t290 == 2) = false := beq_eq_false_iff_ne.mpr c222
     have c222b1 : (t290 != 2) = true := bne_iff_ne.mpr c222
     obtain rfl := Option.some.inj H
     go_wp2_with (first | ((with_reducible refine gate_callee (f := 16) rfl ?_); refine goesL_ (some 33) rfl rfl Tryd.func16 (by kernel_rfl) rfl #[.agg #[.slice Ao20 t276.length co20, .slice Ao23 t279.length co23, .slice Ao24 t282.length co24]] rfl dz ?_; (with_reducible refine (tickingref07_Case.calls k _ _ t276 _ _ t279 _ _ t282 false _ ?side1 ?side2 ?side3 ?side4 ?side5 ?side6 A5.out).mono ?_); (case side1 => exact cz ((Kd.R_reads' HO278.out).2.2)); (case side2 => exact (Kd.R_reads' HO278.out).2.1); (case side3 => exact cz ((Kd.S_reads' HO281.out).2.2)); (case side4 => exact (Kd.S_reads' HO281.out).2.1); (case side5 => exact cz ((Kd.R_reads' HO284.out).2.2)); (case side6 => exact (Kd.R_reads' HO284.out).2.1); rintro e w305 ⟨rfl, hb⟩; refine ⟨_, rfl, ?_⟩; have n0_ := Aside0.mk (Kd.R_below (rz HO278.out) hb); have n1_ := Aside0.mk (Kd.S_below (sz HO281.out) hb); have n2_ := Aside0.mk (Kd.R_below (rz HO284.out) hb); have n3_ := Aside0.mk (Kd.R_below (rz HO288.out) hb); have n4_ := Aside0.mk (Kd.R_below (rz HO293.out) hb); have n5_ := Aside0.mk (kb BK275.out hb); have n6_ := Aside0.mk (kb BK285.out hb); have n7_ := Aside0.mk (below_step bz hb); clear HO278; clear HO281; clear HO284; clear HO288; clear HO293; clear BK275; clear BK285; clear HB; have HO278 := n0_; have HO281 := n1_; have HO284 := n2_; have HO288 := n3_; have HO293 := n4_; have BK275 := n5_; have BK285 := n6_; have HB := n7_; clear n0_ n1_ n2_ n3_ n4_ n5_ n6_ n7_; (try clear hb); (try clear hb2); (try clear hk); (try clear hi); obtain ⟨Ao306, co306, eo306⟩ := Kd.R_slice HO288.out; subst eo306))
     go_ret
     exact ⟨by first | rfl | (simp [errW_none, errW_some] <;> rfl) | (simp [*, errW_none, errW_some] <;> rfl), by repeat (first | (with_reducible first | exact HB.out | apply below_alloc | apply pw_below_drewN | apply below_drew1 | refine below_set ?_ GE275.out | refine below_set ?_ GE285.out) | exact HB.out)⟩
   ·rw [if_neg c221] at H
    have c221b0 : (t289 == 0) = false := beq_eq_false_iff_ne.mpr c221
    have c221b1 : (t289 != 0) = true := bne_iff_ne.mpr c221
    obtain rfl := Option.some.inj H
    go_wp2_with (first | ((with_reducible refine gate_callee (f := 16) rfl ?_); refine goesL_ (some 33) rfl rfl Tryd.func16 (by kernel_rfl) rfl #[.agg #[.slice Ao20 t276.length co20, .slice Ao23 t279.length co23, .slice Ao24 t282.length co24]] rfl dz ?_; (with_reducible refine (tickingref07_Case.calls k _ _ t276 _ _ t279 _ _ t282 false _ ?side1 ?side2 ?side3 ?side4 ?side5 ?side6 A5.out).mono ?_); (case side1 => exact cz ((Kd.R_reads' HO278.out).2.2)); (case side2 => exact (Kd.R_reads' HO278.out).2.1); (case side3 => exact cz ((Kd.S_reads' HO281.out).2.2)); (case side4 => exact (Kd.S_reads' HO281.out).2.1); (case side5 => exact cz ((Kd.R_reads' HO284.out).2.2)); (case side6 => exact (Kd.R_reads' HO284.out).2.1); rintro e w320 ⟨rfl, hb⟩; refine ⟨_, rfl, ?_⟩; have n0_ := Aside0.mk (Kd.R_below (rz HO278.out) hb); have n1_ := Aside0.mk (Kd.S_below (sz HO281.out) hb); have n2_ := Aside0.mk (Kd.R_below (rz HO284.out) hb); have n3_ := Aside0.mk (Kd.R_below (rz HO288.out) hb); have n4_ := Aside0.mk (Kd.R_below (rz HO293.out) hb); have n5_ := Aside0.mk (kb BK275.out hb); have n6_ := Aside0.mk (kb BK285.out hb); have n7_ := Aside0.mk (below_step bz hb); clear HO278; clear HO281; clear HO284; clear HO288; clear HO293; clear BK275; clear BK285; clear HB; have HO278 := n0_; have HO281 := n1_; have HO284 := n2_; have HO288 := n3_; have HO293 := n4_; have BK275 := n5_; have BK285 := n6_; have HB := n7_; clear n0_ n1_ n2_ n3_ n4_ n5_ n6_ n7_; (try clear hb); (try clear hb2); (try clear hk); (try clear hi); obtain ⟨Ao321, co321, eo321⟩ := Kd.R_slice HO288.out; subst eo321))
    go_ret
    exact ⟨by first | rfl | (simp [errW_none, errW_some] <;> rfl) | (simp [*, errW_none, errW_some] <;> rfl), by repeat (first | (with_reducible first | exact HB.out | apply below_alloc | apply pw_below_drewN | apply below_drew1 | refine below_set ?_ GE275.out | refine below_set ?_ GE285.out) | exact HB.out)⟩
  ·rw [if_neg c220] at H
   have c220b0 : ((t286.length : Int) == 0) = false := beq_eq_false_iff_ne.mpr c220
   have c220b1 : ((t286.length : Int) != 0) = true := bne_iff_ne.mpr c220
   have c220b2 : ¬ (t286 = []) := fun h_ => c220 (by rw [h_]; rfl)
   obtain rfl := Option.some.inj H
   go_wp2_with (first | ((with_reducible refine gate_callee (f := 16) rfl ?_); refine goesL_ (some 33) rfl rfl Tryd.func16 (by kernel_rfl) rfl #[.agg #[.slice Ao20 t276.length co20, .slice Ao23 t279.length co23, .slice Ao24 t282.length co24]] rfl dz ?_; (with_reducible refine (tickingref07_Case.calls k _ _ t276 _ _ t279 _ _ t282 false _ ?side1 ?side2 ?side3 ?side4 ?side5 ?side6 A5.out).mono ?_); (case side1 => exact cz ((Kd.R_reads' HO278.out).2.2)); (case side2 => exact (Kd.R_reads' HO278.out).2.1); (case side3 => exact cz ((Kd.S_reads' HO281.out).2.2)); (case side4 => exact (Kd.S_reads' HO281.out).2.1); (case side5 => exact cz ((Kd.R_reads' HO284.out).2.2)); (case side6 => exact (Kd.R_reads' HO284.out).2.1); rintro e w335 ⟨rfl, hb⟩; refine ⟨_, rfl, ?_⟩; have n0_ := Aside0.mk (Kd.R_below (rz HO278.out) hb); have n1_ := Aside0.mk (Kd.S_below (sz HO281.out) hb); have n2_ := Aside0.mk (Kd.R_below (rz HO284.out) hb); have n3_ := Aside0.mk (Kd.R_below (rz HO288.out) hb); have n4_ := Aside0.mk (Kd.R_below (rz HO293.out) hb); have n5_ := Aside0.mk (kb BK275.out hb); have n6_ := Aside0.mk (kb BK285.out hb); have n7_ := Aside0.mk (below_step bz hb); clear HO278; clear HO281; clear HO284; clear HO288; clear HO293; clear BK275; clear BK285; clear HB; have HO278 := n0_; have HO281 := n1_; have HO284 := n2_; have HO288 := n3_; have HO293 := n4_; have BK275 := n5_; have BK285 := n6_; have HB := n7_; clear n0_ n1_ n2_ n3_ n4_ n5_ n6_ n7_; (try clear hb); (try clear hb2); (try clear hk); (try clear hi); obtain ⟨Ao336, co336, eo336⟩ := Kd.R_slice HO288.out; subst eo336))
   go_ret
   exact ⟨by first | rfl | (simp [errW_none, errW_some] <;> rfl) | (simp [*, errW_none, errW_some] <;> rfl), by repeat (first | (with_reducible first | exact HB.out | apply below_alloc | apply pw_below_drewN | apply below_drew1 | refine below_set ?_ GE275.out | refine below_set ?_ GE285.out) | exact HB.out)⟩

end Go.Proofs.YtekmiepdodaidaaDoor.X
end
