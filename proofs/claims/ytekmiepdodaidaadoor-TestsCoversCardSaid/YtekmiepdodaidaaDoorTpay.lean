/- Texts behind TestsCovers, part 25: contracts of the program's functions and the plain words for them. -/
import Derived.Test.YtekmiepdodaidaaDoorTpas
import Derived.Test.YtekmiepdodaidaaDoorTpav
import Derived.Test.YtekmiepdodaidaaDoorTpaw
import Derived.Test.YtekmiepdodaidaaDoorTpax
section
namespace Go.Proofs.YtekmiepdodaidaaDoor.X
open Go.RowKit Go.Proofs.YtekmiepdodaidaaDoorW.PrintWords Go.Proofs.YtekmiepdodaidaaDoorW.PrintLast Go.Proofs.YtekmiepdodaidaaDoorW.PrintMore
attribute [local go_sem] max2_int min2_int max_two min_two max_three min_three max_four min_four   -- for this text's walks alone
set_option linter.unusedVariables false
set_option linter.unusedSimpArgs false

attribute [local go_sem high] eqA53
def tickinglaw07_awake.j0 : Nat → Bool → Option (Bool)
 | 0, _ => none
 | k + 1, x80 => if x80 = true then (some false) else (some true)
def tickinglaw07_awake.f (k : Nat)  : Option (Bool) := (some (([1, 1, 2] : List Int) : List Int)).bind fun y174 => ((some (([(([1, 0, 0] : List Int)), (([0, 1, 0] : List Int))] : List (List Int)) : List (List Int))).bind fun y183 => ((some (([1, 1] : List Int) : List Int)).bind fun y186 => ((tests_Best.f y174 y183 y186).bind fun bt190 => ((tests_Worst.f y174 y183 y186).bind fun bt195 => ((tests_Alike.f k (([1, 1] : List Int)) ([] : List (List Int)) ([] : List Int)).bind fun bt203 => ((tests_Cover.f y174 y183 y186).bind fun bt207 => (if bt190.2.2 = 0 then (if bt190.2.1 = 7 then (if bt195.2.2 = 0 then (if bt195.2.1 = 2 then (if bt203.2 = 0 then (if (bt203.1.length : Int) = 1 then (if 0 < (bt203.1.length : Int) then (if (!(((rd_T53 bt203.1 0).f0) == 0) || (!(((rd_T53 bt203.1 0).f1) == 1))) = true then (tickinglaw07_awake.j0 k true) else (if bt207.2 = 0 then ((tickinglaw07_ints.f k bt207.1 (([0, 1] : List Int))).bind fun t215 => (tickinglaw07_awake.j0 k (!t215))) else (tickinglaw07_awake.j0 k true))) else (none)) else (tickinglaw07_awake.j0 k true)) else (tickinglaw07_awake.j0 k true)) else (tickinglaw07_awake.j0 k true)) else (tickinglaw07_awake.j0 k true)) else (tickinglaw07_awake.j0 k true)) else (tickinglaw07_awake.j0 k true))))))))
set_option maxHeartbeats 8000000 in
set_option maxRecDepth 100000 in
theorem tickinglaw07_awake.calls (k : Nat)  (r : Bool) (w : World) (h : tickinglaw07_awake.f k  = some r) (hTab : Tab w) :
  Calls Tryd.prog 17 #[] w fun e w' => e = .returned (.bool r) ∧ Below w.heap.size w w' := by
 have HTab := Aside0.mk hTab
 clear hTab
 have hu25 := Tryd.underlying25
 have hu53 := Tryd.underlying53
 have HB := Aside0.mk (Below.refl w.heap.size w)
 have H : ((some (([1, 1, 2] : List Int) : List Int)).bind fun y174 => ((some (([(([1, 0, 0] : List Int)), (([0, 1, 0] : List Int))] : List (List Int)) : List (List Int))).bind fun y183 => ((some (([1, 1] : List Int) : List Int)).bind fun y186 => ((tests_Best.f y174 y183 y186).bind fun bt190 => ((tests_Worst.f y174 y183 y186).bind fun bt195 => ((tests_Alike.f k (([1, 1] : List Int)) ([] : List (List Int)) ([] : List Int)).bind fun bt203 => ((tests_Cover.f y174 y183 y186).bind fun bt207 => (if bt190.2.2 = 0 then (if bt190.2.1 = 7 then (if bt195.2.2 = 0 then (if bt195.2.1 = 2 then (if bt203.2 = 0 then (if (bt203.1.length : Int) = 1 then (if 0 < (bt203.1.length : Int) then (if (!(((rd_T53 bt203.1 0).f0) == 0) || (!(((rd_T53 bt203.1 0).f1) == 1))) = true then (tickinglaw07_awake.j0 k true) else (if bt207.2 = 0 then ((tickinglaw07_ints.f k bt207.1 (([0, 1] : List Int))).bind fun t215 => (tickinglaw07_awake.j0 k (!t215))) else (tickinglaw07_awake.j0 k true))) else (none)) else (tickinglaw07_awake.j0 k true)) else (tickinglaw07_awake.j0 k true)) else (tickinglaw07_awake.j0 k true)) else (tickinglaw07_awake.j0 k true)) else (tickinglaw07_awake.j0 k true)) else (tickinglaw07_awake.j0 k true))))))))) = some r := h
 clear h
 obtain ⟨y174, hy174⟩ : ∃ y_ : List Int, y_ = (([1, 1, 2] : List Int)) := ⟨_, rfl⟩
 replace H : ((some (([(([1, 0, 0] : List Int)), (([0, 1, 0] : List Int))] : List (List Int)) : List (List Int))).bind fun y183 => ((some (([1, 1] : List Int) : List Int)).bind fun y186 => ((tests_Best.f y174 y183 y186).bind fun bt190 => ((tests_Worst.f y174 y183 y186).bind fun bt195 => ((tests_Alike.f k (([1, 1] : List Int)) ([] : List (List Int)) ([] : List Int)).bind fun bt203 => ((tests_Cover.f y174 y183 y186).bind fun bt207 => (if bt190.2.2 = 0 then (if bt190.2.1 = 7 then (if bt195.2.2 = 0 then (if bt195.2.1 = 2 then (if bt203.2 = 0 then (if (bt203.1.length : Int) = 1 then (if 0 < (bt203.1.length : Int) then (if (!(((rd_T53 bt203.1 0).f0) == 0) || (!(((rd_T53 bt203.1 0).f1) == 1))) = true then (tickinglaw07_awake.j0 k true) else (if bt207.2 = 0 then ((tickinglaw07_ints.f k bt207.1 (([0, 1] : List Int))).bind fun t215 => (tickinglaw07_awake.j0 k (!t215))) else (tickinglaw07_awake.j0 k true))) else (none)) else (tickinglaw07_awake.j0 k true)) else (tickinglaw07_awake.j0 k true)) else (tickinglaw07_awake.j0 k true)) else (tickinglaw07_awake.j0 k true)) else (tickinglaw07_awake.j0 k true)) else (tickinglaw07_awake.j0 k true)))))))) = some r := by first | (rw [hy174]; with_reducible exact H) | (have H2_ := (Option.bind_some _ _).symm.trans H; rw [hy174]; with_reducible exact H2_) | (have H2_ := (Option.bind_some _ _).symm.trans H; with_reducible exact H2_) | with_reducible exact H | (rw [hy174]; exact H) | exact H
 have Ny174 := Aside0.mk hy174
 clear hy174
 obtain ⟨y177, hy177⟩ : ∃ y_ : List Int, y_ = (([1, 0, 0] : List Int)) := ⟨_, rfl⟩
 replace H : ((some (([y177, (([0, 1, 0] : List Int))] : List (List Int)) : List (List Int))).bind fun y183 => ((some (([1, 1] : List Int) : List Int)).bind fun y186 => ((tests_Best.f y174 y183 y186).bind fun bt190 => ((tests_Worst.f y174 y183 y186).bind fun bt195 => ((tests_Alike.f k (([1, 1] : List Int)) ([] : List (List Int)) ([] : List Int)).bind fun bt203 => ((tests_Cover.f y174 y183 y186).bind fun bt207 => (if bt190.2.2 = 0 then (if bt190.2.1 = 7 then (if bt195.2.2 = 0 then (if bt195.2.1 = 2 then (if bt203.2 = 0 then (if (bt203.1.length : Int) = 1 then (if 0 < (bt203.1.length : Int) then (if (!(((rd_T53 bt203.1 0).f0) == 0) || (!(((rd_T53 bt203.1 0).f1) == 1))) = true then (tickinglaw07_awake.j0 k true) else (if bt207.2 = 0 then ((tickinglaw07_ints.f k bt207.1 (([0, 1] : List Int))).bind fun t215 => (tickinglaw07_awake.j0 k (!t215))) else (tickinglaw07_awake.j0 k true))) else (none)) else (tickinglaw07_awake.j0 k true)) else (tickinglaw07_awake.j0 k true)) else (tickinglaw07_awake.j0 k true)) else (tickinglaw07_awake.j0 k true)) else (tickinglaw07_awake.j0 k true)) else (tickinglaw07_awake.j0 k true)))))))) = some r := by first | (rw [hy177]; with_reducible exact H) | (have H2_ := (Option.bind_some _ _).symm.trans H; rw [hy177]; with_reducible exact H2_) | (have H2_ := (Option.bind_some _ _).symm.trans H; with_reducible exact H2_) | with_reducible exact H | (rw [hy177]; exact H) | exact H
 have Ny177 := Aside0.mk hy177
 clear hy177
 obtain ⟨y180, hy180⟩ : ∃ y_ : List Int, y_ = (([0, 1, 0] : List Int)) := ⟨_, rfl⟩
 replace H : ((some (([y177, y180] : List (List Int)) : List (List Int))).bind fun y183 => ((some (([1, 1] : List Int) : List Int)).bind fun y186 => ((tests_Best.f y174 y183 y186).bind fun bt190 => ((tests_Worst.f y174 y183 y186).bind fun bt195 => ((tests_Alike.f k (([1, 1] : List Int)) ([] : List (List Int)) ([] : List Int)).bind fun bt203 => ((tests_Cover.f y174 y183 y186).bind fun bt207 => (if bt190.2.2 = 0 then (if bt190.2.1 = 7 then (if bt195.2.2 = 0 then (if bt195.2.1 = 2 then (if bt203.2 = 0 then (if (bt203.1.length : Int) = 1 then (if 0 < (bt203.1.length : Int) then (if (!(((rd_T53 bt203.1 0).f0) == 0) || (!(((rd_T53 bt203.1 0).f1) == 1))) = true then (tickinglaw07_awake.j0 k true) else (if bt207.2 = 0 then ((tickinglaw07_ints.f k bt207.1 (([0, 1] : List Int))).bind fun t215 => (tickinglaw07_awake.j0 k (!t215))) else (tickinglaw07_awake.j0 k true))) else (none)) else (tickinglaw07_awake.j0 k true)) else (tickinglaw07_awake.j0 k true)) else (tickinglaw07_awake.j0 k true)) else (tickinglaw07_awake.j0 k true)) else (tickinglaw07_awake.j0 k true)) else (tickinglaw07_awake.j0 k true)))))))) = some r := by first | (rw [hy180]; with_reducible exact H) | (have H2_ := (Option.bind_some _ _).symm.trans H; rw [hy180]; with_reducible exact H2_) | (have H2_ := (Option.bind_some _ _).symm.trans H; with_reducible exact H2_) | with_reducible exact H | (rw [hy180]; exact H) | exact H
 have Ny180 := Aside0.mk hy180
 clear hy180
 obtain ⟨y183, hy183⟩ : ∃ y_ : List (List Int), y_ = (([y177, y180] : List (List Int))) := ⟨_, rfl⟩
 replace H : ((some (([1, 1] : List Int) : List Int)).bind fun y186 => ((tests_Best.f y174 y183 y186).bind fun bt190 => ((tests_Worst.f y174 y183 y186).bind fun bt195 => ((tests_Alike.f k (([1, 1] : List Int)) ([] : List (List Int)) ([] : List Int)).bind fun bt203 => ((tests_Cover.f y174 y183 y186).bind fun bt207 => (if bt190.2.2 = 0 then (if bt190.2.1 = 7 then (if bt195.2.2 = 0 then (if bt195.2.1 = 2 then (if bt203.2 = 0 then (if (bt203.1.length : Int) = 1 then (if 0 < (bt203.1.length : Int) then (if (!(((rd_T53 bt203.1 0).f0) == 0) || (!(((rd_T53 bt203.1 0).f1) == 1))) = true then (tickinglaw07_awake.j0 k true) else (if bt207.2 = 0 then ((tickinglaw07_ints.f k bt207.1 (([0, 1] : List Int))).bind fun t215 => (tickinglaw07_awake.j0 k (!t215))) else (tickinglaw07_awake.j0 k true))) else (none)) else (tickinglaw07_awake.j0 k true)) else (tickinglaw07_awake.j0 k true)) else (tickinglaw07_awake.j0 k true)) else (tickinglaw07_awake.j0 k true)) else (tickinglaw07_awake.j0 k true)) else (tickinglaw07_awake.j0 k true))))))) = some r := by first | (rw [hy183]; with_reducible exact H) | (have H2_ := (Option.bind_some _ _).symm.trans H; rw [hy183]; with_reducible exact H2_) | (have H2_ := (Option.bind_some _ _).symm.trans H; with_reducible exact H2_) | with_reducible exact H | (rw [hy183]; exact H) | exact H
 have Ny183 := Aside0.mk hy183
 clear hy183
 obtain ⟨y186, hy186⟩ : ∃ y_ : List Int, y_ = (([1, 1] : List Int)) := ⟨_, rfl⟩
 replace H : ((tests_Best.f y174 y183 y186).bind fun bt190 => ((tests_Worst.f y174 y183 y186).bind fun bt195 => ((tests_Alike.f k (([1, 1] : List Int)) ([] : List (List Int)) ([] : List Int)).bind fun bt203 => ((tests_Cover.f y174 y183 y186).bind fun bt207 => (if bt190.2.2 = 0 then (if bt190.2.1 = 7 then (if bt195.2.2 = 0 then (if bt195.2.1 = 2 then (if bt203.2 = 0 then (if (bt203.1.length : Int) = 1 then (if 0 < (bt203.1.length : Int) then (if (!(((rd_T53 bt203.1 0).f0) == 0) || (!(((rd_T53 bt203.1 0).f1) == 1))) = true then (tickinglaw07_awake.j0 k true) else (if bt207.2 = 0 then ((tickinglaw07_ints.f k bt207.1 (([0, 1] : List Int))).bind fun t215 => (tickinglaw07_awake.j0 k (!t215))) else (tickinglaw07_awake.j0 k true))) else (none)) else (tickinglaw07_awake.j0 k true)) else (tickinglaw07_awake.j0 k true)) else (tickinglaw07_awake.j0 k true)) else (tickinglaw07_awake.j0 k true)) else (tickinglaw07_awake.j0 k true)) else (tickinglaw07_awake.j0 k true)))))) = some r := by first | (rw [hy186]; with_reducible exact H) | (have H2_ := (Option.bind_some _ _).symm.trans H; rw [hy186]; with_reducible exact H2_) | (have H2_ := (Option.bind_some _ _).symm.trans H; with_reducible exact H2_) | with_reducible exact H | (rw [hy186]; exact H) | exact H
 have Ny186 := Aside0.mk hy186
 clear hy186
 replace H := Option.bind_eq_some_iff.mp H
 obtain ⟨⟨t190, t193, t194⟩, A10, H⟩ := H
 replace H : ((tests_Worst.f y174 y183 y186).bind fun bt195 => ((tests_Alike.f k (([1, 1] : List Int)) ([] : List (List Int)) ([] : List Int)).bind fun bt203 => ((tests_Cover.f y174 y183 y186).bind fun bt207 => (if t194 = 0 then (if t193 = 7 then (if bt195.2.2 = 0 then (if bt195.2.1 = 2 then (if bt203.2 = 0 then (if (bt203.1.length : Int) = 1 then (if 0 < (bt203.1.length : Int) then (if (!(((rd_T53 bt203.1 0).f0) == 0) || (!(((rd_T53 bt203.1 0).f1) == 1))) = true then (tickinglaw07_awake.j0 k true) else (if bt207.2 = 0 then ((tickinglaw07_ints.f k bt207.1 (([0, 1] : List Int))).bind fun t215 => (tickinglaw07_awake.j0 k (!t215))) else (tickinglaw07_awake.j0 k true))) else (none)) else (tickinglaw07_awake.j0 k true)) else (tickinglaw07_awake.j0 k true)) else (tickinglaw07_awake.j0 k true)) else (tickinglaw07_awake.j0 k true)) else (tickinglaw07_awake.j0 k true)) else (tickinglaw07_awake.j0 k true))))) = some r := H
 have A1 := Aside0.mk A10
 clear A10
 replace H := Option.bind_eq_some_iff.mp H
 obtain ⟨⟨t195, t198, t199⟩, A20, H⟩ := H
 replace H : ((tests_Alike.f k (([1, 1] : List Int)) ([] : List (List Int)) ([] : List Int)).bind fun bt203 => ((tests_Cover.f y174 y183 y186).bind fun bt207 => (if t194 = 0 then (if t193 = 7 then (if t199 = 0 then (if t198 = 2 then (if bt203.2 = 0 then (if (bt203.1.length : Int) = 1 then (if 0 < (bt203.1.length : Int) then (if (!(((rd_T53 bt203.1 0).f0) == 0) || (!(((rd_T53 bt203.1 0).f1) == 1))) = true then (tickinglaw07_awake.j0 k true) else (if bt207.2 = 0 then ((tickinglaw07_ints.f k bt207.1 (([0, 1] : List Int))).bind fun t215 => (tickinglaw07_awake.j0 k (!t215))) else (tickinglaw07_awake.j0 k true))) else (none)) else (tickinglaw07_awake.j0 k true)) else (tickinglaw07_awake.j0 k true)) else (tickinglaw07_awake.j0 k true)) else (tickinglaw07_awake.j0 k true)) else (tickinglaw07_awake.j0 k true)) else (tickinglaw07_awake.j0 k true)))) = some r := H
 have A2 := Aside0.mk A20
 clear A20
 obtain ⟨y200, hy200⟩ : ∃ y_ : List Int, y_ = (([1, 1] : List Int)) := ⟨_, rfl⟩
 replace H : ((tests_Alike.f k y200 ([] : List (List Int)) ([] : List Int)).bind fun bt203 => ((tests_Cover.f y174 y183 y186).bind fun bt207 => (if t194 = 0 then (if t193 = 7 then (if t199 = 0 then (if t198 = 2 then (if bt203.2 = 0 then (if (bt203.1.length : Int) = 1 then (if 0 < (bt203.1.length : Int) then (if (!(((rd_T53 bt203.1 0).f0) == 0) || (!(((rd_T53 bt203.1 0).f1) == 1))) = true then (tickinglaw07_awake.j0 k true) else (if bt207.2 = 0 then ((tickinglaw07_ints.f k bt207.1 (([0, 1] : List Int))).bind fun t215 => (tickinglaw07_awake.j0 k (!t215))) else (tickinglaw07_awake.j0 k true))) else (none)) else (tickinglaw07_awake.j0 k true)) else (tickinglaw07_awake.j0 k true)) else (tickinglaw07_awake.j0 k true)) else (tickinglaw07_awake.j0 k true)) else (tickinglaw07_awake.j0 k true)) else (tickinglaw07_awake.j0 k true)))) = some r := by first | (rw [hy200]; with_reducible exact H) | (have H2_ := (Option.bind_some _ _).symm.trans H; rw [hy200]; with_reducible exact H2_) | (have H2_ := (Option.bind_some _ _).symm.trans H; with_reducible exact H2_) | with_reducible exact H | (rw [hy200]; exact H) | exact H
 have Ny200 := Aside0.mk hy200
 clear hy200
 replace H := Option.bind_eq_some_iff.mp H
 obtain ⟨⟨t203, t206⟩, A30, H⟩ := H
 replace H : ((tests_Cover.f y174 y183 y186).bind fun bt207 => (if t194 = 0 then (if t193 = 7 then (if t199 = 0 then (if t198 = 2 then (if t206 = 0 then (if (t203.length : Int) = 1 then (if 0 < (t203.length : Int) then (if (!(((rd_T53 t203 0).f0) == 0) || (!(((rd_T53 t203 0).f1) == 1))) = true then (tickinglaw07_awake.j0 k true) else (if bt207.2 = 0 then ((tickinglaw07_ints.f k bt207.1 (([0, 1] : List Int))).bind fun t215 => (tickinglaw07_awake.j0 k (!t215))) else (tickinglaw07_awake.j0 k true))) else (none)) else (tickinglaw07_awake.j0 k true)) else (tickinglaw07_awake.j0 k true)) else (tickinglaw07_awake.j0 k true)) else (tickinglaw07_awake.j0 k true)) else (tickinglaw07_awake.j0 k true)) else (tickinglaw07_awake.j0 k true))) = some r := H
 have A3 := Aside0.mk A30
 clear A30
 replace H := Option.bind_eq_some_iff.mp H
 obtain ⟨⟨t207, t210⟩, A40, H⟩ := H
 replace H : (if t194 = 0 then (if t193 = 7 then (if t199 = 0 then (if t198 = 2 then (if t206 = 0 then (if (t203.length : Int) = 1 then (if 0 < (t203.length : Int) then (if (!(((rd_T53 t203 0).f0) == 0) || (!(((rd_T53 t203 0).f1) == 1))) = true then (tickinglaw07_awake.j0 k true) else (if t210 = 0 then ((tickinglaw07_ints.f k t207 (([0, 1] : List Int))).bind fun t215 => (tickinglaw07_awake.j0 k (!t215))) else (tickinglaw07_awake.j0 k true))) else (none)) else (tickinglaw07_awake.j0 k true)) else (tickinglaw07_awake.j0 k true)) else (tickinglaw07_awake.j0 k true)) else (tickinglaw07_awake.j0 k true)) else (tickinglaw07_awake.j0 k true)) else (tickinglaw07_awake.j0 k true)) = some r := H
 have A4 := Aside0.mk A40
 clear A40
 have HC5 := Aside0.mk H
 clear H
 go_enter Tryd.func17, Tryd.ntmps17
 go_upto_region 6 with (first | ((with_reducible refine gate_dst (N := 12) rfl ?_); (try (refine gate_guard (by rfl) ?_; dsimp only)); refine Kd.R_lit (Kd.int .i64) _ 3 ?hg (N := 12) ?hd (xs := ([1, 1, 2] : List Int)) (inner := [.int .i64 1, .int .i64 1, .int .i64 2]) (ok := fun _ => True) (okp := fun _ => True) ?hr ?hp (fun _ hk => hk) trivial (Below.refl _ _) (Nat.le_refl _) (by simp) ?_; (case hd => rfl); (case hg => rfl); (case hr => first | (go_simp; done) | (go_simp; rfl)); (case hp => exact (Reps.one (show Kd.M (Kd.int .i64) _ _ _ 1 [.int .i64 1] from rfl) (Reps.one (show Kd.M (Kd.int .i64) _ _ _ 1 [.int .i64 1] from rfl) (Reps.one (show Kd.M (Kd.int .i64) _ _ _ 2 [.int .i64 2] from rfl) (Reps.none _ _))))); intro v175 w6 ho7 hb hg_ hnew_; clear hg_ hnew_; (first | rw [← Ny174.out] at ho7 | (simp only [Int.reduceToNat] at ho7; rw [← Ny174.out] at ho7)); have n0_ := Aside0.mk (Kd.R_lower ho7 (below_size bz)); have n1_ := Aside0.mk (below_step bz hb); clear HB; have HO176 := n0_; have HB := n1_; clear n0_ n1_; clear hb ho7) | ((with_reducible refine gate_dst (N := 13) rfl ?_); (try (refine gate_guard (by rfl) ?_; dsimp only)); refine Kd.R_lit (Kd.int .i64) _ 3 ?hg (N := 13) ?hd (xs := ([1, 0, 0] : List Int)) (inner := [.int .i64 1, .int .i64 0, .int .i64 0]) (ok := fun _ => True) (okp := fun _ => True) ?hr ?hp (fun _ hk => hk) trivial (Below.refl _ _) (Nat.le_refl _) (by simp) ?_; (case hd => rfl); (case hg => rfl); (case hr => first | (go_simp; done) | (go_simp; rfl)); (case hp => exact (Reps.one (show Kd.M (Kd.int .i64) _ _ _ 1 [.int .i64 1] from rfl) (Reps.one (show Kd.M (Kd.int .i64) _ _ _ 0 [.int .i64 0] from rfl) (Reps.one (show Kd.M (Kd.int .i64) _ _ _ 0 [.int .i64 0] from rfl) (Reps.none _ _))))); intro v178 w8 ho9 hb hg_ hnew_; clear hg_ hnew_; (first | rw [← Ny177.out] at ho9 | (simp only [Int.reduceToNat] at ho9; rw [← Ny177.out] at ho9)); have n0_ := Aside0.mk (Kd.R_elder' (rz HO176.out) (Kd.R_base ho9) hb); have n1_ := Aside0.mk (Kd.R_lower (Kd.R_new' ho9 (Kd.R_lt (rz HO176.out))) (below_size bz)); have n2_ := Aside0.mk (below_step bz hb); clear HO176; clear HB; have HO176 := n0_; have HO179 := n1_; have HB := n2_; clear n0_ n1_ n2_; clear hb ho9) | ((with_reducible refine gate_dst (N := 14) rfl ?_); (try (refine gate_guard (by rfl) ?_; dsimp only)); refine Kd.R_lit (Kd.int .i64) _ 3 ?hg (N := 14) ?hd (xs := ([0, 1, 0] : List Int)) (inner := [.int .i64 0, .int .i64 1, .int .i64 0]) (ok := fun _ => True) (okp := fun _ => True) ?hr ?hp (fun _ hk => hk) trivial (Below.refl _ _) (Nat.le_refl _) (by simp) ?_; (case hd => rfl); (case hg => rfl); (case hr => first | (go_simp; done) | (go_simp; rfl)); (case hp => exact (Reps.one (show Kd.M (Kd.int .i64) _ _ _ 0 [.int .i64 0] from rfl) (Reps.one (show Kd.M (Kd.int .i64) _ _ _ 1 [.int .i64 1] from rfl) (Reps.one (show Kd.M (Kd.int .i64) _ _ _ 0 [.int .i64 0] from rfl) (Reps.none _ _))))); intro v181 w10 ho11 hb hg_ hnew_; clear hg_ hnew_; (first | rw [← Ny180.out] at ho11 | (simp only [Int.reduceToNat] at ho11; rw [← Ny180.out] at ho11)); have n0_ := Aside0.mk (Kd.R_elder' (rz HO176.out) (Kd.R_base ho11) hb); have n1_ := Aside0.mk (Kd.R_elder' (rz HO179.out) (Kd.R_base ho11) hb); have n2_ := Aside0.mk (Kd.R_lower (Kd.R_new' (Kd.R_new' ho11 (Kd.R_lt (rz HO176.out))) (Kd.R_lt (rz HO179.out))) (below_size bz)); have n3_ := Aside0.mk (below_step bz hb); clear HO176; clear HO179; clear HB; have HO176 := n0_; have HO179 := n1_; have HO182 := n2_; have HB := n3_; clear n0_ n1_ n2_ n3_; clear hb ho11; obtain ⟨Ao12, co12, eo12⟩ := Kd.R_slice HO179.out; subst eo12; obtain ⟨Ao13, co13, eo13⟩ := Kd.R_slice HO182.out; subst eo13) | ((with_reducible refine gate_dst (N := 15) rfl ?_); (try (refine gate_guard (by rfl) ?_; dsimp only)); refine Kd.N_lit (Kd.slice 3 (Kd.int .i64)) _ 22 ?hg (N' := 15) ?hd (xs := ([y177, y180] : List (List Int))) (inner := [.slice Ao12 y177.length co12, .slice Ao13 y180.length co13]) (ok := (fun k_ => some k_ ≠ (v175 : Value).ownBlock)) (okp := (fun k_ => some k_ ≠ (v175 : Value).ownBlock)) ?hr ?hp (fun _ hk => hk) ((show ∀ k_, w10.heap.size ≤ k_ → (fun k_ => some k_ ≠ (v175 : Value).ownBlock) k_ from fun k_ hk => Kd.fresh' (Kd.R_lt (rz HO176.out)) k_ hk) _ (Nat.le_refl _)) (Below.refl _ _) (Nat.le_refl _) (by simp) ?_; (case hd => rfl); (case hg => rfl); (case hr => first | (go_simp; done) | (go_simp; rfl)); (case hp => exact (Reps.one (show Kd.FK (Kd.slice 3 (Kd.int .i64)) _ _ y177 [.slice Ao12 y177.length co12] from (Kd.FK_slice_mk (Kd.R_reads' (Kd.R_mono (ok' := (fun k_ => some k_ ≠ (v175 : Value).ownBlock)) (HO179.out) (fun k_ hk => hk.1.2))).2.1 (Kd.R_F (Kd.R_mono (ok' := (fun k_ => some k_ ≠ (v175 : Value).ownBlock)) (HO179.out) (fun k_ hk => hk.1.2))))) (Reps.one (show Kd.FK (Kd.slice 3 (Kd.int .i64)) _ _ y180 [.slice Ao13 y180.length co13] from (Kd.FK_slice_mk (Kd.R_reads' (Kd.R_mono (ok' := (fun k_ => some k_ ≠ (v175 : Value).ownBlock)) (HO182.out) (fun k_ hk => hk.1.2))).2.1 (Kd.R_F (Kd.R_mono (ok' := (fun k_ => some k_ ≠ (v175 : Value).ownBlock)) (HO182.out) (fun k_ hk => hk.1.2))))) (Reps.none _ _)))); intro v184 w14 ho15 hb hg_ hnew_; clear hg_ hnew_; (first | rw [← Ny183.out] at ho15 | (simp only [Int.reduceToNat] at ho15; rw [← Ny183.out] at ho15)); have n0_ := Aside0.mk (Kd.R_below (rz HO176.out) hb); have n1_ := Aside0.mk (Kd.N_lower ho15 (below_size bz)); have n2_ := Aside0.mk (below_step bz hb); clear HO176; clear HB; clear HO179; clear HO182; have HO176 := n0_; have HO185 := n1_; have HB := n2_; clear n0_ n1_ n2_; clear hb ho15) | ((with_reducible refine gate_dst (N := 16) rfl ?_); (try (refine gate_guard (by rfl) ?_; dsimp only)); refine Kd.R_lit (Kd.int .i64) _ 3 ?hg (N := 16) ?hd (xs := ([1, 1] : List Int)) (inner := [.int .i64 1, .int .i64 1]) (ok := fun _ => True) (okp := fun _ => True) ?hr ?hp (fun _ hk => hk) trivial (Below.refl _ _) (Nat.le_refl _) (by simp) ?_; (case hd => rfl); (case hg => rfl); (case hr => first | (go_simp; done) | (go_simp; rfl)); (case hp => exact (Reps.one (show Kd.M (Kd.int .i64) _ _ _ 1 [.int .i64 1] from rfl) (Reps.one (show Kd.M (Kd.int .i64) _ _ _ 1 [.int .i64 1] from rfl) (Reps.none _ _)))); intro v187 w16 ho17 hb hg_ hnew_; clear hg_ hnew_; (first | rw [← Ny186.out] at ho17 | (simp only [Int.reduceToNat] at ho17; rw [← Ny186.out] at ho17)); have n0_ := Aside0.mk (Kd.R_elder' (rz HO176.out) (Kd.R_base ho17) hb); have n1_ := Aside0.mk (Kd.N_elder' (by (with_reducible repeat (first | apply Kd.N_alloc | apply Kd.N_drewN | apply Kd.N_drew)); exact HO185.out) (Kd.R_base ho17) hb); have n2_ := Aside0.mk (Kd.R_lower (Kd.R_new' ho17 (Kd.R_lt (rz HO176.out))) (below_size bz)); have n3_ := Aside0.mk (below_step bz hb); clear HO176; clear HO185; clear HB; have HO176 := n0_; have HO185 := n1_; have HO188 := n2_; have HB := n3_; clear n0_ n1_ n2_ n3_; clear hb ho17; obtain ⟨Ao18, co18, eo18⟩ := Kd.R_slice HO188.out; subst eo18; obtain ⟨Ao19, co19, eo19⟩ := Kd.N_slice HO185.out; subst eo19; obtain ⟨Ao20, co20, eo20⟩ := Kd.R_slice HO176.out; subst eo20) | ((with_reducible refine gate_dst (N := 1) rfl ?_); (try (refine gate_guard (by rfl) ?_; dsimp only)); refine box_event ?hg (N := 1) ?hd (cs := #[.slice none 0 0, .slice none 0 0, .slice none 0 0]) (t := 25) ?hr ?_; (case hd => rfl); (case hg => rfl); (case hr => first | (go_simp; done) | (go_simp; rfl)); intro gb189 hg w21 hbox hb; have n0_ := Aside0.mk (Kd.R_below (rz HO176.out) hb); have n1_ := Aside0.mk (Kd.N_below (Kd.N_elderB (by (with_reducible repeat (first | apply Kd.N_alloc | apply Kd.N_drewN | apply Kd.N_drew)); exact HO185.out) gb189 (Nat.le_of_eq hg.symm)) hb); have n2_ := Aside0.mk (Kd.R_below (rz HO188.out) hb); have n3_ := Aside0.mk (below_step bz hb); have n4_ := Aside0.mk (hbox); have n5_ := Aside0.mk ((by rw [hg]; exact (below_size bz) : w.heap.size ≤ gb189)); have n6_ := Aside0.mk ((by rw [hg]; exact (below_size bz) : w.heap.size ≤ gb189)); clear HO176; clear HO185; clear HO188; clear HB; have HO176 := n0_; have HO185 := n1_; have HO188 := n2_; have HB := n3_; have BK189 := n4_; have GW189 := n5_; have GE189 := n6_; clear n0_ n1_ n2_ n3_ n4_ n5_ n6_; clear hb hbox hg; have hcz22_0 : w21.cell? ⟨gb189, 0, none⟩ = some (.slice none 0 0) := (blk_cell BK189.out 0).trans rfl; have hcz22_1 : w21.cell? ⟨gb189, 1, none⟩ = some (.slice none 0 0) := (blk_cell BK189.out 1).trans rfl; have hcz22_2 : w21.cell? ⟨gb189, 2, none⟩ = some (.slice none 0 0) := (blk_cell BK189.out 2).trans rfl; have hfz22_0 := blk_frozen BK189.out 0; have hfz22_1 := blk_frozen BK189.out 1; have hfz22_2 := blk_frozen BK189.out 2) | ((with_reducible refine gate_callee (f := 14) rfl ?_); refine goesL_ (some 20) rfl rfl Tryd.func14 (by kernel_rfl) rfl #[.agg #[.slice Ao20 y174.length co20, .slice Ao19 y183.length co19, .slice Ao18 y186.length co18]] rfl dz ?_; (with_reducible refine (tests_Best.calls _ _ y174 _ _ y183 _ _ y186 t190 t193 t194 _ ?side1 ?side2 ?side3 ?side4 ?side5 ?side6 A1.out ?sideT).mono ?_); (case sideT => exact HTab.out.below bz); (case side1 => refine (Kd.R_reads' (e := 3) (base := w.heap.size) (ok := fun k_ => (((True ∧ some k_ ≠ (.slice Ao12 y177.length co12 : Value).ownBlock) ∧ some k_ ≠ (.slice Ao13 y180.length co13 : Value).ownBlock) ∧ some k_ ≠ (.slice Ao18 y186.length co18 : Value).ownBlock)) (n := y174.length) (c := co20) ?_).2.2; exact (by (with_reducible repeat (first | apply Kd.R_alloc | apply Kd.R_drewN | apply Kd.R_drew)); exact (Kd.R_mono (Kd.R_far (p := ⟨gb189, 2, none⟩) (Kd.R_far (p := ⟨gb189, 1, none⟩) (Kd.R_far (p := ⟨gb189, 0, none⟩) (Kd.R_types HO176.out BK189.out (by decide)) (fun _ hk => hk.2) (.slice Ao20 y174.length co20)) (fun _ hk => hk.2) (.slice Ao19 y183.length co19)) (fun _ hk => hk.2) (.slice Ao18 y186.length co18)) (fun _ h_ => h_.1)))); (case side2 => exact (Kd.R_reads' HO176.out).2.1); (case side3 => refine (Kd.N_reads' (e := 22) (base := w.heap.size) (ok := fun k_ => ((some k_ ≠ (.slice Ao20 y174.length co20 : Value).ownBlock ∧ some k_ ≠ (.slice Ao18 y186.length co18 : Value).ownBlock) ∧ k_ ≠ gb189)) (n := y183.length) (c := co19) ?_).2.2; exact (by (with_reducible repeat (first | apply Kd.N_alloc | apply Kd.N_drewN | apply Kd.N_drew)); exact (Kd.N_mono (Kd.N_far (p := ⟨gb189, 2, none⟩) (Kd.N_far (p := ⟨gb189, 1, none⟩) (Kd.N_far (p := ⟨gb189, 0, none⟩) (Kd.N_mono HO185.out (fun k_ hk => (⟨hk, hk.2⟩ : _ ∧ k_ ≠ gb189))) (fun _ hk => hk.2) (.slice Ao20 y174.length co20)) (fun _ hk => hk.2) (.slice Ao19 y183.length co19)) (fun _ hk => hk.2) (.slice Ao18 y186.length co18)) (fun _ h_ => h_.1)))); (case side4 => exact (Kd.N_reads' HO185.out).2.1); (case side5 => refine (Kd.R_reads' (e := 3) (base := w.heap.size) (ok := fun k_ => (True ∧ some k_ ≠ (.slice Ao20 y174.length co20 : Value).ownBlock)) (n := y186.length) (c := co18) ?_).2.2; exact (by (with_reducible repeat (first | apply Kd.R_alloc | apply Kd.R_drewN | apply Kd.R_drew)); exact (Kd.R_mono (Kd.R_far (p := ⟨gb189, 2, none⟩) (Kd.R_far (p := ⟨gb189, 1, none⟩) (Kd.R_far (p := ⟨gb189, 0, none⟩) (Kd.R_types HO188.out BK189.out (by decide)) (fun _ hk => hk.2) (.slice Ao20 y174.length co20)) (fun _ hk => hk.2) (.slice Ao19 y183.length co19)) (fun _ hk => hk.2) (.slice Ao18 y186.length co18)) (fun _ h_ => h_.1)))); (case side6 => exact (Kd.R_reads' HO188.out).2.1); rintro e w23 ⟨v191, rfl, ho0, hb⟩; refine ⟨_, rfl, ?_⟩; have n0_ := Aside0.mk (Kd.R_below (by (with_reducible repeat (first | apply Kd.R_alloc | apply Kd.R_drewN | apply Kd.R_drew)); exact (Kd.R_mono (Kd.R_far (p := ⟨gb189, 2, none⟩) (Kd.R_far (p := ⟨gb189, 1, none⟩) (Kd.R_far (p := ⟨gb189, 0, none⟩) (Kd.R_types HO176.out BK189.out (by decide)) (fun _ hk => hk.2) (.slice Ao20 y174.length co20)) (fun _ hk => hk.2) (.slice Ao19 y183.length co19)) (fun _ hk => hk.2) (.slice Ao18 y186.length co18)) (fun _ h_ => h_.1))) hb); have n1_ := Aside0.mk (Kd.N_elder' (by (with_reducible repeat (first | apply Kd.N_alloc | apply Kd.N_drewN | apply Kd.N_drew)); exact (Kd.N_mono (Kd.N_far (p := ⟨gb189, 2, none⟩) (Kd.N_far (p := ⟨gb189, 1, none⟩) (Kd.N_far (p := ⟨gb189, 0, none⟩) (Kd.N_mono HO185.out (fun k_ hk => (⟨hk, hk.2⟩ : _ ∧ k_ ≠ gb189))) (fun _ hk => hk.2) (.slice Ao20 y174.length co20)) (fun _ hk => hk.2) (.slice Ao19 y183.length co19)) (fun _ hk => hk.2) (.slice Ao18 y186.length co18)) (fun _ h_ => h_.1))) (Kd.R_base ho0) hb); have n2_ := Aside0.mk (Kd.R_below (by (with_reducible repeat (first | apply Kd.R_alloc | apply Kd.R_drewN | apply Kd.R_drew)); exact (Kd.R_mono (Kd.R_far (p := ⟨gb189, 2, none⟩) (Kd.R_far (p := ⟨gb189, 1, none⟩) (Kd.R_far (p := ⟨gb189, 0, none⟩) (Kd.R_types HO188.out BK189.out (by decide)) (fun _ hk => hk.2) (.slice Ao20 y174.length co20)) (fun _ hk => hk.2) (.slice Ao19 y183.length co19)) (fun _ hk => hk.2) (.slice Ao18 y186.length co18)) (fun _ h_ => h_.1))) hb); have n3_ := Aside0.mk (Kd.R_lower ho0 (below_size bz)); have n4_ := Aside0.mk (blk_below (g := gb189) (o := .cells #[.slice Ao20 y174.length co20, .slice Ao19 y183.length co19, .slice Ao18 y186.length co18] 25 (0, 0)) (by (with_reducible repeat (first | refine blk_drewN ?_ _ | refine blk_drew ?_ | refine blk_alloc ?_ _)); refine blk_put (cs := #[.slice Ao20 y174.length co20, .slice Ao19 y183.length co19, .slice none 0 0]) ?_ 2 _ rfl; (with_reducible repeat (first | refine blk_drewN ?_ _ | refine blk_drew ?_ | refine blk_alloc ?_ _)); refine blk_put (cs := #[.slice Ao20 y174.length co20, .slice none 0 0, .slice none 0 0]) ?_ 1 _ rfl; (with_reducible repeat (first | refine blk_drewN ?_ _ | refine blk_drew ?_ | refine blk_alloc ?_ _)); refine blk_put (cs := #[.slice none 0 0, .slice none 0 0, .slice none 0 0]) ?_ 0 _ rfl; (with_reducible repeat (first | refine blk_drewN ?_ _ | refine blk_drew ?_ | refine blk_alloc ?_ _)); exact BK189.out) hb); have n5_ := Aside0.mk (below_step bz hb); clear HO176; clear HO185; clear HO188; clear BK189; clear HB; have HO176 := n0_; have HO185 := n1_; have HO188 := n2_; have HO192 := n3_; have BK189 := n4_; have HB := n5_; clear n0_ n1_ n2_ n3_ n4_ n5_; (try clear hb); (try clear hb2); (try clear hk); (try clear hi); (try clear ho0); have hcz24_0 : w23.cell? ⟨gb189, 0, none⟩ = some (.slice Ao20 y174.length co20) := (blk_cell BK189.out 0).trans rfl; have hcz24_1 : w23.cell? ⟨gb189, 1, none⟩ = some (.slice Ao19 y183.length co19) := (blk_cell BK189.out 1).trans rfl; have hcz24_2 : w23.cell? ⟨gb189, 2, none⟩ = some (.slice Ao18 y186.length co18) := (blk_cell BK189.out 2).trans rfl; have hfz24_0 := blk_frozen BK189.out 0; have hfz24_1 := blk_frozen BK189.out 1; have hfz24_2 := blk_frozen BK189.out 2) | ((with_reducible refine gate_callee (f := 15) rfl ?_); refine goesL_ (some 26) rfl rfl Tryd.func15 (by kernel_rfl) rfl #[.agg #[.slice Ao20 y174.length co20, .slice Ao19 y183.length co19, .slice Ao18 y186.length co18]] rfl dz ?_; (with_reducible refine (tests_Worst.calls _ _ y174 _ _ y183 _ _ y186 t195 t198 t199 _ ?side1 ?side2 ?side3 ?side4 ?side5 ?side6 A2.out ?sideT).mono ?_); (case sideT => exact HTab.out.below bz); (case side1 => exact cz ((Kd.R_reads' HO176.out).2.2)); (case side2 => exact (Kd.R_reads' HO176.out).2.1); (case side3 => exact cz ((Kd.N_reads' HO185.out).2.2)); (case side4 => exact (Kd.N_reads' HO185.out).2.1); (case side5 => exact cz ((Kd.R_reads' HO188.out).2.2)); (case side6 => exact (Kd.R_reads' HO188.out).2.1); rintro e w25 ⟨v196, rfl, ho0, hb⟩; refine ⟨_, rfl, ?_⟩; have n0_ := Aside0.mk (Kd.R_below (rz HO176.out) hb); have n1_ := Aside0.mk (Kd.N_elder' (by (with_reducible repeat (first | apply Kd.N_alloc | apply Kd.N_drewN | apply Kd.N_drew)); exact HO185.out) (Kd.R_base ho0) hb); have n2_ := Aside0.mk (Kd.R_below (rz HO188.out) hb); have n3_ := Aside0.mk (Kd.R_elder' (rz HO192.out) (Kd.R_base ho0) hb); have n4_ := Aside0.mk (Kd.R_lower (Kd.R_new' ho0 (Kd.R_lt (rz HO192.out))) (below_size bz)); have n5_ := Aside0.mk (kb BK189.out hb); have n6_ := Aside0.mk (below_step bz hb); clear HO176; clear HO185; clear HO188; clear HO192; clear BK189; clear HB; have HO176 := n0_; have HO185 := n1_; have HO188 := n2_; have HO192 := n3_; have HO197 := n4_; have BK189 := n5_; have HB := n6_; clear n0_ n1_ n2_ n3_ n4_ n5_ n6_; (try clear hb); (try clear hb2); (try clear hk); (try clear hi); (try clear ho0)) | ((with_reducible refine gate_dst (N := 31) rfl ?_); (try (refine gate_guard (by rfl) ?_; dsimp only)); refine Kd.R_lit (Kd.int .i64) _ 3 ?hg (N := 31) ?hd (xs := ([1, 1] : List Int)) (inner := [.int .i64 1, .int .i64 1]) (ok := fun _ => True) (okp := fun _ => True) ?hr ?hp (fun _ hk => hk) trivial (Below.refl _ _) (Nat.le_refl _) (by simp) ?_; (case hd => rfl); (case hg => rfl); (case hr => first | (go_simp; done) | (go_simp; rfl)); (case hp => exact (Reps.one (show Kd.M (Kd.int .i64) _ _ _ 1 [.int .i64 1] from rfl) (Reps.one (show Kd.M (Kd.int .i64) _ _ _ 1 [.int .i64 1] from rfl) (Reps.none _ _)))); intro v201 w26 ho27 hb hg_ hnew_; clear hg_ hnew_; (first | rw [← Ny200.out] at ho27 | (simp only [Int.reduceToNat] at ho27; rw [← Ny200.out] at ho27)); have n0_ := Aside0.mk (Kd.R_elder' (rz HO176.out) (Kd.R_base ho27) hb); have n1_ := Aside0.mk (Kd.N_elder' (by (with_reducible repeat (first | apply Kd.N_alloc | apply Kd.N_drewN | apply Kd.N_drew)); exact HO185.out) (Kd.R_base ho27) hb); have n2_ := Aside0.mk (Kd.R_elder' (rz HO188.out) (Kd.R_base ho27) hb); have n3_ := Aside0.mk (Kd.R_below (rz HO192.out) hb); have n4_ := Aside0.mk (Kd.R_below (rz HO197.out) hb); have n5_ := Aside0.mk (Kd.R_lower (Kd.R_new' (Kd.R_new' ho27 (Kd.R_lt (rz HO176.out))) (Kd.R_lt (rz HO188.out))) (below_size bz)); have n6_ := Aside0.mk (kb BK189.out hb); have n7_ := Aside0.mk (below_step bz hb); clear HO176; clear HO185; clear HO188; clear HO192; clear HO197; clear BK189; clear HB; have HO176 := n0_; have HO185 := n1_; have HO188 := n2_; have HO192 := n3_; have HO197 := n4_; have HO202 := n5_; have BK189 := n6_; have HB := n7_; clear n0_ n1_ n2_ n3_ n4_ n5_ n6_ n7_; clear hb ho27; obtain ⟨Ao28, co28, eo28⟩ := Kd.R_slice HO202.out; subst eo28) | ((with_reducible refine gate_callee (f := 27) rfl ?_); refine goesL_ (some 33) rfl rfl Tryd.func27 (by kernel_rfl) rfl #[.agg #[.slice Ao28 y200.length co28, .slice none 0 0, .slice none 0 0]] rfl dz ?_; (refine (tests_Alike.calls k _ _ y200 _ _ ([] : List (List Int)) _ _ ([] : List Int) t203 t206 _ ?side1 ?side2 ?side3 ?side4 ?side5 ?side6 A3.out).mono ?_); (case side1 => exact cz ((Kd.R_reads' HO202.out).2.2)); (case side2 => exact (Kd.R_reads' HO202.out).2.1); (case side3 => exact Kd.C_nil _ _); (case side4 => exact Nat.le_refl _); (case side5 => exact Kd.C_nil _ _); (case side6 => exact Nat.le_refl _); rintro e w29 ⟨v204, rfl, ho0, hb⟩; refine ⟨_, rfl, ?_⟩; have n0_ := Aside0.mk (Kd.R_below (rz HO176.out) hb); have n1_ := Aside0.mk (Kd.N_elder' (by (with_reducible repeat (first | apply Kd.N_alloc | apply Kd.N_drewN | apply Kd.N_drew)); exact HO185.out) (Kd.R_base ho0) hb); have n2_ := Aside0.mk (Kd.R_below (rz HO188.out) hb); have n3_ := Aside0.mk (Kd.R_below (rz HO192.out) hb); have n4_ := Aside0.mk (Kd.R_below (rz HO197.out) hb); have n5_ := Aside0.mk (Kd.R_below (rz HO202.out) hb); have n6_ := Aside0.mk (Kd.R_lower ho0 (below_size bz)); have n7_ := Aside0.mk (kb BK189.out hb); have n8_ := Aside0.mk (below_step bz hb); clear HO176; clear HO185; clear HO188; clear HO192; clear HO197; clear HO202; clear BK189; clear HB; have HO176 := n0_; have HO185 := n1_; have HO188 := n2_; have HO192 := n3_; have HO197 := n4_; have HO202 := n5_; have HO205 := n6_; have BK189 := n7_; have HB := n8_; clear n0_ n1_ n2_ n3_ n4_ n5_ n6_ n7_ n8_; (try clear hb); (try clear hb2); (try clear hk); (try clear hi); (try clear ho0); have hcz30_0 : w29.cell? ⟨gb189, 0, none⟩ = some (.slice Ao20 y174.length co20) := (blk_cell BK189.out 0).trans rfl; have hcz30_1 : w29.cell? ⟨gb189, 1, none⟩ = some (.slice Ao19 y183.length co19) := (blk_cell BK189.out 1).trans rfl; have hcz30_2 : w29.cell? ⟨gb189, 2, none⟩ = some (.slice Ao18 y186.length co18) := (blk_cell BK189.out 2).trans rfl; have hfz30_0 := blk_frozen BK189.out 0; have hfz30_1 := blk_frozen BK189.out 1; have hfz30_2 := blk_frozen BK189.out 2) | ((with_reducible refine gate_callee (f := 28) rfl ?_); refine goesL_ (some 38) rfl rfl Tryd.func28 (by kernel_rfl) rfl #[.agg #[.slice Ao20 y174.length co20, .slice Ao19 y183.length co19, .slice Ao18 y186.length co18]] rfl dz ?_; (with_reducible refine (tests_Cover.calls _ _ y174 _ _ y183 _ _ y186 t207 t210 _ ?side1 ?side2 ?side3 ?side4 ?side5 ?side6 A4.out).mono ?_); (case side1 => exact cz ((Kd.R_reads' HO176.out).2.2)); (case side2 => exact (Kd.R_reads' HO176.out).2.1); (case side3 => exact cz ((Kd.N_reads' HO185.out).2.2)); (case side4 => exact (Kd.N_reads' HO185.out).2.1); (case side5 => exact cz ((Kd.R_reads' HO188.out).2.2)); (case side6 => exact (Kd.R_reads' HO188.out).2.1); rintro e w31 ⟨v208, rfl, ho0, hb⟩; refine ⟨_, rfl, ?_⟩; have n0_ := Aside0.mk (Kd.R_elder' (rz HO176.out) (Kd.R_base ho0) hb); have n1_ := Aside0.mk (Kd.N_elder' (by (with_reducible repeat (first | apply Kd.N_alloc | apply Kd.N_drewN | apply Kd.N_drew)); exact HO185.out) (Kd.R_base ho0) hb); have n2_ := Aside0.mk (Kd.R_elder' (rz HO188.out) (Kd.R_base ho0) hb); have n3_ := Aside0.mk (Kd.R_below (rz HO192.out) hb); have n4_ := Aside0.mk (Kd.R_below (rz HO197.out) hb); have n5_ := Aside0.mk (Kd.R_elder' (rz HO202.out) (Kd.R_base ho0) hb); have n6_ := Aside0.mk (Kd.R_below (rz HO205.out) hb); have n7_ := Aside0.mk (Kd.R_lower (Kd.R_new' (Kd.R_new' (Kd.R_new' ho0 (Kd.R_lt (rz HO176.out))) (Kd.R_lt (rz HO188.out))) (Kd.R_lt (rz HO202.out))) (below_size bz)); have n8_ := Aside0.mk (kb BK189.out hb); have n9_ := Aside0.mk (below_step bz hb); clear HO176; clear HO185; clear HO188; clear HO192; clear HO197; clear HO202; clear HO205; clear BK189; clear HB; have HO176 := n0_; have HO185 := n1_; have HO188 := n2_; have HO192 := n3_; have HO197 := n4_; have HO202 := n5_; have HO205 := n6_; have HO209 := n7_; have BK189 := n8_; have HB := n9_; clear n0_ n1_ n2_ n3_ n4_ n5_ n6_ n7_ n8_ n9_; (try clear hb); (try clear hb2); (try clear hk); (try clear hi); (try clear ho0)))
 (try simp only [Act.put, List.setIfInBounds_toArray, List.set_cons_zero, List.set_cons_succ])
 go_cut [80] (fun v80 wc => ∃ (kq : Nat) (x80_4 : Bool), v80 = .bool x80_4 ∧ Aside0 (tickinglaw07_awake.j0 kq x80_4 = some r) ∧ Aside0 (kq ≤ k) ∧ Aside0 (Kd.R (Kd.int .i64) 3 wc w.heap.size (fun k_ => some k_ ≠ ((.slice Ao18 y186.length co18) : Value).ownBlock) (.slice Ao20 y174.length co20) y174) ∧ Aside0 (Kd.N (Kd.slice 3 (Kd.int .i64)) 22 wc w.heap.size (fun k_ => some k_ ≠ ((.slice Ao20 y174.length co20) : Value).ownBlock ∧ some k_ ≠ ((.slice Ao18 y186.length co18) : Value).ownBlock ∧ k_ ≠ gb189) (.slice Ao19 y183.length co19) y183) ∧ Aside0 (Kd.R (Kd.int .i64) 3 wc w.heap.size (fun k_ => some k_ ≠ ((.slice Ao20 y174.length co20) : Value).ownBlock) (.slice Ao18 y186.length co18) y186) ∧ Aside0 (wc.heap[gb189]? = some (.cells #[(.slice Ao20 y174.length co20), (.slice Ao19 y183.length co19), (.slice Ao18 y186.length co18)] 25 (0, 0))) ∧ Aside0 (Below w.heap.size w wc))
 case first =>
  have H := HC5.out
  clear HC5
  by_cases c32 : t194 = 0
  ·rw [if_pos c32] at H
   have c32b0 : (t194 == 0) = true := beq_iff_eq.mpr c32
   have c32b1 : (t194 != 0) = false := bne_eq_false_iff_eq.mpr c32
   clear c32
   (first | rw [c32b0] | (simp only [i64_w, i32_w]; rw [c32b0]) | skip)
   by_cases c33 : t193 = 7
   ·rw [if_pos c33] at H
    have c33b0 : (t193 == 7) = true := beq_iff_eq.mpr c33
    have c33b1 : (t193 != 7) = false := bne_eq_false_iff_eq.mpr c33
    clear c33
    by_cases c34 : t199 = 0
    ·rw [if_pos c34] at H
     have c34b0 : (t199 == 0) = true := beq_iff_eq.mpr c34
     have c34b1 : (t199 != 0) = false := bne_eq_false_iff_eq.mpr c34
     clear c34
     by_cases c35 : t198 = 2
     ·rw [if_pos c35] at H
      have c35b0 : (t198 == 2) = true := beq_iff_eq.mpr c35
      have c35b1 : (t198 != 2) = false := bne_eq_false_iff_eq.mpr c35
      clear c35
      by_cases c36 : t206 = 0
      ·rw [if_pos c36] at H
       have c36b0 : (t206 == 0) = true := beq_iff_eq.mpr c36
       have c36b1 : (t206 != 0) = false := bne_eq_false_iff_eq.mpr c36
       clear c36
       by_cases c37 : (t203.length : Int) = 1
       ·rw [if_pos c37] at H
        have c37b0 : ((t203.length : Int) == 1) = true := beq_iff_eq.mpr c37
        have c37b1 : ((t203.length : Int) != 1) = false := bne_eq_false_iff_eq.mpr c37
        clear c37
        by_cases c38 : 0 < (t203.length : Int)
        ·rw [if_pos c38] at H
         have c38b0 : decide (0 < (t203.length : Int)) = true := decide_eq_true c38
         have c38b1 : decide (0 < t203.length) = true := decide_eq_true (by omega)
         clear c38
         by_cases c39 : (!(((rd_T53 t203 0).f0) == 0) || (!(((rd_T53 t203 0).f1) == 1))) = true
         ·rw [if_pos c39] at H
          have c39b0 : (!(((rd_T53 t203 0).f0) == 0) || (!(((rd_T53 t203 0).f1) == 1))) = true := c39
          clear c39
          have H' := Aside0.mk H
          clear H
          obtain ⟨Ao40, co40, eo40⟩ := Kd.R_slice HO205.out
          subst eo40
          have p211 : 0 ≤ (0 : Int) := (by omega)
          have q211 : 0 < (t203.length : Int) := of_decide_eq_true az
          obtain ⟨ad211, e211, hx211_0, hx211_1⟩ := at_T53 (Kd.R_reads' HO205.out).2.2 0 p211 q211
          cases e211
          have qi211 : (0 < t203.length) = True := eq_true (by omega)
          (try rw [show ((0 : Int)).toNat = 0 from rfl] at hx211_0)
          (try rw [show 0 * 2 = 0 from rfl] at hx211_0)
          (try rw [Addr.add_zero'] at hx211_0)
          (try rw [show ((0 : Int)).toNat = 0 from rfl] at hx211_1)
          (try rw [show 0 * 2 = 0 from rfl] at hx211_1)
          (try rw [Addr.add_zero'] at hx211_1)
          replace p211 := eq_true p211
          replace q211 := eq_true q211
          go_wp2
          go_meet
          case rel => exact ⟨_, (true), (by first | rfl | (simp; done) | (simp [*]; done)), H', ⟨by first | omega | exact Nat.le_refl _⟩, ⟨by (with_reducible repeat (first | apply Kd.R_alloc | apply Kd.R_drewN | apply Kd.R_drew)); exact Kd.R_mono HO176.out (fun _ hk => hk.1.1.2)⟩, ⟨by (with_reducible repeat (first | apply Kd.N_alloc | apply Kd.N_drewN | apply Kd.N_drew)); exact Kd.N_mono HO185.out (fun _ hk => ⟨hk.1.1.1.1.1.1.1, ⟨hk.1.1.1.1.1.1.2, hk.1.1.1.1.1.2⟩⟩)⟩, ⟨by (with_reducible repeat (first | apply Kd.R_alloc | apply Kd.R_drewN | apply Kd.R_drew)); exact Kd.R_mono HO188.out (fun _ hk => hk.1.1.2)⟩, ⟨by (with_reducible repeat (first | refine blk_drewN ?_ _ | refine blk_drew ?_ | refine blk_alloc ?_ _)); exact BK189.out⟩, ⟨by repeat (first | (with_reducible first | exact HB.out | apply below_alloc | apply pw_below_drewN | apply below_drew1 | refine below_set ?_ GE189.out) | exact HB.out)⟩⟩
         ·rw [if_neg c39] at H
          have c39b0 : (!(((rd_T53 t203 0).f0) == 0) || (!(((rd_T53 t203 0).f1) == 1))) = false := by simpa using c39
          clear c39
          by_cases c41 : t210 = 0
          ·rw [if_pos c41] at H
           have c41b0 : (t210 == 0) = true := beq_iff_eq.mpr c41
           have c41b1 : (t210 != 0) = false := bne_eq_false_iff_eq.mpr c41
           clear c41
           obtain ⟨y212, hy212⟩ : ∃ y_ : List Int, y_ = (([0, 1] : List Int)) := ⟨_, rfl⟩
           replace H : ((tickinglaw07_ints.f k t207 y212).bind fun t215 => (tickinglaw07_awake.j0 k (!t215))) = some r := by first | (rw [hy212]; with_reducible exact H) | (have H2_ := (Option.bind_some _ _).symm.trans H; rw [hy212]; with_reducible exact H2_) | (have H2_ := (Option.bind_some _ _).symm.trans H; with_reducible exact H2_) | with_reducible exact H | (rw [hy212]; exact H) | exact H
           have Ny212 := Aside0.mk hy212
           clear hy212
           replace H := Option.bind_eq_some_iff.mp H
           obtain ⟨t215, A420, H⟩ := H
           replace H : (tickinglaw07_awake.j0 k (!t215)) = some r := H
           have A42 := Aside0.mk A420
           clear A420
           have H' := Aside0.mk H
           clear H
           obtain ⟨Ao43, co43, eo43⟩ := Kd.R_slice HO205.out
           subst eo43
           have p211 : 0 ≤ (0 : Int) := (by omega)
           have q211 : 0 < (t203.length : Int) := of_decide_eq_true az
           obtain ⟨ad211, e211, hx211_0, hx211_1⟩ := at_T53 (Kd.R_reads' HO205.out).2.2 0 p211 q211
           cases e211
           have qi211 : (0 < t203.length) = True := eq_true (by omega)
           (try rw [show ((0 : Int)).toNat = 0 from rfl] at hx211_0)
           (try rw [show 0 * 2 = 0 from rfl] at hx211_0)
           (try rw [Addr.add_zero'] at hx211_0)
           (try rw [show ((0 : Int)).toNat = 0 from rfl] at hx211_1)
           (try rw [show 0 * 2 = 0 from rfl] at hx211_1)
           (try rw [Addr.add_zero'] at hx211_1)
           replace p211 := eq_true p211
           replace q211 := eq_true q211
           go_wp2_with (first | ((with_reducible refine gate_dst (N := 77) rfl ?_); (try (refine gate_guard (by rfl) ?_; dsimp only)); refine Kd.R_lit (Kd.int .i64) _ 3 ?hg (N := 77) ?hd (xs := ([0, 1] : List Int)) (inner := [.int .i64 0, .int .i64 1]) (ok := fun _ => True) (okp := fun _ => True) ?hr ?hp (fun _ hk => hk) trivial (Below.refl _ _) (Nat.le_refl _) (by simp) ?_; (case hd => rfl); (case hg => rfl); (case hr => first | (go_simp; done) | (go_simp; rfl)); (case hp => exact (Reps.one (show Kd.M (Kd.int .i64) _ _ _ 0 [.int .i64 0] from rfl) (Reps.one (show Kd.M (Kd.int .i64) _ _ _ 1 [.int .i64 1] from rfl) (Reps.none _ _)))); intro v213 w44 ho45 hb hg_ hnew_; clear hg_ hnew_; (first | rw [← Ny212.out] at ho45 | (simp only [Int.reduceToNat] at ho45; rw [← Ny212.out] at ho45)); have n0_ := Aside0.mk (Kd.R_elder' (rz HO176.out) (Kd.R_base ho45) hb); have n1_ := Aside0.mk (Kd.N_elder' (by (with_reducible repeat (first | apply Kd.N_alloc | apply Kd.N_drewN | apply Kd.N_drew)); exact HO185.out) (Kd.R_base ho45) hb); have n2_ := Aside0.mk (Kd.R_elder' (rz HO188.out) (Kd.R_base ho45) hb); have n3_ := Aside0.mk (Kd.R_below (rz HO192.out) hb); have n4_ := Aside0.mk (Kd.R_below (rz HO197.out) hb); have n5_ := Aside0.mk (Kd.R_elder' (rz HO202.out) (Kd.R_base ho45) hb); have n6_ := Aside0.mk (Kd.R_below (rz HO205.out) hb); have n7_ := Aside0.mk (Kd.R_elder' (rz HO209.out) (Kd.R_base ho45) hb); have n8_ := Aside0.mk (Kd.R_lower (Kd.R_new' (Kd.R_new' (Kd.R_new' (Kd.R_new' ho45 (Kd.R_lt (rz HO176.out))) (Kd.R_lt (rz HO188.out))) (Kd.R_lt (rz HO202.out))) (Kd.R_lt (rz HO209.out))) (below_size bz)); have n9_ := Aside0.mk (kb BK189.out hb); have n10_ := Aside0.mk (below_step bz hb); clear HO176; clear HO185; clear HO188; clear HO192; clear HO197; clear HO202; clear HO205; clear HO209; clear BK189; clear HB; have HO176 := n0_; have HO185 := n1_; have HO188 := n2_; have HO192 := n3_; have HO197 := n4_; have HO202 := n5_; have HO205 := n6_; have HO209 := n7_; have HO214 := n8_; have BK189 := n9_; have HB := n10_; clear n0_ n1_ n2_ n3_ n4_ n5_ n6_ n7_ n8_ n9_ n10_; clear hb ho45; obtain ⟨Ao46, co46, eo46⟩ := Kd.R_slice HO209.out; subst eo46; obtain ⟨Ao47, co47, eo47⟩ := Kd.R_slice HO214.out; subst eo47) | (go_at_call 25; (with_reducible refine (tickinglaw07_ints.calls k _ _ t207 _ _ y212 t215 _ ?side1 ?side2 ?side3 ?side4 A42.out).mono ?_); (case side1 => exact cz ((Kd.R_reads' HO209.out).2.2)); (case side2 => exact (Kd.R_reads' HO209.out).2.1); (case side3 => exact cz ((Kd.R_reads' HO214.out).2.2)); (case side4 => exact (Kd.R_reads' HO214.out).2.1); rintro e w' ⟨rfl, ⟨nd, rfl⟩⟩))
           go_meet
           case rel => exact ⟨_, (!t215), (by first | rfl | (simp; done) | (simp [*]; done)), H', ⟨by first | omega | exact Nat.le_refl _⟩, ⟨by (with_reducible repeat (first | apply Kd.R_alloc | apply Kd.R_drewN | apply Kd.R_drew)); exact Kd.R_mono HO176.out (fun _ hk => hk.1.1.1.2)⟩, ⟨by (with_reducible repeat (first | apply Kd.N_alloc | apply Kd.N_drewN | apply Kd.N_drew)); exact Kd.N_mono HO185.out (fun _ hk => ⟨hk.1.1.1.1.1.1.1.1, ⟨hk.1.1.1.1.1.1.1.2, hk.1.1.1.1.1.1.2⟩⟩)⟩, ⟨by (with_reducible repeat (first | apply Kd.R_alloc | apply Kd.R_drewN | apply Kd.R_drew)); exact Kd.R_mono HO188.out (fun _ hk => hk.1.1.1.2)⟩, ⟨by (with_reducible repeat (first | refine blk_drewN ?_ _ | refine blk_drew ?_ | refine blk_alloc ?_ _)); exact BK189.out⟩, ⟨by repeat (first | (with_reducible first | exact HB.out | apply below_alloc | apply pw_below_drewN | apply below_drew1 | refine below_set ?_ GE189.out) | exact HB.out)⟩⟩
          ·rw [if_neg c41] at H
           have c41b0 : (t210 == 0) = false := beq_eq_false_iff_ne.mpr c41
           have c41b1 : (t210 != 0) = true := bne_iff_ne.mpr c41
           have H' := Aside0.mk H
           clear H
           obtain ⟨Ao48, co48, eo48⟩ := Kd.R_slice HO205.out
           subst eo48
           have p211 : 0 ≤ (0 : Int) := (by omega)
           have q211 : 0 < (t203.length : Int) := of_decide_eq_true az
           obtain ⟨ad211, e211, hx211_0, hx211_1⟩ := at_T53 (Kd.R_reads' HO205.out).2.2 0 p211 q211
           cases e211
           have qi211 : (0 < t203.length) = True := eq_true (by omega)
           (try rw [show ((0 : Int)).toNat = 0 from rfl] at hx211_0)
           (try rw [show 0 * 2 = 0 from rfl] at hx211_0)
           (try rw [Addr.add_zero'] at hx211_0)
           (try rw [show ((0 : Int)).toNat = 0 from rfl] at hx211_1)
           (try rw [show 0 * 2 = 0 from rfl] at hx211_1)
           (try rw [Addr.add_zero'] at hx211_1)
           replace p211 := eq_true p211
           replace q211 := eq_true q211
           go_wp2
           go_meet
           case rel => exact ⟨_, (true), (by first | rfl | (simp; done) | (simp [*]; done)), H', ⟨by first | omega | exact Nat.le_refl _⟩, ⟨by (with_reducible repeat (first | apply Kd.R_alloc | apply Kd.R_drewN | apply Kd.R_drew)); exact Kd.R_mono HO176.out (fun _ hk => hk.1.1.2)⟩, ⟨by (with_reducible repeat (first | apply Kd.N_alloc | apply Kd.N_drewN | apply Kd.N_drew)); exact Kd.N_mono HO185.out (fun _ hk => ⟨hk.1.1.1.1.1.1.1, ⟨hk.1.1.1.1.1.1.2, hk.1.1.1.1.1.2⟩⟩)⟩, ⟨by (with_reducible repeat (first | apply Kd.R_alloc | apply Kd.R_drewN | apply Kd.R_drew)); exact Kd.R_mono HO188.out (fun _ hk => hk.1.1.2)⟩, ⟨by (with_reducible repeat (first | refine blk_drewN ?_ _ | refine blk_drew ?_ | refine blk_alloc ?_ _)); exact BK189.out⟩, ⟨by repeat (first | (with_reducible first | exact HB.out | apply below_alloc | apply pw_below_drewN | apply below_drew1 | refine below_set ?_ GE189.out) | exact HB.out)⟩⟩
        ·rw [if_neg c38] at H
         exact absurd H (by simp)
       ·rw [if_neg c37] at H
        have c37b0 : ((t203.length : Int) == 1) = false := beq_eq_false_iff_ne.mpr c37
        have c37b1 : ((t203.length : Int) != 1) = true := bne_iff_ne.mpr c37
        have H' := Aside0.mk H
        clear H
        obtain ⟨Ao49, co49, eo49⟩ := Kd.R_slice HO205.out
        subst eo49
        go_wp2
        go_meet
        case rel => exact ⟨_, (true), (by first | rfl | (simp; done) | (simp [*]; done)), H', ⟨by first | omega | exact Nat.le_refl _⟩, ⟨by (with_reducible repeat (first | apply Kd.R_alloc | apply Kd.R_drewN | apply Kd.R_drew)); exact Kd.R_mono HO176.out (fun _ hk => hk.1.1.2)⟩, ⟨by (with_reducible repeat (first | apply Kd.N_alloc | apply Kd.N_drewN | apply Kd.N_drew)); exact Kd.N_mono HO185.out (fun _ hk => ⟨hk.1.1.1.1.1.1.1, ⟨hk.1.1.1.1.1.1.2, hk.1.1.1.1.1.2⟩⟩)⟩, ⟨by (with_reducible repeat (first | apply Kd.R_alloc | apply Kd.R_drewN | apply Kd.R_drew)); exact Kd.R_mono HO188.out (fun _ hk => hk.1.1.2)⟩, ⟨by (with_reducible repeat (first | refine blk_drewN ?_ _ | refine blk_drew ?_ | refine blk_alloc ?_ _)); exact BK189.out⟩, ⟨by repeat (first | (with_reducible first | exact HB.out | apply below_alloc | apply pw_below_drewN | apply below_drew1 | refine below_set ?_ GE189.out) | exact HB.out)⟩⟩
      ·rw [if_neg c36] at H
       have c36b0 : (t206 == 0) = false := beq_eq_false_iff_ne.mpr c36
       have c36b1 : (t206 != 0) = true := bne_iff_ne.mpr c36
       have H' := Aside0.mk H
       clear H
       go_wp2
       go_meet
       case rel => exact ⟨_, (true), (by first | rfl | (simp; done) | (simp [*]; done)), H', ⟨by first | omega | exact Nat.le_refl _⟩, ⟨by (with_reducible repeat (first | apply Kd.R_alloc | apply Kd.R_drewN | apply Kd.R_drew)); exact Kd.R_mono HO176.out (fun _ hk => hk.1.1.2)⟩, ⟨by (with_reducible repeat (first | apply Kd.N_alloc | apply Kd.N_drewN | apply Kd.N_drew)); exact Kd.N_mono HO185.out (fun _ hk => ⟨hk.1.1.1.1.1.1.1, ⟨hk.1.1.1.1.1.1.2, hk.1.1.1.1.1.2⟩⟩)⟩, ⟨by (with_reducible repeat (first | apply Kd.R_alloc | apply Kd.R_drewN | apply Kd.R_drew)); exact Kd.R_mono HO188.out (fun _ hk => hk.1.1.2)⟩, ⟨by (with_reducible repeat (first | refine blk_drewN ?_ _ | refine blk_drew ?_ | refine blk_alloc ?_ _)); exact BK189.out⟩, ⟨by repeat (first | (with_reducible first | exact HB.out | apply below_alloc | apply pw_below_drewN | apply below_drew1 | refine below_set ?_ GE189.out) | exact HB.out)⟩⟩
     ·rw [if_neg c35] at H
      have c35b0 : (t198 == 2) = false := beq_eq_false_iff_ne.mpr c35
      have c35b1 : (t198 != 2) = true := bne_iff_ne.mpr c35
      have H' := Aside0.mk H
      clear H
      go_wp2
      go_meet
      case rel => exact ⟨_, (true), (by first | rfl | (simp; done) | (simp [*]; done)), H', ⟨by first | omega | exact Nat.le_refl _⟩, ⟨by (with_reducible repeat (first | apply Kd.R_alloc | apply Kd.R_drewN | apply Kd.R_drew)); exact Kd.R_mono HO176.out (fun _ hk => hk.1.1.2)⟩, ⟨by (with_reducible repeat (first | apply Kd.N_alloc | apply Kd.N_drewN | apply Kd.N_drew)); exact Kd.N_mono HO185.out (fun _ hk => ⟨hk.1.1.1.1.1.1.1, ⟨hk.1.1.1.1.1.1.2, hk.1.1.1.1.1.2⟩⟩)⟩, ⟨by (with_reducible repeat (first | apply Kd.R_alloc | apply Kd.R_drewN | apply Kd.R_drew)); exact Kd.R_mono HO188.out (fun _ hk => hk.1.1.2)⟩, ⟨by (with_reducible repeat (first | refine blk_drewN ?_ _ | refine blk_drew ?_ | refine blk_alloc ?_ _)); exact BK189.out⟩, ⟨by repeat (first | (with_reducible first | exact HB.out | apply below_alloc | apply pw_below_drewN | apply below_drew1 | refine below_set ?_ GE189.out) | exact HB.out)⟩⟩
    ·rw [if_neg c34] at H
     have c34b0 : (t199 == 0) = false := beq_eq_false_iff_ne.mpr c34
     have c34b1 : (t199 != 0) = true := bne_iff_ne.mpr c34
     have H' := Aside0.mk H
     clear H
     go_wp2
     go_meet
     case rel => exact ⟨_, (true), (by first | rfl | (simp; done) | (simp [*]; done)), H', ⟨by first | omega | exact Nat.le_refl _⟩, ⟨by (with_reducible repeat (first | apply Kd.R_alloc | apply Kd.R_drewN | apply Kd.R_drew)); exact Kd.R_mono HO176.out (fun _ hk => hk.1.1.2)⟩, ⟨by (with_reducible repeat (first | apply Kd.N_alloc | apply Kd.N_drewN | apply Kd.N_drew)); exact Kd.N_mono HO185.out (fun _ hk => ⟨hk.1.1.1.1.1.1.1, ⟨hk.1.1.1.1.1.1.2, hk.1.1.1.1.1.2⟩⟩)⟩, ⟨by (with_reducible repeat (first | apply Kd.R_alloc | apply Kd.R_drewN | apply Kd.R_drew)); exact Kd.R_mono HO188.out (fun _ hk => hk.1.1.2)⟩, ⟨by (with_reducible repeat (first | refine blk_drewN ?_ _ | refine blk_drew ?_ | refine blk_alloc ?_ _)); exact BK189.out⟩, ⟨by repeat (first | (with_reducible first | exact HB.out | apply below_alloc | apply pw_below_drewN | apply below_drew1 | refine below_set ?_ GE189.out) | exact HB.out)⟩⟩
   ·rw [if_neg c33] at H
    have c33b0 : (t193 == 7) = false := beq_eq_false_iff_ne.mpr c33
    have c33b1 : (t193 != 7) = true := bne_iff_ne.mpr c33
    have H' := Aside0.mk H
    clear H
    go_wp2
    go_meet
    case rel => exact ⟨_, (true), (by first | rfl | (simp; done) | (simp [*]; done)), H', ⟨by first | omega | exact Nat.le_refl _⟩, ⟨by (with_reducible repeat (first | apply Kd.R_alloc | apply Kd.R_drewN | apply Kd.R_drew)); exact Kd.R_mono HO176.out (fun _ hk => hk.1.1.2)⟩, ⟨by (with_reducible repeat (first | apply Kd.N_alloc | apply Kd.N_drewN | apply Kd.N_drew)); exact Kd.N_mono HO185.out (fun _ hk => ⟨hk.1.1.1.1.1.1.1, ⟨hk.1.1.1.1.1.1.2, hk.1.1.1.1.1.2⟩⟩)⟩, ⟨by (with_reducible repeat (first | apply Kd.R_alloc | apply Kd.R_drewN | apply Kd.R_drew)); exact Kd.R_mono HO188.out (fun _ hk => hk.1.1.2)⟩, ⟨by (with_reducible repeat (first | refine blk_drewN ?_ _ | refine blk_drew ?_ | refine blk_alloc ?_ _)); exact BK189.out⟩, ⟨by repeat (first | (with_reducible first | exact HB.out | apply below_alloc | apply pw_below_drewN | apply below_drew1 | refine below_set ?_ GE189.out) | exact HB.out)⟩⟩
  ·rw [if_neg c32] at H
   have c32b0 : (t194 == 0) = false := beq_eq_false_iff_ne.mpr c32
   have c32b1 : (t194 != 0) = true := bne_iff_ne.mpr c32
   (first | rw [c32b0] | (simp only [i64_w, i32_w]; rw [c32b0]) | skip)
   have H' := Aside0.mk H
   clear H
   go_wp2
   go_meet
   case rel => exact ⟨_, (true), (by first | rfl | (simp; done) | (simp [*]; done)), H', ⟨by first | omega | exact Nat.le_refl _⟩, ⟨by (with_reducible repeat (first | apply Kd.R_alloc | apply Kd.R_drewN | apply Kd.R_drew)); exact Kd.R_mono HO176.out (fun _ hk => hk.1.1.2)⟩, ⟨by (with_reducible repeat (first | apply Kd.N_alloc | apply Kd.N_drewN | apply Kd.N_drew)); exact Kd.N_mono HO185.out (fun _ hk => ⟨hk.1.1.1.1.1.1.1, ⟨hk.1.1.1.1.1.1.2, hk.1.1.1.1.1.2⟩⟩)⟩, ⟨by (with_reducible repeat (first | apply Kd.R_alloc | apply Kd.R_drewN | apply Kd.R_drew)); exact Kd.R_mono HO188.out (fun _ hk => hk.1.1.2)⟩, ⟨by (with_reducible repeat (first | refine blk_drewN ?_ _ | refine blk_drew ?_ | refine blk_alloc ?_ _)); exact BK189.out⟩, ⟨by repeat (first | (with_reducible first | exact HB.out | apply below_alloc | apply pw_below_drewN | apply below_drew1 | refine below_set ?_ GE189.out) | exact HB.out)⟩⟩
 case rest =>
  clear HC5
  try clear c1
  try clear c2
  try clear p2
  try clear q2
  try clear hx2
  try clear qi2
  try clear c3
  try clear c4
  try clear c14
  try clear c15
  try clear c17
  try clear p21
  try clear q21
  try clear hx21
  try clear qi21
  try clear c27
  try clear c28
  try clear c32
  try clear c32b0
  try clear c32b1
  try clear c33
  try clear c33b0
  try clear c33b1
  try clear c34
  try clear c34b0
  try clear c34b1
  try clear c35
  try clear c35b0
  try clear c35b1
  try clear c36
  try clear c36b0
  try clear c36b1
  try clear c37
  try clear c37b0
  try clear c37b1
  try clear c38
  try clear c38b0
  try clear c38b1
  try clear c39
  try clear c39b0
  try clear c41
  try clear c41b0
  try clear c41b1
  try clear hcz22_0
  try clear hcz22_1
  try clear hcz22_2
  try clear hcz24_0
  try clear hcz24_1
  try clear hcz24_2
  try clear hcz30_0
  try clear hcz30_1
  try clear hcz30_2
  try clear hfz22_0
  try clear hfz22_1
  try clear hfz22_2
  try clear hfz24_0
  try clear hfz24_1
  try clear hfz24_2
  try clear hfz30_0
  try clear hfz30_1
  try clear hfz30_2
  try clear hx211_0
  try clear hx211_1
  try clear p211
  try clear q211
  obtain ⟨kq, x80_4, rfl, HA, HJ4, HO_190000, HO_190001, HO_190002, BK189, HB⟩ := hcut
  cases kq with
  | zero => exact absurd HA.out (by simp [tickinglaw07_awake.j0])
  | succ kj4 =>
   have H := HA.out
   clear HA
   simp only [tickinglaw07_awake.j0] at H
   by_cases c50 : x80_4 = true
   ·subst c50
    have H1 : (some false) = some r := by rw [if_pos rfl] at H; exact H
    clear H
    have H := H1
    clear H1
    obtain rfl := Option.some.inj H
    go_wp2
    go_ret
    exact ⟨by first | rfl | (simp [errW_none, errW_some] <;> rfl) | (simp [*, errW_none, errW_some] <;> rfl), by repeat (first | (with_reducible first | exact HB.out | apply below_alloc | apply pw_below_drewN | apply below_drew1 | refine below_set ?_ GE189.out) | exact HB.out)⟩
   ·replace c50 := Bool.eq_false_iff.mpr c50
    subst c50
    have H1 : (some true) = some r := by rw [if_neg (show ¬ (false = true) by decide)] at H; exact H
    clear H
    have H := H1
    clear H1
    obtain rfl := Option.some.inj H
    go_wp2
    go_ret
    exact ⟨by first | rfl | (simp [errW_none, errW_some] <;> rfl) | (simp [*, errW_none, errW_some] <;> rfl), by repeat (first | (with_reducible first | exact HB.out | apply below_alloc | apply pw_below_drewN | apply below_drew1 | refine below_set ?_ GE189.out) | exact HB.out)⟩

end Go.Proofs.YtekmiepdodaidaaDoor.X
end

section
namespace Go.Proofs.YtekmiepdodaidaaDoor.X
open Go.RowKit Go.Proofs.YtekmiepdodaidaaDoorW.PrintWords Go.Proofs.YtekmiepdodaidaaDoorW.PrintLast Go.Proofs.YtekmiepdodaidaaDoorW.PrintMore
attribute [local go_sem] max2_int min2_int max_two min_two max_three min_three max_four min_four   -- for this text's walks alone
set_option linter.unusedVariables false
set_option linter.unusedSimpArgs false

def tickinglaw07_own.T1 : Bool × List (List Nat × List Nat) := (true, [([], []), ([0], [0]), ([1], [1]), ([], []), ([3], [3]), ([4, 2], [4]), ([2, 5], [2, 5]), ([], []), ([7, 6, 5, 0, 1, 2, 3, 4, 5, 6, 7], [6, 7])])
def tickinglaw07_own.B1 : List Nat := [0, 1, 3, 0, 8, 31, 63, 0, 255]
theorem tickinglaw07_own.tab1 : rtab .any (opsOf Tryd.f13 1) = tickinglaw07_own.T1 := by kernel_rfl
theorem tickinglaw07_own.bits1 : waitsOk tickinglaw07_own.T1.2 tickinglaw07_own.B1 = true := by kernel_rfl
end Go.Proofs.YtekmiepdodaidaaDoor.X
end

section
/- Layer 7, plain: own, the reference's Case, ints, awake. -/
set_option linter.unusedVariables false
namespace Go.Proofs.YtekmiepdodaidaaDoor.X
open Go.RowKit Go.Proofs.YtekmiepdodaidaaDoorW.PrintWords Go.Proofs.YtekmiepdodaidaaDoorW.PrintLast Go.Proofs.YtekmiepdodaidaaDoorW.PrintMore

theorem w1 (i : Nat) (h : i < 1000000) : wrap64 ((i : Int) + 1) = ((i + 1 : Nat) : Int) := by unfold wrap64; omega
theorem rd_at (l : List Int) (i : Nat) (h : i < l.length) : rd l (i : Int) = l[i] := by simp [rd, List.getD_eq_getElem?_getD, List.getElem?_eq_getElem h]
theorem ints_l0 (x y : List Int) (hl : x.length = y.length) (hx : x.length < 100000) (m : Nat) : ∀ i, i + m = x.length → Ev (fun k => tickinglaw07_ints.l0 k x y (i : Int)) (decide (x.drop i = y.drop i)) := by
 induction m with
 | zero =>
  intro i hi
  obtain rfl : i = x.length := by omega
  refine Ev.step (f := fun _ => some _) (fun k => ?_) (Ev.now _)
  simp only [tickinglaw07_ints.l0]
  rw [if_neg (by omega), List.drop_length, hl, List.drop_length]; simp
 | succ m ih =>
  intro i hi
  have hix : i < x.length := by omega
  have hiy : i < y.length := by omega
  have dx : x.drop i = x[i] :: x.drop (i + 1) := List.drop_eq_getElem_cons hix
  have dy : y.drop i = y[i] :: y.drop (i + 1) := List.drop_eq_getElem_cons hiy
  by_cases he : x[i] = y[i]
  ·have : decide (x.drop i = y.drop i) = decide (x.drop (i + 1) = y.drop (i + 1)) := by rw [dx, dy, he]; exact decide_eq_decide.2 ⟨fun h => (List.cons.inj h).2, fun h => by rw [h]⟩
   rw [this]
   refine Ev.step (fun k => ?_) (ih (i + 1) (by omega))
   show tickinglaw07_ints.l0 (k + 1) x y (i : Int) = _
   simp only [tickinglaw07_ints.l0]
   rw [if_pos (by omega), if_pos (by omega), if_pos (by omega), rd_at x i hix, rd_at y i hiy, if_pos he, w1 i (by omega)]
  ·have : decide (x.drop i = y.drop i) = false := by rw [dx, dy]; exact decide_eq_false (fun h => he (List.cons.inj h).1)
   rw [this]
   refine Ev.step (f := fun _ => some _) (fun k => ?_) (Ev.now _)
   simp only [tickinglaw07_ints.l0]
   rw [if_pos (by omega), if_pos (by omega), if_pos (by omega), rd_at x i hix, rd_at y i hiy, if_neg he]
theorem ints_ev (x y : List Int) (hx : x.length < 100000) : Ev (fun k => tickinglaw07_ints.f k x y) (decide (x = y)) := by
 unfold tickinglaw07_ints.f
 by_cases h : x.length = y.length
 ·refine Ev.congr (fun k => if_pos (by omega)) ?_
  have := ints_l0 x y h hx x.length 0 (by omega)
  simpa using this
 ·refine Ev.congr (f := fun _ => some _) (fun k => if_neg (by omega)) ?_
  have : decide (x = y) = false := by simp; intro e; exact h (by rw [e])
  rw [this]; exact Ev.now _
def aw : List Int := [1, 1, 2]
def at_ : List (List Int) := [[1, 0, 0], [0, 1, 0]]
def ac : List Int := [1, 1]
set_option maxRecDepth 100000 in
theorem aw_best : (optRes (mfMean aw at_ ac) aw at_ ac).2 = (7, 0) := by decide +kernel
set_option maxRecDepth 100000 in
theorem aw_worst : (optRes (mfWorst aw at_ ac) aw at_ ac).2 = (2, 0) := by decide +kernel
set_option maxRecDepth 100000 in
theorem aw_cover : covRes aw at_ ac = ([0, 1], 0) := by decide +kernel
theorem alike_ev (a : List Int) (b : List (List Int)) (c : List Int) : Ev (fun k => tests_Alike.f k a b c) (if caseB a b c = true then (alikeL (onesOf b) a.length, 0) else ([], 2)) := by
 unfold tests_Alike.f
 refine Ev.bind (newTrial_all a b c) ?_
 unfold trialR
 by_cases h : caseB a b c = true
 ·rw [if_pos h, if_pos h]
  have h10 : a.length ≤ 10 := by unfold caseB at h; simp at h; omega
  simp only [if_true]
  unfold tests_trial_alike.f
  rw [if_pos h10]
  exact Ev.now _
 ·rw [if_neg h, if_neg h]
  exact Ev.now _
set_option maxRecDepth 100000 in
theorem aw_alike : (if caseB [1, 1] [] [] = true then (alikeL (onesOf []) [(1 : Int), 1].length, (0 : Int)) else ([], 2)) = ([(⟨0, 1⟩ : S53)], (0 : Int)) := by kernel_rfl
theorem j0_ev (v : Bool) : Ev (fun k => tickinglaw07_awake.j0 k v) (!v) := by
 refine Ev.step (f := fun _ => some _) (fun k => ?_) (Ev.now _)
 cases v <;> rfl
/-- The program is awake. -/
theorem awake_ev : Ev (fun k => tickinglaw07_awake.f k) true := by
 unfold tickinglaw07_awake.f
 simp only [Option.bind_some]
 obtain ⟨p, hp⟩ : ∃ p, tests_Best.f [1, 1, 2] [[1, 0, 0], [0, 1, 0]] [1, 1] = some (p, 7, 0) := ⟨_, by unfold tests_Best.f; rw [← aw_best]; rfl⟩
 obtain ⟨q, hq⟩ : ∃ q, tests_Worst.f [1, 1, 2] [[1, 0, 0], [0, 1, 0]] [1, 1] = some (q, 2, 0) := ⟨_, by unfold tests_Worst.f; rw [← aw_worst]; rfl⟩
 have hc : tests_Cover.f [1, 1, 2] [[1, 0, 0], [0, 1, 0]] [1, 1] = some ([0, 1], 0) := by unfold tests_Cover.f; rw [← aw_cover]; rfl
 rw [hp, hq, hc]
 simp only [Option.bind_some]
 have ha := alike_ev [1, 1] [] []
 rw [aw_alike] at ha
 refine Ev.bind ha ?_
 have hi := ints_ev [0, 1] [0, 1] (by decide)
 have e : (decide ([(0 : Int), 1] = [0, 1])) = true := by decide
 rw [e] at hi
 simp only [List.length_cons, List.length_nil]
 refine Ev.congr (f := fun k => (tickinglaw07_ints.f k [0, 1] [0, 1]).bind fun t => tickinglaw07_awake.j0 k (!t)) (fun k => ?_) ?_
 ·rfl
 ·exact Ev.bind hi (j0_ev false)
end Go.Proofs.YtekmiepdodaidaaDoor.X
end

section
/- Layer 7, plain: weights and parts of sets; the measures. -/
set_option linter.unusedVariables false
namespace Go.Proofs.YtekmiepdodaidaaDoor.X
open Go.RowKit Go.Proofs.YtekmiepdodaidaaDoorW.PrintWords Go.Proofs.YtekmiepdodaidaaDoorW.PrintLast Go.Proofs.YtekmiepdodaidaaDoorW.PrintMore

section
variable {a : List Int} {b : List (List Int)} {c : List Int}
end
section
variable {a : List Int} {b : List (List Int)} {c : List Int}
/-- A row of a case. -/
theorem row_at (h : CaseIs a b c) (t : Nat) (ht : t < b.length) : b[t].length = a.length ∧ ∀ x ∈ b[t], x = 0 ∨ x = 1 := by
 have := List.all_eq_true.1 h.rows b[t] (List.getElem_mem ht)
 unfold rowOkB at this
 simp only [Bool.and_eq_true, beq_iff_eq] at this
 refine ⟨this.1, fun x hx => ?_⟩
 have := (all_inB _ _ _).1 this.2 x hx
 omega
end
end Go.Proofs.YtekmiepdodaidaaDoor.X
end

section
/- Layer 7, plain: the reference's Alike and Best. -/
set_option linter.unusedVariables false
namespace Go.Proofs.YtekmiepdodaidaaDoor.X
open Go.RowKit Go.Proofs.YtekmiepdodaidaaDoorW.PrintWords Go.Proofs.YtekmiepdodaidaaDoorW.PrintLast Go.Proofs.YtekmiepdodaidaaDoorW.PrintMore

section
variable {a : List Int} {b : List (List Int)} {c : List Int}
theorem row_lt (h : CaseIs a b c) (t : Nat) (ht : t < b.length) : rowV b[t] < 1024 := by
 obtain ⟨h1, h2⟩ := row_at h t ht
 have := rowV_lt b[t] h2
 rw [h1] at this
 exact Nat.lt_of_lt_of_le this (Nat.le_trans (Nat.pow_le_pow_right (by omega) h.a10) (by decide))
/-- Two faults are alike in a test exactly if their results are equal. -/
theorem same_row (h : CaseIs a b c) (t : Nat) (ht : t < b.length) (x y : Nat) (hx : x < a.length) (hy : y < a.length) : sameB (x : Int) (y : Int) (rowV b[t] : Int) = (rd b[t] (x : Int) == rd b[t] (y : Int)) := by
 obtain ⟨h1, h2⟩ := row_at h t ht
 have hl := row_lt h t ht
 have ha := h.a10
 unfold sameB
 rw [hasB_nat _ _ hl, hasB_nat _ _ hl, rowV_bit _ h2, rowV_bit _ h2]
 have ex : b[t].getD x 0 = b[t][x] := by simp [List.getD_eq_getElem?_getD, List.getElem?_eq_getElem (show x < b[t].length by omega)]
 have ey : b[t].getD y 0 = b[t][y] := by simp [List.getD_eq_getElem?_getD, List.getElem?_eq_getElem (show y < b[t].length by omega)]
 rw [ex, ey, rd_at _ x (by omega), rd_at _ y (by omega)]
 have := h2 b[t][x] (List.getElem_mem _)
 have := h2 b[t][y] (List.getElem_mem _)
 rcases h2 b[t][x] (List.getElem_mem _) with e1 | e1 <;> rcases h2 b[t][y] (List.getElem_mem _) with e2 | e2 <;> rw [e1, e2] <;> decide
end
end Go.Proofs.YtekmiepdodaidaaDoor.X
end

section
/- Layer 7, plain: the reference's Best. -/
set_option linter.unusedVariables false
namespace Go.Proofs.YtekmiepdodaidaaDoor.X
open Go.RowKit Go.Proofs.YtekmiepdodaidaaDoorW.PrintWords Go.Proofs.YtekmiepdodaidaaDoorW.PrintLast Go.Proofs.YtekmiepdodaidaaDoorW.PrintMore

section
variable {mf : Int → Int → Int → Int → Int} {ones : List Int}
end
section
variable {a : List Int} {b : List (List Int)} {c : List Int}
def far : Int := 1099511627776
end
end Go.Proofs.YtekmiepdodaidaaDoor.X
end

section
/- Layer 7, plain: plans: which lists are plans, the way of a fault, what a plan costs; the reference's Plan, Way, Correct. -/
set_option linter.unusedVariables false
namespace Go.Proofs.YtekmiepdodaidaaDoor.X
open Go.RowKit Go.Proofs.YtekmiepdodaidaaDoorW.PrintWords Go.Proofs.YtekmiepdodaidaaDoorW.PrintLast Go.Proofs.YtekmiepdodaidaaDoorW.PrintMore

/-- Is this a node at place i of a plan of len nodes? -/
def nodeB (n nt len : Nat) (i : Nat) (x : S57) : Bool :=
 if x.f0 = -1 then decide (0 ≤ x.f1) && decide (x.f1 < (n : Int)) && decide (x.f2 = 0) && decide (x.f3 = 0)
 else decide (0 ≤ x.f0) && decide (x.f0 < (nt : Int)) && decide (x.f1 = 0) && decide ((i : Int) < x.f2) && decide (x.f2 < (len : Int)) && decide ((i : Int) < x.f3) && decide (x.f3 < (len : Int))
/-- How often a place is a node's Zero or One. -/
def kidK (x : S57) (j : Nat) : Int := if x.f0 = -1 then 0 else (if x.f2 = (j : Int) then 1 else 0) + (if x.f3 = (j : Int) then 1 else 0)
def cntK : List S57 → Nat → Int
 | [], _ => 0
 | x :: xs, j => kidK x j + cntK xs j
section
variable {a : List Int} {b : List (List Int)} {c : List Int}
end
end Go.Proofs.YtekmiepdodaidaaDoor.X
end

section
/- Layer 7, plain: the way of a fault through a plan, what it costs; the reference's Correct. -/
set_option linter.unusedVariables false
namespace Go.Proofs.YtekmiepdodaidaaDoor.X
open Go.RowKit Go.Proofs.YtekmiepdodaidaaDoorW.PrintWords Go.Proofs.YtekmiepdodaidaaDoorW.PrintLast Go.Proofs.YtekmiepdodaidaaDoorW.PrintMore

/-- A plan's node. -/
structure PlanIs (n nt : Nat) (plan : List S57) : Prop where
 l1 : 1 ≤ plan.length
 l1000 : plan.length ≤ 1000
 node : ∀ i : Nat, i < plan.length → nodeB n nt plan.length i (rd_T57 plan i) = true
section
variable {n nt : Nat} {plan : List S57} (H : PlanIs n nt plan) (b : List (List Int)) (c : List Int)
include H
end
section
variable {a : List Int} {b : List (List Int)} {c : List Int}
end
end Go.Proofs.YtekmiepdodaidaaDoor.X
end

section
/- Layer 7, plain: the plan of a choice of tests is a correct plan; its mean and its worst. -/
set_option linter.unusedVariables false
namespace Go.Proofs.YtekmiepdodaidaaDoor.X
open Go.RowKit Go.Proofs.YtekmiepdodaidaaDoorW.PrintWords Go.Proofs.YtekmiepdodaidaaDoorW.PrintLast Go.Proofs.YtekmiepdodaidaaDoorW.PrintMore

def memB (s : Int) (f : Nat) : Bool := s.toNat.testBit f
structure TreeOk (n nt : Nat) (tf : Int → Int) (ones : List Int) (R : Int → Prop) : Prop where
 runs : Runs tf ones R
 lt : ∀ s, R s → s < (2 ^ n : Nat)
 n10 : n ≤ 10
 len : ones.length = nt
section
variable {n nt : Nat} {tf : Int → Int} {ones : List Int} {R : Int → Prop} (H : TreeOk n nt tf ones R)
include H
end
end Go.Proofs.YtekmiepdodaidaaDoor.X
end

section
/- Layer 7, plain: a case in which all faults differ; what Best and Worst find is the plan's mean and worst. -/
set_option linter.unusedVariables false
namespace Go.Proofs.YtekmiepdodaidaaDoor.X
open Go.RowKit Go.Proofs.YtekmiepdodaidaaDoorW.PrintWords Go.Proofs.YtekmiepdodaidaaDoorW.PrintLast Go.Proofs.YtekmiepdodaidaaDoorW.PrintMore

/-- A case in which all faults differ. -/
structure Differ (a : List Int) (b : List (List Int)) (c : List Int) : Prop where
 is : CaseIs a b c
 al : alikeL (onesOf b) a.length = []
section
variable {a : List Int} {b : List (List Int)} {c : List Int}
theorem Differ.set (D : Differ a b c) : ∀ x ∈ onesOf b, SetB x := onesOf_set D.is.a10 D.is.rows
end
end Go.Proofs.YtekmiepdodaidaaDoor.X
end

section
/- tickingref07.chosen, by hand: rows that came in as elements of a list of the call's own; the case of a full list. -/
set_option linter.unusedVariables false
set_option linter.unusedSimpArgs false
namespace Go.Proofs.YtekmiepdodaidaaDoor.X
open Go.RowKit Go.Proofs.YtekmiepdodaidaaDoorW.PrintWords Go.Proofs.YtekmiepdodaidaaDoorW.PrintLast Go.Proofs.YtekmiepdodaidaaDoorW.PrintMore

/-- A row of whole numbers that was there at W0. -/
def frow (W0 : World) : Kd (List Int) where
 sz := 1
 E := []
 K := fun _ x cs => ∃ A c, cs = [.slice A x.length c] ∧ x.length ≤ c ∧ Kd.C (Kd.int .i64) W0 A x.length x
 M := fun _ _ _ x cs => ∃ A c, cs = [.slice A x.length c] ∧ x.length ≤ c ∧ Kd.C (Kd.int .i64) W0 A x.length x
 K_len := by rintro w x cs ⟨A, c, rfl, _⟩; rfl
 K_one := by rintro w x cs ⟨A, c, rfl, _⟩ u hu; rw [List.mem_singleton.1 hu]; rfl
 K_below := fun _ h => h
 K_of_M := fun h => h
 M_mono := fun _ h => h
 M_bound := fun h => h
 M_move := fun _ h => h
 M_lower := fun _ h => h
theorem frow_C {W0 w : World} {A : Option Addr} {n : Nat} {xs : List (List Int)} (h : (frow W0).C w A n xs) (hb : Below W0.heap.size W0 w) : (Kd.slice 3 (Kd.int .i64)).C w A n xs := by
 unfold Kd.C at h ⊢
 exact ReadsRow.imp_ h (Below.refl _ _) (fun p c ⟨A, cc, h1, h2, h3⟩ => ⟨A, cc, h1, h2, Kd.C_below h3 hb⟩)
/-- The rows of a list of tests. -/
def rowsOf (b : List (List Int)) (l : List Int) : List (List Int) := l.map (rd_L1 b)
section
variable {a : List Int} {b : List (List Int)} {c : List Int}
theorem rows_case (h : CaseIs a b c) {l : List Int} (hl : l.length ≤ 12) (hm : ∀ x ∈ l, 0 ≤ x ∧ x < (b.length : Int)) : CaseIs a (rowsOf b l) (List.replicate (rowsOf b l).length 1) := by
 refine ⟨h.a1, h.a10, by unfold rowsOf; rw [List.length_map]; exact hl, List.length_replicate .., h.wa, fun x hx => by rw [(List.mem_replicate.1 hx).2]; omega, ?_⟩
 rw [List.all_eq_true]
 intro r hr
 obtain ⟨x, hx, rfl⟩ := List.mem_map.1 hr
 have := hm x hx
 refine List.all_eq_true.1 h.rows _ ?_
 have hxb : x.toNat < b.length := by omega
 unfold rd_L1
 rw [List.getD_eq_getElem?_getD, List.getElem?_eq_getElem hxb]
 exact List.getElem_mem hxb
end
section
variable {A0 : Option Addr} {c0 : Nat} {a : List Int} {A1 : Option Addr} {c1 : Nat} {b : List (List Int)} {A2 : Option Addr} {c2 : Nat} {c : List Int} {w : World}
end
end Go.Proofs.YtekmiepdodaidaaDoor.X
end

section
/- Layer 7, plain: Cover: the first smallest set of tests, as the program and as the reference find it. -/
set_option linter.unusedVariables false
namespace Go.Proofs.YtekmiepdodaidaaDoor.X
open Go.RowKit Go.Proofs.YtekmiepdodaidaaDoorW.PrintWords Go.Proofs.YtekmiepdodaidaaDoorW.PrintLast Go.Proofs.YtekmiepdodaidaaDoorW.PrintMore

def AscB : Int → Int → List Int → Prop
 | _, _, [] => True
 | lo, T, x :: xs => lo ≤ x ∧ x < T ∧ AscB (x + 1) T xs
theorem AscB.mono {T T' : Int} (h : T ≤ T') : ∀ {l : List Int} {lo : Int}, AscB lo T l → AscB lo T' l
 | [], _, _ => trivial
 | x :: xs, lo, hl => ⟨hl.1, by have := hl.2.1; omega, AscB.mono h hl.2.2⟩
theorem AscB.snoc {T : Int} : ∀ {l : List Int} {lo : Int}, AscB lo T l → lo ≤ T → AscB lo (T + 1) (l ++ [T])
 | [], lo, _, h => ⟨h, by omega, trivial⟩
 | x :: xs, lo, hl, h => ⟨hl.1, by have := hl.2.1; omega, AscB.snoc hl.2.2 (by have := hl.2.1; omega)⟩
theorem AscB.mem {T : Int} : ∀ {l : List Int} {lo : Int}, AscB lo T l → ∀ x ∈ l, lo ≤ x ∧ x < T
 | [], _, _, x, h => by cases h
 | y :: ys, lo, hl, x, h => by
  rcases List.mem_cons.1 h with rfl | h
  ·exact ⟨hl.1, hl.2.1⟩
  ·have := AscB.mem hl.2.2 x h
   have := hl.1
   omega
theorem AscB.split {T : Int} : ∀ {l : List Int} {lo : Int}, AscB lo (T + 1) l → AscB lo T l ∨ ∃ l', l = l' ++ [T] ∧ AscB lo T l'
 | [], _, _ => .inl trivial
 | x :: xs, lo, h => by
  obtain ⟨h1, h2, h3⟩ := h
  rcases AscB.split h3 with h4 | ⟨l', h4, h5⟩
  ·by_cases e : x = T
   ·subst e
    cases xs with
    | nil => exact .inr ⟨[], rfl, trivial⟩
    | cons y ys => have := h4.1; have := h4.2.1; omega
   ·exact .inl ⟨h1, by omega, h4⟩
  ·by_cases e : x = T
   ·subst e
    subst h4
    cases l' with
    | nil => have := h3.1; have := h3.2.1; omega
    | cons y ys => have := h5.1; have := h5.2.1; omega
   ·exact .inr ⟨x :: l', by rw [h4]; rfl, h1, by omega, h5⟩
theorem AscB.len {T : Int} : ∀ {l : List Int} {lo : Int}, AscB lo T l → lo ≤ T → (l.length : Int) ≤ T - lo
 | [], lo, _, h => by simp; omega
 | x :: xs, lo, hl, h => by
  have := AscB.len hl.2.2 (by have := hl.2.1; omega)
  have := hl.1
  simp only [List.length_cons]
  omega
theorem selB_asc (set : Nat) : ∀ T : Nat, AscB 0 (T : Int) (selB set T)
 | 0 => trivial
 | T + 1 => by
  have ih := selB_asc set T
  unfold selB
  split
  ·have := AscB.snoc ih (by omega)
   rwa [show ((T + 1 : Nat) : Int) = (T : Int) + 1 by omega]
  ·rw [List.append_nil]
   exact ih.mono (by omega)
theorem selB_congr {s s' : Nat} : ∀ T : Nat, (∀ i, i < T → s.testBit i = s'.testBit i) → selB s T = selB s' T
 | 0, _ => rfl
 | T + 1, h => by unfold selB; rw [selB_congr T (fun i hi => h i (by omega)), h T (by omega)]
theorem selB_all : ∀ (T : Nat) (l : List Int), AscB 0 (T : Int) l → ∃ set, set < 2 ^ T ∧ selB set T = l
 | 0, l, h => by
  cases l with
  | nil => exact ⟨0, by simp, rfl⟩
  | cons x xs => have := h.1; have := h.2.1; omega
 | T + 1, l, h => by
  rw [show ((T + 1 : Nat) : Int) = (T : Int) + 1 by omega] at h
  rcases AscB.split h with h1 | ⟨l', rfl, h1⟩
  ·obtain ⟨set, hs, he⟩ := selB_all T l h1
   refine ⟨set, by rw [Nat.pow_succ]; omega, ?_⟩
   unfold selB
   rw [he, if_neg (by rw [Nat.testBit_lt_two_pow hs]; decide), List.append_nil]
  ·obtain ⟨set, hs, he⟩ := selB_all T l' h1
   refine ⟨2 ^ T + set, by rw [Nat.pow_succ]; omega, ?_⟩
   unfold selB
   have h2 : selB (2 ^ T + set) T = selB set T := selB_congr T (fun i hi => Nat.testBit_two_pow_add_gt hi set)
   have h3 : (2 ^ T + set).testBit T = true := by rw [Nat.testBit_two_pow_add_eq, Nat.testBit_lt_two_pow hs]; rfl
   rw [h2, he, if_pos h3]
theorem cmpI_lt (x y : Int) : cmpI x y < 0 ↔ x < y := by unfold cmpI; split <;> (try split) <;> omega
theorem cmpI_eq (x y : Int) : cmpI x y = 0 ↔ x = y := by unfold cmpI; split <;> (try split) <;> omega
theorem cmpL_cons (x y : Int) (a b : List Int) : cmpL (x :: a) (y :: b) < 0 ↔ x < y ∨ (x = y ∧ cmpL a b < 0) := by
 rw [cmpL]
 by_cases h : cmpI x y = 0
 ·rw [if_pos h]
  have := (cmpI_eq x y).1 h
  omega
 ·rw [if_neg h, cmpI_lt]
  have := mt (cmpI_eq x y).2 h
  omega
theorem cmpL_trans : ∀ {a b c : List Int}, cmpL a b < 0 → cmpL b c < 0 → cmpL a c < 0
 | [], [], _, h, _ => by simp [cmpL] at h
 | [], _ :: _, [], _, h => by simp [cmpL] at h
 | [], _ :: _, _ :: _, _, _ => by simp [cmpL]
 | _ :: _, [], _, h, _ => by simp [cmpL] at h
 | _ :: _, _ :: _, [], _, h => by simp [cmpL] at h
 | x :: a, y :: b, z :: c, h1, h2 => by
  rw [cmpL_cons] at h1 h2 ⊢
  rcases h1 with h1 | ⟨rfl, h1⟩ <;> rcases h2 with h2 | ⟨rfl, h2⟩
  ·exact .inl (by omega)
  ·exact .inl h1
  ·exact .inl h2
  ·exact .inr ⟨rfl, cmpL_trans h1 h2⟩
theorem before_iff (l b : List Int) : beforeB l b = true ↔ l.length < b.length ∨ (l.length = b.length ∧ cmpL l b < 0) := by
 unfold beforeB
 rw [decide_eq_true_iff]
 unfold orI
 split
 ·rename_i h
  have := (cmpI_eq _ _).1 h
  omega
 ·rename_i h
  have h2 := mt (cmpI_eq (l.length : Int) (b.length : Int)).2 h
  rw [cmpI_lt]
  omega
theorem before_trans {a b c : List Int} (h1 : beforeB a b = true) (h2 : beforeB b c = true) : beforeB a c = true := by
 rw [before_iff] at *
 rcases h1 with h1 | ⟨h1, h3⟩ <;> rcases h2 with h2 | ⟨h2, h4⟩
 ·exact .inl (by omega)
 ·exact .inl (by omega)
 ·exact .inl (by omega)
 ·exact .inr ⟨by omega, cmpL_trans h3 h4⟩
theorem before_irr (l : List Int) : beforeB l l = false := by
 cases h : beforeB l l with
 | false => rfl
 | true =>
  have h2 := before_trans h h
  rw [before_iff] at h
  exfalso
  rcases h with h | ⟨_, h⟩
  ·omega
  ·have : ∀ (l : List Int), ¬ cmpL l l < 0 := by
    intro l
    induction l with
    | nil => simp [cmpL]
    | cons x xs ih => rw [cmpL_cons]; rintro (h | ⟨_, h⟩); omega; exact ih h
   exact this l h
/-- What the program finds. -/
theorem coverB_is (ones : List Int) (n : Nat) : ∀ M,
  (∀ l, coverB ones n M = some l → (∃ set, set < M ∧ l = selB set ones.length) ∧ apartB ones l n = true ∧ ∀ set, set < M → apartB ones (selB set ones.length) n = true → beforeB (selB set ones.length) l = false) ∧
  (coverB ones n M = none → ∀ set, set < M → apartB ones (selB set ones.length) n = false)
 | 0 => ⟨fun l h => (by cases h), fun _ set h => absurd h (Nat.not_lt_zero _)⟩
 | M + 1 => by
  obtain ⟨h1, h2⟩ := coverB_is ones n M
  cases hc : coverB ones n M with
  | none =>
   have h2 := h2 hc
   have e : coverB ones n (M + 1) = if apartB ones (selB M ones.length) n = true then some (selB M ones.length) else none := by
    show coverStep ones n (coverB ones n M) M = _
    rw [hc]; unfold coverStep coverTake; simp only [Bool.and_true]
   rw [e]
   by_cases ha : apartB ones (selB M ones.length) n = true
   ·rw [if_pos ha]
    refine ⟨fun l hl => ?_, fun h => (by cases h)⟩
    obtain rfl := Option.some.inj hl
    refine ⟨⟨M, Nat.lt_succ_self _, rfl⟩, ha, fun set hs hap => ?_⟩
    by_cases es : set = M
    ·subst es; exact before_irr _
    ·rw [h2 set (by omega)] at hap; cases hap
   ·rw [if_neg ha]
    refine ⟨fun l hl => (by cases hl), fun _ set hs => ?_⟩
    by_cases es : set = M
    ·subst es; simpa using ha
    ·exact h2 set (by omega)
  | some lb =>
   obtain ⟨⟨sb, hsb, rfl⟩, hap, hmin⟩ := h1 lb hc
   have e : coverB ones n (M + 1) = if (apartB ones (selB M ones.length) n && beforeB (selB M ones.length) (selB sb ones.length)) = true then some (selB M ones.length) else some (selB sb ones.length) := by
    show coverStep ones n (coverB ones n M) M = _
    rw [hc]; rfl
   rw [e]
   by_cases ht : (apartB ones (selB M ones.length) n && beforeB (selB M ones.length) (selB sb ones.length)) = true
   ·rw [if_pos ht]
    refine ⟨fun l hl => ?_, fun h => (by cases h)⟩
    obtain rfl := Option.some.inj hl
    rw [Bool.and_eq_true] at ht
    refine ⟨⟨M, Nat.lt_succ_self _, rfl⟩, ht.1, fun set hs hap2 => ?_⟩
    by_cases es : set = M
    ·subst es; exact before_irr _
    ·cases hb : beforeB (selB set ones.length) (selB M ones.length) with
     | false => rfl
     | true =>
      have := hmin set (by omega) hap2
      rw [before_trans hb ht.2] at this
      cases this
   ·rw [if_neg ht]
    refine ⟨fun l hl => ?_, fun h => (by cases h)⟩
    obtain rfl := Option.some.inj hl
    refine ⟨⟨sb, by omega, rfl⟩, hap, fun set hs hap2 => ?_⟩
    by_cases es : set = M
    ·subst es
     rw [hap2, Bool.true_and] at ht
     simpa using ht
    ·exact hmin set (by omega) hap2
theorem resB_eq (ones : List Int) (i j : Nat) : ∀ (l : List Int) (r r' : Nat), resB ones i l r = resB ones j l r' ↔ r = r' ∧ ∀ k ∈ l, hasB (rd ones k) i = hasB (rd ones k) j
 | [], r, r' => by simp [resB]
 | k :: l, r, r' => by
  unfold resB
  rw [resB_eq ones i j l]
  constructor
  ·rintro ⟨h1, h2⟩
   have : hasB (rd ones k) i = hasB (rd ones k) j ∧ r = r' := by
    cases ha : hasB (rd ones k) i <;> cases hb : hasB (rd ones k) j <;> simp [ha, hb] at h1 ⊢ <;> omega
   exact ⟨this.2, fun q hq => by rcases List.mem_cons.1 hq with rfl | hq; exact this.1; exact h2 q hq⟩
  ·rintro ⟨rfl, h2⟩
   rw [h2 k (by simp)]
   exact ⟨rfl, fun q hq => h2 q (by simp [hq])⟩
theorem apart_iff (ones l : List Int) : ∀ n : Nat, apartB ones l n = true ↔ ∀ j, j < n → ∀ i, i < j → ∃ k ∈ l, sameB (i : Int) (j : Int) (rd ones k) = false
 | 0 => by simp [apartB_zero]
 | n + 1 => by
  rw [apartB_snoc, Bool.and_eq_true, apart_iff ones l n, decide_eq_true_iff]
  have key : ∀ i : Nat, resB ones i l 0 ≠ resB ones n l 0 ↔ ∃ k ∈ l, sameB (i : Int) (n : Int) (rd ones k) = false := by
   intro i
   rw [ne_eq, resB_eq]
   unfold sameB
   constructor
   ·intro h
    refine Classical.byContradiction fun hn => h ⟨rfl, fun k hk => ?_⟩
    refine Classical.byContradiction fun hk2 => hn ⟨k, hk, by simpa using hk2⟩
   ·rintro ⟨k, hk, h1⟩ ⟨_, h2⟩
    rw [h2 k hk] at h1
    simp at h1
  constructor
  ·rintro ⟨h1, h2⟩ j hj i hi
   by_cases e : j = n
   ·subst e; exact (key i).1 (h2 i hi)
   ·exact h1 j (by omega) i hi
  ·intro h
   exact ⟨fun j hj i hi => h j (by omega) i hi, fun i hi => (key i).2 (h n (by omega) i hi)⟩
theorem pairsIn_nil {ones : List Int} {a : Nat} : ∀ (m b : Nat), (∀ j, j < m → ∃ x ∈ ones, sameB (a : Int) ((b + j : Nat) : Int) x = false) → pairsIn ones a b m = []
 | 0, _, _ => rfl
 | m + 1, b, h => by
  unfold pairsIn
  obtain ⟨x, hx, hs⟩ := h 0 (by omega)
  rw [Nat.add_zero] at hs
  rw [if_neg (by intro hall; rw [List.all_eq_true.1 hall x hx] at hs; cases hs), List.nil_append]
  exact pairsIn_nil m (b + 1) (fun j hj => by have := h (j + 1) (by omega); rwa [show b + (j + 1) = b + 1 + j by omega] at this)
theorem pairsOut_nil {ones : List Int} {n : Nat} (h : ∀ j, j < n → ∀ i, i < j → ∃ x ∈ ones, sameB (i : Int) (j : Int) x = false) : ∀ (m a : Nat), a + m = n → pairsOut ones n a m = []
 | 0, _, _ => rfl
 | m + 1, a, ha => by
  unfold pairsOut
  rw [pairsIn_nil _ _ (fun j hj => h (a + 1 + j) (by omega) a (by omega)), List.nil_append]
  exact pairsOut_nil h m (a + 1) (by omega)
theorem alikeL_iff (ones : List Int) (n : Nat) : alikeL ones n = [] ↔ ∀ j, j < n → ∀ i, i < j → ∃ x ∈ ones, sameB (i : Int) (j : Int) x = false :=
 ⟨fun h j hj i hi => alikeL_none h hi hj, fun h => pairsOut_nil h n 0 (by omega)⟩
theorem rows_ones {b : List (List Int)} {l : List Int} (hm : ∀ x ∈ l, 0 ≤ x ∧ x < (b.length : Int)) : onesOf (rowsOf b l) = l.map (rd (onesOf b)) := by
 unfold onesOf rowsOf
 rw [List.map_map]
 refine List.map_congr_left (fun x hx => ?_)
 have h := hm x hx
 have hl : x.toNat < b.length := by omega
 simp [rd_L1, rd, List.getD_eq_getElem?_getD, List.getElem?_map, List.getElem?_eq_getElem hl]
theorem rows_apart {b : List (List Int)} {l : List Int} (hm : ∀ x ∈ l, 0 ≤ x ∧ x < (b.length : Int)) (n : Nat) : alikeL (onesOf (rowsOf b l)) n = [] ↔ apartB (onesOf b) l n = true := by
 rw [alikeL_iff, apart_iff, rows_ones hm]
 constructor
 ·intro h j hj i hi
  obtain ⟨x, hx, hs⟩ := h j hj i hi
  obtain ⟨k, hk, rfl⟩ := List.mem_map.1 hx
  exact ⟨k, hk, hs⟩
 ·intro h j hj i hi
  obtain ⟨k, hk, hs⟩ := h j hj i hi
  exact ⟨_, List.mem_map.2 ⟨k, hk, rfl⟩, hs⟩
section
variable {a : List Int} {b : List (List Int)} {c : List Int}
/-- The program's cover, and what makes it the reference's. -/
theorem cover_has (D : Differ a b c) : ∃ l, coverB (onesOf b) a.length (2 ^ (onesOf b).length) = some l ∧ AscB 0 b.length l ∧ alikeL (onesOf (rowsOf b l)) a.length = [] ∧ ∀ l', AscB 0 b.length l' → alikeL (onesOf (rowsOf b l')) a.length = [] → beforeB l' l = false := by
 have hlen : (onesOf b).length = b.length := onesOf_len
 have mem : ∀ l, AscB 0 b.length l → ∀ x ∈ l, 0 ≤ x ∧ x < (b.length : Int) := fun l h x hx => h.mem x hx
 obtain ⟨h1, h2⟩ := coverB_is (onesOf b) a.length (2 ^ (onesOf b).length)
 cases hc : coverB (onesOf b) a.length (2 ^ (onesOf b).length) with
 | none =>
  exfalso
  -- all tests together
  have h3 := h2 hc (2 ^ (onesOf b).length - 1) (by have := Nat.two_pow_pos (onesOf b).length; omega)
  have : apartB (onesOf b) (selB (2 ^ (onesOf b).length - 1) (onesOf b).length) a.length = true := by
   rw [apart_iff]
   intro j hj i hi
   obtain ⟨x, hx, hs⟩ := alikeL_none D.al hi hj
   obtain ⟨t, ht, rfl⟩ := List.mem_iff_getElem.1 hx
   refine ⟨(t : Int), ?_, by simpa [rd, List.getD_eq_getElem?_getD, List.getElem?_eq_getElem ht] using hs⟩
   have : ∀ (T s : Nat), (∀ i, i < T → s.testBit i = true) → ∀ t, t < T → (t : Int) ∈ selB s T := by
    intro T s hb
    induction T with
    | zero => intro t ht; omega
    | succ T ih =>
     intro t ht
     unfold selB
     rw [if_pos (hb T (by omega)), List.mem_append]
     by_cases e : t = T
     ·subst e; exact .inr (by simp)
     ·exact .inl (ih (fun i hi => hb i (by omega)) t (by omega))
   exact this _ _ (fun i hi => by rw [Nat.testBit_two_pow_sub_one]; simpa using hi) t ht
  rw [this] at h3
  cases h3
 | some l =>
  obtain ⟨⟨set, hs, rfl⟩, hap, hmin⟩ := h1 l hc
  have hasc := selB_asc set (onesOf b).length
  rw [hlen] at hasc
  refine ⟨_, rfl, by rw [hlen]; exact hasc, (rows_apart (fun x hx => mem _ (by rw [hlen]; exact hasc) x hx) _).2 hap, fun l' hA hP => ?_⟩
  obtain ⟨s', hs', rfl⟩ := selB_all b.length l' hA
  have := hmin s' (by rw [hlen]; exact hs') (by rw [hlen]; exact (rows_apart (mem _ hA) _).1 hP)
  rw [hlen] at this ⊢
  exact this
end
end Go.Proofs.YtekmiepdodaidaaDoor.X
end
