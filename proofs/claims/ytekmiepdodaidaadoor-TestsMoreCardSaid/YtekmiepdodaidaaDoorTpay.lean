/- Texts behind TestsMore, part 25: contracts of the program's functions and the plain words for them. -/
import Derived.Test.YtekmiepdodaidaaDoorTpas
import Derived.Test.YtekmiepdodaidaaDoorTpaw
import Derived.Test.YtekmiepdodaidaaDoorTpax
section
namespace Go.Proofs.YtekmiepdodaidaaDoor.X
open Go.RowKit Go.Proofs.YtekmiepdodaidaaDoorW.PrintWords Go.Proofs.YtekmiepdodaidaaDoorW.PrintLast Go.Proofs.YtekmiepdodaidaaDoorW.PrintMore
attribute [local go_sem] max2_int min2_int max_two min_two max_three min_three max_four min_four   -- for this text's walks alone
set_option linter.unusedVariables false
set_option linter.unusedSimpArgs false

attribute [local go_sem high] eqA53
def tickinglaw07_awake.j0 : Nat → Bool → Option (Bool)
 | 0, _ => none
 | k + 1, x80 => if x80 = true then (some false) else (some true)
def tickinglaw07_awake.f (k : Nat)  : Option (Bool) := (some (([1, 1, 2] : List Int) : List Int)).bind fun y174 => ((some (([(([1, 0, 0] : List Int)), (([0, 1, 0] : List Int))] : List (List Int)) : List (List Int))).bind fun y183 => ((some (([1, 1] : List Int) : List Int)).bind fun y186 => ((tests_Best.f y174 y183 y186).bind fun bt190 => ((tests_Worst.f y174 y183 y186).bind fun bt195 => ((tests_Alike.f k (([1, 1] : List Int)) ([] : List (List Int)) ([] : List Int)).bind fun bt203 => ((tests_Cover.f y174 y183 y186).bind fun bt207 => (if bt190.2.2 = 0 then (if bt190.2.1 = 7 then (if bt195.2.2 = 0 then (if bt195.2.1 = 2 then (if bt203.2 = 0 then (if (bt203.1.length : Int) = 1 then (if 0 < (bt203.1.length : Int) then (if (!(((rd_T53 bt203.1 0).f0) == 0) || (!(((rd_T53 bt203.1 0).f1) == 1))) = true then (tickinglaw07_awake.j0 k true) else (if bt207.2 = 0 then ((tickinglaw07_ints.f k bt207.1 (([0, 1] : List Int))).bind fun t215 => (tickinglaw07_awake.j0 k (!t215))) else (tickinglaw07_awake.j0 k true))) else (none)) else (tickinglaw07_awake.j0 k true)) else (tickinglaw07_awake.j0 k true)) else (tickinglaw07_awake.j0 k true)) else (tickinglaw07_awake.j0 k true)) else (tickinglaw07_awake.j0 k true)) else (tickinglaw07_awake.j0 k true))))))))
set_option maxHeartbeats 8000000 in
set_option maxRecDepth 100000 in
theorem tickinglaw07_awake.calls (k : Nat)  (r : Bool) (w : World) (h : tickinglaw07_awake.f k  = some r) (hTab : Tab w) :
  Calls Tryd.prog 17 #[] w fun e w' => e = .returned (.bool r) ∧ Below w.heap.size w w' := by
 have HTab := Aside0.mk hTab
 clear hTab
 have hu25 := Tryd.underlying25
 have hu53 := Tryd.underlying53
 have HB := Aside0.mk (Below.refl w.heap.size w)
 have H : ((some (([1, 1, 2] : List Int) : List Int)).bind fun y174 => ((some (([(([1, 0, 0] : List Int)), (([0, 1, 0] : List Int))] : List (List Int)) : List (List Int))).bind fun y183 => ((some (([1, 1] : List Int) : List Int)).bind fun y186 => ((tests_Best.f y174 y183 y186).bind fun bt190 => ((tests_Worst.f y174 y183 y186).bind fun bt195 => ((tests_Alike.f k (([1, 1] : List Int)) ([] : List (List Int)) ([] : List Int)).bind fun bt203 => ((tests_Cover.f y174 y183 y186).bind fun bt207 => (if bt190.2.2 = 0 then (if bt190.2.1 = 7 then (if bt195.2.2 = 0 then (if bt195.2.1 = 2 then (if bt203.2 = 0 then (if (bt203.1.length : Int) = 1 then (if 0 < (bt203.1.length : Int) then (if (!(((rd_T53 bt203.1 0).f0) == 0) || (!(((rd_T53 bt203.1 0).f1) == 1))) = true then (tickinglaw07_awake.j0 k true) else (if bt207.2 = 0 then ((tickinglaw07_ints.f k bt207.1 (([0, 1] : List Int))).bind fun t215 => (tickinglaw07_awake.j0 k (!t215))) else (tickinglaw07_awake.j0 k true))) else (none)) else (tickinglaw07_awake.j0 k true)) else (tickinglaw07_awake.j0 k true)) else (tickinglaw07_awake.j0 k true)) else (tickinglaw07_awake.j0 k true)) else (tickinglaw07_awake.j0 k true)) else (tickinglaw07_awake.j0 k true))))))))) = some r := h
 clear h
 obtain ⟨y174, hy174⟩ : ∃ y_ : List Int, y_ = (([1, 1, 2] : List Int)) := ⟨_, rfl⟩
 replace H : ((some (([(([1, 0, 0] : List Int)), (([0, 1, 0] : List Int))] : List (List Int)) : List (List Int))).bind fun y183 => ((some (([1, 1] : List Int) : List Int)).bind fun y186 => ((tests_Best.f y174 y183 y186).bind fun bt190 => ((tests_Worst.f y174 y183 y186).bind fun bt195 => ((tests_Alike.f k (([1, 1] : List Int)) ([] : List (List Int)) ([] : List Int)).bind fun bt203 => ((tests_Cover.f y174 y183 y186).bind fun bt207 => (if bt190.2.2 = 0 then (if bt190.2.1 = 7 then (if bt195.2.2 = 0 then (if bt195.2.1 = 2 then (if bt203.2 = 0 then (if (bt203.1.length : Int) = 1 then (if 0 < (bt203.1.length : Int) then (if (!(((rd_T53 bt203.1 0).f0) == 0) || (!(((rd_T53 bt203.1 0).f1) == 1))) = true then (tickinglaw07_awake.j0 k true) else (if bt207.2 = 0 then ((tickinglaw07_ints.f k bt207.1 (([0, 1] : List Int))).bind fun t215 => (tickinglaw07_awake.j0 k (!t215))) else (tickinglaw07_awake.j0 k true))) else (none)) else (tickinglaw07_awake.j0 k true)) else (tickinglaw07_awake.j0 k true)) else (tickinglaw07_awake.j0 k true)) else (tickinglaw07_awake.j0 k true)) else (tickinglaw07_awake.j0 k true)) else (tickinglaw07_awake.j0 k true)))))))) = some r := by first | (rw [hy174]; with_reducible exact H) | (have H2_ := (Option.bind_some _ _).symm.trans H; rw [hy174]; with_reducible exact H2_) | (have H2_ := (Option.bind_some _ _).symm.trans H; with_reducible exact H2_) | with_reducible exact H | (rw [hy174]; exact H) | exact H
 have Ny174 := Aside0.mk hy174
 clear hy174
 obtain ⟨y177, hy177⟩ : ∃ y_ : List Int, y_ = (([1, 0, 0] : List Int)) := ⟨_, rfl⟩
 replace H : ((some (([y177, (([0, 1, 0] : List Int))] : List (List Int)) : List (List Int))).bind fun y183 => ((some (([1, 1] : List Int) : List Int)).bind fun y186 => ((tests_Best.f y174 y183 y186).bind fun bt190 => ((tests_Worst.f y174 y183 y186).bind fun bt195 => ((tests_Alike.f k (([1, 1] : List Int)) ([] : List (List Int)) ([] : List Int)).bind fun bt203 => ((tests_Cover.f y174 y183 y186).bind fun bt207 => (if bt190.2.2 = 0 then (if bt190.2.1 = 7 then (if bt195.2.2 = 0 then (if bt195.2.1 = 2 then (if bt203.2 = 0 then (if (bt203.1.length : Int) = 1 then (if 0 < (bt203.1.length : Int) then (if (!(((rd_T53 bt203.1 0).f0) == 0) || (!(((rd_T53 bt203.1 0).f1) == 1))) = true then (tickinglaw07_awake.j0 k true) else (if bt207.2 = 0 then ((tickinglaw07_ints.f k bt207.1 (([0, 1] : List Int))).bind fun t215 => (tickinglaw07_awake.j0 k (!t215))) else (tickinglaw07_awake.j0 k true))) else (none)) else (tickinglaw07_awake.j0 k true)) else (tickinglaw07_awake.j0 k true)) else (tickinglaw07_awake.j0 k true)) else (tickinglaw07_awake.j0 k true)) else (tickinglaw07_awake.j0 k true)) else (tickinglaw07_awake.j0 k true)))))))) = some r := by first | (rw [hy177]; with_reducible exact H) | (have H2_ := (Option.bind_some _ _).symm.trans H; rw [hy177]; with_reducible exact H2_) | (have H2_ := (Option.bind_some _ _).symm.trans H; with_reducible exact H2_) | with_reducible exact H | (rw [hy177]; exact H) | exact H
 have Ny177 := Aside0.mk hy177
 clear hy177
 obtain ⟨y180, hy180⟩ : ∃ y_ : List Int, y_ = (([0, 1, 0] : List Int)) := ⟨_, rfl⟩
 replace H : ((some (([y177, y180] : List (List Int)) : List (List Int))).bind fun y183 => ((some (([1, 1] : List Int) : List Int)).bind fun y186 => ((tests_Best.f y174 y183 y186).bind fun bt190 => ((tests_Worst.f y174 y183 y186).bind fun bt195 => ((tests_Alike.f k (([1, 1] : List Int)) ([] : List (List Int)) ([] : List Int)).bind fun bt203 => ((tests_Cover.f y174 y183 y186).bind fun bt207 => (if bt190.2.2 = 0 then (if bt190.2.1 = 7 then (if bt195.2.2 = 0 then (if bt195.2.1 = 2 then (if bt203.2 = 0 then (if (bt203.1.length : Int) = 1 then (if 0 < (bt203.1.length : Int) then (if (!(((rd_T53 bt203.1 0).f0) == 0) || (!(((rd_T53 bt203.1 0).f1) == 1))) = true then (tickinglaw07_awake.j0 k true) else (if bt207.2 = 0 then ((tickinglaw07_ints.f k bt207.1 (([0, 1] : List Int))).bind fun t215 => (tickinglaw07_awake.j0 k (!t215))) else (tickinglaw07_awake.j0 k true))) else (none)) else (tickinglaw07_awake.j0 k true)) else (tickinglaw07_awake.j0 k true)) else (tickinglaw07_awake.j0 k true)) else (tickinglaw07_awake.j0 k true)) else (tickinglaw07_awake.j0 k true)) else (tickinglaw07_awake.j0 k true)))))))) = some r := by first | (rw [hy180]; with_reducible exact H) | (have H2_ := (Option.bind_some _ _).symm.trans H; rw [hy180]; with_reducible exact H2_) | (have H2_ := (Option.bind_some _ _).symm.trans H; with_reducible exact H2_) | with_reducible exact H | (rw [hy180]; exact H) | exact H
 have Ny180 := Aside0.mk hy180
 clear hy180
 obtain ⟨y183, hy183⟩ : ∃ y_ : List (List Int), y_ = (([y177, y180] : List (List Int))) := ⟨_, rfl⟩
 replace H : ((some (([1, 1] : List Int) : List Int)).bind fun y186 => ((tests_Best.f y174 y183 y186).bind fun bt190 => ((tests_Worst.f y174 y183 y186).bind fun bt195 => ((tests_Alike.f k (([1, 1] : List Int)) ([] : List (List Int)) ([] : List Int)).bind fun bt203 => ((tests_Cover.f y174 y183 y186).bind fun bt207 => (if bt190.2.2 = 0 then (if bt190.2.1 = 7 then (if bt195.2.2 = 0 then (if bt195.2.1 = 2 then (if bt203.2 = 0 then (if (bt203.1.length : Int) = 1 then (if 0 < (bt203.1.length : Int) then (if (!(((rd_T53 bt203.1 0).f0) == 0) || (!(((rd_T53 bt203.1 0).f1) == 1))) = true then (tickinglaw07_awake.j0 k true) else (if bt207.2 = 0 then ((tickinglaw07_ints.f k bt207.1 (([0, 1] : List Int))).bind fun t215 => (tickinglaw07_awake.j0 k (!t215))) else (tickinglaw07_awake.j0 k true))) else (none)) else (tickinglaw07_awake.j0 k true)) else (tickinglaw07_awake.j0 k true)) else (tickinglaw07_awake.j0 k true)) else (tickinglaw07_awake.j0 k true)) else (tickinglaw07_awake.j0 k true)) else (tickinglaw07_awake.j0 k true))))))) = some r := by first | (rw [hy183]; with_reducible exact H) | (have H2_ := (Option.bind_some _ _).symm.trans H; rw [hy183]; with_reducible exact H2_) | (have H2_ := (Option.bind_some _ _).symm.trans H; with_reducible exact H2_) | with_reducible exact H | (rw [hy183]; exact H) | exact H
 have Ny183 := Aside0.mk hy183
 clear hy183
 obtain ⟨y186, hy186⟩ : ∃ y_ : List Int, y_ = (([1, 1] : List Int)) := ⟨_, rfl⟩
 replace H : ((tests_Best.f y174 y183 y186).bind fun bt190 => ((tests_Worst.f y174 y183 y186).bind fun bt195 => ((tests_Alike.f k (([1, 1] : List Int)) ([] : List (List Int)) ([] : List Int)).bind fun bt203 => ((tests_Cover.f y174 y183 y186).bind fun bt207 => (if bt190.2.2 = 0 then (if bt190.2.1 = 7 then (if bt195.2.2 = 0 then (if bt195.2.1 = 2 then (if bt203.2 = 0 then (if (bt203.1.length : Int) = 1 then (if 0 < (bt203.1.length : Int) then (if (!(((rd_T53 bt203.1 0).f0) == 0) || (!(((rd_T53 bt203.1 0).f1) == 1))) = true then (tickinglaw07_awake.j0 k true) else (if bt207.2 = 0 then ((tickinglaw07_ints.f k bt207.1 (([0, 1] : List Int))).bind fun t215 => (tickinglaw07_awake.j0 k (!t215))) else (tickinglaw07_awake.j0 k true))) else (none)) else (tickinglaw07_awake.j0 k true)) else (tickinglaw07_awake.j0 k true)) else (tickinglaw07_awake.j0 k true)) else (tickinglaw07_awake.j0 k true)) else (tickinglaw07_awake.j0 k true)) else (tickinglaw07_awake.j0 k true)))))) = some r := by first | (rw [hy186]; with_reducible exact H) | (have H2_ := (Option.bind_some _ _).symm.trans H; rw [hy186]; with_reducible exact H2_) | (have H2_ := (Option.bind_some _ _).symm.trans H; with_reducible exact H2_) | with_reducible exact H | (rw [hy186]; exact H) | exact H
 have Ny186 := Aside0.mk hy186
 clear hy186
 replace H := Option.bind_eq_some_iff.mp H
 obtain ⟨⟨t190, t193, t194⟩, A10, H⟩ := H
 replace H : ((tests_Worst.f y174 y183 y186).bind fun bt195 => ((tests_Alike.f k (([1, 1] : List Int)) ([] : List (List Int)) ([] : List Int)).bind fun bt203 => ((tests_Cover.f y174 y183 y186).bind fun bt207 => (if t194 = 0 then (if t193 = 7 then (if bt195.2.2 = 0 then (if bt195.2.1 = 2 then (if bt203.2 = 0 then (if (bt203.1.length : Int) = 1 then (if 0 < (bt203.1.length : Int) then (if (!(((rd_T53 bt203.1 0).f0) == 0) || (!(((rd_T53 bt203.1 0).f1) == 1))) = true then (tickinglaw07_awake.j0 k true) else (if bt207.2 = 0 then ((tickinglaw07_ints.f k bt207.1 (([0, 1] : List Int))).bind fun t215 => (tickinglaw07_awake.j0 k (!t215))) else (tickinglaw07_awake.j0 k true))) else (none)) else (tickinglaw07_awake.j0 k true)) else (tickinglaw07_awake.j0 k true)) else (tickinglaw07_awake.j0 k true)) else (tickinglaw07_awake.j0 k true)) else (tickinglaw07_awake.j0 k true)) else (tickinglaw07_awake.j0 k true))))) = some r := H
 have A1 := Aside0.mk A10
 clear A10
 replace H := Option.bind_eq_some_iff.mp H
 obtain ⟨⟨t195, t198, t199⟩, A20, H⟩ := H
 replace H : ((tests_Alike.f k (([1, 1] : List Int)) ([] : List (List Int)) ([] : List Int)).bind fun bt203 => ((tests_Cover.f y174 y183 y186).bind fun bt207 => (if t194 = 0 then (if t193 = 7 then (if t199 = 0 then (if t198 = 2 then (if bt203.2 = 0 then (if (bt203.1.length : Int) = 1 then (if 0 < (bt203.1.length : Int) then (if (!(((rd_T53 bt203.1 0).f0) == 0) || (!(((rd_T53 bt203.1 0).f1) == 1))) = true then (tickinglaw07_awake.j0 k true) else (if bt207.2 = 0 then ((tickinglaw07_ints.f k bt207.1 (([0, 1] : List Int))).bind fun t215 => (tickinglaw07_awake.j0 k (!t215))) else (tickinglaw07_awake.j0 k true))) else (none)) else (tickinglaw07_awake.j0 k true)) else (tickinglaw07_awake.j0 k true)) else (tickinglaw07_awake.j0 k true)) else (tickinglaw07_awake.j0 k true)) else (tickinglaw07_awake.j0 k true)) else (tickinglaw07_awake.j0 k true)))) = some r := H
 have A2 := Aside0.mk A20
 clear A20
 obtain ⟨y200, hy200⟩ : ∃ y_ : List Int, y_ = (([1, 1] : List Int)) := ⟨_, rfl⟩
 replace H : ((tests_Alike.f k y200 ([] : List (List Int)) ([] : List Int)).bind fun bt203 => ((tests_Cover.f y174 y183 y186).bind fun bt207 => (if t194 = 0 then (if t193 = 7 then (if t199 = 0 then (if t198 = 2 then (if bt203.2 = 0 then (if (bt203.1.length : Int) = 1 then (if 0 < (bt203.1.length : Int) then (if (!(((rd_T53 bt203.1 0).f0) == 0) || (!(((rd_T53 bt203.1 0).f1) == 1))) = true then (tickinglaw07_awake.j0 k true) else (if bt207.2 = 0 then ((tickinglaw07_ints.f k bt207.1 (([0, 1] : List Int))).bind fun t215 => (tickinglaw07_awake.j0 k (!t215))) else (tickinglaw07_awake.j0 k true))) else (none)) else (tickinglaw07_awake.j0 k true)) else (tickinglaw07_awake.j0 k true)) else (tickinglaw07_awake.j0 k true)) else (tickinglaw07_awake.j0 k true)) else (tickinglaw07_awake.j0 k true)) else (tickinglaw07_awake.j0 k true)))) = some r := by first | (rw [hy200]; with_reducible exact H) | (have H2_ := (Option.bind_some _ _).symm.trans H; rw [hy200]; with_reducible exact H2_) | (have H2_ := (Option.bind_some _ _).symm.trans H; with_reducible exact H2_) | with_reducible exact H | (rw [hy200]; exact H) | exact H
 have Ny200 := Aside0.mk hy200
 clear hy200
 replace H := Option.bind_eq_some_iff.mp H
 obtain ⟨⟨t203, t206⟩, A30, H⟩ := H
 replace H : ((tests_Cover.f y174 y183 y186).bind fun bt207 => (if t194 = 0 then (if t193 = 7 then (if t199 = 0 then (if t198 = 2 then (if t206 = 0 then (if (t203.length : Int) = 1 then (if 0 < (t203.length : Int) then (if (!(((rd_T53 t203 0).f0) == 0) || (!(((rd_T53 t203 0).f1) == 1))) = true then (tickinglaw07_awake.j0 k true) else (if bt207.2 = 0 then ((tickinglaw07_ints.f k bt207.1 (([0, 1] : List Int))).bind fun t215 => (tickinglaw07_awake.j0 k (!t215))) else (tickinglaw07_awake.j0 k true))) else (none)) else (tickinglaw07_awake.j0 k true)) else (tickinglaw07_awake.j0 k true)) else (tickinglaw07_awake.j0 k true)) else (tickinglaw07_awake.j0 k true)) else (tickinglaw07_awake.j0 k true)) else (tickinglaw07_awake.j0 k true))) = some r := H
 have A3 := Aside0.mk A30
 clear A30
 replace H := Option.bind_eq_some_iff.mp H
 obtain ⟨⟨t207, t210⟩, A40, H⟩ := H
 replace H : (if t194 = 0 then (if t193 = 7 then (if t199 = 0 then (if t198 = 2 then (if t206 = 0 then (if (t203.length : Int) = 1 then (if 0 < (t203.length : Int) then (if (!(((rd_T53 t203 0).f0) == 0) || (!(((rd_T53 t203 0).f1) == 1))) = true then (tickinglaw07_awake.j0 k true) else (if t210 = 0 then ((tickinglaw07_ints.f k t207 (([0, 1] : List Int))).bind fun t215 => (tickinglaw07_awake.j0 k (!t215))) else (tickinglaw07_awake.j0 k true))) else (none)) else (tickinglaw07_awake.j0 k true)) else (tickinglaw07_awake.j0 k true)) else (tickinglaw07_awake.j0 k true)) else (tickinglaw07_awake.j0 k true)) else (tickinglaw07_awake.j0 k true)) else (tickinglaw07_awake.j0 k true)) = some r := H
 have A4 := Aside0.mk A40
 clear A40
 have HC5 := Aside0.mk H
 clear H
 go_enter Tryd.func17, Tryd.ntmps17
 go_upto_region 6 with (first | ((with_reducible refine gate_dst (N := 12) rfl ?_); (try (refine gate_guard (by rfl) ?_; dsimp only)); refine Kd.R_lit (Kd.int .i64) _ 3 ?hg (N := 12) ?hd (xs := ([1, 1, 2] : List Int)) (inner := [.int .i64 1, .int .i64 1, .int .i64 2]) (ok := fun _ => True) (okp := fun _ => True) ?hr ?hp (fun _ hk => hk) trivial (Below.refl _ _) (Nat.le_refl _) (by simp) ?_; (case hd => rfl); (case hg => rfl); (case hr => first | (go_simp; done) | (go_simp; rfl)); (case hp => exact (Reps.one (show Kd.M (Kd.int .i64) _ _ _ 1 [.int .i64 1] from rfl) (Reps.one (show Kd.M (Kd.int .i64) _ _ _ 1 [.int .i64 1] from rfl) (Reps.one (show Kd.M (Kd.int .i64) _ _ _ 2 [.int .i64 2] from rfl) (Reps.none _ _))))); intro v175 w6 ho7 hb hg_ hnew_; clear hg_ hnew_; (first | rw [← Ny174.out] at ho7 | (simp only [Int.reduceToNat] at ho7; rw [← Ny174.out] at ho7)); have n0_ := Aside0.mk (Kd.R_lower ho7 (below_size bz)); have n1_ := Aside0.mk (below_step bz hb); clear HB; have HO176 := n0_; have HB := n1_; clear n0_ n1_; clear hb ho7) | ((with_reducible refine gate_dst (N := 13) rfl ?_); (try (refine gate_guard (by rfl) ?_; dsimp only)); refine Kd.R_lit (Kd.int .i64) _ 3 ?hg (N := 13) ?hd (xs := ([1, 0, 0] : List Int)) (inner := [.int .i64 1, .int .i64 0, .int .i64 0]) (ok := fun _ => True) (okp := fun _ => True) ?hr ?hp (fun _ hk => hk) trivial (Below.refl _ _) (Nat.le_refl _) (by simp) ?_; (case hd => rfl); (case hg => rfl); (case hr => first | (go_simp; done) | (go_simp; rfl)); (case hp => exact (Reps.one (show Kd.M (Kd.int .i64) _ _ _ 1 [.int .i64 1] from rfl) (Reps.one (show Kd.M (Kd.int .i64) _ _ _ 0 [.int .i64 0] from rfl) (Reps.one (show Kd.M (Kd.int .i64) _ _ _ 0 [.int .i64 0] from rfl) (Reps.none _ _))))); intro v178 w8 ho9 hb hg_ hnew_; clear hg_ hnew_; (first | rw [← Ny177.out] at ho9 | (simp only [Int.reduceToNat] at ho9; rw [← Ny177.out] at ho9)); have n0_ := Aside0.mk (Kd.R_elder' (rz HO176.out) (Kd.R_base ho9) hb); have n1_ := Aside0.mk (Kd.R_lower (Kd.R_new' ho9 (Kd.R_lt (rz HO176.out))) (below_size bz)); have n2_ := Aside0.mk (below_step bz hb); clear HO176; clear HB; have HO176 := n0_; have HO179 := n1_; have HB := n2_; clear n0_ n1_ n2_; clear hb ho9) | ((with_reducible refine gate_dst (N := 14) rfl ?_); (try (refine gate_guard (by rfl) ?_; dsimp only)); refine Kd.R_lit (Kd.int .i64) _ 3 ?hg (N := 14) ?hd (xs := ([0, 1, 0] : List Int)) (inner := [.int .i64 0, .int .i64 1, .int .i64 0]) (ok := fun _ => True) (okp := fun _ => True) ?hr ?hp (fun _ hk => hk) trivial (Below.refl _ _) (Nat.le_refl _) (by simp) ?_; (case hd => rfl); (case hg => rfl); (case hr => first | (go_simp; done) | (go_simp; rfl)); (case hp => exact (Reps.one (show Kd.M (Kd.int .i64) _ _ _ 0 [.int .i64 0] from rfl) (Reps.one (show Kd.M (Kd.int .i64) _ _ _ 1 [.int .i64 1] from rfl) (Reps.one (show Kd.M (Kd.int .i64) _ _ _ 0 [.int .i64 0] from rfl) (Reps.none _ _))))); intro v181 w10 ho11 hb hg_ hnew_; clear hg_ hnew_; (first | rw [← Ny180.out] at ho11 | (simp only [Int.reduceToNat] at ho11; rw [← Ny180.out] at ho11)); have n0_ := Aside0.mk (Kd.R_elder' (rz HO176.out) (Kd.R_base ho11) hb); have n1_ := Aside0.mk (Kd.R_elder' (rz HO179.out) (Kd.R_base ho11) hb); have n2_ := Aside0.mk (Kd.R_lower (Kd.R_new' (Kd.R_new' ho11 (Kd.R_lt (rz HO176.out))) (Kd.R_lt (rz HO179.out))) (below_size bz)); have n3_ := Aside0.mk (below_step bz hb); clear HO176; clear HO179; clear HB; have HO176 := n0_; have HO179 := n1_; have HO182 := n2_; have HB := n3_; clear n0_ n1_ n2_ n3_; clear hb ho11; obtain ⟨Ao12, co12, eo12⟩ := Kd.R_slice HO179.out; subst eo12; obtain ⟨Ao13, co13, eo13⟩ := Kd.R_slice HO182.out; subst eo13) | ((with_reducible refine gate_dst (N := 15) rfl ?_); (try (refine gate_guard (by rfl) ?_; dsimp only)); refine Kd.N_lit (Kd.slice 3 (Kd.int .i64)) _ 22 ?hg (N' := 15) ?hd (xs := ([y177, y180] : List (List Int))) (inner := [.slice Ao12 y177.length co12, .slice Ao13 y180.length co13]) (ok := (fun k_ => some k_ ≠ (v175 : Value).ownBlock)) (okp := (fun k_ => some k_ ≠ (v175 : Value).ownBlock)) ?hr ?hp (fun _ hk => hk) ((show ∀ k_, w10.heap.size ≤ k_ → (fun k_ => some k_ ≠ (v175 : Value).ownBlock) k_ from fun k_ hk => Kd.fresh' (Kd.R_lt (rz HO176.out)) k_ hk) _ (Nat.le_refl _)) (Below.refl _ _) (Nat.le_refl _) (by simp) ?_; (case hd => rfl); (case hg => rfl); (case hr => first | (go_simp; done) | (go_simp; rfl)); (case hp => exact (Reps.one (show Kd.FK (Kd.slice 3 (Kd.int .i64)) _ _ y177 [.slice Ao12 y177.length co12] from (Kd.FK_slice_mk (Kd.R_reads' (Kd.R_mono (ok' := (fun k_ => some k_ ≠ (v175 : Value).ownBlock)) (HO179.out) (fun k_ hk => hk.1.2))).2.1 (Kd.R_F (Kd.R_mono (ok' := (fun k_ => some k_ ≠ (v175 : Value).ownBlock)) (HO179.out) (fun k_ hk => hk.1.2))))) (Reps.one (show Kd.FK (Kd.slice 3 (Kd.int .i64)) _ _ y180 [.slice Ao13 y180.length co13] from (Kd.FK_slice_mk (Kd.R_reads' (Kd.R_mono (ok' := (fun k_ => some k_ ≠ (v175 : Value).ownBlock)) (HO182.out) (fun k_ hk => hk.1.2))).2.1 (Kd.R_F (Kd.R_mono (ok' := (fun k_ => some k_ ≠ (v175 : Value).ownBlock)) (HO182.out) (fun k_ hk => hk.1.2))))) (Reps.none _ _)))); intro v184 w14 ho15 hb hg_ hnew_; clear hg_ hnew_; (first | rw [← Ny183.out] at ho15 | (simp only [Int.reduceToNat] at ho15; rw [← Ny183.out] at ho15)); have n0_ := Aside0.mk (Kd.R_below (rz HO176.out) hb); have n1_ := Aside0.mk (Kd.N_lower ho15 (below_size bz)); have n2_ := Aside0.mk (below_step bz hb); clear HO176; clear HB; clear HO179; clear HO182; have HO176 := n0_; have HO185 := n1_; have HB := n2_; clear n0_ n1_ n2_; clear hb ho15) | ((with_reducible refine gate_dst (N := 16) rfl ?_); (try (refine gate_guard (by rfl) ?_; dsimp only)); refine Kd.R_lit (Kd.int .i64) _ 3 ?hg (N := 16) ?hd (xs := ([1, 1] : List Int)) (inner := [.int .i64 1, .int .i64 1]) (ok := fun _ => True) (okp := fun _ => True) ?hr ?hp (fun _ hk => hk) trivial (Below.refl _ _) (Nat.le_refl _) (by simp) ?_; (case hd => rfl); (case hg => rfl); (case hr => first | (go_simp; done) | (go_simp; rfl)); (case hp => exact (Reps.one (show Kd.M (Kd.int .i64) _ _ _ 1 [.int .i64 1] from rfl) (Reps.one (show Kd.M (Kd.int .i64) _ _ _ 1 [.int .i64 1] from rfl) (Reps.none _ _)))); intro v187 w16 ho17 hb hg_ hnew_; clear hg_ hnew_; (first | rw [← Ny186.out] at ho17 | (simp only [Int.reduceToNat] at ho17; rw [← Ny186.out] at ho17)); have n0_ := Aside0.mk (Kd.R_elder' (rz HO176.out) (Kd.R_base ho17) hb); have n1_ := Aside0.mk (Kd.N_elder' (by (with_reducible repeat (first | apply Kd.N_alloc | apply Kd.N_drewN | apply Kd.N_drew)); exact HO185.out) (Kd.R_base ho17) hb); have n2_ := Aside0.mk (Kd.R_lower (Kd.R_new' ho17 (Kd.R_lt (rz HO176.out))) (below_size bz)); have n3_ := Aside0.mk (below_step bz hb); clear HO176; clear HO185; clear HB; have HO176 := n0_; have HO185 := n1_; have HO188 := n2_; have HB := n3_; clear n0_ n1_ n2_ n3_; clear hb ho17; obtain ⟨Ao18, co18, eo18⟩ := Kd.R_slice HO188.out; subst eo18; obtain ⟨Ao19, co19, eo19⟩ := Kd.N_slice HO185.out; subst eo19; obtain ⟨Ao20, co20, eo20⟩ := Kd.R_slice HO176.out; subst eo20) | ((with_reducible refine gate_dst (N := 1) rfl ?_); (try (refine gate_guard (by rfl) ?_; dsimp only)); refine box_event ?hg (N := 1) ?hd (cs := #[.slice none 0 0, .slice none 0 0, .slice none 0 0]) (t := 25) ?hr ?_; (case hd => rfl); (case hg => rfl); (case hr => first | (go_simp; done) | (go_simp; rfl)); intro gb189 hg w21 hbox hb; have n0_ := Aside0.mk (Kd.R_below (rz HO176.out) hb); have n1_ := Aside0.mk (Kd.N_below (Kd.N_elderB (by (with_reducible repeat (first | apply Kd.N_alloc | apply Kd.N_drewN | apply Kd.N_drew)); exact HO185.out) gb189 (Nat.le_of_eq hg.symm)) hb); have n2_ := Aside0.mk (Kd.R_below (rz HO188.out) hb); have n3_ := Aside0.mk (below_step bz hb); have n4_ := Aside0.mk (hbox); have n5_ := Aside0.mk ((by rw [hg]; exact (below_size bz) : w.heap.size ≤ gb189)); have n6_ := Aside0.mk ((by rw [hg]; exact (below_size bz) : w.heap.size ≤ gb189)); clear HO176; clear HO185; clear HO188; clear HB; have HO176 := n0_; have HO185 := n1_; have HO188 := n2_; have HB := n3_; have BK189 := n4_; have GW189 := n5_; have GE189 := n6_; clear n0_ n1_ n2_ n3_ n4_ n5_ n6_; clear hb hbox hg; have hcz22_0 : w21.cell? ⟨gb189, 0, none⟩ = some (.slice none 0 0) := (blk_cell BK189.out 0).trans rfl; have hcz22_1 : w21.cell? ⟨gb189, 1, none⟩ = some (.slice none 0 0) := (blk_cell BK189.out 1).trans rfl; have hcz22_2 : w21.cell? ⟨gb189, 2, none⟩ = some (.slice none 0 0) := (blk_cell BK189.out 2).trans rfl; have hfz22_0 := blk_frozen BK189.out 0; have hfz22_1 := blk_frozen BK189.out 1; have hfz22_2 := blk_frozen BK189.out 2) | ((with_reducible refine gate_callee (f := 14) rfl ?_); refine goesL_ (some 20) rfl rfl Tryd.func14 (by kernel_rfl) rfl #[.agg #[.slice Ao20 y174.length co20, .slice Ao19 y183.length co19, .slice Ao18 y186.length co18]] rfl dz ?_; (with_reducible refine (tests_Best.calls _ _ y174 _ _ y183 _ _ y186 t190 t193 t194 _ ?side1 ?side2 ?side3 ?side4 ?side5 ?side6 A1.out ?sideT).mono ?_); (case sideT => exact HTab.out.below bz); (case side1 => refine (Kd.R_reads' (e := 3) (base := w.heap.size) (ok := fun k_ => (((True ∧ some k_ ≠ (.slice Ao12 y177.length co12 : Value).ownBlock) ∧ some k_ ≠ (.slice Ao13 y180.length co13 : Value).ownBlock) ∧ some k_ ≠ (.slice Ao18 y186.length co18 : Value).ownBlock)) (n := y174.length) (c := co20) ?_).2.2; exact (by (with_reducible repeat (first | apply Kd.R_alloc | apply Kd.R_drewN | apply Kd.R_drew)); exact (Kd.R_mono (Kd.R_far (p := ⟨gb189, 2, none⟩) (Kd.R_far (p := ⟨gb189, 1, none⟩) (Kd.R_far (p := ⟨gb189, 0, none⟩) (Kd.R_types HO176.out BK189.out (by decide)) (fun _ hk => hk.2) (.slice Ao20 y174.length co20)) (fun _ hk => hk.2) (.slice Ao19 y183.length co19)) (fun _ hk => hk.2) (.slice Ao18 y186.length co18)) (fun _ h_ => h_.1)))); (case side2 => exact (Kd.R_reads' HO176.out).2.1); (case side3 => refine (Kd.N_reads' (e := 22) (base := w.heap.size) (ok := fun k_ => ((some k_ ≠ (.slice Ao20 y174.length co20 : Value).ownBlock ∧ some k_ ≠ (.slice Ao18 y186.length co18 : Value).ownBlock) ∧ k_ ≠ gb189)) (n := y183.length) (c := co19) ?_).2.2; exact (by (with_reducible repeat (first | apply Kd.N_alloc | apply Kd.N_drewN | apply Kd.N_drew)); exact (Kd.N_mono (Kd.N_far (p := ⟨gb189, 2, none⟩) (Kd.N_far (p := ⟨gb189, 1, none⟩) (Kd.N_far (p := ⟨gb189, 0, none⟩) (Kd.N_mono HO185.out (fun k_ hk => (⟨hk, hk.2⟩ : _ ∧ k_ ≠ gb189))) (fun _ hk => hk.2) (.slice Ao20 y174.length co20)) (fun _ hk => hk.2) (.slice Ao19 y183.length co19)) (fun _ hk => hk.2) (.slice Ao18 y186.length co18)) (fun _ h_ => h_.1)))); (case side4 => exact (Kd.N_reads' HO185.out).2.1); (case side5 => refine (Kd.R_reads' (e := 3) (base := w.heap.size) (ok := fun k_ => (True ∧ some k_ ≠ (.slice Ao20 y174.length co20 : Value).ownBlock)) (n := y186.length) (c := co18) ?_).2.2; exact (by (with_reducible repeat (first | apply Kd.R_alloc | apply Kd.R_drewN | apply Kd.R_drew)); exact (Kd.R_mono (Kd.R_far (p := ⟨gb189, 2, none⟩) (Kd.R_far (p := ⟨gb189, 1, none⟩) (Kd.R_far (p := ⟨gb189, 0, none⟩) (Kd.R_types HO188.out BK189.out (by decide)) (fun _ hk => hk.2) (.slice Ao20 y174.length co20)) (fun _ hk => hk.2) (.slice Ao19 y183.length co19)) (fun _ hk => hk.2) (.slice Ao18 y186.length co18)) (fun _ h_ => h_.1)))); (case side6 => exact (Kd.R_reads' HO188.out).2.1); rintro e w23 ⟨v191, rfl, ho0, hb⟩; refine ⟨_, rfl, ?_⟩; have n0_ := Aside0.mk (Kd.R_below (by (with_reducible repeat (first | apply Kd.R_alloc | apply Kd.R_drewN | apply Kd.R_drew)); exact (Kd.R_mono (Kd.R_far (p := ⟨gb189, 2, none⟩) (Kd.R_far (p := ⟨gb189, 1, none⟩) (Kd.R_far (p := ⟨gb189, 0, none⟩) (Kd.R_types HO176.out BK189.out (by decide)) (fun _ hk => hk.2) (.slice Ao20 y174.length co20)) (fun _ hk => hk.2) (.slice Ao19 y183.length co19)) (fun _ hk => hk.2) (.slice Ao18 y186.length co18)) (fun _ h_ => h_.1))) hb); have n1_ := Aside0.mk (Kd.N_elder' (by (with_reducible repeat (first | apply Kd.N_alloc | apply Kd.N_drewN | apply Kd.N_drew)); exact (Kd.N_mono (Kd.N_far (p := ⟨gb189, 2, none⟩) (Kd.N_far (p := ⟨gb189, 1, none⟩) (Kd.N_far (p := ⟨gb189, 0, none⟩) (Kd.N_mono HO185.out (fun k_ hk => (⟨hk, hk.2⟩ : _ ∧ k_ ≠ gb189))) (fun _ hk => hk.2) (.slice Ao20 y174.length co20)) (fun _ hk => hk.2) (.slice Ao19 y183.length co19)) (fun _ hk => hk.2) (.slice Ao18 y186.length co18)) (fun _ h_ => h_.1))) (Kd.R_base ho0) hb); have n2_ := Aside0.mk (Kd.R_below (by (with_reducible repeat (first | apply Kd.R_alloc | apply Kd.R_drewN | apply Kd.R_drew)); exact (Kd.R_mono (Kd.R_far (p := ⟨gb189, 2, none⟩) (Kd.R_far (p := ⟨gb189, 1, none⟩) (Kd.R_far (p := ⟨gb189, 0, none⟩) (Kd.R_types HO188.out BK189.out (by decide)) (fun _ hk => hk.2) (.slice Ao20 y174.length co20)) (fun _ hk => hk.2) (.slice Ao19 y183.length co19)) (fun _ hk => hk.2) (.slice Ao18 y186.length co18)) (fun _ h_ => h_.1))) hb); have n3_ := Aside0.mk (Kd.R_lower ho0 (below_size bz)); have n4_ := Aside0.mk (blk_below (g := gb189) (o := .cells #[.slice Ao20 y174.length co20, .slice Ao19 y183.length co19, .slice Ao18 y186.length co18] 25 (0, 0)) (by (with_reducible repeat (first | refine blk_drewN ?_ _ | refine blk_drew ?_ | refine blk_alloc ?_ _)); refine blk_put (cs := #[.slice Ao20 y174.length co20, .slice Ao19 y183.length co19, .slice none 0 0]) ?_ 2 _ rfl; (with_reducible repeat (first | refine blk_drewN ?_ _ | refine blk_drew ?_ | refine blk_alloc ?_ _)); refine blk_put (cs := #[.slice Ao20 y174.length co20, .slice none 0 0, .slice none 0 0]) ?_ 1 _ rfl; (with_reducible repeat (first | refine blk_drewN ?_ _ | refine blk_drew ?_ | refine blk_alloc ?_ _)); refine blk_put (cs := #[.slice none 0 0, .slice none 0 0, .slice none 0 0]) ?_ 0 _ rfl; (with_reducible repeat (first | refine blk_drewN ?_ _ | refine blk_drew ?_ | refine blk_alloc ?_ _)); exact BK189.out) hb); have n5_ := Aside0.mk (below_step bz hb); clear HO176; clear HO185; clear HO188; clear BK189; clear HB; have HO176 := n0_; have HO185 := n1_; have HO188 := n2_; have HO192 := n3_; have BK189 := n4_; have HB := n5_; clear n0_ n1_ n2_ n3_ n4_ n5_; (try clear hb); (try clear hb2); (try clear hk); (try clear hi); (try clear ho0); have hcz24_0 : w23.cell? ⟨gb189, 0, none⟩ = some (.slice Ao20 y174.length co20) := (blk_cell BK189.out 0).trans rfl; have hcz24_1 : w23.cell? ⟨gb189, 1, none⟩ = some (.slice Ao19 y183.length co19) := (blk_cell BK189.out 1).trans rfl; have hcz24_2 : w23.cell? ⟨gb189, 2, none⟩ = some (.slice Ao18 y186.length co18) := (blk_cell BK189.out 2).trans rfl; have hfz24_0 := blk_frozen BK189.out 0; have hfz24_1 := blk_frozen BK189.out 1; have hfz24_2 := blk_frozen BK189.out 2) | ((with_reducible refine gate_callee (f := 15) rfl ?_); refine goesL_ (some 26) rfl rfl Tryd.func15 (by kernel_rfl) rfl #[.agg #[.slice Ao20 y174.length co20, .slice Ao19 y183.length co19, .slice Ao18 y186.length co18]] rfl dz ?_; (with_reducible refine (tests_Worst.calls _ _ y174 _ _ y183 _ _ y186 t195 t198 t199 _ ?side1 ?side2 ?side3 ?side4 ?side5 ?side6 A2.out ?sideT).mono ?_); (case sideT => exact HTab.out.below bz); (case side1 => exact cz ((Kd.R_reads' HO176.out).2.2)); (case side2 => exact (Kd.R_reads' HO176.out).2.1); (case side3 => exact cz ((Kd.N_reads' HO185.out).2.2)); (case side4 => exact (Kd.N_reads' HO185.out).2.1); (case side5 => exact cz ((Kd.R_reads' HO188.out).2.2)); (case side6 => exact (Kd.R_reads' HO188.out).2.1); rintro e w25 ⟨v196, rfl, ho0, hb⟩; refine ⟨_, rfl, ?_⟩; have n0_ := Aside0.mk (Kd.R_below (rz HO176.out) hb); have n1_ := Aside0.mk (Kd.N_elder' (by (with_reducible repeat (first | apply Kd.N_alloc | apply Kd.N_drewN | apply Kd.N_drew)); exact HO185.out) (Kd.R_base ho0) hb); have n2_ := Aside0.mk (Kd.R_below (rz HO188.out) hb); have n3_ := Aside0.mk (Kd.R_elder' (rz HO192.out) (Kd.R_base ho0) hb); have n4_ := Aside0.mk (Kd.R_lower (Kd.R_new' ho0 (Kd.R_lt (rz HO192.out))) (below_size bz)); have n5_ := Aside0.mk (kb BK189.out hb); have n6_ := Aside0.mk (below_step bz hb); clear HO176; clear HO185; clear HO188; clear HO192; clear BK189; clear HB; have HO176 := n0_; have HO185 := n1_; have HO188 := n2_; have HO192 := n3_; have HO197 := n4_; have BK189 := n5_; have HB := n6_; clear n0_ n1_ n2_ n3_ n4_ n5_ n6_; (try clear hb); (try clear hb2); (try clear hk); (try clear hi); (try clear ho0)) | ((with_reducible refine gate_dst (N := 31) rfl ?_); (try (refine gate_guard (by rfl) ?_; dsimp only)); refine Kd.R_lit (Kd.int .i64) _ 3 ?hg (N := 31) ?hd (xs := ([1, 1] : List Int)) (inner := [.int .i64 1, .int .i64 1]) (ok := fun _ => True) (okp := fun _ => True) ?hr ?hp (fun _ hk => hk) trivial (Below.refl _ _) (Nat.le_refl _) (by simp) ?_; (case hd => rfl); (case hg => rfl); (case hr => first | (go_simp; done) | (go_simp; rfl)); (case hp => exact (Reps.one (show Kd.M (Kd.int .i64) _ _ _ 1 [.int .i64 1] from rfl) (Reps.one (show Kd.M (Kd.int .i64) _ _ _ 1 [.int .i64 1] from rfl) (Reps.none _ _)))); intro v201 w26 ho27 hb hg_ hnew_; clear hg_ hnew_; (first | rw [← Ny200.out] at ho27 | (simp only [Int.reduceToNat] at ho27; rw [← Ny200.out] at ho27)); have n0_ := Aside0.mk (Kd.R_elder' (rz HO176.out) (Kd.R_base ho27) hb); have n1_ := Aside0.mk (Kd.N_elder' (by (with_reducible repeat (first | apply Kd.N_alloc | apply Kd.N_drewN | apply Kd.N_drew)); exact HO185.out) (Kd.R_base ho27) hb); have n2_ := Aside0.mk (Kd.R_elder' (rz HO188.out) (Kd.R_base ho27) hb); have n3_ := Aside0.mk (Kd.R_below (rz HO192.out) hb); have n4_ := Aside0.mk (Kd.R_below (rz HO197.out) hb); have n5_ := Aside0.mk (Kd.R_lower (Kd.R_new' (Kd.R_new' ho27 (Kd.R_lt (rz HO176.out))) (Kd.R_lt (rz HO188.out))) (below_size bz)); have n6_ := Aside0.mk (kb BK189.out hb); have n7_ := Aside0.mk (below_step bz hb); clear HO176; clear HO185; clear HO188; clear HO192; clear HO197; clear BK189; clear HB; have HO176 := n0_; have HO185 := n1_; have HO188 := n2_; have HO192 := n3_; have HO197 := n4_; have HO202 := n5_; have BK189 := n6_; have HB := n7_; clear n0_ n1_ n2_ n3_ n4_ n5_ n6_ n7_; clear hb ho27; obtain ⟨Ao28, co28, eo28⟩ := Kd.R_slice HO202.out; subst eo28) | ((with_reducible refine gate_callee (f := 27) rfl ?_); refine goesL_ (some 33) rfl rfl Tryd.func27 (by kernel_rfl) rfl #[.agg #[.slice Ao28 y200.length co28, .slice none 0 0, .slice none 0 0]] rfl dz ?_; (refine (tests_Alike.calls k _ _ y200 _ _ ([] : List (List Int)) _ _ ([] : List Int) t203 t206 _ ?side1 ?side2 ?side3 ?side4 ?side5 ?side6 A3.out).mono ?_); (case side1 => exact cz ((Kd.R_reads' HO202.out).2.2)); (case side2 => exact (Kd.R_reads' HO202.out).2.1); (case side3 => exact Kd.C_nil _ _); (case side4 => exact Nat.le_refl _); (case side5 => exact Kd.C_nil _ _); (case side6 => exact Nat.le_refl _); rintro e w29 ⟨v204, rfl, ho0, hb⟩; refine ⟨_, rfl, ?_⟩; have n0_ := Aside0.mk (Kd.R_below (rz HO176.out) hb); have n1_ := Aside0.mk (Kd.N_elder' (by (with_reducible repeat (first | apply Kd.N_alloc | apply Kd.N_drewN | apply Kd.N_drew)); exact HO185.out) (Kd.R_base ho0) hb); have n2_ := Aside0.mk (Kd.R_below (rz HO188.out) hb); have n3_ := Aside0.mk (Kd.R_below (rz HO192.out) hb); have n4_ := Aside0.mk (Kd.R_below (rz HO197.out) hb); have n5_ := Aside0.mk (Kd.R_below (rz HO202.out) hb); have n6_ := Aside0.mk (Kd.R_lower ho0 (below_size bz)); have n7_ := Aside0.mk (kb BK189.out hb); have n8_ := Aside0.mk (below_step bz hb); clear HO176; clear HO185; clear HO188; clear HO192; clear HO197; clear HO202; clear BK189; clear HB; have HO176 := n0_; have HO185 := n1_; have HO188 := n2_; have HO192 := n3_; have HO197 := n4_; have HO202 := n5_; have HO205 := n6_; have BK189 := n7_; have HB := n8_; clear n0_ n1_ n2_ n3_ n4_ n5_ n6_ n7_ n8_; (try clear hb); (try clear hb2); (try clear hk); (try clear hi); (try clear ho0); have hcz30_0 : w29.cell? ⟨gb189, 0, none⟩ = some (.slice Ao20 y174.length co20) := (blk_cell BK189.out 0).trans rfl; have hcz30_1 : w29.cell? ⟨gb189, 1, none⟩ = some (.slice Ao19 y183.length co19) := (blk_cell BK189.out 1).trans rfl; have hcz30_2 : w29.cell? ⟨gb189, 2, none⟩ = some (.slice Ao18 y186.length co18) := (blk_cell BK189.out 2).trans rfl; have hfz30_0 := blk_frozen BK189.out 0; have hfz30_1 := blk_frozen BK189.out 1; have hfz30_2 := blk_frozen BK189.out 2) | ((with_reducible refine gate_callee (f := 28) rfl ?_); refine goesL_ (some 38) rfl rfl Tryd.func28 (by kernel_rfl) rfl #[.agg #[.slice Ao20 y174.length co20, .slice Ao19 y183.length co19, .slice Ao18 y186.length co18]] rfl dz ?_; (with_reducible refine (tests_Cover.calls _ _ y174 _ _ y183 _ _ y186 t207 t210 _ ?side1 ?side2 ?side3 ?side4 ?side5 ?side6 A4.out).mono ?_); (case side1 => exact cz ((Kd.R_reads' HO176.out).2.2)); (case side2 => exact (Kd.R_reads' HO176.out).2.1); (case side3 => exact cz ((Kd.N_reads' HO185.out).2.2)); (case side4 => exact (Kd.N_reads' HO185.out).2.1); (case side5 => exact cz ((Kd.R_reads' HO188.out).2.2)); (case side6 => exact (Kd.R_reads' HO188.out).2.1); rintro e w31 ⟨v208, rfl, ho0, hb⟩; refine ⟨_, rfl, ?_⟩; have n0_ := Aside0.mk (Kd.R_elder' (rz HO176.out) (Kd.R_base ho0) hb); have n1_ := Aside0.mk (Kd.N_elder' (by (with_reducible repeat (first | apply Kd.N_alloc | apply Kd.N_drewN | apply Kd.N_drew)); exact HO185.out) (Kd.R_base ho0) hb); have n2_ := Aside0.mk (Kd.R_elder' (rz HO188.out) (Kd.R_base ho0) hb); have n3_ := Aside0.mk (Kd.R_below (rz HO192.out) hb); have n4_ := Aside0.mk (Kd.R_below (rz HO197.out) hb); have n5_ := Aside0.mk (Kd.R_elder' (rz HO202.out) (Kd.R_base ho0) hb); have n6_ := Aside0.mk (Kd.R_below (rz HO205.out) hb); have n7_ := Aside0.mk (Kd.R_lower (Kd.R_new' (Kd.R_new' (Kd.R_new' ho0 (Kd.R_lt (rz HO176.out))) (Kd.R_lt (rz HO188.out))) (Kd.R_lt (rz HO202.out))) (below_size bz)); have n8_ := Aside0.mk (kb BK189.out hb); have n9_ := Aside0.mk (below_step bz hb); clear HO176; clear HO185; clear HO188; clear HO192; clear HO197; clear HO202; clear HO205; clear BK189; clear HB; have HO176 := n0_; have HO185 := n1_; have HO188 := n2_; have HO192 := n3_; have HO197 := n4_; have HO202 := n5_; have HO205 := n6_; have HO209 := n7_; have BK189 := n8_; have HB := n9_; clear n0_ n1_ n2_ n3_ n4_ n5_ n6_ n7_ n8_ n9_; (try clear hb); (try clear hb2); (try clear hk); (try clear hi); (try clear ho0)))
 (try simp only [Act.put, List.setIfInBounds_toArray, List.set_cons_zero, List.set_cons_succ])
 go_cut [80] (fun v80 wc => ∃ (kq : Nat) (x80_4 : Bool), v80 = .bool x80_4 ∧ Aside0 (tickinglaw07_awake.j0 kq x80_4 = some r) ∧ Aside0 (kq ≤ k) ∧ Aside0 (Kd.R (Kd.int .i64) 3 wc w.heap.size (fun k_ => some k_ ≠ ((.slice Ao18 y186.length co18) : Value).ownBlock) (.slice Ao20 y174.length co20) y174) ∧ Aside0 (Kd.N (Kd.slice 3 (Kd.int .i64)) 22 wc w.heap.size (fun k_ => some k_ ≠ ((.slice Ao20 y174.length co20) : Value).ownBlock ∧ some k_ ≠ ((.slice Ao18 y186.length co18) : Value).ownBlock ∧ k_ ≠ gb189) (.slice Ao19 y183.length co19) y183) ∧ Aside0 (Kd.R (Kd.int .i64) 3 wc w.heap.size (fun k_ => some k_ ≠ ((.slice Ao20 y174.length co20) : Value).ownBlock) (.slice Ao18 y186.length co18) y186) ∧ Aside0 (wc.heap[gb189]? = some (.cells #[(.slice Ao20 y174.length co20), (.slice Ao19 y183.length co19), (.slice Ao18 y186.length co18)] 25 (0, 0))) ∧ Aside0 (Below w.heap.size w wc))
 case first =>
  have H := HC5.out
  clear HC5
  by_cases c32 : t194 = 0
  ·rw [if_pos c32] at H
   have c32b0 : (t194 == 0) = true := beq_iff_eq.mpr c32
   have c32b1 : (t194 != 0) = false := bne_eq_false_iff_eq.mpr c32
   clear c32
   (first | rw [c32b0] | (simp only [i64_w, i32_w]; rw [c32b0]) | skip)
   by_cases c33 : t193 = 7
   ·rw [if_pos c33] at H
    have c33b0 : (t193 == 7) = true := beq_iff_eq.mpr c33
    have c33b1 : (t193 != 7) = false := bne_eq_false_iff_eq.mpr c33
    clear c33
    by_cases c34 : t199 = 0
    ·rw [if_pos c34] at H
     have c34b0 : (t199 == 0) = true := beq_iff_eq.mpr c34
     have c34b1 : (t199 != 0) = false := bne_eq_false_iff_eq.mpr c34
     clear c34
     by_cases c35 : t198 = 2
     ·rw [if_pos c35] at H
      have c35b0 : (t198 == 2) = true := beq_iff_eq.mpr c35
      have c35b1 : (t198 != 2) = false := bne_eq_false_iff_eq.mpr c35
      clear c35
      by_cases c36 : t206 = 0
      ·rw [if_pos c36] at H
       have c36b0 : (t206 == 0) = true := beq_iff_eq.mpr c36
       have c36b1 : (t206 != 0) = false := bne_eq_false_iff_eq.mpr c36
       clear c36
       by_cases c37 : (t203.length : Int) = 1
       ·rw [if_pos c37] at H
        have c37b0 : ((t203.length : Int) == 1) = true := beq_iff_eq.mpr c37
        have c37b1 : ((t203.length : Int) != 1) = false := bne_eq_false_iff_eq.mpr c37
        clear c37
        by_cases c38 : 0 < (t203.length : Int)
        ·rw [if_pos c38] at H
         have c38b0 : decide (0 < (t203.length : Int)) = true := decide_eq_true c38
         have c38b1 : decide (0 < t203.length) = true := decide_eq_true (by omega)
         clear c38
         by_cases c39 : (!(((rd_T53 t203 0).f0) == 0) || (!(((rd_T53 t203 0).f1) == 1))) = true
         ·rw [if_pos c39] at H
          have c39b0 : (!(((rd_T53 t203 0).f0) == 0) || (!(((rd_T53 t203 0).f1) == 1))) = true := c39
          clear c39
          have H' := Aside0.mk H
          clear H
          obtain ⟨Ao40, co40, eo40⟩ := Kd.R_slice HO205.out
          subst eo40
          have p211 : 0 ≤ (0 : Int) := (by omega)
          have q211 : 0 < (t203.length : Int) := of_decide_eq_true az
          obtain ⟨ad211, e211, hx211_0, hx211_1⟩ := at_T53 (Kd.R_reads' HO205.out).2.2 0 p211 q211
          cases e211
          have qi211 : (0 < t203.length) = True := eq_true (by omega)
          (try rw [show ((0 : Int)).toNat = 0 from rfl] at hx211_0)
          (try rw [show 0 * 2 = 0 from rfl] at hx211_0)
          (try rw [Addr.add_zero'] at hx211_0)
          (try rw [show ((0 : Int)).toNat = 0 from rfl] at hx211_1)
          (try rw [show 0 * 2 = 0 from rfl] at hx211_1)
          (try rw [Addr.add_zero'] at hx211_1)
          replace p211 := eq_true p211
          replace q211 := eq_true q211
          go_wp2
          go_meet
          case rel => exact ⟨_, (true), (by first | rfl | (simp; done) | (simp [*]; done)), H', ⟨by first | omega | exact Nat.le_refl _⟩, ⟨by (with_reducible repeat (first | apply Kd.R_alloc | apply Kd.R_drewN | apply Kd.R_drew)); exact Kd.R_mono HO176.out (fun _ hk => hk.1.1.2)⟩, ⟨by (with_reducible repeat (first | apply Kd.N_alloc | apply Kd.N_drewN | apply Kd.N_drew)); exact Kd.N_mono HO185.out (fun _ hk => ⟨hk.1.1.1.1.1.1.1, ⟨hk.1.1.1.1.1.1.2, hk.1.1.1.1.1.2⟩⟩)⟩, ⟨by (with_reducible repeat (first | apply Kd.R_alloc | apply Kd.R_drewN | apply Kd.R_drew)); exact Kd.R_mono HO188.out (fun _ hk => hk.1.1.2)⟩, ⟨by (with_reducible repeat (first | refine blk_drewN ?_ _ | refine blk_drew ?_ | refine blk_alloc ?_ _)); exact BK189.out⟩, ⟨by repeat (first | (with_reducible first | exact HB.out | apply below_alloc | apply pw_below_drewN | apply below_drew1 | refine below_set ?_ GE189.out) | exact HB.out)⟩⟩
         ·rw [if_neg c39] at H
          have c39b0 : (!(((rd_T53 t203 0).f0) == 0) || (!(((rd_T53 t203 0).f1) == 1))) = false := by simpa using c39
          clear c39
          by_cases c41 : t210 = 0
          ·rw [if_pos c41] at H
           have c41b0 : (t210 == 0) = true := beq_iff_eq.mpr c41
           have c41b1 : (t210 != 0) = false := bne_eq_false_iff_eq.mpr c41
           clear c41
           obtain ⟨y212, hy212⟩ : ∃ y_ : List Int, y_ = (([0, 1] : List Int)) := ⟨_, rfl⟩
           replace H : ((tickinglaw07_ints.f k t207 y212).bind fun t215 => (tickinglaw07_awake.j0 k (!t215))) = some r := by first | (rw [hy212]; with_reducible exact H) | (have H2_ := (Option.bind_some _ _).symm.trans H; rw [hy212]; with_reducible exact H2_) | (have H2_ := (Option.bind_some _ _).symm.trans H; with_reducible exact H2_) | with_reducible exact H | (rw [hy212]; exact H) | exact H
           have Ny212 := Aside0.mk hy212
           clear hy212
           replace H := Option.bind_eq_some_iff.mp H
           obtain ⟨t215, A420, H⟩ := H
           replace H : (tickinglaw07_awake.j0 k (!t215)) = some r := H
           have A42 := Aside0.mk A420
           clear A420
           have H' := Aside0.mk H
           clear H
           obtain ⟨Ao43, co43, eo43⟩ := Kd.R_slice HO205.out
           subst eo43
           have p211 : 0 ≤ (0 : Int) := (by omega)
           have q211 : 0 < (t203.length : Int) := of_decide_eq_true az
           obtain ⟨ad211, e211, hx211_0, hx211_1⟩ := at_T53 (Kd.R_reads' HO205.out).2.2 0 p211 q211
           cases e211
           have qi211 : (0 < t203.length) = True := eq_true (by omega)
           (try rw [show ((0 : Int)).toNat = 0 from rfl] at hx211_0)
           (try rw [show 0 * 2 = 0 from rfl] at hx211_0)
           (try rw [Addr.add_zero'] at hx211_0)
           (try rw [show ((0 : Int)).toNat = 0 from rfl] at hx211_1)
           (try rw [show 0 * 2 = 0 from rfl] at hx211_1)
           (try rw [Addr.add_zero'] at hx211_1)
           replace p211 := eq_true p211
           replace q211 := eq_true q211
           go_wp2_with (first | ((with_reducible refine gate_dst (N := 77) rfl ?_); (try (refine gate_guard (by rfl) ?_; dsimp only)); refine Kd.R_lit (Kd.int .i64) _ 3 ?hg (N := 77) ?hd (xs := ([0, 1] : List Int)) (inner := [.int .i64 0, .int .i64 1]) (ok := fun _ => True) (okp := fun _ => True) ?hr ?hp (fun _ hk => hk) trivial (Below.refl _ _) (Nat.le_refl _) (by simp) ?_; (case hd => rfl); (case hg => rfl); (case hr => first | (go_simp; done) | (go_simp; rfl)); (case hp => exact (Reps.one (show Kd.M (Kd.int .i64) _ _ _ 0 [.int .i64 0] from rfl) (Reps.one (show Kd.M (Kd.int .i64) _ _ _ 1 [.int .i64 1] from rfl) (Reps.none _ _)))); intro v213 w44 ho45 hb hg_ hnew_; clear hg_ hnew_; (first | rw [← Ny212.out] at ho45 | (simp only [Int.reduceToNat] at ho45; rw [← Ny212.out] at ho45)); have n0_ := Aside0.mk (Kd.R_elder' (rz HO176.out) (Kd.R_base ho45) hb); have n1_ := Aside0.mk (Kd.N_elder' (by (with_reducible repeat (first | apply Kd.N_alloc | apply Kd.N_drewN | apply Kd.N_drew)); exact HO185.out) (Kd.R_base ho45) hb); have n2_ := Aside0.mk (Kd.R_elder' (rz HO188.out) (Kd.R_base ho45) hb); have n3_ := Aside0.mk (Kd.R_below (rz HO192.out) hb); have n4_ := Aside0.mk (Kd.R_below (rz HO197.out) hb); have n5_ := Aside0.mk (Kd.R_elder' (rz HO202.out) (Kd.R_base ho45) hb); have n6_ := Aside0.mk (Kd.R_below (rz HO205.out) hb); have n7_ := Aside0.mk (Kd.R_elder' (rz HO209.out) (Kd.R_base ho45) hb); have n8_ := Aside0.mk (Kd.R_lower (Kd.R_new' (Kd.R_new' (Kd.R_new' (Kd.R_new' ho45 (Kd.R_lt (rz HO176.out))) (Kd.R_lt (rz HO188.out))) (Kd.R_lt (rz HO202.out))) (Kd.R_lt (rz HO209.out))) (below_size bz)); have n9_ := Aside0.mk (kb BK189.out hb); have n10_ := Aside0.mk (below_step bz hb); clear HO176; clear HO185; clear HO188; clear HO192; clear HO197; clear HO202; clear HO205; clear HO209; clear BK189; clear HB; have HO176 := n0_; have HO185 := n1_; have HO188 := n2_; have HO192 := n3_; have HO197 := n4_; have HO202 := n5_; have HO205 := n6_; have HO209 := n7_; have HO214 := n8_; have BK189 := n9_; have HB := n10_; clear n0_ n1_ n2_ n3_ n4_ n5_ n6_ n7_ n8_ n9_ n10_; clear hb ho45; obtain ⟨Ao46, co46, eo46⟩ := Kd.R_slice HO209.out; subst eo46; obtain ⟨Ao47, co47, eo47⟩ := Kd.R_slice HO214.out; subst eo47) | (go_at_call 25; (with_reducible refine (tickinglaw07_ints.calls k _ _ t207 _ _ y212 t215 _ ?side1 ?side2 ?side3 ?side4 A42.out).mono ?_); (case side1 => exact cz ((Kd.R_reads' HO209.out).2.2)); (case side2 => exact (Kd.R_reads' HO209.out).2.1); (case side3 => exact cz ((Kd.R_reads' HO214.out).2.2)); (case side4 => exact (Kd.R_reads' HO214.out).2.1); rintro e w' ⟨rfl, ⟨nd, rfl⟩⟩))
           go_meet
           case rel => exact ⟨_, (!t215), (by first | rfl | (simp; done) | (simp [*]; done)), H', ⟨by first | omega | exact Nat.le_refl _⟩, ⟨by (with_reducible repeat (first | apply Kd.R_alloc | apply Kd.R_drewN | apply Kd.R_drew)); exact Kd.R_mono HO176.out (fun _ hk => hk.1.1.1.2)⟩, ⟨by (with_reducible repeat (first | apply Kd.N_alloc | apply Kd.N_drewN | apply Kd.N_drew)); exact Kd.N_mono HO185.out (fun _ hk => ⟨hk.1.1.1.1.1.1.1.1, ⟨hk.1.1.1.1.1.1.1.2, hk.1.1.1.1.1.1.2⟩⟩)⟩, ⟨by (with_reducible repeat (first | apply Kd.R_alloc | apply Kd.R_drewN | apply Kd.R_drew)); exact Kd.R_mono HO188.out (fun _ hk => hk.1.1.1.2)⟩, ⟨by (with_reducible repeat (first | refine blk_drewN ?_ _ | refine blk_drew ?_ | refine blk_alloc ?_ _)); exact BK189.out⟩, ⟨by repeat (first | (with_reducible first | exact HB.out | apply below_alloc | apply pw_below_drewN | apply below_drew1 | refine below_set ?_ GE189.out) | exact HB.out)⟩⟩
          ·rw [if_neg c41] at H
           have c41b0 : (t210 == 0) = false := beq_eq_false_iff_ne.mpr c41
           have c41b1 : (t210 != 0) = true := bne_iff_ne.mpr c41
           have H' := Aside0.mk H
           clear H
           obtain ⟨Ao48, co48, eo48⟩ := Kd.R_slice HO205.out
           subst eo48
           have p211 : 0 ≤ (0 : Int) := (by omega)
           have q211 : 0 < (t203.length : Int) := of_decide_eq_true az
           obtain ⟨ad211, e211, hx211_0, hx211_1⟩ := at_T53 (Kd.R_reads' HO205.out).2.2 0 p211 q211
           cases e211
           have qi211 : (0 < t203.length) = True := eq_true (by omega)
           (try rw [show ((0 : Int)).toNat = 0 from rfl] at hx211_0)
           (try rw [show 0 * 2 = 0 from rfl] at hx211_0)
           (try rw [Addr.add_zero'] at hx211_0)
           (try rw [show ((0 : Int)).toNat = 0 from rfl] at hx211_1)
           (try rw [show 0 * 2 = 0 from rfl] at hx211_1)
           (try rw [Addr.add_zero'] at hx211_1)
           replace p211 := eq_true p211
           replace q211 := eq_true q211
           go_wp2
           go_meet
           case rel => exact ⟨_, (true), (by first | rfl | (simp; done) | (simp [*]; done)), H', ⟨by first | omega | exact Nat.le_refl _⟩, ⟨by (with_reducible repeat (first | apply Kd.R_alloc | apply Kd.R_drewN | apply Kd.R_drew)); exact Kd.R_mono HO176.out (fun _ hk => hk.1.1.2)⟩, ⟨by (with_reducible repeat (first | apply Kd.N_alloc | apply Kd.N_drewN | apply Kd.N_drew)); exact Kd.N_mono HO185.out (fun _ hk => ⟨hk.1.1.1.1.1.1.1, ⟨hk.1.1.1.1.1.1.2, hk.1.1.1.1.1.2⟩⟩)⟩, ⟨by (with_reducible repeat (first | apply Kd.R_alloc | apply Kd.R_drewN | apply Kd.R_drew)); exact Kd.R_mono HO188.out (fun _ hk => hk.1.1.2)⟩, ⟨by (with_reducible repeat (first | refine blk_drewN ?_ _ | refine blk_drew ?_ | refine blk_alloc ?_ _)); exact BK189.out⟩, ⟨by repeat (first | (with_reducible first | exact HB.out | apply below_alloc | apply pw_below_drewN | apply below_drew1 | refine below_set ?_ GE189.out) | exact HB.out)⟩⟩
        ·rw [if_neg c38] at H
         exact absurd H (by simp)
       ·rw [if_neg c37] at H
        have c37b0 : ((t203.length : Int) == 1) = false := beq_eq_false_iff_ne.mpr c37
        have c37b1 : ((t203.length : Int) != 1) = true := bne_iff_ne.mpr c37
        have H' := Aside0.mk H
        clear H
        obtain ⟨Ao49, co49, eo49⟩ := Kd.R_slice HO205.out
        subst eo49
        go_wp2
        go_meet
        case rel => exact ⟨_, (true), (by first | rfl | (simp; done) | (simp [*]; done)), H', ⟨by first | omega | exact Nat.le_refl _⟩, ⟨by (with_reducible repeat (first | apply Kd.R_alloc | apply Kd.R_drewN | apply Kd.R_drew)); exact Kd.R_mono HO176.out (fun _ hk => hk.1.1.2)⟩, ⟨by (with_reducible repeat (first | apply Kd.N_alloc | apply Kd.N_drewN | apply Kd.N_drew)); exact Kd.N_mono HO185.out (fun _ hk => ⟨hk.1.1.1.1.1.1.1, ⟨hk.1.1.1.1.1.1.2, hk.1.1.1.1.1.2⟩⟩)⟩, ⟨by (with_reducible repeat (first | apply Kd.R_alloc | apply Kd.R_drewN | apply Kd.R_drew)); exact Kd.R_mono HO188.out (fun _ hk => hk.1.1.2)⟩, ⟨by (with_reducible repeat (first | refine blk_drewN ?_ _ | refine blk_drew ?_ | refine blk_alloc ?_ _)); exact BK189.out⟩, ⟨by repeat (first | (with_reducible first | exact HB.out | apply below_alloc | apply pw_below_drewN | apply below_drew1 | refine below_set ?_ GE189.out) | exact HB.out)⟩⟩
      ·rw [if_neg c36] at H
       have c36b0 : (t206 == 0) = false := beq_eq_false_iff_ne.mpr c36
       have c36b1 : (t206 != 0) = true := bne_iff_ne.mpr c36
       have H' := Aside0.mk H
       clear H
       go_wp2
       go_meet
       case rel => exact ⟨_, (true), (by first | rfl | (simp; done) | (simp [*]; done)), H', ⟨by first | omega | exact Nat.le_refl _⟩, ⟨by (with_reducible repeat (first | apply Kd.R_alloc | apply Kd.R_drewN | apply Kd.R_drew)); exact Kd.R_mono HO176.out (fun _ hk => hk.1.1.2)⟩, ⟨by (with_reducible repeat (first | apply Kd.N_alloc | apply Kd.N_drewN | apply Kd.N_drew)); exact Kd.N_mono HO185.out (fun _ hk => ⟨hk.1.1.1.1.1.1.1, ⟨hk.1.1.1.1.1.1.2, hk.1.1.1.1.1.2⟩⟩)⟩, ⟨by (with_reducible repeat (first | apply Kd.R_alloc | apply Kd.R_drewN | apply Kd.R_drew)); exact Kd.R_mono HO188.out (fun _ hk => hk.1.1.2)⟩, ⟨by (with_reducible repeat (first | refine blk_drewN ?_ _ | refine blk_drew ?_ | refine blk_alloc ?_ _)); exact BK189.out⟩, ⟨by repeat (first | (with_reducible first | exact HB.out | apply below_alloc | apply pw_below_drewN | apply below_drew1 | refine below_set ?_ GE189.out) | exact HB.out)⟩⟩
     ·rw [if_neg c35] at H
      have c35b0 : (t198 == 2) = false := beq_eq_false_iff_ne.mpr c35
      have c35b1 : (t198 != 2) = true := bne_iff_ne.mpr c35
      have H' := Aside0.mk H
      clear H
      go_wp2
      go_meet
      case rel => exact ⟨_, (true), (by first | rfl | (simp; done) | (simp [*]; done)), H', ⟨by first | omega | exact Nat.le_refl _⟩, ⟨by (with_reducible repeat (first | apply Kd.R_alloc | apply Kd.R_drewN | apply Kd.R_drew)); exact Kd.R_mono HO176.out (fun _ hk => hk.1.1.2)⟩, ⟨by (with_reducible repeat (first | apply Kd.N_alloc | apply Kd.N_drewN | apply Kd.N_drew)); exact Kd.N_mono HO185.out (fun _ hk => ⟨hk.1.1.1.1.1.1.1, ⟨hk.1.1.1.1.1.1.2, hk.1.1.1.1.1.2⟩⟩)⟩, ⟨by (with_reducible repeat (first | apply Kd.R_alloc | apply Kd.R_drewN | apply Kd.R_drew)); exact Kd.R_mono HO188.out (fun _ hk => hk.1.1.2)⟩, ⟨by (with_reducible repeat (first | refine blk_drewN ?_ _ | refine blk_drew ?_ | refine blk_alloc ?_ _)); exact BK189.out⟩, ⟨by repeat (first | (with_reducible first | exact HB.out | apply below_alloc | apply pw_below_drewN | apply below_drew1 | refine below_set ?_ GE189.out) | exact HB.out)⟩⟩
    ·rw [if_neg c34] at H
     have c34b0 : (t199 == 0) = false := beq_eq_false_iff_ne.mpr c34
     have c34b1 : (t199 != 0) = true := bne_iff_ne.mpr c34
     have H' := Aside0.mk H
     clear H
     go_wp2
     go_meet
     case rel => exact ⟨_, (true), (by first | rfl | (simp; done) | (simp [*]; done)), H', ⟨by first | omega | exact Nat.le_refl _⟩, ⟨by (with_reducible repeat (first | apply Kd.R_alloc | apply Kd.R_drewN | apply Kd.R_drew)); exact Kd.R_mono HO176.out (fun _ hk => hk.1.1.2)⟩, ⟨by (with_reducible repeat (first | apply Kd.N_alloc | apply Kd.N_drewN | apply Kd.N_drew)); exact Kd.N_mono HO185.out (fun _ hk => ⟨hk.1.1.1.1.1.1.1, ⟨hk.1.1.1.1.1.1.2, hk.1.1.1.1.1.2⟩⟩)⟩, ⟨by (with_reducible repeat (first | apply Kd.R_alloc | apply Kd.R_drewN | apply Kd.R_drew)); exact Kd.R_mono HO188.out (fun _ hk => hk.1.1.2)⟩, ⟨by (with_reducible repeat (first | refine blk_drewN ?_ _ | refine blk_drew ?_ | refine blk_alloc ?_ _)); exact BK189.out⟩, ⟨by repeat (first | (with_reducible first | exact HB.out | apply below_alloc | apply pw_below_drewN | apply below_drew1 | refine below_set ?_ GE189.out) | exact HB.out)⟩⟩
   ·rw [if_neg c33] at H
    have c33b0 : (t193 == 7) = false := beq_eq_false_iff_ne.mpr c33
    have c33b1 : (t193 != 7) = true := bne_iff_ne.mpr c33
    have H' := Aside0.mk H
    clear H
    go_wp2
    go_meet
    case rel => exact ⟨_, (true), (by first | rfl | (simp; done) | (simp [*]; done)), H', ⟨by first | omega | exact Nat.le_refl _⟩, ⟨by (with_reducible repeat (first | apply Kd.R_alloc | apply Kd.R_drewN | apply Kd.R_drew)); exact Kd.R_mono HO176.out (fun _ hk => hk.1.1.2)⟩, ⟨by (with_reducible repeat (first | apply Kd.N_alloc | apply Kd.N_drewN | apply Kd.N_drew)); exact Kd.N_mono HO185.out (fun _ hk => ⟨hk.1.1.1.1.1.1.1, ⟨hk.1.1.1.1.1.1.2, hk.1.1.1.1.1.2⟩⟩)⟩, ⟨by (with_reducible repeat (first | apply Kd.R_alloc | apply Kd.R_drewN | apply Kd.R_drew)); exact Kd.R_mono HO188.out (fun _ hk => hk.1.1.2)⟩, ⟨by (with_reducible repeat (first | refine blk_drewN ?_ _ | refine blk_drew ?_ | refine blk_alloc ?_ _)); exact BK189.out⟩, ⟨by repeat (first | (with_reducible first | exact HB.out | apply below_alloc | apply pw_below_drewN | apply below_drew1 | refine below_set ?_ GE189.out) | exact HB.out)⟩⟩
  ·rw [if_neg c32] at H
   have c32b0 : (t194 == 0) = false := beq_eq_false_iff_ne.mpr c32
   have c32b1 : (t194 != 0) = true := bne_iff_ne.mpr c32
   (first | rw [c32b0] | (simp only [i64_w, i32_w]; rw [c32b0]) | skip)
   have H' := Aside0.mk H
   clear H
   go_wp2
   go_meet
   case rel => exact ⟨_, (true), (by first | rfl | (simp; done) | (simp [*]; done)), H', ⟨by first | omega | exact Nat.le_refl _⟩, ⟨by (with_reducible repeat (first | apply Kd.R_alloc | apply Kd.R_drewN | apply Kd.R_drew)); exact Kd.R_mono HO176.out (fun _ hk => hk.1.1.2)⟩, ⟨by (with_reducible repeat (first | apply Kd.N_alloc | apply Kd.N_drewN | apply Kd.N_drew)); exact Kd.N_mono HO185.out (fun _ hk => ⟨hk.1.1.1.1.1.1.1, ⟨hk.1.1.1.1.1.1.2, hk.1.1.1.1.1.2⟩⟩)⟩, ⟨by (with_reducible repeat (first | apply Kd.R_alloc | apply Kd.R_drewN | apply Kd.R_drew)); exact Kd.R_mono HO188.out (fun _ hk => hk.1.1.2)⟩, ⟨by (with_reducible repeat (first | refine blk_drewN ?_ _ | refine blk_drew ?_ | refine blk_alloc ?_ _)); exact BK189.out⟩, ⟨by repeat (first | (with_reducible first | exact HB.out | apply below_alloc | apply pw_below_drewN | apply below_drew1 | refine below_set ?_ GE189.out) | exact HB.out)⟩⟩
 case rest =>
  clear HC5
  try clear c1
  try clear c2
  try clear p2
  try clear q2
  try clear hx2
  try clear qi2
  try clear c3
  try clear c4
  try clear c14
  try clear c15
  try clear c17
  try clear p21
  try clear q21
  try clear hx21
  try clear qi21
  try clear c27
  try clear c28
  try clear c32
  try clear c32b0
  try clear c32b1
  try clear c33
  try clear c33b0
  try clear c33b1
  try clear c34
  try clear c34b0
  try clear c34b1
  try clear c35
  try clear c35b0
  try clear c35b1
  try clear c36
  try clear c36b0
  try clear c36b1
  try clear c37
  try clear c37b0
  try clear c37b1
  try clear c38
  try clear c38b0
  try clear c38b1
  try clear c39
  try clear c39b0
  try clear c41
  try clear c41b0
  try clear c41b1
  try clear hcz22_0
  try clear hcz22_1
  try clear hcz22_2
  try clear hcz24_0
  try clear hcz24_1
  try clear hcz24_2
  try clear hcz30_0
  try clear hcz30_1
  try clear hcz30_2
  try clear hfz22_0
  try clear hfz22_1
  try clear hfz22_2
  try clear hfz24_0
  try clear hfz24_1
  try clear hfz24_2
  try clear hfz30_0
  try clear hfz30_1
  try clear hfz30_2
  try clear hx211_0
  try clear hx211_1
  try clear p211
  try clear q211
  obtain ⟨kq, x80_4, rfl, HA, HJ4, HO_190000, HO_190001, HO_190002, BK189, HB⟩ := hcut
  cases kq with
  | zero => exact absurd HA.out (by simp [tickinglaw07_awake.j0])
  | succ kj4 =>
   have H := HA.out
   clear HA
   simp only [tickinglaw07_awake.j0] at H
   by_cases c50 : x80_4 = true
   ·subst c50
    have H1 : (some false) = some r := by rw [if_pos rfl] at H; exact H
    clear H
    have H := H1
    clear H1
    obtain rfl := Option.some.inj H
    go_wp2
    go_ret
    exact ⟨by first | rfl | (simp [errW_none, errW_some] <;> rfl) | (simp [*, errW_none, errW_some] <;> rfl), by repeat (first | (with_reducible first | exact HB.out | apply below_alloc | apply pw_below_drewN | apply below_drew1 | refine below_set ?_ GE189.out) | exact HB.out)⟩
   ·replace c50 := Bool.eq_false_iff.mpr c50
    subst c50
    have H1 : (some true) = some r := by rw [if_neg (show ¬ (false = true) by decide)] at H; exact H
    clear H
    have H := H1
    clear H1
    obtain rfl := Option.some.inj H
    go_wp2
    go_ret
    exact ⟨by first | rfl | (simp [errW_none, errW_some] <;> rfl) | (simp [*, errW_none, errW_some] <;> rfl), by repeat (first | (with_reducible first | exact HB.out | apply below_alloc | apply pw_below_drewN | apply below_drew1 | refine below_set ?_ GE189.out) | exact HB.out)⟩

end Go.Proofs.YtekmiepdodaidaaDoor.X
end

section
namespace Go.Proofs.YtekmiepdodaidaaDoor.X
open Go.RowKit Go.Proofs.YtekmiepdodaidaaDoorW.PrintWords Go.Proofs.YtekmiepdodaidaaDoorW.PrintLast Go.Proofs.YtekmiepdodaidaaDoorW.PrintMore
attribute [local go_sem] max2_int min2_int max_two min_two max_three min_three max_four min_four   -- for this text's walks alone
set_option linter.unusedVariables false
set_option linter.unusedSimpArgs false

def tickinglaw07_list.f (l0 : List Int) : Option (List Int) := if 0 ≤ (mn (l0.length : Int) 14) then (if (mn (l0.length : Int) 14) ≤ (l0.length : Int) then (if ([] : List Int).length + (l0.take ((mn (l0.length : Int) 14) : Int).toNat).length < 17592186044416 then (some (([] : List Int) ++ (l0.take ((mn (l0.length : Int) 14) : Int).toNat))) else (none)) else (none)) else (none)
set_option maxHeartbeats 8000000 in
set_option maxRecDepth 100000 in
theorem tickinglaw07_list.calls (A0 : Option Addr) (c0 : Nat) (l0 : List Int) (r : List Int) (w : World) (hr0 : Kd.C (Kd.int .i64) w A0 l0.length l0) (hc0 : l0.length ≤ c0) (h : tickinglaw07_list.f l0 = some r) :
  Calls Tryd.prog 38 #[.slice A0 l0.length c0] w fun e w' => ∃ v0_ : Value, e = .returned (v0_) ∧ Kd.R (Kd.int .i64) 3 w' w.heap.size (fun _ => True) v0_ r ∧ Below w.heap.size w w' := by
 have HR0 := Aside0.mk hr0
 have HC0 := Aside0.mk hc0
 clear hr0 hc0
 have HB := Aside0.mk (Below.refl w.heap.size w)
 have H : (if 0 ≤ (mn (l0.length : Int) 14) then (if (mn (l0.length : Int) 14) ≤ (l0.length : Int) then (if ([] : List Int).length + (l0.take ((mn (l0.length : Int) 14) : Int).toNat).length < 17592186044416 then (some (([] : List Int) ++ (l0.take ((mn (l0.length : Int) 14) : Int).toNat))) else (none)) else (none)) else (none)) = some r := h
 clear h
 obtain ⟨ji2, hji2⟩ : ∃ j_ : Int, (mn (l0.length : Int) 14) = j_ := ⟨_, rfl⟩
 replace H : (if 0 ≤ (ji2) then (if (ji2) ≤ (l0.length : Int) then (if ([] : List Int).length + (l0.take ((ji2) : Int).toNat).length < 17592186044416 then (some (([] : List Int) ++ (l0.take ((ji2) : Int).toNat))) else (none)) else (none)) else (none)) = some r := by first | (rw [hji2] at H; exact H) | (simp only [hji2] at H ⊢; exact H)
 (try (have hji2h : ji2 ≤ 14 := by (rw [← hji2]; unfold mn; (repeat' split) <;> omega)))
 (try (have hji2g : ji2 ≤ 64 := by omega))
 (try (have hji2l : 0 ≤ ji2 := by (rw [← hji2]; unfold mn; (repeat' split) <;> omega)))
 (try (have hji2m : 0 ≤ ji2 := by omega))
 have hji2_ : (if 14 < (l0.length : Int) then 14 else (l0.length : Int)) = ji2 := hji2
 by_cases c3 : 0 ≤ (ji2)
 ·rw [if_pos c3] at H
  have c3b0 := eq_true c3
  have c3b1 : decide (0 ≤ (ji2)) = true := decide_eq_true c3
  clear c3
  by_cases c4 : (ji2) ≤ (l0.length : Int)
  ·rw [if_pos c4] at H
   have c4b0 := eq_true c4
   have c4b1 : decide ((ji2) ≤ (l0.length : Int)) = true := decide_eq_true c4
   clear c4
   by_cases c5 : ([] : List Int).length + (l0.take ((ji2) : Int).toNat).length < 17592186044416
   ·rw [if_pos c5] at H
    have LMc5 := Aside0.mk c5
    clear c5
    obtain ⟨y110, hy110⟩ : ∃ y_ : List Int, y_ = (([] : List Int) ++ (l0.take ((ji2) : Int).toNat)) := ⟨_, rfl⟩
    replace H : (some y110) = some r := by first | (rw [hy110]; with_reducible exact H) | (have H2_ := (Option.bind_some _ _).symm.trans H; rw [hy110]; with_reducible exact H2_) | (have H2_ := (Option.bind_some _ _).symm.trans H; with_reducible exact H2_) | with_reducible exact H | (rw [hy110]; exact H) | exact H
    have Ny110 := Aside0.mk hy110
    clear hy110
    obtain rfl := Option.some.inj H
    obtain ⟨i06, hi06, _, hsz6, _⟩ := info_parts info3
    obtain ⟨hcut6, hA6, hC6⟩ := print_take_of (P := Tryd.prog) (Value.int .i64) 0 22 3 .i64 Tryd.underlying22 hi06 hsz6 A0 c0 l0 (ji2) (of_decide_eq_true az) (of_decide_eq_true az) HC0.out
    have HR109 := Aside0.mk (Kd.C_of_reads (h1 := fun _ => rfl) (hA6 _ (Kd.reads_of_C HR0.out)))
    have HC109 := Aside0.mk hC6
    clear hA6 hC6 hi06 hsz6
    go_enter Tryd.func38, Tryd.ntmps38
    go_wp2_with (first | ((with_reducible refine gate_builtin (b := .append) (xs := #[.tmp 4, .tmp 9]) rfl ?_); at_builtin; refine Kd.R_append_rows (Kd.int .i64) (w0 := w) w.heap.size rfl (.tmp 4) (.tmp 9) 22 3 (.int .i64 0) 8 rfl Tryd.underlying22 info3 rfl (by decide) (by omega) (.slice none 0 0) ([] : List Int) (l0.take ((ji2) : Int).toNat) _ _ _ (fun _ => True) (fun _ => False) rfl rfl ?aO ?aR (fun _ _ h => h) (fun _ h => h.elim) ?aF ?aB ?aS ?aL ?_; (case aR => first | (have h9_ := HR109.out; rw [show (l0.take ((ji2) : Int).toNat).length = (ji2).toNat from (by rw [List.length_take]; have h_ : ((ji2) : Int) ≤ (l0.length : Int) := of_decide_eq_true az; omega)] at h9_; (repeat (first | exact h9_ | (with_reducible refine Kd.C_alloc ?_ _) | (with_reducible refine Kd.C_drewN ?_ _) | (with_reducible refine Kd.C_drew ?_))); done) | (rw [← show (l0.take ((ji2) : Int).toNat).length = (ji2).toNat from (by rw [List.length_take]; have h_ : ((ji2) : Int) ≤ (l0.length : Int) := of_decide_eq_true az; omega)]; repeat (first | exact HR109.out | (with_reducible refine Kd.C_alloc ?_ _) | (with_reducible refine Kd.C_drewN ?_ _) | (with_reducible refine Kd.C_drew ?_)); done) | (repeat (first | exact HR109.out | (with_reducible refine Kd.C_alloc ?_ _) | (with_reducible refine Kd.C_drewN ?_ _) | (with_reducible refine Kd.C_drew ?_)))); (case aB => exact bz); (case aF => exact (fun _ _ => trivial)); (case aO => exact ((Kd.R_nil _ _ _ _ (fun _ => True)))); (case aS => exact (below_size bz)); (case aL => have := LMc5.out; have hlx_ := (show (l0.take ((ji2) : Int).toNat).length = (ji2).toNat from (by rw [List.length_take]; have h_ : ((ji2) : Int) ≤ (l0.length : Int) := of_decide_eq_true az; omega)); omega); intro v111 w7 ho hb hg hat; rw [← Ny110.out] at ho; have n0_ := Aside0.mk (hb); have n1_ := Aside0.mk (ho); clear HB; have HB := n0_; have HO112 := n1_; clear n0_ n1_; clear ho hb hg hat))
    go_ret
    exact ⟨_, by first | rfl | (simp [errW_none, errW_some] <;> rfl) | (simp only [← hji2]; first | rfl | (simp [errW_none, errW_some] <;> rfl)) | (simp [*, errW_none, errW_some] <;> rfl), by (with_reducible repeat (first | apply Kd.R_alloc | apply Kd.R_drewN | apply Kd.R_drew)); exact HO112.out, by repeat (first | (with_reducible first | exact HB.out | apply below_alloc | apply pw_below_drewN | apply below_drew1) | exact HB.out)⟩
   ·rw [if_neg c5] at H
    exact absurd H (by simp)
  ·rw [if_neg c4] at H
   exact absurd H (by simp)
 ·rw [if_neg c3] at H
  exact absurd H (by simp)

end Go.Proofs.YtekmiepdodaidaaDoor.X
end
