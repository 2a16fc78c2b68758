/- Texts behind TestsGreedy, part 29: contracts of the program's functions and the plain words for them. -/
import Derived.Test.YtekmiepdodaidaaDoorTpav
import Derived.Test.YtekmiepdodaidaaDoorTpbb
section
/- tests.Greedy, by hand. -/
set_option linter.unusedVariables false
set_option linter.unusedSimpArgs false
namespace Go.Proofs.YtekmiepdodaidaaDoor.X
open Go.RowKit Go.Proofs.YtekmiepdodaidaaDoorW.PrintWords Go.Proofs.YtekmiepdodaidaaDoorW.PrintLast Go.Proofs.YtekmiepdodaidaaDoorW.PrintMore

section
variable {A0 : Option Addr} {c0 : Nat} {a : List Int} {A1 : Option Addr} {c1 : Nat} {b : List (List Int)} {A2 : Option Addr} {c2 : Nat} {c : List Int} {w : World}
def GrNone (er : Int) (w : World) (e : Ending) (w' : World) : Prop := e = .returned (.tuple #[.slice none 0 0, .int .i64 er]) ∧ Below w.heap.size w w'
set_option maxHeartbeats 4000000 in
set_option maxRecDepth 100000 in
theorem greedy_bad (h : CaseAt w A0 c0 a A1 c1 b A2 c2 c) (hc : caseB a b c = false) : Calls Tryd.prog 26 #[.agg #[.slice A0 a.length c0, .slice A1 b.length c1, .slice A2 c.length c2]] w (GrNone 2 w) := by
 have H := Aside0.mk h
 have HC := Aside0.mk hc
 have HB := Aside0.mk (Below.refl w.heap.size w)
 clear h hc
 go_enter Tryd.func26, Tryd.ntmps26
 go_wp2_with (go_at_call 45; refine (trial_bad (H.out.below ((Below.refl _ _).alloc (Nat.le_refl _) _)) HC.out).mono ?_; rintro e w5 ⟨A3, c3, rfl, hb⟩; have HB5 := Aside0.mk (below_step (below_alloc HB.out _) hb); clear hb)
 go_ret2
 exact ⟨rfl, below_alloc HB5.out _⟩
set_option maxHeartbeats 4000000 in
set_option maxRecDepth 100000 in
theorem greedy_alike (h : CaseAt w A0 c0 a A1 c1 b A2 c2 c) (hc : caseB a b c = true) (hal : alikeL (onesOf b) a.length ≠ []) : Calls Tryd.prog 26 #[.agg #[.slice A0 a.length c0, .slice A1 b.length c1, .slice A2 c.length c2]] w (GrNone 6 w) := by
 have H := Aside0.mk h
 have HC := Aside0.mk hc
 have HI := Aside0.mk (case_is hc)
 have HB := Aside0.mk (Below.refl w.heap.size w)
 obtain ⟨n, hn⟩ : ∃ n, n = (alikeL (onesOf b) a.length).length := ⟨_, rfl⟩
 have HN := Aside0.mk hn
 have hpos : (0 : Int) < (n : Int) := by have := List.length_pos_iff.2 hal; omega
 clear h hc hal hn
 go_enter Tryd.func26, Tryd.ntmps26
 go_wp2_with (first | (go_at_call 45; refine (trial_good (H.out.below ((Below.refl _ _).alloc (Nat.le_refl _) _)) HC.out).mono ?_; rintro e w5 ⟨A3, c3, rfl, hr3, hb⟩; have HR3 := Aside0.mk hr3; have HB5 := Aside0.mk (below_step (below_alloc HB.out _) hb); clear hr3 hb) | (go_at_call 49; refine (alike_n (H.out.below (below_alloc HB5.out _)) HI.out A3 c3 (onesOf b) _ (Kd.C_alloc HR3.out.1 _) HR3.out.2).mono ?_; rintro e w6 ⟨A4, c4, rfl, hb⟩; have HB6 := Aside0.mk (below_step (below_alloc HB5.out _) hb); rw [← HN.out]; clear hb))
 go_ret2
 exact ⟨rfl, HB6.out⟩
def GrGood (l : List S57) (w : World) (e : Ending) (w' : World) : Prop := ∃ v, e = .returned (.tuple #[v, .int .i64 0]) ∧ Kd.R k57 57 w' w.heap.size (fun _ => True) v l ∧ Below w.heap.size w w'
set_option maxHeartbeats 8000000 in
set_option maxRecDepth 100000 in
theorem greedy_good (h : CaseAt w A0 c0 a A1 c1 b A2 c2 c) (hc : caseB a b c = true) (hal : alikeL (onesOf b) a.length = []) (hT : Tab w) :
  Calls Tryd.prog 26 #[.agg #[.slice A0 a.length c0, .slice A1 b.length c1, .slice A2 c.length c2]] w (GrGood (treeB (greedyT a c (onesOf b)) (onesOf b) (allOf a) 0) w) := by
 have H := Aside0.mk h
 have HC := Aside0.mk hc
 have HI := Aside0.mk (case_is hc)
 have HT := Aside0.mk hT
 have HD := Aside0.mk (Differ.mk (case_is hc) hal)
 have HB := Aside0.mk (Below.refl w.heap.size w)
 have HSET := Aside0.mk (onesOf_set HI.out.a10 HI.out.rows)
 have hpos : (alikeL (onesOf b) a.length).length = 0 := by rw [hal]; rfl
 have HP := Aside0.mk hpos
 have hall : ((2 ^ a.length : Nat) : Int) - 1 = allOf a := rfl
 have HALL := Aside0.mk hall
 clear h hc hal hT hpos hall
 go_enter Tryd.func26, Tryd.ntmps26
 go_upto_region 6 with (first | (go_at_call 45; refine (trial_good (H.out.below ((Below.refl _ _).alloc (Nat.le_refl _) _)) HC.out).mono ?_; rintro e w5 ⟨A3, c3, rfl, hr3, hb⟩; rw [HALL.out]; have HR3 := Aside0.mk hr3; have HB5 := Aside0.mk (below_step (below_alloc HB.out _) hb); clear hr3 hb) | (go_at_call 49; refine (alike_n (H.out.below (below_alloc HB5.out _)) HI.out A3 c3 (onesOf b) _ (Kd.C_alloc HR3.out.1 _) HR3.out.2).mono ?_; rintro e w6 ⟨A4, c4, rfl, hb⟩; have HB6 := Aside0.mk (below_step (below_alloc HB5.out _) hb); have HR6 := Aside0.mk (Kd.C_below (Kd.C_alloc HR3.out.1 _) hb); have HX6 := Aside0.mk ((hb.block _ (by rw [size_alloc']; omega)).trans (blk_new w5 _)); rw [HP.out]; clear hb))
 have HC6 := Aside0.mk (H.out.below HB6.out)
 have HN3 := Aside0.mk HR3.out.2
 have HTA := Aside0.mk (show TrialAt w6 w5.heap.size A0 c0 a A1 c1 b A2 c2 c A3 c3 (allOf a) from ⟨HX6.out, HC6.out, HR6.out, HN3.out⟩)
 have HGR := Aside0.mk (greedy_ok HD.out)
 have HP50 := Aside0.mk (fun (w9 : World) (hb : Below w6.heap.size w6 w9) => plan51 A0 c0 a A1 c1 b A2 c2 c A3 c3 (onesOf b) (allOf a) w5.heap.size (greedyT a c (onesOf b)) (SetN a.length) w9 (Kd.C_below HR6.out hb) HN3.out ((HT.out.below HB6.out).below hb) HGR.out.runs (all_in HD.out)
  (fun W' hb2 s hR hp => greedy51 HI.out HSET.out ((HTA.out.below hb).below hb2) s hR.1))
 have hz0 : w6.cell? ⟨w5.heap.size, 0, none⟩ = some (.slice A0 a.length c0) := (blk_cell HX6.out 0).trans rfl
 have hz1 : w6.cell? ⟨w5.heap.size, 1, none⟩ = some (.slice A1 b.length c1) := (blk_cell HX6.out 1).trans rfl
 have hz2 : w6.cell? ⟨w5.heap.size, 2, none⟩ = some (.slice A2 c.length c2) := (blk_cell HX6.out 2).trans rfl
 have hz3 : w6.cell? ⟨w5.heap.size, 3, none⟩ = some (.slice A3 (onesOf b).length c3) := (blk_cell HX6.out 3).trans rfl
 have hz4 : w6.cell? ⟨w5.heap.size, 4, none⟩ = some (.int .u64 (allOf a)) := (blk_cell HX6.out 4).trans rfl
 go_wp2_with (go_at_call 50; (with_reducible refine (HP50.out _ (Below.refl _ _)).mono ?_); rintro e w9 ⟨v9, rfl, hr9, hb9⟩; have HR9 := Aside0.mk hr9; have HB9 := Aside0.mk hb9; clear hr9 hb9)
 go_ret2
 exact ⟨v9, rfl, Kd.R_lower HR9.out (below_size HB6.out), below_step HB6.out HB9.out⟩
end
def tests_Greedy.f (a : List Int) (b : List (List Int)) (c : List Int) : Option (List S57 × Int) :=
 some (if caseB a b c = true then (if alikeL (onesOf b) a.length = [] then (treeB (greedyT a c (onesOf b)) (onesOf b) (allOf a) 0, 0) else ([], 6)) else ([], 2))
theorem tests_Greedy.calls (A0 : Option Addr) (c0 : Nat) (a : List Int) (A1 : Option Addr) (c1 : Nat) (b : List (List Int)) (A2 : Option Addr) (c2 : Nat) (c : List Int) (r1 : List S57) (r2 : Int) (w : World)
  (h0 : Kd.C (Kd.int .i64) w A0 a.length a) (n0 : a.length ≤ c0) (h1 : Kd.C (Kd.slice 3 (Kd.int .i64)) w A1 b.length b) (n1 : b.length ≤ c1) (h2 : Kd.C (Kd.int .i64) w A2 c.length c) (n2 : c.length ≤ c2) (h : tests_Greedy.f a b c = some (r1, r2)) (hT : Tab w) :
  Calls Tryd.prog 26 #[.agg #[.slice A0 a.length c0, .slice A1 b.length c1, .slice A2 c.length c2]] w fun e w' => ∃ v0_ : Value, e = .returned (.tuple #[v0_, .int .i64 r2]) ∧ Kd.R k57 57 w' w.heap.size (fun _ => True) v0_ r1 ∧ Below w.heap.size w w' := by
 have H : CaseAt w A0 c0 a A1 c1 b A2 c2 c := ⟨h0, n0, h1, n1, h2, n2⟩
 have hr := Option.some.inj h
 by_cases hc : caseB a b c = true
 ·rw [if_pos hc] at hr
  by_cases hal : alikeL (onesOf b) a.length = []
  ·rw [if_pos hal] at hr
   obtain ⟨rfl, rfl⟩ := Prod.mk.inj hr
   exact greedy_good H hc hal hT
  ·rw [if_neg hal] at hr
   obtain ⟨rfl, rfl⟩ := Prod.mk.inj hr
   exact (greedy_alike H hc hal).mono fun e w' ⟨h1, h2⟩ => ⟨_, h1, Kd.R_nil _ _ _ _ _, h2⟩
 ·rw [if_neg hc] at hr
  obtain ⟨rfl, rfl⟩ := Prod.mk.inj hr
  exact (greedy_bad H (by simpa using hc)).mono fun e w' ⟨h1, h2⟩ => ⟨_, h1, Kd.R_nil _ _ _ _ _, h2⟩
end Go.Proofs.YtekmiepdodaidaaDoor.X
end
