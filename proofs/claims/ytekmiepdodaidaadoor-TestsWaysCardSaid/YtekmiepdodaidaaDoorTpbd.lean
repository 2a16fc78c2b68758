/- Texts behind TestsWays, part 30: contracts of the program's functions and the plain words for them. -/
import Derived.Test.YtekmiepdodaidaaDoorTpas
import Derived.Test.YtekmiepdodaidaaDoorTpat
import Derived.Test.YtekmiepdodaidaaDoorTpau
import Derived.Test.YtekmiepdodaidaaDoorTpay
import Derived.Test.YtekmiepdodaidaaDoorTpaz
import Derived.Test.YtekmiepdodaidaaDoorTpbc
section
namespace Go.Proofs.YtekmiepdodaidaaDoor.X
open Go.RowKit Go.Proofs.YtekmiepdodaidaaDoorW.PrintWords Go.Proofs.YtekmiepdodaidaaDoorW.PrintLast Go.Proofs.YtekmiepdodaidaaDoorW.PrintMore
attribute [local go_sem] max2_int min2_int max_two min_two max_three min_three max_four min_four   -- for this text's walks alone
set_option linter.unusedVariables false
set_option linter.unusedSimpArgs false

def tests_Check.f (k : Nat) (l0_0 : List Int) (l0_1 : List (List Int)) (l0_2 : List Int) (l1 : List (S57)) : Option (Int × Int × Int) := (tests_newTrial.f k l0_0 l0_1 l0_2).bind fun bt338 => (if bt338.2.2.2.2.2 = 0 then ((tests_trial_costs.f k bt338.1 bt338.2.1 bt338.2.2.1 bt338.2.2.2.1 bt338.2.2.2.2.1 l1).bind fun bt353 => (if bt353.2.2 = true then (some (bt353.1, bt353.2.1, 0)) else (some (0, 0, 10)))) else (some (0, 0, bt338.2.2.2.2.2)))
set_option maxHeartbeats 8000000 in
set_option maxRecDepth 100000 in
theorem tests_Check.calls (k : Nat) (A0_0 : Option Addr) (c0_0 : Nat) (l0_0 : List Int) (A0_1 : Option Addr) (c0_1 : Nat) (l0_1 : List (List Int)) (A0_2 : Option Addr) (c0_2 : Nat) (l0_2 : List Int) (A1 : Option Addr) (c1 : Nat) (l1 : List (S57)) (r1 : Int) (r2 : Int) (r3 : Int) (w : World) (hr0_0 : Kd.C (Kd.int .i64) w A0_0 l0_0.length l0_0) (hc0_0 : l0_0.length ≤ c0_0) (hr0_1 : Kd.C (Kd.slice 3 (Kd.int .i64)) w A0_1 l0_1.length l0_1) (hc0_1 : l0_1.length ≤ c0_1) (hr0_2 : Kd.C (Kd.int .i64) w A0_2 l0_2.length l0_2) (hc0_2 : l0_2.length ≤ c0_2) (hr1 : Kd.C k57 w A1 l1.length l1) (hc1 : l1.length ≤ c1) (h : tests_Check.f k l0_0 l0_1 l0_2 l1 = some (r1, r2, r3)) :
  Calls Tryd.prog 22 #[.agg #[.slice A0_0 l0_0.length c0_0, .slice A0_1 l0_1.length c0_1, .slice A0_2 l0_2.length c0_2], .slice A1 l1.length c1] w fun e w' => e = .returned (.tuple #[.int .i64 r1, .int .i64 r2, .int .i64 r3]) ∧ Below w.heap.size w w' := by
 have hu25 := Tryd.underlying25
 have hu77 := Tryd.underlying77
 have HR0_0 := Aside0.mk hr0_0
 have HC0_0 := Aside0.mk hc0_0
 clear hr0_0 hc0_0
 have HR0_1 := Aside0.mk hr0_1
 have HC0_1 := Aside0.mk hc0_1
 clear hr0_1 hc0_1
 have HR0_2 := Aside0.mk hr0_2
 have HC0_2 := Aside0.mk hc0_2
 clear hr0_2 hc0_2
 have HR1 := Aside0.mk hr1
 have HC1 := Aside0.mk hc1
 clear hr1 hc1
 have HB := Aside0.mk (Below.refl w.heap.size w)
 have H : ((tests_newTrial.f k l0_0 l0_1 l0_2).bind fun bt338 => (if bt338.2.2.2.2.2 = 0 then ((tests_trial_costs.f k bt338.1 bt338.2.1 bt338.2.2.1 bt338.2.2.2.1 bt338.2.2.2.2.1 l1).bind fun bt353 => (if bt353.2.2 = true then (some (bt353.1, bt353.2.1, 0)) else (some (0, 0, 10)))) else (some (0, 0, bt338.2.2.2.2.2)))) = some (r1, r2, r3) := h
 clear h
 replace H := Option.bind_eq_some_iff.mp H
 obtain ⟨⟨t338, t341, t344, t347, t350, t351⟩, A30, H⟩ := H
 replace H : (if t351 = 0 then ((tests_trial_costs.f k t338 t341 t344 t347 t350 l1).bind fun bt353 => (if bt353.2.2 = true then (some (bt353.1, bt353.2.1, 0)) else (some (0, 0, 10)))) else (some (0, 0, t351))) = some (r1, r2, r3) := H
 have A3 := Aside0.mk A30
 clear A30
 go_enter Tryd.func22, Tryd.ntmps22
 go_wp2_with (first | ((with_reducible refine gate_dst (N := 2) rfl ?_); refine box_event ?hg (N := 2) ?hd (cs := #[.slice A0_0 l0_0.length c0_0, .slice A0_1 l0_1.length c0_1, .slice A0_2 l0_2.length c0_2]) (t := 25) ?hr ?_; (case hd => rfl); (case hg => rfl); (case hr => first | (go_simp; done) | (go_simp; rfl)); intro gb337 hg w7 hbox hb; have n0_ := Aside0.mk (below_step bz hb); have n1_ := Aside0.mk (hbox); have n2_ := Aside0.mk ((by rw [hg]; exact (below_size bz) : w.heap.size ≤ gb337)); have n3_ := Aside0.mk ((by rw [hg]; exact (below_size bz) : w.heap.size ≤ gb337)); clear HB; have HB := n0_; have BK337 := n1_; have GW337 := n2_; have GE337 := n3_; clear n0_ n1_ n2_ n3_; clear hb hbox hg; have hcz8_0 : w7.cell? ⟨gb337, 0, none⟩ = some (.slice A0_0 l0_0.length c0_0) := (blk_cell BK337.out 0).trans rfl; have hcz8_1 : w7.cell? ⟨gb337, 1, none⟩ = some (.slice A0_1 l0_1.length c0_1) := (blk_cell BK337.out 1).trans rfl; have hcz8_2 : w7.cell? ⟨gb337, 2, none⟩ = some (.slice A0_2 l0_2.length c0_2) := (blk_cell BK337.out 2).trans rfl; have hfz8_0 := blk_frozen BK337.out 0; have hfz8_1 := blk_frozen BK337.out 1; have hfz8_2 := blk_frozen BK337.out 2) | ((with_reducible refine gate_callee (f := 45) rfl ?_); refine goesL_ (some 14) rfl rfl Tryd.func45 (by kernel_rfl) rfl #[.agg #[.slice A0_0 l0_0.length c0_0, .slice A0_1 l0_1.length c0_1, .slice A0_2 l0_2.length c0_2]] rfl dz ?_; (with_reducible refine (tests_newTrial.calls k (fun k_ => k_ < w.heap.size) _ _ l0_0 (fun k_ => k_ < w.heap.size) _ _ l0_1 (fun k_ => k_ < w.heap.size) _ _ l0_2 t338 t341 t344 t347 t350 t351 _ ?side1 ?side2 ?side3 A3.out).mono ?_); (case side1 => exact Kd.V_mk HC0_0.out (Kd.F_below (Kd.C_F (Kd.heap_int .i64) HR0_0.out) bz)); (case side2 => exact Kd.V_mk HC0_1.out (Kd.F_below (Kd.C_F (Kd.heap_slice 3 (Kd.heap_int .i64)) HR0_1.out) bz)); (case side3 => exact Kd.V_mk HC0_2.out (Kd.F_below (Kd.C_F (Kd.heap_int .i64) HR0_2.out) bz)); rintro e w9 ⟨v339, v342, v345, v348, rfl, ho0, ho1, ho2, ho3, hb⟩; refine ⟨_, rfl, ?_⟩; have n0_ := Aside0.mk (Kd.V_lower (Kd.V_mono (ok' := fun k_ => some k_ ≠ (v348 : Value).ownBlock ∧ k_ ≠ gb337) ho0 (fun k_ hk_ => ⟨hk_.2, Or.elim hk_.1 (fun hs_ => Or.elim hs_ (fun hs_ => fun e_ => Nat.not_le.2 hs_ (by rw [e_]; exact GW337.out)) (fun hs_ => Or.elim hs_ (fun hs_ => fun e_ => Nat.not_le.2 hs_ (by rw [e_]; exact GW337.out)) (fun hs_ => fun e_ => Nat.not_le.2 hs_ (by rw [e_]; exact GW337.out)))) (fun hn_ => (Kd.freshB (g := gb337) (o := .cells #[.slice A0_0 l0_0.length c0_0, .slice A0_1 l0_1.length c0_1, .slice A0_2 l0_2.length c0_2] 25 (0, 0)) (kz BK337.out) k_ hn_))⟩)) (below_size bz)); have n1_ := Aside0.mk (Kd.V_lower (Kd.V_mono (ok' := fun k_ => some k_ ≠ (v348 : Value).ownBlock ∧ k_ ≠ gb337) ho1 (fun k_ hk_ => ⟨hk_.2, Or.elim hk_.1 (fun hs_ => Or.elim hs_ (fun hs_ => fun e_ => Nat.not_le.2 hs_ (by rw [e_]; exact GW337.out)) (fun hs_ => Or.elim hs_ (fun hs_ => fun e_ => Nat.not_le.2 hs_ (by rw [e_]; exact GW337.out)) (fun hs_ => fun e_ => Nat.not_le.2 hs_ (by rw [e_]; exact GW337.out)))) (fun hn_ => (Kd.freshB (g := gb337) (o := .cells #[.slice A0_0 l0_0.length c0_0, .slice A0_1 l0_1.length c0_1, .slice A0_2 l0_2.length c0_2] 25 (0, 0)) (kz BK337.out) k_ hn_))⟩)) (below_size bz)); have n2_ := Aside0.mk (Kd.V_lower (Kd.V_mono (ok' := fun k_ => some k_ ≠ (v348 : Value).ownBlock ∧ k_ ≠ gb337) ho2 (fun k_ hk_ => ⟨hk_.2, Or.elim hk_.1 (fun hs_ => Or.elim hs_ (fun hs_ => fun e_ => Nat.not_le.2 hs_ (by rw [e_]; exact GW337.out)) (fun hs_ => Or.elim hs_ (fun hs_ => fun e_ => Nat.not_le.2 hs_ (by rw [e_]; exact GW337.out)) (fun hs_ => fun e_ => Nat.not_le.2 hs_ (by rw [e_]; exact GW337.out)))) (fun hn_ => (Kd.freshB (g := gb337) (o := .cells #[.slice A0_0 l0_0.length c0_0, .slice A0_1 l0_1.length c0_1, .slice A0_2 l0_2.length c0_2] 25 (0, 0)) (kz BK337.out) k_ hn_))⟩)) (below_size bz)); have n3_ := Aside0.mk (Kd.R_lower (Kd.R_mono (ok' := fun k_ => True) ho3 (fun _ hk_ => trivial)) (below_size bz)); have n4_ := Aside0.mk (kb BK337.out hb); have n5_ := Aside0.mk (below_step bz hb); clear BK337; clear HB; have HO340 := n0_; have HO343 := n1_; have HO346 := n2_; have HO349 := n3_; have BK337 := n4_; have HB := n5_; clear n0_ n1_ n2_ n3_ n4_ n5_; (try clear hb); (try clear hb2); (try clear hk); (try clear hi); (try clear ho0); (try clear ho1); (try clear ho2); (try clear ho3); refine hold_ ?_; intro P_ hP_))
 refine hP_.out ?_
 clear hP_ P_
 by_cases c4 : t351 = 0
 ·rw [if_pos c4] at H
  have c4b0 : (t351 == 0) = true := beq_iff_eq.mpr c4
  have c4b1 : (t351 != 0) = false := bne_eq_false_iff_eq.mpr c4
  clear c4
  replace H := Option.bind_eq_some_iff.mp H
  obtain ⟨⟨t353, t354, t355⟩, A50, H⟩ := H
  replace H : (if t355 = true then (some (t353, t354, 0)) else (some (0, 0, 10))) = some (r1, r2, r3) := H
  have A5 := Aside0.mk A50
  clear A50
  by_cases c6 : t355 = true
  ·subst c6
   have H1 : (some (t353, t354, 0)) = some (r1, r2, r3) := by rw [if_pos rfl] at H; exact H
   clear H
   have H := H1
   clear H1
   simp only [Option.some.injEq, Prod.mk.injEq] at H
   obtain ⟨rfl, rfl, rfl⟩ := H
   go_wp2_with (first | ((with_reducible refine gate_dst (N := 7) rfl ?_); refine box_event ?hg (N := 7) ?hd (cs := #[.slice none 0 0, .slice none 0 0, .slice none 0 0, .slice none 0 0, .int .u64 0]) (t := 77) ?hr ?_; (case hd => rfl); (case hg => rfl); (case hr => first | (go_simp; done) | (go_simp; rfl)); intro gb352 hg w10 hbox hb; have n0_ := Aside0.mk (Kd.V_below (Kd.V_elderB (by (with_reducible repeat (first | apply Kd.V_alloc | apply Kd.V_drewN | apply Kd.V_drew)); exact HO340.out) gb352 (Nat.le_of_eq hg.symm)) hb); have n1_ := Aside0.mk (Kd.V_below (Kd.V_elderB (by (with_reducible repeat (first | apply Kd.V_alloc | apply Kd.V_drewN | apply Kd.V_drew)); exact HO343.out) gb352 (Nat.le_of_eq hg.symm)) hb); have n2_ := Aside0.mk (Kd.V_below (Kd.V_elderB (by (with_reducible repeat (first | apply Kd.V_alloc | apply Kd.V_drewN | apply Kd.V_drew)); exact HO346.out) gb352 (Nat.le_of_eq hg.symm)) hb); have n3_ := Aside0.mk (Kd.R_below (rz HO349.out) hb); have n4_ := Aside0.mk (kb BK337.out hb); have n5_ := Aside0.mk (below_step bz hb); have n6_ := Aside0.mk (hbox); have n7_ := Aside0.mk ((by rw [hg]; exact (below_size bz) : w.heap.size ≤ gb352)); have n8_ := Aside0.mk ((by rw [hg]; exact (below_size bz) : w.heap.size ≤ gb352)); have n9_ := Aside0.mk ((by rw [hg]; exact Nat.ne_of_lt (kl BK337.out) : gb337 ≠ gb352)); have n10_ := Aside0.mk ((by rw [hg]; exact Nat.ne_of_gt (kl BK337.out) : gb352 ≠ gb337)); clear HO340; clear HO343; clear HO346; clear HO349; clear BK337; clear HB; have HO340 := n0_; have HO343 := n1_; have HO346 := n2_; have HO349 := n3_; have BK337 := n4_; have HB := n5_; have BK352 := n6_; have GW352 := n7_; have GE352 := n8_; have NB337_352 := n9_; have NB352_337 := n10_; clear n0_ n1_ n2_ n3_ n4_ n5_ n6_ n7_ n8_ n9_ n10_; clear hb hbox hg; obtain ⟨Ao11, co11, eo11⟩ := Kd.V_slice HO340.out; subst eo11; have hnb12 := NB352_337.out; have hnc12 := NB337_352.out; have hcz13_0 : w10.cell? ⟨gb352, 0, none⟩ = some (.slice none 0 0) := (blk_cell BK352.out 0).trans rfl; have hcz13_1 : w10.cell? ⟨gb352, 1, none⟩ = some (.slice none 0 0) := (blk_cell BK352.out 1).trans rfl; have hcz13_2 : w10.cell? ⟨gb352, 2, none⟩ = some (.slice none 0 0) := (blk_cell BK352.out 2).trans rfl; have hcz13_3 : w10.cell? ⟨gb352, 3, none⟩ = some (.slice none 0 0) := (blk_cell BK352.out 3).trans rfl; have hcz13_4 : w10.cell? ⟨gb352, 4, none⟩ = some (.int .u64 0) := (blk_cell BK352.out 4).trans rfl; have hfz13_0 := blk_frozen BK352.out 0; have hfz13_1 := blk_frozen BK352.out 1; have hfz13_2 := blk_frozen BK352.out 2; have hfz13_3 := blk_frozen BK352.out 3; have hfz13_4 := blk_frozen BK352.out 4; obtain ⟨Ao14, co14, eo14⟩ := Kd.V_slice HO343.out; subst eo14; obtain ⟨Ao15, co15, eo15⟩ := Kd.V_slice HO346.out; subst eo15; obtain ⟨Ao16, co16, eo16⟩ := Kd.R_slice HO349.out; subst eo16) | ((with_reducible refine gate_callee (f := 46) rfl ?_); refine goesL_ (some 23) rfl rfl Tryd.func46 (by kernel_rfl) rfl #[.agg #[.slice Ao11 t338.length co11, .slice Ao14 t341.length co14, .slice Ao15 t344.length co15, .slice Ao16 t347.length co16, .int .u64 t350], .slice A1 l1.length c1] rfl dz ?_; (with_reducible refine (tests_trial_costs.calls k _ _ t338 _ _ t341 _ _ t344 _ _ t347 t350 _ _ l1 t353 t354 true _ ?side1 ?side2 ?side3 ?side4 ?side5 ?side6 ?side7 ?side8 ?side9 ?side10 A5.out).mono ?_); (case side1 => refine (Kd.V_reads' (e := 3) (base := w.heap.size) (ok := fun k_ => ((some k_ ≠ (.slice Ao16 t347.length co16 : Value).ownBlock ∧ k_ ≠ gb337) ∧ k_ ≠ gb352)) (n := t338.length) (c := co11) ?_).2.2; exact (by (with_reducible repeat (first | apply Kd.V_alloc | apply Kd.V_drewN | apply Kd.V_drew)); exact (Kd.V_mono (Kd.V_far (p := ⟨gb352, 4, none⟩) (Kd.V_far (p := ⟨gb352, 3, none⟩) (Kd.V_far (p := ⟨gb352, 2, none⟩) (Kd.V_far (p := ⟨gb352, 1, none⟩) (Kd.V_far (p := ⟨gb352, 0, none⟩) (Kd.V_mono HO340.out (fun k_ hk => (⟨hk, hk.2⟩ : _ ∧ k_ ≠ gb352))) (fun _ hk => hk.2) (.slice Ao11 t338.length co11)) (fun _ hk => hk.2) (.slice Ao14 t341.length co14)) (fun _ hk => hk.2) (.slice Ao15 t344.length co15)) (fun _ hk => hk.2) (.slice Ao16 t347.length co16)) (fun _ hk => hk.2) (.int .u64 t350)) (fun _ h_ => h_.1)))); (case side2 => exact (Kd.V_reads' HO340.out).2.1); (case side3 => refine (Kd.V_reads' (e := 22) (base := w.heap.size) (ok := fun k_ => ((some k_ ≠ (.slice Ao16 t347.length co16 : Value).ownBlock ∧ k_ ≠ gb337) ∧ k_ ≠ gb352)) (n := t341.length) (c := co14) ?_).2.2; exact (by (with_reducible repeat (first | apply Kd.V_alloc | apply Kd.V_drewN | apply Kd.V_drew)); exact (Kd.V_mono (Kd.V_far (p := ⟨gb352, 4, none⟩) (Kd.V_far (p := ⟨gb352, 3, none⟩) (Kd.V_far (p := ⟨gb352, 2, none⟩) (Kd.V_far (p := ⟨gb352, 1, none⟩) (Kd.V_far (p := ⟨gb352, 0, none⟩) (Kd.V_mono HO343.out (fun k_ hk => (⟨hk, hk.2⟩ : _ ∧ k_ ≠ gb352))) (fun _ hk => hk.2) (.slice Ao11 t338.length co11)) (fun _ hk => hk.2) (.slice Ao14 t341.length co14)) (fun _ hk => hk.2) (.slice Ao15 t344.length co15)) (fun _ hk => hk.2) (.slice Ao16 t347.length co16)) (fun _ hk => hk.2) (.int .u64 t350)) (fun _ h_ => h_.1)))); (case side4 => exact (Kd.V_reads' HO343.out).2.1); (case side5 => refine (Kd.V_reads' (e := 3) (base := w.heap.size) (ok := fun k_ => ((some k_ ≠ (.slice Ao16 t347.length co16 : Value).ownBlock ∧ k_ ≠ gb337) ∧ k_ ≠ gb352)) (n := t344.length) (c := co15) ?_).2.2; exact (by (with_reducible repeat (first | apply Kd.V_alloc | apply Kd.V_drewN | apply Kd.V_drew)); exact (Kd.V_mono (Kd.V_far (p := ⟨gb352, 4, none⟩) (Kd.V_far (p := ⟨gb352, 3, none⟩) (Kd.V_far (p := ⟨gb352, 2, none⟩) (Kd.V_far (p := ⟨gb352, 1, none⟩) (Kd.V_far (p := ⟨gb352, 0, none⟩) (Kd.V_mono HO346.out (fun k_ hk => (⟨hk, hk.2⟩ : _ ∧ k_ ≠ gb352))) (fun _ hk => hk.2) (.slice Ao11 t338.length co11)) (fun _ hk => hk.2) (.slice Ao14 t341.length co14)) (fun _ hk => hk.2) (.slice Ao15 t344.length co15)) (fun _ hk => hk.2) (.slice Ao16 t347.length co16)) (fun _ hk => hk.2) (.int .u64 t350)) (fun _ h_ => h_.1)))); (case side6 => exact (Kd.V_reads' HO346.out).2.1); (case side7 => refine (Kd.R_reads' (e := 75) (base := w.heap.size) (ok := fun k_ => True) (n := t347.length) (c := co16) ?_).2.2; exact (by (with_reducible repeat (first | apply Kd.R_alloc | apply Kd.R_drewN | apply Kd.R_drew)); exact (Kd.R_mono (Kd.R_far (p := ⟨gb352, 4, none⟩) (Kd.R_far (p := ⟨gb352, 3, none⟩) (Kd.R_far (p := ⟨gb352, 2, none⟩) (Kd.R_far (p := ⟨gb352, 1, none⟩) (Kd.R_far (p := ⟨gb352, 0, none⟩) (Kd.R_types HO349.out BK352.out (by decide)) (fun _ hk => hk.2) (.slice Ao11 t338.length co11)) (fun _ hk => hk.2) (.slice Ao14 t341.length co14)) (fun _ hk => hk.2) (.slice Ao15 t344.length co15)) (fun _ hk => hk.2) (.slice Ao16 t347.length co16)) (fun _ hk => hk.2) (.int .u64 t350)) (fun _ h_ => h_.1)))); (case side8 => exact (Kd.R_reads' HO349.out).2.1); (case side9 => exact Kd.C_below HR1.out bz); (case side10 => exact HC1.out); rintro e w17 ⟨rfl, hb⟩; refine ⟨_, rfl, ?_⟩; have n0_ := Aside0.mk (Kd.V_below (by (with_reducible repeat (first | apply Kd.V_alloc | apply Kd.V_drewN | apply Kd.V_drew)); exact (Kd.V_mono (Kd.V_far (p := ⟨gb352, 4, none⟩) (Kd.V_far (p := ⟨gb352, 3, none⟩) (Kd.V_far (p := ⟨gb352, 2, none⟩) (Kd.V_far (p := ⟨gb352, 1, none⟩) (Kd.V_far (p := ⟨gb352, 0, none⟩) (Kd.V_mono HO340.out (fun k_ hk => (⟨hk, hk.2⟩ : _ ∧ k_ ≠ gb352))) (fun _ hk => hk.2) (.slice Ao11 t338.length co11)) (fun _ hk => hk.2) (.slice Ao14 t341.length co14)) (fun _ hk => hk.2) (.slice Ao15 t344.length co15)) (fun _ hk => hk.2) (.slice Ao16 t347.length co16)) (fun _ hk => hk.2) (.int .u64 t350)) (fun _ h_ => h_.1))) hb); have n1_ := Aside0.mk (Kd.V_below (by (with_reducible repeat (first | apply Kd.V_alloc | apply Kd.V_drewN | apply Kd.V_drew)); exact (Kd.V_mono (Kd.V_far (p := ⟨gb352, 4, none⟩) (Kd.V_far (p := ⟨gb352, 3, none⟩) (Kd.V_far (p := ⟨gb352, 2, none⟩) (Kd.V_far (p := ⟨gb352, 1, none⟩) (Kd.V_far (p := ⟨gb352, 0, none⟩) (Kd.V_mono HO343.out (fun k_ hk => (⟨hk, hk.2⟩ : _ ∧ k_ ≠ gb352))) (fun _ hk => hk.2) (.slice Ao11 t338.length co11)) (fun _ hk => hk.2) (.slice Ao14 t341.length co14)) (fun _ hk => hk.2) (.slice Ao15 t344.length co15)) (fun _ hk => hk.2) (.slice Ao16 t347.length co16)) (fun _ hk => hk.2) (.int .u64 t350)) (fun _ h_ => h_.1))) hb); have n2_ := Aside0.mk (Kd.V_below (by (with_reducible repeat (first | apply Kd.V_alloc | apply Kd.V_drewN | apply Kd.V_drew)); exact (Kd.V_mono (Kd.V_far (p := ⟨gb352, 4, none⟩) (Kd.V_far (p := ⟨gb352, 3, none⟩) (Kd.V_far (p := ⟨gb352, 2, none⟩) (Kd.V_far (p := ⟨gb352, 1, none⟩) (Kd.V_far (p := ⟨gb352, 0, none⟩) (Kd.V_mono HO346.out (fun k_ hk => (⟨hk, hk.2⟩ : _ ∧ k_ ≠ gb352))) (fun _ hk => hk.2) (.slice Ao11 t338.length co11)) (fun _ hk => hk.2) (.slice Ao14 t341.length co14)) (fun _ hk => hk.2) (.slice Ao15 t344.length co15)) (fun _ hk => hk.2) (.slice Ao16 t347.length co16)) (fun _ hk => hk.2) (.int .u64 t350)) (fun _ h_ => h_.1))) hb); have n3_ := Aside0.mk (Kd.R_below (by (with_reducible repeat (first | apply Kd.R_alloc | apply Kd.R_drewN | apply Kd.R_drew)); exact (Kd.R_mono (Kd.R_far (p := ⟨gb352, 4, none⟩) (Kd.R_far (p := ⟨gb352, 3, none⟩) (Kd.R_far (p := ⟨gb352, 2, none⟩) (Kd.R_far (p := ⟨gb352, 1, none⟩) (Kd.R_far (p := ⟨gb352, 0, none⟩) (Kd.R_types HO349.out BK352.out (by decide)) (fun _ hk => hk.2) (.slice Ao11 t338.length co11)) (fun _ hk => hk.2) (.slice Ao14 t341.length co14)) (fun _ hk => hk.2) (.slice Ao15 t344.length co15)) (fun _ hk => hk.2) (.slice Ao16 t347.length co16)) (fun _ hk => hk.2) (.int .u64 t350)) (fun _ h_ => h_.1))) hb); have n4_ := Aside0.mk (blk_below (g := gb337) (o := .cells #[.slice A0_0 l0_0.length c0_0, .slice A0_1 l0_1.length c0_1, .slice A0_2 l0_2.length c0_2] 25 (0, 0)) (by (with_reducible repeat (first | refine blk_drewN ?_ _ | refine blk_drew ?_ | refine blk_alloc ?_ _)); refine blk_far ?_ NB337_352.out _; (with_reducible repeat (first | refine blk_drewN ?_ _ | refine blk_drew ?_ | refine blk_alloc ?_ _)); refine blk_far ?_ NB337_352.out _; (with_reducible repeat (first | refine blk_drewN ?_ _ | refine blk_drew ?_ | refine blk_alloc ?_ _)); refine blk_far ?_ NB337_352.out _; (with_reducible repeat (first | refine blk_drewN ?_ _ | refine blk_drew ?_ | refine blk_alloc ?_ _)); refine blk_far ?_ NB337_352.out _; (with_reducible repeat (first | refine blk_drewN ?_ _ | refine blk_drew ?_ | refine blk_alloc ?_ _)); refine blk_far ?_ NB337_352.out _; (with_reducible repeat (first | refine blk_drewN ?_ _ | refine blk_drew ?_ | refine blk_alloc ?_ _)); exact BK337.out) hb); have n5_ := Aside0.mk (blk_below (g := gb352) (o := .cells #[.slice Ao11 t338.length co11, .slice Ao14 t341.length co14, .slice Ao15 t344.length co15, .slice Ao16 t347.length co16, .int .u64 t350] 77 (0, 0)) (by (with_reducible repeat (first | refine blk_drewN ?_ _ | refine blk_drew ?_ | refine blk_alloc ?_ _)); refine blk_put (cs := #[.slice Ao11 t338.length co11, .slice Ao14 t341.length co14, .slice Ao15 t344.length co15, .slice Ao16 t347.length co16, .int .u64 0]) ?_ 4 _ rfl; (with_reducible repeat (first | refine blk_drewN ?_ _ | refine blk_drew ?_ | refine blk_alloc ?_ _)); refine blk_put (cs := #[.slice Ao11 t338.length co11, .slice Ao14 t341.length co14, .slice Ao15 t344.length co15, .slice none 0 0, .int .u64 0]) ?_ 3 _ rfl; (with_reducible repeat (first | refine blk_drewN ?_ _ | refine blk_drew ?_ | refine blk_alloc ?_ _)); refine blk_put (cs := #[.slice Ao11 t338.length co11, .slice Ao14 t341.length co14, .slice none 0 0, .slice none 0 0, .int .u64 0]) ?_ 2 _ rfl; (with_reducible repeat (first | refine blk_drewN ?_ _ | refine blk_drew ?_ | refine blk_alloc ?_ _)); refine blk_put (cs := #[.slice Ao11 t338.length co11, .slice none 0 0, .slice none 0 0, .slice none 0 0, .int .u64 0]) ?_ 1 _ rfl; (with_reducible repeat (first | refine blk_drewN ?_ _ | refine blk_drew ?_ | refine blk_alloc ?_ _)); refine blk_put (cs := #[.slice none 0 0, .slice none 0 0, .slice none 0 0, .slice none 0 0, .int .u64 0]) ?_ 0 _ rfl; (with_reducible repeat (first | refine blk_drewN ?_ _ | refine blk_drew ?_ | refine blk_alloc ?_ _)); exact BK352.out) hb); have n6_ := Aside0.mk (below_step bz hb); clear HO340; clear HO343; clear HO346; clear HO349; clear BK337; clear BK352; clear HB; have HO340 := n0_; have HO343 := n1_; have HO346 := n2_; have HO349 := n3_; have BK337 := n4_; have BK352 := n5_; have HB := n6_; clear n0_ n1_ n2_ n3_ n4_ n5_ n6_; (try clear hb); (try clear hb2); (try clear hk); (try clear hi)))
   go_ret3
   exact ⟨by first | rfl | (simp [errW_none, errW_some] <;> rfl) | (simp [*, errW_none, errW_some] <;> rfl), by repeat (first | (with_reducible first | exact HB.out | apply below_alloc | apply pw_below_drewN | apply below_drew1 | refine below_set ?_ GE337.out | refine below_set ?_ GE352.out) | exact HB.out)⟩
  ·replace c6 := Bool.eq_false_iff.mpr c6
   subst c6
   have H1 : (some (0, 0, 10)) = some (r1, r2, r3) := by rw [if_neg (show ¬ (false = true) by decide)] at H; exact H
   clear H
   have H := H1
   clear H1
   simp only [Option.some.injEq, Prod.mk.injEq] at H
   obtain ⟨rfl, rfl, rfl⟩ := H
   go_wp2_with (first | ((with_reducible refine gate_dst (N := 7) rfl ?_); refine box_event ?hg (N := 7) ?hd (cs := #[.slice none 0 0, .slice none 0 0, .slice none 0 0, .slice none 0 0, .int .u64 0]) (t := 77) ?hr ?_; (case hd => rfl); (case hg => rfl); (case hr => first | (go_simp; done) | (go_simp; rfl)); intro gb352 hg w21 hbox hb; have n0_ := Aside0.mk (Kd.V_below (Kd.V_elderB (by (with_reducible repeat (first | apply Kd.V_alloc | apply Kd.V_drewN | apply Kd.V_drew)); exact HO340.out) gb352 (Nat.le_of_eq hg.symm)) hb); have n1_ := Aside0.mk (Kd.V_below (Kd.V_elderB (by (with_reducible repeat (first | apply Kd.V_alloc | apply Kd.V_drewN | apply Kd.V_drew)); exact HO343.out) gb352 (Nat.le_of_eq hg.symm)) hb); have n2_ := Aside0.mk (Kd.V_below (Kd.V_elderB (by (with_reducible repeat (first | apply Kd.V_alloc | apply Kd.V_drewN | apply Kd.V_drew)); exact HO346.out) gb352 (Nat.le_of_eq hg.symm)) hb); have n3_ := Aside0.mk (Kd.R_below (rz HO349.out) hb); have n4_ := Aside0.mk (kb BK337.out hb); have n5_ := Aside0.mk (below_step bz hb); have n6_ := Aside0.mk (hbox); have n7_ := Aside0.mk ((by rw [hg]; exact (below_size bz) : w.heap.size ≤ gb352)); have n8_ := Aside0.mk ((by rw [hg]; exact (below_size bz) : w.heap.size ≤ gb352)); have n9_ := Aside0.mk ((by rw [hg]; exact Nat.ne_of_lt (kl BK337.out) : gb337 ≠ gb352)); have n10_ := Aside0.mk ((by rw [hg]; exact Nat.ne_of_gt (kl BK337.out) : gb352 ≠ gb337)); clear HO340; clear HO343; clear HO346; clear HO349; clear BK337; clear HB; have HO340 := n0_; have HO343 := n1_; have HO346 := n2_; have HO349 := n3_; have BK337 := n4_; have HB := n5_; have BK352 := n6_; have GW352 := n7_; have GE352 := n8_; have NB337_352 := n9_; have NB352_337 := n10_; clear n0_ n1_ n2_ n3_ n4_ n5_ n6_ n7_ n8_ n9_ n10_; clear hb hbox hg; obtain ⟨Ao22, co22, eo22⟩ := Kd.V_slice HO340.out; subst eo22; have hnb23 := NB352_337.out; have hnc23 := NB337_352.out; have hcz24_0 : w21.cell? ⟨gb352, 0, none⟩ = some (.slice none 0 0) := (blk_cell BK352.out 0).trans rfl; have hcz24_1 : w21.cell? ⟨gb352, 1, none⟩ = some (.slice none 0 0) := (blk_cell BK352.out 1).trans rfl; have hcz24_2 : w21.cell? ⟨gb352, 2, none⟩ = some (.slice none 0 0) := (blk_cell BK352.out 2).trans rfl; have hcz24_3 : w21.cell? ⟨gb352, 3, none⟩ = some (.slice none 0 0) := (blk_cell BK352.out 3).trans rfl; have hcz24_4 : w21.cell? ⟨gb352, 4, none⟩ = some (.int .u64 0) := (blk_cell BK352.out 4).trans rfl; have hfz24_0 := blk_frozen BK352.out 0; have hfz24_1 := blk_frozen BK352.out 1; have hfz24_2 := blk_frozen BK352.out 2; have hfz24_3 := blk_frozen BK352.out 3; have hfz24_4 := blk_frozen BK352.out 4; obtain ⟨Ao25, co25, eo25⟩ := Kd.V_slice HO343.out; subst eo25; obtain ⟨Ao26, co26, eo26⟩ := Kd.V_slice HO346.out; subst eo26; obtain ⟨Ao27, co27, eo27⟩ := Kd.R_slice HO349.out; subst eo27) | ((with_reducible refine gate_callee (f := 46) rfl ?_); refine goesL_ (some 23) rfl rfl Tryd.func46 (by kernel_rfl) rfl #[.agg #[.slice Ao22 t338.length co22, .slice Ao25 t341.length co25, .slice Ao26 t344.length co26, .slice Ao27 t347.length co27, .int .u64 t350], .slice A1 l1.length c1] rfl dz ?_; (with_reducible refine (tests_trial_costs.calls k _ _ t338 _ _ t341 _ _ t344 _ _ t347 t350 _ _ l1 t353 t354 false _ ?side1 ?side2 ?side3 ?side4 ?side5 ?side6 ?side7 ?side8 ?side9 ?side10 A5.out).mono ?_); (case side1 => refine (Kd.V_reads' (e := 3) (base := w.heap.size) (ok := fun k_ => ((some k_ ≠ (.slice Ao27 t347.length co27 : Value).ownBlock ∧ k_ ≠ gb337) ∧ k_ ≠ gb352)) (n := t338.length) (c := co22) ?_).2.2; exact (by (with_reducible repeat (first | apply Kd.V_alloc | apply Kd.V_drewN | apply Kd.V_drew)); exact (Kd.V_mono (Kd.V_far (p := ⟨gb352, 4, none⟩) (Kd.V_far (p := ⟨gb352, 3, none⟩) (Kd.V_far (p := ⟨gb352, 2, none⟩) (Kd.V_far (p := ⟨gb352, 1, none⟩) (Kd.V_far (p := ⟨gb352, 0, none⟩) (Kd.V_mono HO340.out (fun k_ hk => (⟨hk, hk.2⟩ : _ ∧ k_ ≠ gb352))) (fun _ hk => hk.2) (.slice Ao22 t338.length co22)) (fun _ hk => hk.2) (.slice Ao25 t341.length co25)) (fun _ hk => hk.2) (.slice Ao26 t344.length co26)) (fun _ hk => hk.2) (.slice Ao27 t347.length co27)) (fun _ hk => hk.2) (.int .u64 t350)) (fun _ h_ => h_.1)))); (case side2 => exact (Kd.V_reads' HO340.out).2.1); (case side3 => refine (Kd.V_reads' (e := 22) (base := w.heap.size) (ok := fun k_ => ((some k_ ≠ (.slice Ao27 t347.length co27 : Value).ownBlock ∧ k_ ≠ gb337) ∧ k_ ≠ gb352)) (n := t341.length) (c := co25) ?_).2.2; exact (by (with_reducible repeat (first | apply Kd.V_alloc | apply Kd.V_drewN | apply Kd.V_drew)); exact (Kd.V_mono (Kd.V_far (p := ⟨gb352, 4, none⟩) (Kd.V_far (p := ⟨gb352, 3, none⟩) (Kd.V_far (p := ⟨gb352, 2, none⟩) (Kd.V_far (p := ⟨gb352, 1, none⟩) (Kd.V_far (p := ⟨gb352, 0, none⟩) (Kd.V_mono HO343.out (fun k_ hk => (⟨hk, hk.2⟩ : _ ∧ k_ ≠ gb352))) (fun _ hk => hk.2) (.slice Ao22 t338.length co22)) (fun _ hk => hk.2) (.slice Ao25 t341.length co25)) (fun _ hk => hk.2) (.slice Ao26 t344.length co26)) (fun _ hk => hk.2) (.slice Ao27 t347.length co27)) (fun _ hk => hk.2) (.int .u64 t350)) (fun _ h_ => h_.1)))); (case side4 => exact (Kd.V_reads' HO343.out).2.1); (case side5 => refine (Kd.V_reads' (e := 3) (base := w.heap.size) (ok := fun k_ => ((some k_ ≠ (.slice Ao27 t347.length co27 : Value).ownBlock ∧ k_ ≠ gb337) ∧ k_ ≠ gb352)) (n := t344.length) (c := co26) ?_).2.2; exact (by (with_reducible repeat (first | apply Kd.V_alloc | apply Kd.V_drewN | apply Kd.V_drew)); exact (Kd.V_mono (Kd.V_far (p := ⟨gb352, 4, none⟩) (Kd.V_far (p := ⟨gb352, 3, none⟩) (Kd.V_far (p := ⟨gb352, 2, none⟩) (Kd.V_far (p := ⟨gb352, 1, none⟩) (Kd.V_far (p := ⟨gb352, 0, none⟩) (Kd.V_mono HO346.out (fun k_ hk => (⟨hk, hk.2⟩ : _ ∧ k_ ≠ gb352))) (fun _ hk => hk.2) (.slice Ao22 t338.length co22)) (fun _ hk => hk.2) (.slice Ao25 t341.length co25)) (fun _ hk => hk.2) (.slice Ao26 t344.length co26)) (fun _ hk => hk.2) (.slice Ao27 t347.length co27)) (fun _ hk => hk.2) (.int .u64 t350)) (fun _ h_ => h_.1)))); (case side6 => exact (Kd.V_reads' HO346.out).2.1); (case side7 => refine (Kd.R_reads' (e := 75) (base := w.heap.size) (ok := fun k_ => True) (n := t347.length) (c := co27) ?_).2.2; exact (by (with_reducible repeat (first | apply Kd.R_alloc | apply Kd.R_drewN | apply Kd.R_drew)); exact (Kd.R_mono (Kd.R_far (p := ⟨gb352, 4, none⟩) (Kd.R_far (p := ⟨gb352, 3, none⟩) (Kd.R_far (p := ⟨gb352, 2, none⟩) (Kd.R_far (p := ⟨gb352, 1, none⟩) (Kd.R_far (p := ⟨gb352, 0, none⟩) (Kd.R_types HO349.out BK352.out (by decide)) (fun _ hk => hk.2) (.slice Ao22 t338.length co22)) (fun _ hk => hk.2) (.slice Ao25 t341.length co25)) (fun _ hk => hk.2) (.slice Ao26 t344.length co26)) (fun _ hk => hk.2) (.slice Ao27 t347.length co27)) (fun _ hk => hk.2) (.int .u64 t350)) (fun _ h_ => h_.1)))); (case side8 => exact (Kd.R_reads' HO349.out).2.1); (case side9 => exact Kd.C_below HR1.out bz); (case side10 => exact HC1.out); rintro e w28 ⟨rfl, hb⟩; refine ⟨_, rfl, ?_⟩; have n0_ := Aside0.mk (Kd.V_below (by (with_reducible repeat (first | apply Kd.V_alloc | apply Kd.V_drewN | apply Kd.V_drew)); exact (Kd.V_mono (Kd.V_far (p := ⟨gb352, 4, none⟩) (Kd.V_far (p := ⟨gb352, 3, none⟩) (Kd.V_far (p := ⟨gb352, 2, none⟩) (Kd.V_far (p := ⟨gb352, 1, none⟩) (Kd.V_far (p := ⟨gb352, 0, none⟩) (Kd.V_mono HO340.out (fun k_ hk => (⟨hk, hk.2⟩ : _ ∧ k_ ≠ gb352))) (fun _ hk => hk.2) (.slice Ao22 t338.length co22)) (fun _ hk => hk.2) (.slice Ao25 t341.length co25)) (fun _ hk => hk.2) (.slice Ao26 t344.length co26)) (fun _ hk => hk.2) (.slice Ao27 t347.length co27)) (fun _ hk => hk.2) (.int .u64 t350)) (fun _ h_ => h_.1))) hb); have n1_ := Aside0.mk (Kd.V_below (by (with_reducible repeat (first | apply Kd.V_alloc | apply Kd.V_drewN | apply Kd.V_drew)); exact (Kd.V_mono (Kd.V_far (p := ⟨gb352, 4, none⟩) (Kd.V_far (p := ⟨gb352, 3, none⟩) (Kd.V_far (p := ⟨gb352, 2, none⟩) (Kd.V_far (p := ⟨gb352, 1, none⟩) (Kd.V_far (p := ⟨gb352, 0, none⟩) (Kd.V_mono HO343.out (fun k_ hk => (⟨hk, hk.2⟩ : _ ∧ k_ ≠ gb352))) (fun _ hk => hk.2) (.slice Ao22 t338.length co22)) (fun _ hk => hk.2) (.slice Ao25 t341.length co25)) (fun _ hk => hk.2) (.slice Ao26 t344.length co26)) (fun _ hk => hk.2) (.slice Ao27 t347.length co27)) (fun _ hk => hk.2) (.int .u64 t350)) (fun _ h_ => h_.1))) hb); have n2_ := Aside0.mk (Kd.V_below (by (with_reducible repeat (first | apply Kd.V_alloc | apply Kd.V_drewN | apply Kd.V_drew)); exact (Kd.V_mono (Kd.V_far (p := ⟨gb352, 4, none⟩) (Kd.V_far (p := ⟨gb352, 3, none⟩) (Kd.V_far (p := ⟨gb352, 2, none⟩) (Kd.V_far (p := ⟨gb352, 1, none⟩) (Kd.V_far (p := ⟨gb352, 0, none⟩) (Kd.V_mono HO346.out (fun k_ hk => (⟨hk, hk.2⟩ : _ ∧ k_ ≠ gb352))) (fun _ hk => hk.2) (.slice Ao22 t338.length co22)) (fun _ hk => hk.2) (.slice Ao25 t341.length co25)) (fun _ hk => hk.2) (.slice Ao26 t344.length co26)) (fun _ hk => hk.2) (.slice Ao27 t347.length co27)) (fun _ hk => hk.2) (.int .u64 t350)) (fun _ h_ => h_.1))) hb); have n3_ := Aside0.mk (Kd.R_below (by (with_reducible repeat (first | apply Kd.R_alloc | apply Kd.R_drewN | apply Kd.R_drew)); exact (Kd.R_mono (Kd.R_far (p := ⟨gb352, 4, none⟩) (Kd.R_far (p := ⟨gb352, 3, none⟩) (Kd.R_far (p := ⟨gb352, 2, none⟩) (Kd.R_far (p := ⟨gb352, 1, none⟩) (Kd.R_far (p := ⟨gb352, 0, none⟩) (Kd.R_types HO349.out BK352.out (by decide)) (fun _ hk => hk.2) (.slice Ao22 t338.length co22)) (fun _ hk => hk.2) (.slice Ao25 t341.length co25)) (fun _ hk => hk.2) (.slice Ao26 t344.length co26)) (fun _ hk => hk.2) (.slice Ao27 t347.length co27)) (fun _ hk => hk.2) (.int .u64 t350)) (fun _ h_ => h_.1))) hb); have n4_ := Aside0.mk (blk_below (g := gb337) (o := .cells #[.slice A0_0 l0_0.length c0_0, .slice A0_1 l0_1.length c0_1, .slice A0_2 l0_2.length c0_2] 25 (0, 0)) (by (with_reducible repeat (first | refine blk_drewN ?_ _ | refine blk_drew ?_ | refine blk_alloc ?_ _)); refine blk_far ?_ NB337_352.out _; (with_reducible repeat (first | refine blk_drewN ?_ _ | refine blk_drew ?_ | refine blk_alloc ?_ _)); refine blk_far ?_ NB337_352.out _; (with_reducible repeat (first | refine blk_drewN ?_ _ | refine blk_drew ?_ | refine blk_alloc ?_ _)); refine blk_far ?_ NB337_352.out _; (with_reducible repeat (first | refine blk_drewN ?_ _ | refine blk_drew ?_ | refine blk_alloc ?_ _)); refine blk_far ?_ NB337_352.out _; (with_reducible repeat (first | refine blk_drewN ?_ _ | refine blk_drew ?_ | refine blk_alloc ?_ _)); refine blk_far ?_ NB337_352.out _; (with_reducible repeat (first | refine blk_drewN ?_ _ | refine blk_drew ?_ | refine blk_alloc ?_ _)); exact BK337.out) hb); have n5_ := Aside0.mk (blk_below (g := gb352) (o := .cells #[.slice Ao22 t338.length co22, .slice Ao25 t341.length co25, .slice Ao26 t344.length co26, .slice Ao27 t347.length co27, .int .u64 t350] 77 (0, 0)) (by (with_reducible repeat (first | refine blk_drewN ?_ _ | refine blk_drew ?_ | refine blk_alloc ?_ _)); refine blk_put (cs := #[.slice Ao22 t338.length co22, .slice Ao25 t341.length co25, .slice Ao26 t344.length co26, .slice Ao27 t347.length co27, .int .u64 0]) ?_ 4 _ rfl; (with_reducible repeat (first | refine blk_drewN ?_ _ | refine blk_drew ?_ | refine blk_alloc ?_ _)); refine blk_put (cs := #[.slice Ao22 t338.length co22, .slice Ao25 t341.length co25, .slice Ao26 t344.length co26, .slice none 0 0, .int .u64 0]) ?_ 3 _ rfl; (with_reducible repeat (first | refine blk_drewN ?_ _ | refine blk_drew ?_ | refine blk_alloc ?_ _)); refine blk_put (cs := #[.slice Ao22 t338.length co22, .slice Ao25 t341.length co25, .slice none 0 0, .slice none 0 0, .int .u64 0]) ?_ 2 _ rfl; (with_reducible repeat (first | refine blk_drewN ?_ _ | refine blk_drew ?_ | refine blk_alloc ?_ _)); refine blk_put (cs := #[.slice Ao22 t338.length co22, .slice none 0 0, .slice none 0 0, .slice none 0 0, .int .u64 0]) ?_ 1 _ rfl; (with_reducible repeat (first | refine blk_drewN ?_ _ | refine blk_drew ?_ | refine blk_alloc ?_ _)); refine blk_put (cs := #[.slice none 0 0, .slice none 0 0, .slice none 0 0, .slice none 0 0, .int .u64 0]) ?_ 0 _ rfl; (with_reducible repeat (first | refine blk_drewN ?_ _ | refine blk_drew ?_ | refine blk_alloc ?_ _)); exact BK352.out) hb); have n6_ := Aside0.mk (below_step bz hb); clear HO340; clear HO343; clear HO346; clear HO349; clear BK337; clear BK352; clear HB; have HO340 := n0_; have HO343 := n1_; have HO346 := n2_; have HO349 := n3_; have BK337 := n4_; have BK352 := n5_; have HB := n6_; clear n0_ n1_ n2_ n3_ n4_ n5_ n6_; (try clear hb); (try clear hb2); (try clear hk); (try clear hi)))
   go_ret3
   exact ⟨by first | rfl | (simp [errW_none, errW_some] <;> rfl) | (simp [*, errW_none, errW_some] <;> rfl), by repeat (first | (with_reducible first | exact HB.out | apply below_alloc | apply pw_below_drewN | apply below_drew1 | refine below_set ?_ GE337.out | refine below_set ?_ GE352.out) | exact HB.out)⟩
 ·rw [if_neg c4] at H
  have c4b0 : (t351 == 0) = false := beq_eq_false_iff_ne.mpr c4
  have c4b1 : (t351 != 0) = true := bne_iff_ne.mpr c4
  simp only [Option.some.injEq, Prod.mk.injEq] at H
  obtain ⟨rfl, rfl, rfl⟩ := H
  go_wp2_with (first | ((with_reducible refine gate_dst (N := 7) rfl ?_); refine box_event ?hg (N := 7) ?hd (cs := #[.slice none 0 0, .slice none 0 0, .slice none 0 0, .slice none 0 0, .int .u64 0]) (t := 77) ?hr ?_; (case hd => rfl); (case hg => rfl); (case hr => first | (go_simp; done) | (go_simp; rfl)); intro gb352 hg w32 hbox hb; have n0_ := Aside0.mk (Kd.V_below (Kd.V_elderB (by (with_reducible repeat (first | apply Kd.V_alloc | apply Kd.V_drewN | apply Kd.V_drew)); exact HO340.out) gb352 (Nat.le_of_eq hg.symm)) hb); have n1_ := Aside0.mk (Kd.V_below (Kd.V_elderB (by (with_reducible repeat (first | apply Kd.V_alloc | apply Kd.V_drewN | apply Kd.V_drew)); exact HO343.out) gb352 (Nat.le_of_eq hg.symm)) hb); have n2_ := Aside0.mk (Kd.V_below (Kd.V_elderB (by (with_reducible repeat (first | apply Kd.V_alloc | apply Kd.V_drewN | apply Kd.V_drew)); exact HO346.out) gb352 (Nat.le_of_eq hg.symm)) hb); have n3_ := Aside0.mk (Kd.R_below (rz HO349.out) hb); have n4_ := Aside0.mk (kb BK337.out hb); have n5_ := Aside0.mk (below_step bz hb); have n6_ := Aside0.mk (hbox); have n7_ := Aside0.mk ((by rw [hg]; exact (below_size bz) : w.heap.size ≤ gb352)); have n8_ := Aside0.mk ((by rw [hg]; exact (below_size bz) : w.heap.size ≤ gb352)); have n9_ := Aside0.mk ((by rw [hg]; exact Nat.ne_of_lt (kl BK337.out) : gb337 ≠ gb352)); have n10_ := Aside0.mk ((by rw [hg]; exact Nat.ne_of_gt (kl BK337.out) : gb352 ≠ gb337)); clear HO340; clear HO343; clear HO346; clear HO349; clear BK337; clear HB; have HO340 := n0_; have HO343 := n1_; have HO346 := n2_; have HO349 := n3_; have BK337 := n4_; have HB := n5_; have BK352 := n6_; have GW352 := n7_; have GE352 := n8_; have NB337_352 := n9_; have NB352_337 := n10_; clear n0_ n1_ n2_ n3_ n4_ n5_ n6_ n7_ n8_ n9_ n10_; clear hb hbox hg; obtain ⟨Ao33, co33, eo33⟩ := Kd.V_slice HO340.out; subst eo33; have hnb34 := NB352_337.out; have hnc34 := NB337_352.out; have hcz35_0 : w32.cell? ⟨gb352, 0, none⟩ = some (.slice none 0 0) := (blk_cell BK352.out 0).trans rfl; have hcz35_1 : w32.cell? ⟨gb352, 1, none⟩ = some (.slice none 0 0) := (blk_cell BK352.out 1).trans rfl; have hcz35_2 : w32.cell? ⟨gb352, 2, none⟩ = some (.slice none 0 0) := (blk_cell BK352.out 2).trans rfl; have hcz35_3 : w32.cell? ⟨gb352, 3, none⟩ = some (.slice none 0 0) := (blk_cell BK352.out 3).trans rfl; have hcz35_4 : w32.cell? ⟨gb352, 4, none⟩ = some (.int .u64 0) := (blk_cell BK352.out 4).trans rfl; have hfz35_0 := blk_frozen BK352.out 0; have hfz35_1 := blk_frozen BK352.out 1; have hfz35_2 := blk_frozen BK352.out 2; have hfz35_3 := blk_frozen BK352.out 3; have hfz35_4 := blk_frozen BK352.out 4; obtain ⟨Ao36, co36, eo36⟩ := Kd.V_slice HO343.out; subst eo36; obtain ⟨Ao37, co37, eo37⟩ := Kd.V_slice HO346.out; subst eo37; obtain ⟨Ao38, co38, eo38⟩ := Kd.R_slice HO349.out; subst eo38))
  go_ret3
  exact ⟨by first | rfl | (simp [errW_none, errW_some] <;> rfl) | (simp [*, errW_none, errW_some] <;> rfl), by repeat (first | (with_reducible first | exact HB.out | apply below_alloc | apply pw_below_drewN | apply below_drew1 | refine below_set ?_ GE337.out | refine below_set ?_ GE352.out) | exact HB.out)⟩

end Go.Proofs.YtekmiepdodaidaaDoor.X
end

section
namespace Go.Proofs.YtekmiepdodaidaaDoor.X
open Go.RowKit Go.Proofs.YtekmiepdodaidaaDoorW.PrintWords Go.Proofs.YtekmiepdodaidaaDoorW.PrintLast Go.Proofs.YtekmiepdodaidaaDoorW.PrintMore
attribute [local go_sem] max2_int min2_int max_two min_two max_three min_three max_four min_four   -- for this text's walks alone
set_option linter.unusedVariables false
set_option linter.unusedSimpArgs false

def tests_Find.j0 : Nat → List (S57) → Int → Bool → List Int → List (List Int) → List Int → List Int → Int → Option (List Int × Int)
 | 0, _, _, _, _, _, _, _, _ => none
 | k + 1, x1, x2, x30, x372000, x372001, x372002, x372003, x372004 => if x30 = true then (some (([] : List Int), 2)) else ((tests_trial_costs.f k x372000 x372001 x372002 x372003 x372004 x1).bind fun bt373 => (if bt373.2.2 = true then ((tests_trial_way.f k x372000 x372001 x372002 x372003 x372004 x1 x2).bind fun bt376 => (some (bt376.1, 0))) else (some (([] : List Int), 10))))
def tests_Find.f (k : Nat) (l0_0 : List Int) (l0_1 : List (List Int)) (l0_2 : List Int) (l1 : List (S57)) (a2 : Int) : Option (List Int × Int) := (tests_newTrial.f k l0_0 l0_1 l0_2).bind fun bt357 => (if bt357.2.2.2.2.2 = 0 then ((tests_within.f a2 0 (wrap64 ((l0_0.length : Int) - 1))).bind fun t372 => (tests_Find.j0 k l1 a2 (!t372) bt357.1 bt357.2.1 bt357.2.2.1 bt357.2.2.2.1 bt357.2.2.2.2.1)) else (tests_Find.j0 k l1 a2 true bt357.1 bt357.2.1 bt357.2.2.1 bt357.2.2.2.1 bt357.2.2.2.2.1))
set_option maxHeartbeats 8000000 in
set_option maxRecDepth 100000 in
theorem tests_Find.calls (k : Nat) (A0_0 : Option Addr) (c0_0 : Nat) (l0_0 : List Int) (A0_1 : Option Addr) (c0_1 : Nat) (l0_1 : List (List Int)) (A0_2 : Option Addr) (c0_2 : Nat) (l0_2 : List Int) (A1 : Option Addr) (c1 : Nat) (l1 : List (S57)) (a2 : Int) (r1 : List Int) (r2 : Int) (w : World) (hr0_0 : Kd.C (Kd.int .i64) w A0_0 l0_0.length l0_0) (hc0_0 : l0_0.length ≤ c0_0) (hr0_1 : Kd.C (Kd.slice 3 (Kd.int .i64)) w A0_1 l0_1.length l0_1) (hc0_1 : l0_1.length ≤ c0_1) (hr0_2 : Kd.C (Kd.int .i64) w A0_2 l0_2.length l0_2) (hc0_2 : l0_2.length ≤ c0_2) (hr1 : Kd.C k57 w A1 l1.length l1) (hc1 : l1.length ≤ c1) (h : tests_Find.f k l0_0 l0_1 l0_2 l1 a2 = some (r1, r2)) :
  Calls Tryd.prog 23 #[.agg #[.slice A0_0 l0_0.length c0_0, .slice A0_1 l0_1.length c0_1, .slice A0_2 l0_2.length c0_2], .slice A1 l1.length c1, .int .i64 a2] w fun e w' => ∃ v0_ : Value, e = .returned (.tuple #[v0_, .int .i64 r2]) ∧ Kd.R (Kd.int .i64) 3 w' w.heap.size (fun _ => True) v0_ r1 ∧ Below w.heap.size w w' := by
 have hu25 := Tryd.underlying25
 have hu77 := Tryd.underlying77
 have HR0_0 := Aside0.mk hr0_0
 have HC0_0 := Aside0.mk hc0_0
 clear hr0_0 hc0_0
 have HR0_1 := Aside0.mk hr0_1
 have HC0_1 := Aside0.mk hc0_1
 clear hr0_1 hc0_1
 have HR0_2 := Aside0.mk hr0_2
 have HC0_2 := Aside0.mk hc0_2
 clear hr0_2 hc0_2
 have HR1 := Aside0.mk hr1
 have HC1 := Aside0.mk hc1
 clear hr1 hc1
 have HB := Aside0.mk (Below.refl w.heap.size w)
 have H : ((tests_newTrial.f k l0_0 l0_1 l0_2).bind fun bt357 => (if bt357.2.2.2.2.2 = 0 then ((tests_within.f a2 0 (wrap64 ((l0_0.length : Int) - 1))).bind fun t372 => (tests_Find.j0 k l1 a2 (!t372) bt357.1 bt357.2.1 bt357.2.2.1 bt357.2.2.2.1 bt357.2.2.2.2.1)) else (tests_Find.j0 k l1 a2 true bt357.1 bt357.2.1 bt357.2.2.1 bt357.2.2.2.1 bt357.2.2.2.2.1))) = some (r1, r2) := h
 clear h
 replace H := Option.bind_eq_some_iff.mp H
 obtain ⟨⟨t357, t360, t363, t366, t369, t370⟩, A40, H⟩ := H
 replace H : (if t370 = 0 then ((tests_within.f a2 0 (wrap64 ((l0_0.length : Int) - 1))).bind fun t372 => (tests_Find.j0 k l1 a2 (!t372) t357 t360 t363 t366 t369)) else (tests_Find.j0 k l1 a2 true t357 t360 t363 t366 t369)) = some (r1, r2) := H
 have A4 := Aside0.mk A40
 clear A40
 have HC5 := Aside0.mk H
 clear H
 go_enter Tryd.func23, Tryd.ntmps23
 go_upto_region 2 with (first | ((with_reducible refine gate_dst (N := 3) rfl ?_); (try (refine gate_guard (by rfl) ?_; dsimp only)); refine box_event ?hg (N := 3) ?hd (cs := #[.slice A0_0 l0_0.length c0_0, .slice A0_1 l0_1.length c0_1, .slice A0_2 l0_2.length c0_2]) (t := 25) ?hr ?_; (case hd => rfl); (case hg => rfl); (case hr => first | (go_simp; done) | (go_simp; rfl)); intro gb356 hg w6 hbox hb; have n0_ := Aside0.mk (below_step bz hb); have n1_ := Aside0.mk (hbox); have n2_ := Aside0.mk ((by rw [hg]; exact (below_size bz) : w.heap.size ≤ gb356)); have n3_ := Aside0.mk ((by rw [hg]; exact (below_size bz) : w.heap.size ≤ gb356)); clear HB; have HB := n0_; have BK356 := n1_; have GW356 := n2_; have GE356 := n3_; clear n0_ n1_ n2_ n3_; clear hb hbox hg; have hcz7_0 : w6.cell? ⟨gb356, 0, none⟩ = some (.slice A0_0 l0_0.length c0_0) := (blk_cell BK356.out 0).trans rfl; have hcz7_1 : w6.cell? ⟨gb356, 1, none⟩ = some (.slice A0_1 l0_1.length c0_1) := (blk_cell BK356.out 1).trans rfl; have hcz7_2 : w6.cell? ⟨gb356, 2, none⟩ = some (.slice A0_2 l0_2.length c0_2) := (blk_cell BK356.out 2).trans rfl; have hfz7_0 := blk_frozen BK356.out 0; have hfz7_1 := blk_frozen BK356.out 1; have hfz7_2 := blk_frozen BK356.out 2) | ((with_reducible refine gate_callee (f := 45) rfl ?_); refine goesL_ (some 17) rfl rfl Tryd.func45 (by kernel_rfl) rfl #[.agg #[.slice A0_0 l0_0.length c0_0, .slice A0_1 l0_1.length c0_1, .slice A0_2 l0_2.length c0_2]] rfl dz ?_; (with_reducible refine (tests_newTrial.calls k (fun k_ => k_ < w.heap.size) _ _ l0_0 (fun k_ => k_ < w.heap.size) _ _ l0_1 (fun k_ => k_ < w.heap.size) _ _ l0_2 t357 t360 t363 t366 t369 t370 _ ?side1 ?side2 ?side3 A4.out).mono ?_); (case side1 => exact Kd.V_mk HC0_0.out (Kd.F_below (Kd.C_F (Kd.heap_int .i64) HR0_0.out) bz)); (case side2 => exact Kd.V_mk HC0_1.out (Kd.F_below (Kd.C_F (Kd.heap_slice 3 (Kd.heap_int .i64)) HR0_1.out) bz)); (case side3 => exact Kd.V_mk HC0_2.out (Kd.F_below (Kd.C_F (Kd.heap_int .i64) HR0_2.out) bz)); rintro e w8 ⟨v358, v361, v364, v367, rfl, ho0, ho1, ho2, ho3, hb⟩; refine ⟨_, rfl, ?_⟩; have n0_ := Aside0.mk (Kd.V_lower (Kd.V_mono (ok' := fun k_ => some k_ ≠ (v367 : Value).ownBlock ∧ k_ ≠ gb356) ho0 (fun k_ hk_ => ⟨hk_.2, Or.elim hk_.1 (fun hs_ => Or.elim hs_ (fun hs_ => fun e_ => Nat.not_le.2 hs_ (by rw [e_]; exact GW356.out)) (fun hs_ => Or.elim hs_ (fun hs_ => fun e_ => Nat.not_le.2 hs_ (by rw [e_]; exact GW356.out)) (fun hs_ => fun e_ => Nat.not_le.2 hs_ (by rw [e_]; exact GW356.out)))) (fun hn_ => (Kd.freshB (g := gb356) (o := .cells #[.slice A0_0 l0_0.length c0_0, .slice A0_1 l0_1.length c0_1, .slice A0_2 l0_2.length c0_2] 25 (0, 0)) (kz BK356.out) k_ hn_))⟩)) (below_size bz)); have n1_ := Aside0.mk (Kd.V_lower (Kd.V_mono (ok' := fun k_ => some k_ ≠ (v367 : Value).ownBlock ∧ k_ ≠ gb356) ho1 (fun k_ hk_ => ⟨hk_.2, Or.elim hk_.1 (fun hs_ => Or.elim hs_ (fun hs_ => fun e_ => Nat.not_le.2 hs_ (by rw [e_]; exact GW356.out)) (fun hs_ => Or.elim hs_ (fun hs_ => fun e_ => Nat.not_le.2 hs_ (by rw [e_]; exact GW356.out)) (fun hs_ => fun e_ => Nat.not_le.2 hs_ (by rw [e_]; exact GW356.out)))) (fun hn_ => (Kd.freshB (g := gb356) (o := .cells #[.slice A0_0 l0_0.length c0_0, .slice A0_1 l0_1.length c0_1, .slice A0_2 l0_2.length c0_2] 25 (0, 0)) (kz BK356.out) k_ hn_))⟩)) (below_size bz)); have n2_ := Aside0.mk (Kd.V_lower (Kd.V_mono (ok' := fun k_ => some k_ ≠ (v367 : Value).ownBlock ∧ k_ ≠ gb356) ho2 (fun k_ hk_ => ⟨hk_.2, Or.elim hk_.1 (fun hs_ => Or.elim hs_ (fun hs_ => fun e_ => Nat.not_le.2 hs_ (by rw [e_]; exact GW356.out)) (fun hs_ => Or.elim hs_ (fun hs_ => fun e_ => Nat.not_le.2 hs_ (by rw [e_]; exact GW356.out)) (fun hs_ => fun e_ => Nat.not_le.2 hs_ (by rw [e_]; exact GW356.out)))) (fun hn_ => (Kd.freshB (g := gb356) (o := .cells #[.slice A0_0 l0_0.length c0_0, .slice A0_1 l0_1.length c0_1, .slice A0_2 l0_2.length c0_2] 25 (0, 0)) (kz BK356.out) k_ hn_))⟩)) (below_size bz)); have n3_ := Aside0.mk (Kd.R_lower (Kd.R_mono (ok' := fun k_ => True) ho3 (fun _ hk_ => trivial)) (below_size bz)); have n4_ := Aside0.mk (kb BK356.out hb); have n5_ := Aside0.mk (below_step bz hb); clear BK356; clear HB; have HO359 := n0_; have HO362 := n1_; have HO365 := n2_; have HO368 := n3_; have BK356 := n4_; have HB := n5_; clear n0_ n1_ n2_ n3_ n4_ n5_; (try clear hb); (try clear hb2); (try clear hk); (try clear hi); (try clear ho0); (try clear ho1); (try clear ho2); (try clear ho3)) | ((with_reducible refine gate_dst (N := 8) rfl ?_); (try (refine gate_guard (by rfl) ?_; dsimp only)); refine box_event ?hg (N := 8) ?hd (cs := #[.slice none 0 0, .slice none 0 0, .slice none 0 0, .slice none 0 0, .int .u64 0]) (t := 77) ?hr ?_; (case hd => rfl); (case hg => rfl); (case hr => first | (go_simp; done) | (go_simp; rfl)); intro gb371 hg w9 hbox hb; have n0_ := Aside0.mk (Kd.V_below (Kd.V_elderB (by (with_reducible repeat (first | apply Kd.V_alloc | apply Kd.V_drewN | apply Kd.V_drew)); exact HO359.out) gb371 (Nat.le_of_eq hg.symm)) hb); have n1_ := Aside0.mk (Kd.V_below (Kd.V_elderB (by (with_reducible repeat (first | apply Kd.V_alloc | apply Kd.V_drewN | apply Kd.V_drew)); exact HO362.out) gb371 (Nat.le_of_eq hg.symm)) hb); have n2_ := Aside0.mk (Kd.V_below (Kd.V_elderB (by (with_reducible repeat (first | apply Kd.V_alloc | apply Kd.V_drewN | apply Kd.V_drew)); exact HO365.out) gb371 (Nat.le_of_eq hg.symm)) hb); have n3_ := Aside0.mk (Kd.R_below (rz HO368.out) hb); have n4_ := Aside0.mk (kb BK356.out hb); have n5_ := Aside0.mk (below_step bz hb); have n6_ := Aside0.mk (hbox); have n7_ := Aside0.mk ((by rw [hg]; exact (below_size bz) : w.heap.size ≤ gb371)); have n8_ := Aside0.mk ((by rw [hg]; exact (below_size bz) : w.heap.size ≤ gb371)); have n9_ := Aside0.mk ((by rw [hg]; exact Nat.ne_of_lt (kl BK356.out) : gb356 ≠ gb371)); have n10_ := Aside0.mk ((by rw [hg]; exact Nat.ne_of_gt (kl BK356.out) : gb371 ≠ gb356)); clear HO359; clear HO362; clear HO365; clear HO368; clear BK356; clear HB; have HO359 := n0_; have HO362 := n1_; have HO365 := n2_; have HO368 := n3_; have BK356 := n4_; have HB := n5_; have BK371 := n6_; have GW371 := n7_; have GE371 := n8_; have NB356_371 := n9_; have NB371_356 := n10_; clear n0_ n1_ n2_ n3_ n4_ n5_ n6_ n7_ n8_ n9_ n10_; clear hb hbox hg; obtain ⟨Ao10, co10, eo10⟩ := Kd.V_slice HO359.out; subst eo10; have hnb11 := NB371_356.out; have hnc11 := NB356_371.out; have hcz12_0 : w9.cell? ⟨gb371, 0, none⟩ = some (.slice none 0 0) := (blk_cell BK371.out 0).trans rfl; have hcz12_1 : w9.cell? ⟨gb371, 1, none⟩ = some (.slice none 0 0) := (blk_cell BK371.out 1).trans rfl; have hcz12_2 : w9.cell? ⟨gb371, 2, none⟩ = some (.slice none 0 0) := (blk_cell BK371.out 2).trans rfl; have hcz12_3 : w9.cell? ⟨gb371, 3, none⟩ = some (.slice none 0 0) := (blk_cell BK371.out 3).trans rfl; have hcz12_4 : w9.cell? ⟨gb371, 4, none⟩ = some (.int .u64 0) := (blk_cell BK371.out 4).trans rfl; have hfz12_0 := blk_frozen BK371.out 0; have hfz12_1 := blk_frozen BK371.out 1; have hfz12_2 := blk_frozen BK371.out 2; have hfz12_3 := blk_frozen BK371.out 3; have hfz12_4 := blk_frozen BK371.out 4; obtain ⟨Ao13, co13, eo13⟩ := Kd.V_slice HO362.out; subst eo13; obtain ⟨Ao14, co14, eo14⟩ := Kd.V_slice HO365.out; subst eo14; obtain ⟨Ao15, co15, eo15⟩ := Kd.R_slice HO368.out; subst eo15))
 (try simp only [Act.put, List.setIfInBounds_toArray, List.set_cons_zero, List.set_cons_succ])
 go_cut [30] (fun v30 wc => ∃ (kq : Nat) (x30_4 : Bool), v30 = .bool x30_4 ∧ Aside0 (tests_Find.j0 kq l1 a2 x30_4 t357 t360 t363 t366 t369 = some (r1, r2)) ∧ Aside0 (kq ≤ k) ∧ Aside0 (Kd.V (Kd.int .i64) 3 wc w.heap.size (fun k_ => some k_ ≠ ((.slice Ao15 t366.length co15) : Value).ownBlock ∧ k_ ≠ gb356 ∧ k_ ≠ gb371) (.slice Ao10 t357.length co10) t357) ∧ Aside0 (Kd.V (Kd.slice 3 (Kd.int .i64)) 22 wc w.heap.size (fun k_ => some k_ ≠ ((.slice Ao15 t366.length co15) : Value).ownBlock ∧ k_ ≠ gb356 ∧ k_ ≠ gb371) (.slice Ao13 t360.length co13) t360) ∧ Aside0 (Kd.V (Kd.int .i64) 3 wc w.heap.size (fun k_ => some k_ ≠ ((.slice Ao15 t366.length co15) : Value).ownBlock ∧ k_ ≠ gb356 ∧ k_ ≠ gb371) (.slice Ao14 t363.length co14) t363) ∧ Aside0 (Kd.R (Kd.int .u64) 75 wc w.heap.size (fun _ => True) (.slice Ao15 t366.length co15) t366) ∧ Aside0 (wc.heap[gb356]? = some (.cells #[(.slice A0_0 l0_0.length c0_0), (.slice A0_1 l0_1.length c0_1), (.slice A0_2 l0_2.length c0_2)] 25 (0, 0))) ∧ Aside0 (wc.heap[gb371]? = some (.cells #[(.slice Ao10 t357.length co10), (.slice Ao13 t360.length co13), (.slice Ao14 t363.length co14), (.slice Ao15 t366.length co15), .int .u64 t369] 77 (0, 0))) ∧ Aside0 (Below w.heap.size w wc))
 case first =>
  have H := HC5.out
  clear HC5
  by_cases c16 : t370 = 0
  ·rw [if_pos c16] at H
   have c16b0 : (t370 == 0) = true := beq_iff_eq.mpr c16
   have c16b1 : (t370 != 0) = false := bne_eq_false_iff_eq.mpr c16
   clear c16
   (first | rw [c16b0] | (simp only [i64_w, i32_w]; rw [c16b0]) | skip)
   replace H := Option.bind_eq_some_iff.mp H
   obtain ⟨t372, A170, H⟩ := H
   replace H : (tests_Find.j0 k l1 a2 (!t372) t357 t360 t363 t366 t369) = some (r1, r2) := H
   have A17 := Aside0.mk A170
   clear A170
   have H' := Aside0.mk H
   clear H
   have hnb18 := NB356_371.out
   have hnc18 := NB371_356.out
   have hcz19_0 : w9.cell? ⟨gb356, 0, none⟩ = some (.slice A0_0 l0_0.length c0_0) := (blk_cell BK356.out 0).trans rfl
   have hcz19_1 : w9.cell? ⟨gb356, 1, none⟩ = some (.slice A0_1 l0_1.length c0_1) := (blk_cell BK356.out 1).trans rfl
   have hcz19_2 : w9.cell? ⟨gb356, 2, none⟩ = some (.slice A0_2 l0_2.length c0_2) := (blk_cell BK356.out 2).trans rfl
   have hfz19_0 := blk_frozen BK356.out 0
   have hfz19_1 := blk_frozen BK356.out 1
   have hfz19_2 := blk_frozen BK356.out 2
   go_wp2_with (first | (go_at_call 47; (with_reducible refine (tests_within.calls a2 0 (wrap64 ((l0_0.length : Int) - 1)) t372 _ A17.out).mono ?_); rintro e w' ⟨rfl, ⟨nd, rfl⟩⟩))
   go_meet
   case rel => exact ⟨_, (!t372), (by first | rfl | (simp; done) | (simp [*]; done)), H', ⟨by first | omega | exact Nat.le_refl _⟩, ⟨by (with_reducible repeat (first | apply Kd.V_alloc | apply Kd.V_drewN | apply Kd.V_drew)); exact Kd.V_mono (Kd.V_far (p := ⟨gb371, 4, none⟩) (Kd.V_far (p := ⟨gb371, 3, none⟩) (Kd.V_far (p := ⟨gb371, 2, none⟩) (Kd.V_far (p := ⟨gb371, 1, none⟩) (Kd.V_far (p := ⟨gb371, 0, none⟩) (Kd.V_mono HO359.out (fun k_ hk => (⟨hk, hk.2⟩ : _ ∧ k_ ≠ gb371))) (fun _ hk => hk.2) (.slice Ao10 t357.length co10)) (fun _ hk => hk.2) (.slice Ao13 t360.length co13)) (fun _ hk => hk.2) (.slice Ao14 t363.length co14)) (fun _ hk => hk.2) (.slice Ao15 t366.length co15)) (fun _ hk => hk.2) (.int .u64 t369)) (fun _ hk => ⟨hk.1.1.1, ⟨hk.1.1.2, hk.1.2⟩⟩)⟩, ⟨by (with_reducible repeat (first | apply Kd.V_alloc | apply Kd.V_drewN | apply Kd.V_drew)); exact Kd.V_mono (Kd.V_far (p := ⟨gb371, 4, none⟩) (Kd.V_far (p := ⟨gb371, 3, none⟩) (Kd.V_far (p := ⟨gb371, 2, none⟩) (Kd.V_far (p := ⟨gb371, 1, none⟩) (Kd.V_far (p := ⟨gb371, 0, none⟩) (Kd.V_mono HO362.out (fun k_ hk => (⟨hk, hk.2⟩ : _ ∧ k_ ≠ gb371))) (fun _ hk => hk.2) (.slice Ao10 t357.length co10)) (fun _ hk => hk.2) (.slice Ao13 t360.length co13)) (fun _ hk => hk.2) (.slice Ao14 t363.length co14)) (fun _ hk => hk.2) (.slice Ao15 t366.length co15)) (fun _ hk => hk.2) (.int .u64 t369)) (fun _ hk => ⟨hk.1.1.1, ⟨hk.1.1.2, hk.1.2⟩⟩)⟩, ⟨by (with_reducible repeat (first | apply Kd.V_alloc | apply Kd.V_drewN | apply Kd.V_drew)); exact Kd.V_mono (Kd.V_far (p := ⟨gb371, 4, none⟩) (Kd.V_far (p := ⟨gb371, 3, none⟩) (Kd.V_far (p := ⟨gb371, 2, none⟩) (Kd.V_far (p := ⟨gb371, 1, none⟩) (Kd.V_far (p := ⟨gb371, 0, none⟩) (Kd.V_mono HO365.out (fun k_ hk => (⟨hk, hk.2⟩ : _ ∧ k_ ≠ gb371))) (fun _ hk => hk.2) (.slice Ao10 t357.length co10)) (fun _ hk => hk.2) (.slice Ao13 t360.length co13)) (fun _ hk => hk.2) (.slice Ao14 t363.length co14)) (fun _ hk => hk.2) (.slice Ao15 t366.length co15)) (fun _ hk => hk.2) (.int .u64 t369)) (fun _ hk => ⟨hk.1.1.1, ⟨hk.1.1.2, hk.1.2⟩⟩)⟩, ⟨by (with_reducible repeat (first | apply Kd.R_alloc | apply Kd.R_drewN | apply Kd.R_drew)); exact Kd.R_mono (Kd.R_far (p := ⟨gb371, 4, none⟩) (Kd.R_far (p := ⟨gb371, 3, none⟩) (Kd.R_far (p := ⟨gb371, 2, none⟩) (Kd.R_far (p := ⟨gb371, 1, none⟩) (Kd.R_far (p := ⟨gb371, 0, none⟩) (Kd.R_types HO368.out BK371.out (by decide)) (fun _ hk => hk.2) (.slice Ao10 t357.length co10)) (fun _ hk => hk.2) (.slice Ao13 t360.length co13)) (fun _ hk => hk.2) (.slice Ao14 t363.length co14)) (fun _ hk => hk.2) (.slice Ao15 t366.length co15)) (fun _ hk => hk.2) (.int .u64 t369)) (fun _ hk => trivial)⟩, ⟨by (with_reducible repeat (first | refine blk_drewN ?_ _ | refine blk_drew ?_ | refine blk_alloc ?_ _)); refine blk_far ?_ NB356_371.out _; (with_reducible repeat (first | refine blk_drewN ?_ _ | refine blk_drew ?_ | refine blk_alloc ?_ _)); refine blk_far ?_ NB356_371.out _; (with_reducible repeat (first | refine blk_drewN ?_ _ | refine blk_drew ?_ | refine blk_alloc ?_ _)); refine blk_far ?_ NB356_371.out _; (with_reducible repeat (first | refine blk_drewN ?_ _ | refine blk_drew ?_ | refine blk_alloc ?_ _)); refine blk_far ?_ NB356_371.out _; (with_reducible repeat (first | refine blk_drewN ?_ _ | refine blk_drew ?_ | refine blk_alloc ?_ _)); refine blk_far ?_ NB356_371.out _; (with_reducible repeat (first | refine blk_drewN ?_ _ | refine blk_drew ?_ | refine blk_alloc ?_ _)); exact BK356.out⟩, ⟨by (with_reducible repeat (first | refine blk_drewN ?_ _ | refine blk_drew ?_ | refine blk_alloc ?_ _)); refine blk_put (cs := #[.slice Ao10 t357.length co10, .slice Ao13 t360.length co13, .slice Ao14 t363.length co14, .slice Ao15 t366.length co15, .int .u64 0]) ?_ 4 _ rfl; (with_reducible repeat (first | refine blk_drewN ?_ _ | refine blk_drew ?_ | refine blk_alloc ?_ _)); refine blk_put (cs := #[.slice Ao10 t357.length co10, .slice Ao13 t360.length co13, .slice Ao14 t363.length co14, .slice none 0 0, .int .u64 0]) ?_ 3 _ rfl; (with_reducible repeat (first | refine blk_drewN ?_ _ | refine blk_drew ?_ | refine blk_alloc ?_ _)); refine blk_put (cs := #[.slice Ao10 t357.length co10, .slice Ao13 t360.length co13, .slice none 0 0, .slice none 0 0, .int .u64 0]) ?_ 2 _ rfl; (with_reducible repeat (first | refine blk_drewN ?_ _ | refine blk_drew ?_ | refine blk_alloc ?_ _)); refine blk_put (cs := #[.slice Ao10 t357.length co10, .slice none 0 0, .slice none 0 0, .slice none 0 0, .int .u64 0]) ?_ 1 _ rfl; (with_reducible repeat (first | refine blk_drewN ?_ _ | refine blk_drew ?_ | refine blk_alloc ?_ _)); refine blk_put (cs := #[.slice none 0 0, .slice none 0 0, .slice none 0 0, .slice none 0 0, .int .u64 0]) ?_ 0 _ rfl; (with_reducible repeat (first | refine blk_drewN ?_ _ | refine blk_drew ?_ | refine blk_alloc ?_ _)); exact BK371.out⟩, ⟨by repeat (first | (with_reducible first | exact HB.out | apply below_alloc | apply pw_below_drewN | apply below_drew1 | refine below_set ?_ GE356.out | refine below_set ?_ GE371.out) | exact HB.out)⟩⟩
  ·rw [if_neg c16] at H
   have c16b0 : (t370 == 0) = false := beq_eq_false_iff_ne.mpr c16
   have c16b1 : (t370 != 0) = true := bne_iff_ne.mpr c16
   (first | rw [c16b0] | (simp only [i64_w, i32_w]; rw [c16b0]) | skip)
   have H' := Aside0.mk H
   clear H
   go_wp2
   go_meet
   case rel => exact ⟨_, (true), (by first | rfl | (simp; done) | (simp [*]; done)), H', ⟨by first | omega | exact Nat.le_refl _⟩, ⟨by (with_reducible repeat (first | apply Kd.V_alloc | apply Kd.V_drewN | apply Kd.V_drew)); exact Kd.V_mono (Kd.V_far (p := ⟨gb371, 4, none⟩) (Kd.V_far (p := ⟨gb371, 3, none⟩) (Kd.V_far (p := ⟨gb371, 2, none⟩) (Kd.V_far (p := ⟨gb371, 1, none⟩) (Kd.V_far (p := ⟨gb371, 0, none⟩) (Kd.V_mono HO359.out (fun k_ hk => (⟨hk, hk.2⟩ : _ ∧ k_ ≠ gb371))) (fun _ hk => hk.2) (.slice Ao10 t357.length co10)) (fun _ hk => hk.2) (.slice Ao13 t360.length co13)) (fun _ hk => hk.2) (.slice Ao14 t363.length co14)) (fun _ hk => hk.2) (.slice Ao15 t366.length co15)) (fun _ hk => hk.2) (.int .u64 t369)) (fun _ hk => ⟨hk.1.1.1, ⟨hk.1.1.2, hk.1.2⟩⟩)⟩, ⟨by (with_reducible repeat (first | apply Kd.V_alloc | apply Kd.V_drewN | apply Kd.V_drew)); exact Kd.V_mono (Kd.V_far (p := ⟨gb371, 4, none⟩) (Kd.V_far (p := ⟨gb371, 3, none⟩) (Kd.V_far (p := ⟨gb371, 2, none⟩) (Kd.V_far (p := ⟨gb371, 1, none⟩) (Kd.V_far (p := ⟨gb371, 0, none⟩) (Kd.V_mono HO362.out (fun k_ hk => (⟨hk, hk.2⟩ : _ ∧ k_ ≠ gb371))) (fun _ hk => hk.2) (.slice Ao10 t357.length co10)) (fun _ hk => hk.2) (.slice Ao13 t360.length co13)) (fun _ hk => hk.2) (.slice Ao14 t363.length co14)) (fun _ hk => hk.2) (.slice Ao15 t366.length co15)) (fun _ hk => hk.2) (.int .u64 t369)) (fun _ hk => ⟨hk.1.1.1, ⟨hk.1.1.2, hk.1.2⟩⟩)⟩, ⟨by (with_reducible repeat (first | apply Kd.V_alloc | apply Kd.V_drewN | apply Kd.V_drew)); exact Kd.V_mono (Kd.V_far (p := ⟨gb371, 4, none⟩) (Kd.V_far (p := ⟨gb371, 3, none⟩) (Kd.V_far (p := ⟨gb371, 2, none⟩) (Kd.V_far (p := ⟨gb371, 1, none⟩) (Kd.V_far (p := ⟨gb371, 0, none⟩) (Kd.V_mono HO365.out (fun k_ hk => (⟨hk, hk.2⟩ : _ ∧ k_ ≠ gb371))) (fun _ hk => hk.2) (.slice Ao10 t357.length co10)) (fun _ hk => hk.2) (.slice Ao13 t360.length co13)) (fun _ hk => hk.2) (.slice Ao14 t363.length co14)) (fun _ hk => hk.2) (.slice Ao15 t366.length co15)) (fun _ hk => hk.2) (.int .u64 t369)) (fun _ hk => ⟨hk.1.1.1, ⟨hk.1.1.2, hk.1.2⟩⟩)⟩, ⟨by (with_reducible repeat (first | apply Kd.R_alloc | apply Kd.R_drewN | apply Kd.R_drew)); exact Kd.R_mono (Kd.R_far (p := ⟨gb371, 4, none⟩) (Kd.R_far (p := ⟨gb371, 3, none⟩) (Kd.R_far (p := ⟨gb371, 2, none⟩) (Kd.R_far (p := ⟨gb371, 1, none⟩) (Kd.R_far (p := ⟨gb371, 0, none⟩) (Kd.R_types HO368.out BK371.out (by decide)) (fun _ hk => hk.2) (.slice Ao10 t357.length co10)) (fun _ hk => hk.2) (.slice Ao13 t360.length co13)) (fun _ hk => hk.2) (.slice Ao14 t363.length co14)) (fun _ hk => hk.2) (.slice Ao15 t366.length co15)) (fun _ hk => hk.2) (.int .u64 t369)) (fun _ hk => trivial)⟩, ⟨by (with_reducible repeat (first | refine blk_drewN ?_ _ | refine blk_drew ?_ | refine blk_alloc ?_ _)); refine blk_far ?_ NB356_371.out _; (with_reducible repeat (first | refine blk_drewN ?_ _ | refine blk_drew ?_ | refine blk_alloc ?_ _)); refine blk_far ?_ NB356_371.out _; (with_reducible repeat (first | refine blk_drewN ?_ _ | refine blk_drew ?_ | refine blk_alloc ?_ _)); refine blk_far ?_ NB356_371.out _; (with_reducible repeat (first | refine blk_drewN ?_ _ | refine blk_drew ?_ | refine blk_alloc ?_ _)); refine blk_far ?_ NB356_371.out _; (with_reducible repeat (first | refine blk_drewN ?_ _ | refine blk_drew ?_ | refine blk_alloc ?_ _)); refine blk_far ?_ NB356_371.out _; (with_reducible repeat (first | refine blk_drewN ?_ _ | refine blk_drew ?_ | refine blk_alloc ?_ _)); exact BK356.out⟩, ⟨by (with_reducible repeat (first | refine blk_drewN ?_ _ | refine blk_drew ?_ | refine blk_alloc ?_ _)); refine blk_put (cs := #[.slice Ao10 t357.length co10, .slice Ao13 t360.length co13, .slice Ao14 t363.length co14, .slice Ao15 t366.length co15, .int .u64 0]) ?_ 4 _ rfl; (with_reducible repeat (first | refine blk_drewN ?_ _ | refine blk_drew ?_ | refine blk_alloc ?_ _)); refine blk_put (cs := #[.slice Ao10 t357.length co10, .slice Ao13 t360.length co13, .slice Ao14 t363.length co14, .slice none 0 0, .int .u64 0]) ?_ 3 _ rfl; (with_reducible repeat (first | refine blk_drewN ?_ _ | refine blk_drew ?_ | refine blk_alloc ?_ _)); refine blk_put (cs := #[.slice Ao10 t357.length co10, .slice Ao13 t360.length co13, .slice none 0 0, .slice none 0 0, .int .u64 0]) ?_ 2 _ rfl; (with_reducible repeat (first | refine blk_drewN ?_ _ | refine blk_drew ?_ | refine blk_alloc ?_ _)); refine blk_put (cs := #[.slice Ao10 t357.length co10, .slice none 0 0, .slice none 0 0, .slice none 0 0, .int .u64 0]) ?_ 1 _ rfl; (with_reducible repeat (first | refine blk_drewN ?_ _ | refine blk_drew ?_ | refine blk_alloc ?_ _)); refine blk_put (cs := #[.slice none 0 0, .slice none 0 0, .slice none 0 0, .slice none 0 0, .int .u64 0]) ?_ 0 _ rfl; (with_reducible repeat (first | refine blk_drewN ?_ _ | refine blk_drew ?_ | refine blk_alloc ?_ _)); exact BK371.out⟩, ⟨by repeat (first | (with_reducible first | exact HB.out | apply below_alloc | apply pw_below_drewN | apply below_drew1 | refine below_set ?_ GE356.out | refine below_set ?_ GE371.out) | exact HB.out)⟩⟩
 case rest =>
  clear HC5
  try clear c1
  try clear c2
  try clear p2
  try clear c4
  try clear p6
  try clear c11
  try clear c16
  try clear c16b0
  try clear c16b1
  try clear c18
  try clear hcz12_0
  try clear hcz12_1
  try clear hcz12_2
  try clear hcz12_3
  try clear hcz12_4
  try clear hcz19_0
  try clear hcz19_1
  try clear hcz19_2
  try clear hcz7_0
  try clear hcz7_1
  try clear hcz7_2
  try clear hfz12_0
  try clear hfz12_1
  try clear hfz12_2
  try clear hfz12_3
  try clear hfz12_4
  try clear hfz19_0
  try clear hfz19_1
  try clear hfz19_2
  try clear hfz7_0
  try clear hfz7_1
  try clear hfz7_2
  obtain ⟨kq, x30_4, rfl, HA, HJ4, HO_372000, HO_372001, HO_372002, HO_372003, BK356, BK371, HB⟩ := hcut
  cases kq with
  | zero => exact absurd HA.out (by simp [tests_Find.j0])
  | succ kj4 =>
   have H := HA.out
   clear HA
   simp only [tests_Find.j0] at H
   by_cases c20 : x30_4 = true
   ·subst c20
    have H1 : (some (([] : List Int), 2)) = some (r1, r2) := by rw [if_pos rfl] at H; exact H
    clear H
    have H := H1
    clear H1
    simp only [Option.some.injEq, Prod.mk.injEq] at H
    obtain ⟨rfl, rfl⟩ := H
    go_wp2
    go_ret2
    exact ⟨_, by first | rfl | (simp [errW_none, errW_some] <;> rfl) | (simp [*, errW_none, errW_some] <;> rfl), by first | exact Kd.R_nil _ _ _ _ _ | exact Kd.N_nil _ _ _ _ _ | exact Kd.V_nil _ _ _ _ _ | exact Kd.Q_nil _ _ _ _ _ | exact Kd.S_nil _ _ _ _ _, by repeat (first | (with_reducible first | exact HB.out | apply below_alloc | apply pw_below_drewN | apply below_drew1 | refine below_set ?_ GE356.out | refine below_set ?_ GE371.out) | exact HB.out)⟩
   ·replace c20 := Bool.eq_false_iff.mpr c20
    subst c20
    have H1 : ((tests_trial_costs.f kj4 t357 t360 t363 t366 t369 l1).bind fun bt373 => (if bt373.2.2 = true then ((tests_trial_way.f kj4 t357 t360 t363 t366 t369 l1 a2).bind fun bt376 => (some (bt376.1, 0))) else (some (([] : List Int), 10)))) = some (r1, r2) := by rw [if_neg (show ¬ (false = true) by decide)] at H; exact H
    clear H
    have H := H1
    clear H1
    replace H := Option.bind_eq_some_iff.mp H
    obtain ⟨⟨t373, t374, t375⟩, A210, H⟩ := H
    replace H : (if t375 = true then ((tests_trial_way.f kj4 t357 t360 t363 t366 t369 l1 a2).bind fun bt376 => (some (bt376.1, 0))) else (some (([] : List Int), 10))) = some (r1, r2) := H
    have A21 := Aside0.mk A210
    clear A210
    by_cases c22 : t375 = true
    ·subst c22
     have H1 : ((tests_trial_way.f kj4 t357 t360 t363 t366 t369 l1 a2).bind fun bt376 => (some (bt376.1, 0))) = some (r1, r2) := by rw [if_pos rfl] at H; exact H
     clear H
     have H := H1
     clear H1
     replace H := Option.bind_eq_some_iff.mp H
     obtain ⟨⟨t376, t379⟩, A230, H⟩ := H
     replace H : (some (t376, 0)) = some (r1, r2) := H
     have A23 := Aside0.mk A230
     clear A230
     simp only [Option.some.injEq, Prod.mk.injEq] at H
     obtain ⟨rfl, rfl⟩ := H
     have hnb24 := NB371_356.out
     have hnc24 := NB356_371.out
     have hcz25_0 : wc.cell? ⟨gb371, 0, none⟩ = some (.slice Ao10 t357.length co10) := (blk_cell BK371.out 0).trans rfl
     have hcz25_1 : wc.cell? ⟨gb371, 1, none⟩ = some (.slice Ao13 t360.length co13) := (blk_cell BK371.out 1).trans rfl
     have hcz25_2 : wc.cell? ⟨gb371, 2, none⟩ = some (.slice Ao14 t363.length co14) := (blk_cell BK371.out 2).trans rfl
     have hcz25_3 : wc.cell? ⟨gb371, 3, none⟩ = some (.slice Ao15 t366.length co15) := (blk_cell BK371.out 3).trans rfl
     have hcz25_4 : wc.cell? ⟨gb371, 4, none⟩ = some (.int .u64 t369) := (blk_cell BK371.out 4).trans rfl
     have hfz25_0 := blk_frozen BK371.out 0
     have hfz25_1 := blk_frozen BK371.out 1
     have hfz25_2 := blk_frozen BK371.out 2
     have hfz25_3 := blk_frozen BK371.out 3
     have hfz25_4 := blk_frozen BK371.out 4
     go_wp2_with (first | ((with_reducible refine gate_callee (f := 46) rfl ?_); refine goesL_ (some 34) rfl rfl Tryd.func46 (by kernel_rfl) rfl #[.agg #[.slice Ao10 t357.length co10, .slice Ao13 t360.length co13, .slice Ao14 t363.length co14, .slice Ao15 t366.length co15, .int .u64 t369], .slice A1 l1.length c1] rfl dz ?_; (with_reducible refine (tests_trial_costs.calls kj4 _ _ t357 _ _ t360 _ _ t363 _ _ t366 t369 _ _ l1 t373 t374 true _ ?side1 ?side2 ?side3 ?side4 ?side5 ?side6 ?side7 ?side8 ?side9 ?side10 A21.out).mono ?_); (case side1 => exact cz ((Kd.V_reads' HO_372000.out).2.2)); (case side2 => exact (Kd.V_reads' HO_372000.out).2.1); (case side3 => exact cz ((Kd.V_reads' HO_372001.out).2.2)); (case side4 => exact (Kd.V_reads' HO_372001.out).2.1); (case side5 => exact cz ((Kd.V_reads' HO_372002.out).2.2)); (case side6 => exact (Kd.V_reads' HO_372002.out).2.1); (case side7 => exact cz ((Kd.R_reads' HO_372003.out).2.2)); (case side8 => exact (Kd.R_reads' HO_372003.out).2.1); (case side9 => exact cz ((Kd.C_below HR1.out HB.out))); (case side10 => exact HC1.out); rintro e w26 ⟨rfl, hb⟩; refine ⟨_, rfl, ?_⟩; have n0_ := Aside0.mk (Kd.V_below (by (with_reducible repeat (first | apply Kd.V_alloc | apply Kd.V_drewN | apply Kd.V_drew)); exact HO_372000.out) hb); have n1_ := Aside0.mk (Kd.V_below (by (with_reducible repeat (first | apply Kd.V_alloc | apply Kd.V_drewN | apply Kd.V_drew)); exact HO_372001.out) hb); have n2_ := Aside0.mk (Kd.V_below (by (with_reducible repeat (first | apply Kd.V_alloc | apply Kd.V_drewN | apply Kd.V_drew)); exact HO_372002.out) hb); have n3_ := Aside0.mk (Kd.R_below (rz HO_372003.out) hb); have n4_ := Aside0.mk (kb BK356.out hb); have n5_ := Aside0.mk (kb BK371.out hb); have n6_ := Aside0.mk (below_step bz hb); clear HO_372000; clear HO_372001; clear HO_372002; clear HO_372003; clear BK356; clear BK371; clear HB; have HO_372000 := n0_; have HO_372001 := n1_; have HO_372002 := n2_; have HO_372003 := n3_; have BK356 := n4_; have BK371 := n5_; have HB := n6_; clear n0_ n1_ n2_ n3_ n4_ n5_ n6_; (try clear hb); (try clear hb2); (try clear hk); (try clear hi); have hcz27_0 : w26.cell? ⟨gb371, 0, none⟩ = some (.slice Ao10 t357.length co10) := (blk_cell BK371.out 0).trans rfl; have hcz27_1 : w26.cell? ⟨gb371, 1, none⟩ = some (.slice Ao13 t360.length co13) := (blk_cell BK371.out 1).trans rfl; have hcz27_2 : w26.cell? ⟨gb371, 2, none⟩ = some (.slice Ao14 t363.length co14) := (blk_cell BK371.out 2).trans rfl; have hcz27_3 : w26.cell? ⟨gb371, 3, none⟩ = some (.slice Ao15 t366.length co15) := (blk_cell BK371.out 3).trans rfl; have hcz27_4 : w26.cell? ⟨gb371, 4, none⟩ = some (.int .u64 t369) := (blk_cell BK371.out 4).trans rfl; have hfz27_0 := blk_frozen BK371.out 0; have hfz27_1 := blk_frozen BK371.out 1; have hfz27_2 := blk_frozen BK371.out 2; have hfz27_3 := blk_frozen BK371.out 3; have hfz27_4 := blk_frozen BK371.out 4) | ((with_reducible refine gate_callee (f := 48) rfl ?_); refine goesL_ (some 44) rfl rfl Tryd.func48 (by kernel_rfl) rfl #[.agg #[.slice Ao10 t357.length co10, .slice Ao13 t360.length co13, .slice Ao14 t363.length co14, .slice Ao15 t366.length co15, .int .u64 t369], .slice A1 l1.length c1, .int .i64 a2] rfl dz ?_; (with_reducible refine (tests_trial_way.calls kj4 _ _ t357 _ _ t360 _ _ t363 _ _ t366 t369 _ _ l1 a2 t376 t379 _ ?side1 ?side2 ?side3 ?side4 ?side5 ?side6 ?side7 ?side8 ?side9 ?side10 A23.out).mono ?_); (case side1 => exact cz ((Kd.V_reads' HO_372000.out).2.2)); (case side2 => exact (Kd.V_reads' HO_372000.out).2.1); (case side3 => exact cz ((Kd.V_reads' HO_372001.out).2.2)); (case side4 => exact (Kd.V_reads' HO_372001.out).2.1); (case side5 => exact cz ((Kd.V_reads' HO_372002.out).2.2)); (case side6 => exact (Kd.V_reads' HO_372002.out).2.1); (case side7 => exact cz ((Kd.R_reads' HO_372003.out).2.2)); (case side8 => exact (Kd.R_reads' HO_372003.out).2.1); (case side9 => exact cz ((Kd.C_below HR1.out HB.out))); (case side10 => exact HC1.out); rintro e w28 ⟨v377, rfl, ho0, hb⟩; refine ⟨_, rfl, ?_⟩; have n0_ := Aside0.mk (Kd.V_elder' (by (with_reducible repeat (first | apply Kd.V_alloc | apply Kd.V_drewN | apply Kd.V_drew)); exact HO_372000.out) (Kd.R_base ho0) hb); have n1_ := Aside0.mk (Kd.V_elder' (by (with_reducible repeat (first | apply Kd.V_alloc | apply Kd.V_drewN | apply Kd.V_drew)); exact HO_372001.out) (Kd.R_base ho0) hb); have n2_ := Aside0.mk (Kd.V_elder' (by (with_reducible repeat (first | apply Kd.V_alloc | apply Kd.V_drewN | apply Kd.V_drew)); exact HO_372002.out) (Kd.R_base ho0) hb); have n3_ := Aside0.mk (Kd.R_below (rz HO_372003.out) hb); have n4_ := Aside0.mk (Kd.R_lower ho0 (below_size bz)); have n5_ := Aside0.mk (kb BK356.out hb); have n6_ := Aside0.mk (kb BK371.out hb); have n7_ := Aside0.mk (below_step bz hb); clear HO_372000; clear HO_372001; clear HO_372002; clear HO_372003; clear BK356; clear BK371; clear HB; have HO_372000 := n0_; have HO_372001 := n1_; have HO_372002 := n2_; have HO_372003 := n3_; have HO378 := n4_; have BK356 := n5_; have BK371 := n6_; have HB := n7_; clear n0_ n1_ n2_ n3_ n4_ n5_ n6_ n7_; (try clear hb); (try clear hb2); (try clear hk); (try clear hi); (try clear ho0)))
     go_ret2
     exact ⟨_, by first | rfl | (simp [errW_none, errW_some] <;> rfl) | (simp [*, errW_none, errW_some] <;> rfl), by (with_reducible repeat (first | apply Kd.R_alloc | apply Kd.R_drewN | apply Kd.R_drew)); exact HO378.out, by repeat (first | (with_reducible first | exact HB.out | apply below_alloc | apply pw_below_drewN | apply below_drew1 | refine below_set ?_ GE356.out | refine below_set ?_ GE371.out) | exact HB.out)⟩
    ·replace c22 := Bool.eq_false_iff.mpr c22
     subst c22
     have H1 : (some (([] : List Int), 10)) = some (r1, r2) := by rw [if_neg (show ¬ (false = true) by decide)] at H; exact H
     clear H
     have H := H1
     clear H1
     simp only [Option.some.injEq, Prod.mk.injEq] at H
     obtain ⟨rfl, rfl⟩ := H
     have hnb29 := NB371_356.out
     have hnc29 := NB356_371.out
     have hcz30_0 : wc.cell? ⟨gb371, 0, none⟩ = some (.slice Ao10 t357.length co10) := (blk_cell BK371.out 0).trans rfl
     have hcz30_1 : wc.cell? ⟨gb371, 1, none⟩ = some (.slice Ao13 t360.length co13) := (blk_cell BK371.out 1).trans rfl
     have hcz30_2 : wc.cell? ⟨gb371, 2, none⟩ = some (.slice Ao14 t363.length co14) := (blk_cell BK371.out 2).trans rfl
     have hcz30_3 : wc.cell? ⟨gb371, 3, none⟩ = some (.slice Ao15 t366.length co15) := (blk_cell BK371.out 3).trans rfl
     have hcz30_4 : wc.cell? ⟨gb371, 4, none⟩ = some (.int .u64 t369) := (blk_cell BK371.out 4).trans rfl
     have hfz30_0 := blk_frozen BK371.out 0
     have hfz30_1 := blk_frozen BK371.out 1
     have hfz30_2 := blk_frozen BK371.out 2
     have hfz30_3 := blk_frozen BK371.out 3
     have hfz30_4 := blk_frozen BK371.out 4
     go_wp2_with (first | ((with_reducible refine gate_callee (f := 46) rfl ?_); refine goesL_ (some 34) rfl rfl Tryd.func46 (by kernel_rfl) rfl #[.agg #[.slice Ao10 t357.length co10, .slice Ao13 t360.length co13, .slice Ao14 t363.length co14, .slice Ao15 t366.length co15, .int .u64 t369], .slice A1 l1.length c1] rfl dz ?_; (with_reducible refine (tests_trial_costs.calls kj4 _ _ t357 _ _ t360 _ _ t363 _ _ t366 t369 _ _ l1 t373 t374 false _ ?side1 ?side2 ?side3 ?side4 ?side5 ?side6 ?side7 ?side8 ?side9 ?side10 A21.out).mono ?_); (case side1 => exact cz ((Kd.V_reads' HO_372000.out).2.2)); (case side2 => exact (Kd.V_reads' HO_372000.out).2.1); (case side3 => exact cz ((Kd.V_reads' HO_372001.out).2.2)); (case side4 => exact (Kd.V_reads' HO_372001.out).2.1); (case side5 => exact cz ((Kd.V_reads' HO_372002.out).2.2)); (case side6 => exact (Kd.V_reads' HO_372002.out).2.1); (case side7 => exact cz ((Kd.R_reads' HO_372003.out).2.2)); (case side8 => exact (Kd.R_reads' HO_372003.out).2.1); (case side9 => exact cz ((Kd.C_below HR1.out HB.out))); (case side10 => exact HC1.out); rintro e w31 ⟨rfl, hb⟩; refine ⟨_, rfl, ?_⟩; have n0_ := Aside0.mk (Kd.V_below (by (with_reducible repeat (first | apply Kd.V_alloc | apply Kd.V_drewN | apply Kd.V_drew)); exact HO_372000.out) hb); have n1_ := Aside0.mk (Kd.V_below (by (with_reducible repeat (first | apply Kd.V_alloc | apply Kd.V_drewN | apply Kd.V_drew)); exact HO_372001.out) hb); have n2_ := Aside0.mk (Kd.V_below (by (with_reducible repeat (first | apply Kd.V_alloc | apply Kd.V_drewN | apply Kd.V_drew)); exact HO_372002.out) hb); have n3_ := Aside0.mk (Kd.R_below (rz HO_372003.out) hb); have n4_ := Aside0.mk (kb BK356.out hb); have n5_ := Aside0.mk (kb BK371.out hb); have n6_ := Aside0.mk (below_step bz hb); clear HO_372000; clear HO_372001; clear HO_372002; clear HO_372003; clear BK356; clear BK371; clear HB; have HO_372000 := n0_; have HO_372001 := n1_; have HO_372002 := n2_; have HO_372003 := n3_; have BK356 := n4_; have BK371 := n5_; have HB := n6_; clear n0_ n1_ n2_ n3_ n4_ n5_ n6_; (try clear hb); (try clear hb2); (try clear hk); (try clear hi)))
     go_ret2
     exact ⟨_, by first | rfl | (simp [errW_none, errW_some] <;> rfl) | (simp [*, errW_none, errW_some] <;> rfl), by first | exact Kd.R_nil _ _ _ _ _ | exact Kd.N_nil _ _ _ _ _ | exact Kd.V_nil _ _ _ _ _ | exact Kd.Q_nil _ _ _ _ _ | exact Kd.S_nil _ _ _ _ _, by repeat (first | (with_reducible first | exact HB.out | apply below_alloc | apply pw_below_drewN | apply below_drew1 | refine below_set ?_ GE356.out | refine below_set ?_ GE371.out) | exact HB.out)⟩

end Go.Proofs.YtekmiepdodaidaaDoor.X
end

section
/- Layer 7, plain: the program's way, costs, Check and Find. -/
set_option linter.unusedVariables false
namespace Go.Proofs.YtekmiepdodaidaaDoor.X
open Go.RowKit Go.Proofs.YtekmiepdodaidaaDoorW.PrintWords Go.Proofs.YtekmiepdodaidaaDoorW.PrintLast Go.Proofs.YtekmiepdodaidaaDoorW.PrintMore

section
variable {a : List Int} {b : List (List Int)} {c : List Int}
theorem ones_at (h : CaseIs a b c) (t : Nat) (ht : t < b.length) : rd (onesOf b) (t : Int) = (rowV b[t] : Int) := by
 simp [rd, onesOf, List.getD_eq_getElem?_getD, List.getElem?_map, List.getElem?_eq_getElem ht]
theorem has_row (h : CaseIs a b c) (t f : Nat) (ht : t < b.length) (hf : f < a.length) : tests_faults_has.f (rd (onesOf b) (t : Int)) (f : Int) = some (decide (rd (rd_L1 b (t : Int)) (f : Int) = 1)) := by
 have hr := row_mem h t f ht hf
 rw [ones_at h t ht] at hr ⊢
 have hlt := row_lt h t ht
 have e : hasB (rowV b[t] : Int) (f : Int) = (rowV b[t]).testBit f := hasB_nat _ _ hlt
 unfold tests_faults_has.f
 rw [if_pos (by omega)]
 show some (hasB (rowV b[t] : Int) (f : Int)) = _
 rw [e]
 unfold memB at hr
 rw [Int.toNat_natCast] at hr
 congr 1
 rw [Bool.eq_iff_iff, decide_eq_true_iff]
 exact hr.symm
/-- The program's way. -/
theorem tway_l0 (h : CaseIs a b c) (plan : List S57) (H : PlanIs a.length b.length plan) (al : Int) (f : Nat) (hf : f < a.length) (d : Nat) : ∀ (p : Nat) (acc : List Int), p < plan.length → plan.length ≤ p + d → acc.length + d ≤ 2000 →
  Ev (fun k => tests_trial_way.l0 k plan (f : Int) acc a b c (onesOf b) al (rd_T57 plan (p : Int)).f0 (rd_T57 plan (p : Int)).f1 (rd_T57 plan (p : Int)).f2 (rd_T57 plan (p : Int)).f3) (acc ++ (wayN b plan (f : Int) d (p : Int)).1, (wayN b plan (f : Int) d (p : Int)).2) := by
 induction d with
 | zero => intro p acc hp hd; omega
 | succ d ih =>
  intro p acc hp hd hacc
  unfold wayN
  by_cases h0 : (rd_T57 plan (p : Int)).f0 < 0
  ·rw [if_pos h0]
   refine Ev.step (f := fun _ => some _) (fun k => ?_) (Ev.now _)
   simp only [tests_trial_way.l0]
   rw [if_neg (by omega)]; simp
  ·rw [if_neg h0]
   obtain ⟨o1, o2, o3, o4, o5, o6, o7⟩ := node_inner (H.node p hp) h0
   obtain ⟨t, ht⟩ : ∃ t : Nat, (rd_T57 plan (p : Int)).f0 = (t : Int) := ⟨(rd_T57 plan (p : Int)).f0.toNat, by omega⟩
   obtain ⟨j, e, h1, h2⟩ := kid_at (H.node p hp) h0 (rd (rd_L1 b (rd_T57 plan (p : Int)).f0) (f : Int) = 1)
   have := ih j (acc ++ [(t : Int)]) h2 (by omega) (by simp; omega)
   have hlen := onesOf_len (b := b)
   have hhas := has_row h t f (by omega) hf
   dsimp only
   rw [e, ht]
   rw [List.append_assoc] at this
   refine Ev.step (fun k => ?_) this
   show tests_trial_way.l0 (k + 1) plan (f : Int) acc a b c (onesOf b) al (t : Int) _ _ _ = _
   simp only [tests_trial_way.l0]
   rw [if_pos (by omega), if_pos (by omega)]
   simp only [Option.bind_some]
   rw [if_pos (by omega), if_pos (by omega), hhas]
   simp only [Option.bind_some, decide_eq_true_eq]
   rw [ht] at e
   by_cases hb : rd (rd_L1 b (t : Int)) (f : Int) = 1
   ·rw [if_pos hb] at e
    rw [if_pos hb, if_pos (by omega), if_pos (by omega), e]
   ·rw [if_neg hb] at e
    rw [if_neg hb, if_pos (by omega), if_pos (by omega), e]
theorem tway_ev (h : CaseIs a b c) (plan : List S57) (H : PlanIs a.length b.length plan) (al : Int) (f : Nat) (hf : f < a.length) : Ev (fun k => tests_trial_way.f k a b c (onesOf b) al plan (f : Int)) (wayP b plan (f : Int)) := by
 have := tway_l0 h plan H al f hf plan.length 0 [] (by have := H.l1; omega) (by omega) (by have := H.l1000; simp; omega)
 refine Ev.congr (fun k => ?_) (show Ev _ (wayP b plan (f : Int)) from by simpa [wayP] using this)
 unfold tests_trial_way.f
 rw [if_pos (by have := H.l1; omega)]
theorem tcost_l1 (h : CaseIs a b c) (plan : List S57) (al : Int) (f : Nat) (hf : f < a.length) (M W y : Int) (l : List Int) (hl : ∀ t ∈ l, 0 ≤ t ∧ t < (b.length : Int)) (hn : l.length ≤ 1000) (R : Int × Int × Bool) (m : Nat) : ∀ (i : Nat) (acc : Int), i + m = l.length → 0 ≤ acc → acc + 100 * (m : Int) ≤ 100000 →
  Ev (fun k => tests_trial_costs.l0 k plan (wrap64 (M + wrap64 (y * (acc + costL c (l.drop i))))) (mx W (acc + costL c (l.drop i))) a (a.length : Int) ((f + 1 : Nat) : Int) a b c (onesOf b) al) R →
  Ev (fun k => tests_trial_costs.l1 k plan M W y acc a (a.length : Int) (f : Int) l (l.length : Int) (i : Int) a b c (onesOf b) al) R := by
 have ha := h.a10
 have hcb := h.cb
 induction m with
 | zero =>
  intro i acc hi h0 h1 hR
  obtain rfl : i = l.length := by omega
  rw [List.drop_length] at hR
  refine Ev.step (fun k => ?_) hR
  simp only [tests_trial_costs.l1]
  rw [if_neg (by omega), w1 f (by omega)]
  simp [costL]
 | succ m ih =>
  intro i acc hi h0 h1 hR
  have hil : i < l.length := by omega
  have ht := hl l[i] (List.getElem_mem hil)
  obtain ⟨t, et⟩ : ∃ t : Nat, l[i] = (t : Int) := ⟨l[i].toNat, by omega⟩
  have hc := cost_at h t (by omega)
  rw [List.drop_eq_getElem_cons hil, et] at hR
  simp only [costL] at hR
  have e := ih (i + 1) (acc + rd c (t : Int)) (by omega) (by omega) (by omega) (by rw [Int.add_assoc]; exact hR)
  refine Ev.step (fun k => ?_) e
  show tests_trial_costs.l1 (k + 1) plan M W y acc a (a.length : Int) (f : Int) l (l.length : Int) (i : Int) a b c (onesOf b) al = _
  simp only [tests_trial_costs.l1]
  rw [if_pos (by omega), if_pos (by omega), if_pos (by omega), rd_at l i hil, et, if_pos (by omega), if_pos (by omega), w1 i (by omega), show wrap64 (acc + rd c (t : Int)) = acc + rd c (t : Int) from by unfold wrap64; omega]
theorem sum_bounds (h : CaseIs a b c) {plan : List S57} (H : PlanIs a.length b.length plan) (f : Nat) : f ≤ a.length → 0 ≤ sumR (fun f => rd a (f : Int) * wayC b c plan f) f ∧ sumR (fun f => rd a (f : Int) * wayC b c plan f) f ≤ 100000000 * (f : Int) := by
 induction f with
 | zero => intro _; simp [sumR]
 | succ f ih =>
  intro hf
  have i1 := ih (by omega)
  have hw := h.wa a[f] (List.getElem_mem (by omega))
  have hc := wayC_bounds h H f
  simp only [sumR]
  rw [rd_at a f (by omega)]
  have p1 : 0 ≤ a[f] * wayC b c plan f := Int.mul_nonneg (by omega) hc.1
  have p2 : a[f] * wayC b c plan f ≤ 1000 * 100000 := Int.mul_le_mul hw.2 hc.2 hc.1 (by omega)
  omega
theorem sum_step (h : CaseIs a b c) {plan : List S57} (H : PlanIs a.length b.length plan) (f : Nat) (hfl : f < a.length) : wrap64 (sumR (fun f => rd a (f : Int) * wayC b c plan f) f + wrap64 (rd a (f : Int) * costL c (wayP b plan (f : Int)).1)) = sumR (fun f => rd a (f : Int) * wayC b c plan f) (f + 1) := by
 have ha := h.a10
 have hw := h.wa a[f] (List.getElem_mem hfl)
 have hc := wayC_bounds h H f
 have hs := sum_bounds h H f (by omega)
 have hra := rd_at a f hfl
 have p1 : 0 ≤ rd a (f : Int) * wayC b c plan f := Int.mul_nonneg (by omega) hc.1
 have p2 : rd a (f : Int) * wayC b c plan f ≤ 1000 * 100000 := Int.mul_le_mul (by omega) hc.2 hc.1 (by omega)
 simp only [sumR]
 show wrap64 (_ + wrap64 (rd a (f : Int) * wayC b c plan f)) = _
 generalize rd a (f : Int) * wayC b c plan f = p at *
 generalize sumR (fun f => rd a (f : Int) * wayC b c plan f) f = s at *
 unfold wrap64; omega
theorem tcost_l0 (h : CaseIs a b c) (plan : List S57) (H : PlanIs a.length b.length plan) (al : Int) (m : Nat) : ∀ (f : Nat), f + m = a.length →
  Ev (fun k => tests_trial_costs.l0 k plan (sumR (fun f => rd a (f : Int) * wayC b c plan f) f) (maxR (fun f => wayC b c plan f) f) a (a.length : Int) (f : Int) a b c (onesOf b) al)
   (if allB (fun f => (wayP b plan f).2 == (f : Int)) f m = true then (sumR (fun f => rd a (f : Int) * wayC b c plan f) a.length, maxR (fun f => wayC b c plan f) a.length, true) else (0, 0, false)) := by
 have ha := h.a10
 induction m with
 | zero =>
  intro f hf
  obtain rfl : f = a.length := by omega
  refine Ev.step (f := fun _ => some _) (fun k => ?_) (Ev.now _)
  simp only [tests_trial_costs.l0]
  rw [if_neg (by omega)]; rfl
 | succ m ih =>
  intro f hf
  have hfl : f < a.length := by omega
  obtain ⟨hn, ht⟩ := way_tests (a := a) (b := b) (plan := plan) H (f : Int)
  refine Ev.step (f := fun k => (tests_trial_way.f k a b c (onesOf b) al plan (f : Int)).bind _) (fun k => by simp only [tests_trial_costs.l0]; rw [if_pos (by omega), if_pos (by omega), if_pos (by omega)]) ?_
  refine Ev.bind (tway_ev h plan H al f hfl) ?_
  rw [allB]
  by_cases hleaf : (wayP b plan (f : Int)).2 = (f : Int)
  ·rw [show ((wayP b plan (f : Int)).2 == (f : Int)) = true from beq_iff_eq.2 hleaf, Bool.true_and]
   refine Ev.congr (fun k => if_pos hleaf) ?_
   have e := ih (f + 1) (by omega)
   refine tcost_l1 h plan al f hfl _ _ _ _ ht hn _ (wayP b plan (f : Int)).1.length 0 0 (by omega) (by omega) (by omega) ?_
   rw [List.drop_zero, Int.zero_add, sum_step h H f hfl]
   exact e
  ·rw [show ((wayP b plan (f : Int)).2 == (f : Int)) = false from beq_eq_false_iff_ne.2 hleaf, Bool.false_and, if_neg Bool.false_ne_true]
   exact Ev.congr (f := fun _ => some _) (fun k => if_neg hleaf) (Ev.now _)
theorem tcosts_ev (h : CaseIs a b c) (plan : List S57) (al : Int) : Ev (fun k => tests_trial_costs.f k a b c (onesOf b) al plan) (corrR a b c plan) := by
 unfold tests_trial_costs.f tests_trial_isPlan.f corrR
 rw [onesOf_len]
 simp only [Option.bind_some]
 by_cases hp : planB a.length b.length plan = true
 ·rw [hp, Bool.true_and]
  have e := tcost_l0 h plan (plan_is hp) al a.length 0 (by omega)
  refine Ev.congr (f := fun k => tests_trial_costs.l0 k plan 0 0 a (a.length : Int) 0 a b c (onesOf b) al) (fun k => if_pos rfl) e
 ·have hp2 : planB a.length b.length plan = false := by simpa using hp
  rw [hp2, Bool.false_and, if_neg Bool.false_ne_true]
  exact Ev.congr (f := fun _ => some _) (fun k => if_neg Bool.false_ne_true) (Ev.now _)
end
def checkR (a : List Int) (b : List (List Int)) (c : List Int) (plan : List S57) : Int × Int × Int :=
 if caseB a b c = true then (if (corrR a b c plan).2.2 = true then ((corrR a b c plan).1, (corrR a b c plan).2.1, 0) else (0, 0, 10)) else (0, 0, 2)
theorem check_ev (a : List Int) (b : List (List Int)) (c : List Int) (plan : List S57) : Ev (fun k => tests_Check.f k a b c plan) (checkR a b c plan) := by
 unfold tests_Check.f checkR
 refine Ev.bind (newTrial_all a b c) ?_
 unfold trialR
 by_cases hc : caseB a b c = true
 ·rw [if_pos hc, if_pos hc]
  refine Ev.congr (fun k => if_pos rfl) ?_
  refine Ev.bind (tcosts_ev (case_is hc) plan _) ?_
  by_cases hr : (corrR a b c plan).2.2 = true
  ·rw [if_pos hr, if_pos hr]; exact Ev.now _
  ·rw [if_neg hr, if_neg hr]; exact Ev.now _
 ·rw [if_neg hc, if_neg hc]
  exact Ev.congr (f := fun _ => some _) (fun k => if_neg (by decide)) (Ev.now _)
def findR (a : List Int) (b : List (List Int)) (c : List Int) (plan : List S57) (fault : Int) : List Int × Int :=
 if caseB a b c = true ∧ 0 ≤ fault ∧ fault < (a.length : Int) then (if (corrR a b c plan).2.2 = true then ((wayP b plan fault).1, 0) else ([], 10)) else ([], 2)
theorem find_j0t (plan : List S57) (fault : Int) (x0 : List Int) (x1 : List (List Int)) (x2 x3 : List Int) (x4 : Int) : Ev (fun k => tests_Find.j0 k plan fault true x0 x1 x2 x3 x4) ([], 2) :=
 Ev.step (f := fun _ => some _) (fun k => by simp only [tests_Find.j0]; rw [if_pos trivial]) (Ev.now _)
theorem find_ev (a : List Int) (b : List (List Int)) (c : List Int) (plan : List S57) (fault : Int) : Ev (fun k => tests_Find.f k a b c plan fault) (findR a b c plan fault) := by
 unfold tests_Find.f findR
 refine Ev.bind (newTrial_all a b c) ?_
 unfold trialR
 by_cases hc : caseB a b c = true
 ·rw [if_pos hc]
  have hci := case_is hc
  refine Ev.congr (fun k => if_pos rfl) ?_
  have hw : wrap64 ((a.length : Int) - 1) = (a.length : Int) - 1 := by have := hci.a10; unfold wrap64; omega
  rw [hw]
  by_cases hf : 0 ≤ fault ∧ fault < (a.length : Int)
  ·rw [if_pos ⟨hc, hf⟩, within_yes fault 0 _ hf.1 (by omega)]
   obtain ⟨f, rfl⟩ : ∃ f : Nat, fault = (f : Int) := ⟨fault.toNat, by omega⟩
   simp only [Option.bind_some]
   refine Ev.step (f := fun k => (tests_trial_costs.f k a b c (onesOf b) ((2 ^ a.length : Nat) - 1) plan).bind _) (fun k => by simp only [tests_Find.j0]; rw [if_neg (by decide)]) ?_
   refine Ev.bind (tcosts_ev hci plan _) ?_
   by_cases hr : (corrR a b c plan).2.2 = true
   ·rw [if_pos hr]
    refine Ev.congr (fun k => if_pos hr) ?_
    have hp : planB a.length b.length plan = true := by
     unfold corrR at hr
     cases hp : planB a.length b.length plan with
     | true => rfl
     | false => rw [hp, Bool.false_and, if_neg Bool.false_ne_true] at hr; cases hr
    refine Ev.bind (tway_ev hci plan (plan_is hp) _ f (by omega)) ?_
    exact Ev.now _
   ·rw [if_neg hr]
    exact Ev.congr (f := fun _ => some _) (fun k => if_neg hr) (Ev.now _)
  ·rw [if_neg (fun h => hf h.2), within_no fault 0 _ (fun h => hf ⟨h.1, by omega⟩)]
   simp only [Option.bind_some]
   exact find_j0t _ _ _ _ _ _ _
 ·rw [if_neg hc, if_neg (fun h => hc h.1)]
  refine Ev.congr (fun k => if_neg (by decide)) ?_
  exact find_j0t _ _ _ _ _ _ _
end Go.Proofs.YtekmiepdodaidaaDoor.X
end

section
/- Layer 7, plain: trees of tests: none is better than what Best and Worst find. -/
set_option linter.unusedVariables false
namespace Go.Proofs.YtekmiepdodaidaaDoor.X
open Go.RowKit Go.Proofs.YtekmiepdodaidaaDoorW.PrintWords Go.Proofs.YtekmiepdodaidaaDoorW.PrintLast Go.Proofs.YtekmiepdodaidaaDoorW.PrintMore

inductive DT where
 | leaf (f : Nat) : DT
 | node (t : Nat) (z o : DT) : DT
/-- Where fault f comes to. -/
def DT.ends (ones : List Int) : DT → Nat → Nat
 | .leaf g, _ => g
 | .node t z o, f => if memB (rd ones (t : Int)) f = true then o.ends ones f else z.ends ones f
/-- What its way costs. -/
def DT.cost (ones c : List Int) : DT → Nat → Int
 | .leaf _, _ => 0
 | .node t z o, f => rd c (t : Int) + (if memB (rd ones (t : Int)) f = true then o.cost ones c f else z.cost ones c f)
/-- Its tests are tests. -/
def DT.ok (nt : Nat) : DT → Prop
 | .leaf _ => True
 | .node t z o => t < nt ∧ z.ok nt ∧ o.ok nt
section
variable {a : List Int} {b : List (List Int)} {c : List Int}
end
end Go.Proofs.YtekmiepdodaidaaDoor.X
end
