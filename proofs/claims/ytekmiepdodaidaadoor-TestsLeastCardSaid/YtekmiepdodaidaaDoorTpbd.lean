/- Texts behind TestsLeast, part 30: contracts of the program's functions and the plain words for them. -/
import Derived.Test.YtekmiepdodaidaaDoorTpas
import Derived.Test.YtekmiepdodaidaaDoorTpat
import Derived.Test.YtekmiepdodaidaaDoorTpau
import Derived.Test.YtekmiepdodaidaaDoorTpaw
import Derived.Test.YtekmiepdodaidaaDoorTpay
import Derived.Test.YtekmiepdodaidaaDoorTpaz
import Derived.Test.YtekmiepdodaidaaDoorTpba
import Derived.Test.YtekmiepdodaidaaDoorTpbc
section
namespace Go.Proofs.YtekmiepdodaidaaDoor.X
open Go.RowKit Go.Proofs.YtekmiepdodaidaaDoorW.PrintWords Go.Proofs.YtekmiepdodaidaaDoorW.PrintLast Go.Proofs.YtekmiepdodaidaaDoorW.PrintMore
attribute [local go_sem] max2_int min2_int max_two min_two max_three min_three max_four min_four   -- for this text's walks alone
set_option linter.unusedVariables false
set_option linter.unusedSimpArgs false

def tests_Check.f (k : Nat) (l0_0 : List Int) (l0_1 : List (List Int)) (l0_2 : List Int) (l1 : List (S57)) : Option (Int × Int × Int) := (tests_newTrial.f k l0_0 l0_1 l0_2).bind fun bt338 => (if bt338.2.2.2.2.2 = 0 then ((tests_trial_costs.f k bt338.1 bt338.2.1 bt338.2.2.1 bt338.2.2.2.1 bt338.2.2.2.2.1 l1).bind fun bt353 => (if bt353.2.2 = true then (some (bt353.1, bt353.2.1, 0)) else (some (0, 0, 10)))) else (some (0, 0, bt338.2.2.2.2.2)))
set_option maxHeartbeats 8000000 in
set_option maxRecDepth 100000 in
theorem tests_Check.calls (k : Nat) (A0_0 : Option Addr) (c0_0 : Nat) (l0_0 : List Int) (A0_1 : Option Addr) (c0_1 : Nat) (l0_1 : List (List Int)) (A0_2 : Option Addr) (c0_2 : Nat) (l0_2 : List Int) (A1 : Option Addr) (c1 : Nat) (l1 : List (S57)) (r1 : Int) (r2 : Int) (r3 : Int) (w : World) (hr0_0 : Kd.C (Kd.int .i64) w A0_0 l0_0.length l0_0) (hc0_0 : l0_0.length ≤ c0_0) (hr0_1 : Kd.C (Kd.slice 3 (Kd.int .i64)) w A0_1 l0_1.length l0_1) (hc0_1 : l0_1.length ≤ c0_1) (hr0_2 : Kd.C (Kd.int .i64) w A0_2 l0_2.length l0_2) (hc0_2 : l0_2.length ≤ c0_2) (hr1 : Kd.C k57 w A1 l1.length l1) (hc1 : l1.length ≤ c1) (h : tests_Check.f k l0_0 l0_1 l0_2 l1 = some (r1, r2, r3)) :
  Calls Tryd.prog 22 #[.agg #[.slice A0_0 l0_0.length c0_0, .slice A0_1 l0_1.length c0_1, .slice A0_2 l0_2.length c0_2], .slice A1 l1.length c1] w fun e w' => e = .returned (.tuple #[.int .i64 r1, .int .i64 r2, .int .i64 r3]) ∧ Below w.heap.size w w' := by
 have hu25 := Tryd.underlying25
 have hu77 := Tryd.underlying77
 have HR0_0 := Aside0.mk hr0_0
 have HC0_0 := Aside0.mk hc0_0
 clear hr0_0 hc0_0
 have HR0_1 := Aside0.mk hr0_1
 have HC0_1 := Aside0.mk hc0_1
 clear hr0_1 hc0_1
 have HR0_2 := Aside0.mk hr0_2
 have HC0_2 := Aside0.mk hc0_2
 clear hr0_2 hc0_2
 have HR1 := Aside0.mk hr1
 have HC1 := Aside0.mk hc1
 clear hr1 hc1
 have HB := Aside0.mk (Below.refl w.heap.size w)
 have H : ((tests_newTrial.f k l0_0 l0_1 l0_2).bind fun bt338 => (if bt338.2.2.2.2.2 = 0 then ((tests_trial_costs.f k bt338.1 bt338.2.1 bt338.2.2.1 bt338.2.2.2.1 bt338.2.2.2.2.1 l1).bind fun bt353 => (if bt353.2.2 = true then (some (bt353.1, bt353.2.1, 0)) else (some (0, 0, 10)))) else (some (0, 0, bt338.2.2.2.2.2)))) = some (r1, r2, r3) := h
 clear h
 replace H := Option.bind_eq_some_iff.mp H
 obtain ⟨⟨t338, t341, t344, t347, t350, t351⟩, A30, H⟩ := H
 replace H : (if t351 = 0 then ((tests_trial_costs.f k t338 t341 t344 t347 t350 l1).bind fun bt353 => (if bt353.2.2 = true then (some (bt353.1, bt353.2.1, 0)) else (some (0, 0, 10)))) else (some (0, 0, t351))) = some (r1, r2, r3) := H
 have A3 := Aside0.mk A30
 clear A30
 go_enter Tryd.func22, Tryd.ntmps22
 go_wp2_with (first | ((with_reducible refine gate_dst (N := 2) rfl ?_); refine box_event ?hg (N := 2) ?hd (cs := #[.slice A0_0 l0_0.length c0_0, .slice A0_1 l0_1.length c0_1, .slice A0_2 l0_2.length c0_2]) (t := 25) ?hr ?_; (case hd => rfl); (case hg => rfl); (case hr => first | (go_simp; done) | (go_simp; rfl)); intro gb337 hg w7 hbox hb; have n0_ := Aside0.mk (below_step bz hb); have n1_ := Aside0.mk (hbox); have n2_ := Aside0.mk ((by rw [hg]; exact (below_size bz) : w.heap.size ≤ gb337)); have n3_ := Aside0.mk ((by rw [hg]; exact (below_size bz) : w.heap.size ≤ gb337)); clear HB; have HB := n0_; have BK337 := n1_; have GW337 := n2_; have GE337 := n3_; clear n0_ n1_ n2_ n3_; clear hb hbox hg; have hcz8_0 : w7.cell? ⟨gb337, 0, none⟩ = some (.slice A0_0 l0_0.length c0_0) := (blk_cell BK337.out 0).trans rfl; have hcz8_1 : w7.cell? ⟨gb337, 1, none⟩ = some (.slice A0_1 l0_1.length c0_1) := (blk_cell BK337.out 1).trans rfl; have hcz8_2 : w7.cell? ⟨gb337, 2, none⟩ = some (.slice A0_2 l0_2.length c0_2) := (blk_cell BK337.out 2).trans rfl; have hfz8_0 := blk_frozen BK337.out 0; have hfz8_1 := blk_frozen BK337.out 1; have hfz8_2 := blk_frozen BK337.out 2) | ((with_reducible refine gate_callee (f := 45) rfl ?_); refine goesL_ (some 14) rfl rfl Tryd.func45 (by kernel_rfl) rfl #[.agg #[.slice A0_0 l0_0.length c0_0, .slice A0_1 l0_1.length c0_1, .slice A0_2 l0_2.length c0_2]] rfl dz ?_; (with_reducible refine (tests_newTrial.calls k (fun k_ => k_ < w.heap.size) _ _ l0_0 (fun k_ => k_ < w.heap.size) _ _ l0_1 (fun k_ => k_ < w.heap.size) _ _ l0_2 t338 t341 t344 t347 t350 t351 _ ?side1 ?side2 ?side3 A3.out).mono ?_); (case side1 => exact Kd.V_mk HC0_0.out (Kd.F_below (Kd.C_F (Kd.heap_int .i64) HR0_0.out) bz)); (case side2 => exact Kd.V_mk HC0_1.out (Kd.F_below (Kd.C_F (Kd.heap_slice 3 (Kd.heap_int .i64)) HR0_1.out) bz)); (case side3 => exact Kd.V_mk HC0_2.out (Kd.F_below (Kd.C_F (Kd.heap_int .i64) HR0_2.out) bz)); rintro e w9 ⟨v339, v342, v345, v348, rfl, ho0, ho1, ho2, ho3, hb⟩; refine ⟨_, rfl, ?_⟩; have n0_ := Aside0.mk (Kd.V_lower (Kd.V_mono (ok' := fun k_ => some k_ ≠ (v348 : Value).ownBlock ∧ k_ ≠ gb337) ho0 (fun k_ hk_ => ⟨hk_.2, Or.elim hk_.1 (fun hs_ => Or.elim hs_ (fun hs_ => fun e_ => Nat.not_le.2 hs_ (by rw [e_]; exact GW337.out)) (fun hs_ => Or.elim hs_ (fun hs_ => fun e_ => Nat.not_le.2 hs_ (by rw [e_]; exact GW337.out)) (fun hs_ => fun e_ => Nat.not_le.2 hs_ (by rw [e_]; exact GW337.out)))) (fun hn_ => (Kd.freshB (g := gb337) (o := .cells #[.slice A0_0 l0_0.length c0_0, .slice A0_1 l0_1.length c0_1, .slice A0_2 l0_2.length c0_2] 25 (0, 0)) (kz BK337.out) k_ hn_))⟩)) (below_size bz)); have n1_ := Aside0.mk (Kd.V_lower (Kd.V_mono (ok' := fun k_ => some k_ ≠ (v348 : Value).ownBlock ∧ k_ ≠ gb337) ho1 (fun k_ hk_ => ⟨hk_.2, Or.elim hk_.1 (fun hs_ => Or.elim hs_ (fun hs_ => fun e_ => Nat.not_le.2 hs_ (by rw [e_]; exact GW337.out)) (fun hs_ => Or.elim hs_ (fun hs_ => fun e_ => Nat.not_le.2 hs_ (by rw [e_]; exact GW337.out)) (fun hs_ => fun e_ => Nat.not_le.2 hs_ (by rw [e_]; exact GW337.out)))) (fun hn_ => (Kd.freshB (g := gb337) (o := .cells #[.slice A0_0 l0_0.length c0_0, .slice A0_1 l0_1.length c0_1, .slice A0_2 l0_2.length c0_2] 25 (0, 0)) (kz BK337.out) k_ hn_))⟩)) (below_size bz)); have n2_ := Aside0.mk (Kd.V_lower (Kd.V_mono (ok' := fun k_ => some k_ ≠ (v348 : Value).ownBlock ∧ k_ ≠ gb337) ho2 (fun k_ hk_ => ⟨hk_.2, Or.elim hk_.1 (fun hs_ => Or.elim hs_ (fun hs_ => fun e_ => Nat.not_le.2 hs_ (by rw [e_]; exact GW337.out)) (fun hs_ => Or.elim hs_ (fun hs_ => fun e_ => Nat.not_le.2 hs_ (by rw [e_]; exact GW337.out)) (fun hs_ => fun e_ => Nat.not_le.2 hs_ (by rw [e_]; exact GW337.out)))) (fun hn_ => (Kd.freshB (g := gb337) (o := .cells #[.slice A0_0 l0_0.length c0_0, .slice A0_1 l0_1.length c0_1, .slice A0_2 l0_2.length c0_2] 25 (0, 0)) (kz BK337.out) k_ hn_))⟩)) (below_size bz)); have n3_ := Aside0.mk (Kd.R_lower (Kd.R_mono (ok' := fun k_ => True) ho3 (fun _ hk_ => trivial)) (below_size bz)); have n4_ := Aside0.mk (kb BK337.out hb); have n5_ := Aside0.mk (below_step bz hb); clear BK337; clear HB; have HO340 := n0_; have HO343 := n1_; have HO346 := n2_; have HO349 := n3_; have BK337 := n4_; have HB := n5_; clear n0_ n1_ n2_ n3_ n4_ n5_; (try clear hb); (try clear hb2); (try clear hk); (try clear hi); (try clear ho0); (try clear ho1); (try clear ho2); (try clear ho3); refine hold_ ?_; intro P_ hP_))
 refine hP_.out ?_
 clear hP_ P_
 by_cases c4 : t351 = 0
 ·rw [if_pos c4] at H
  have c4b0 : (t351 == 0) = true := beq_iff_eq.mpr c4
  have c4b1 : (t351 != 0) = false := bne_eq_false_iff_eq.mpr c4
  clear c4
  replace H := Option.bind_eq_some_iff.mp H
  obtain ⟨⟨t353, t354, t355⟩, A50, H⟩ := H
  replace H : (if t355 = true then (some (t353, t354, 0)) else (some (0, 0, 10))) = some (r1, r2, r3) := H
  have A5 := Aside0.mk A50
  clear A50
  by_cases c6 : t355 = true
  ·subst c6
   have H1 : (some (t353, t354, 0)) = some (r1, r2, r3) := by rw [if_pos rfl] at H; exact H
   clear H
   have H := H1
   clear H1
   simp only [Option.some.injEq, Prod.mk.injEq] at H
   obtain ⟨rfl, rfl, rfl⟩ := H
   go_wp2_with (first | ((with_reducible refine gate_dst (N := 7) rfl ?_); refine box_event ?hg (N := 7) ?hd (cs := #[.slice none 0 0, .slice none 0 0, .slice none 0 0, .slice none 0 0, .int .u64 0]) (t := 77) ?hr ?_; (case hd => rfl); (case hg => rfl); (case hr => first | (go_simp; done) | (go_simp; rfl)); intro gb352 hg w10 hbox hb; have n0_ := Aside0.mk (Kd.V_below (Kd.V_elderB (by (with_reducible repeat (first | apply Kd.V_alloc | apply Kd.V_drewN | apply Kd.V_drew)); exact HO340.out) gb352 (Nat.le_of_eq hg.symm)) hb); have n1_ := Aside0.mk (Kd.V_below (Kd.V_elderB (by (with_reducible repeat (first | apply Kd.V_alloc | apply Kd.V_drewN | apply Kd.V_drew)); exact HO343.out) gb352 (Nat.le_of_eq hg.symm)) hb); have n2_ := Aside0.mk (Kd.V_below (Kd.V_elderB (by (with_reducible repeat (first | apply Kd.V_alloc | apply Kd.V_drewN | apply Kd.V_drew)); exact HO346.out) gb352 (Nat.le_of_eq hg.symm)) hb); have n3_ := Aside0.mk (Kd.R_below (rz HO349.out) hb); have n4_ := Aside0.mk (kb BK337.out hb); have n5_ := Aside0.mk (below_step bz hb); have n6_ := Aside0.mk (hbox); have n7_ := Aside0.mk ((by rw [hg]; exact (below_size bz) : w.heap.size ≤ gb352)); have n8_ := Aside0.mk ((by rw [hg]; exact (below_size bz) : w.heap.size ≤ gb352)); have n9_ := Aside0.mk ((by rw [hg]; exact Nat.ne_of_lt (kl BK337.out) : gb337 ≠ gb352)); have n10_ := Aside0.mk ((by rw [hg]; exact Nat.ne_of_gt (kl BK337.out) : gb352 ≠ gb337)); clear HO340; clear HO343; clear HO346; clear HO349; clear BK337; clear HB; have HO340 := n0_; have HO343 := n1_; have HO346 := n2_; have HO349 := n3_; have BK337 := n4_; have HB := n5_; have BK352 := n6_; have GW352 := n7_; have GE352 := n8_; have NB337_352 := n9_; have NB352_337 := n10_; clear n0_ n1_ n2_ n3_ n4_ n5_ n6_ n7_ n8_ n9_ n10_; clear hb hbox hg; obtain ⟨Ao11, co11, eo11⟩ := Kd.V_slice HO340.out; subst eo11; have hnb12 := NB352_337.out; have hnc12 := NB337_352.out; have hcz13_0 : w10.cell? ⟨gb352, 0, none⟩ = some (.slice none 0 0) := (blk_cell BK352.out 0).trans rfl; have hcz13_1 : w10.cell? ⟨gb352, 1, none⟩ = some (.slice none 0 0) := (blk_cell BK352.out 1).trans rfl; have hcz13_2 : w10.cell? ⟨gb352, 2, none⟩ = some (.slice none 0 0) := (blk_cell BK352.out 2).trans rfl; have hcz13_3 : w10.cell? ⟨gb352, 3, none⟩ = some (.slice none 0 0) := (blk_cell BK352.out 3).trans rfl; have hcz13_4 : w10.cell? ⟨gb352, 4, none⟩ = some (.int .u64 0) := (blk_cell BK352.out 4).trans rfl; have hfz13_0 := blk_frozen BK352.out 0; have hfz13_1 := blk_frozen BK352.out 1; have hfz13_2 := blk_frozen BK352.out 2; have hfz13_3 := blk_frozen BK352.out 3; have hfz13_4 := blk_frozen BK352.out 4; obtain ⟨Ao14, co14, eo14⟩ := Kd.V_slice HO343.out; subst eo14; obtain ⟨Ao15, co15, eo15⟩ := Kd.V_slice HO346.out; subst eo15; obtain ⟨Ao16, co16, eo16⟩ := Kd.R_slice HO349.out; subst eo16) | ((with_reducible refine gate_callee (f := 46) rfl ?_); refine goesL_ (some 23) rfl rfl Tryd.func46 (by kernel_rfl) rfl #[.agg #[.slice Ao11 t338.length co11, .slice Ao14 t341.length co14, .slice Ao15 t344.length co15, .slice Ao16 t347.length co16, .int .u64 t350], .slice A1 l1.length c1] rfl dz ?_; (with_reducible refine (tests_trial_costs.calls k _ _ t338 _ _ t341 _ _ t344 _ _ t347 t350 _ _ l1 t353 t354 true _ ?side1 ?side2 ?side3 ?side4 ?side5 ?side6 ?side7 ?side8 ?side9 ?side10 A5.out).mono ?_); (case side1 => refine (Kd.V_reads' (e := 3) (base := w.heap.size) (ok := fun k_ => ((some k_ ≠ (.slice Ao16 t347.length co16 : Value).ownBlock ∧ k_ ≠ gb337) ∧ k_ ≠ gb352)) (n := t338.length) (c := co11) ?_).2.2; exact (by (with_reducible repeat (first | apply Kd.V_alloc | apply Kd.V_drewN | apply Kd.V_drew)); exact (Kd.V_mono (Kd.V_far (p := ⟨gb352, 4, none⟩) (Kd.V_far (p := ⟨gb352, 3, none⟩) (Kd.V_far (p := ⟨gb352, 2, none⟩) (Kd.V_far (p := ⟨gb352, 1, none⟩) (Kd.V_far (p := ⟨gb352, 0, none⟩) (Kd.V_mono HO340.out (fun k_ hk => (⟨hk, hk.2⟩ : _ ∧ k_ ≠ gb352))) (fun _ hk => hk.2) (.slice Ao11 t338.length co11)) (fun _ hk => hk.2) (.slice Ao14 t341.length co14)) (fun _ hk => hk.2) (.slice Ao15 t344.length co15)) (fun _ hk => hk.2) (.slice Ao16 t347.length co16)) (fun _ hk => hk.2) (.int .u64 t350)) (fun _ h_ => h_.1)))); (case side2 => exact (Kd.V_reads' HO340.out).2.1); (case side3 => refine (Kd.V_reads' (e := 22) (base := w.heap.size) (ok := fun k_ => ((some k_ ≠ (.slice Ao16 t347.length co16 : Value).ownBlock ∧ k_ ≠ gb337) ∧ k_ ≠ gb352)) (n := t341.length) (c := co14) ?_).2.2; exact (by (with_reducible repeat (first | apply Kd.V_alloc | apply Kd.V_drewN | apply Kd.V_drew)); exact (Kd.V_mono (Kd.V_far (p := ⟨gb352, 4, none⟩) (Kd.V_far (p := ⟨gb352, 3, none⟩) (Kd.V_far (p := ⟨gb352, 2, none⟩) (Kd.V_far (p := ⟨gb352, 1, none⟩) (Kd.V_far (p := ⟨gb352, 0, none⟩) (Kd.V_mono HO343.out (fun k_ hk => (⟨hk, hk.2⟩ : _ ∧ k_ ≠ gb352))) (fun _ hk => hk.2) (.slice Ao11 t338.length co11)) (fun _ hk => hk.2) (.slice Ao14 t341.length co14)) (fun _ hk => hk.2) (.slice Ao15 t344.length co15)) (fun _ hk => hk.2) (.slice Ao16 t347.length co16)) (fun _ hk => hk.2) (.int .u64 t350)) (fun _ h_ => h_.1)))); (case side4 => exact (Kd.V_reads' HO343.out).2.1); (case side5 => refine (Kd.V_reads' (e := 3) (base := w.heap.size) (ok := fun k_ => ((some k_ ≠ (.slice Ao16 t347.length co16 : Value).ownBlock ∧ k_ ≠ gb337) ∧ k_ ≠ gb352)) (n := t344.length) (c := co15) ?_).2.2; exact (by (with_reducible repeat (first | apply Kd.V_alloc | apply Kd.V_drewN | apply Kd.V_drew)); exact (Kd.V_mono (Kd.V_far (p := ⟨gb352, 4, none⟩) (Kd.V_far (p := ⟨gb352, 3, none⟩) (Kd.V_far (p := ⟨gb352, 2, none⟩) (Kd.V_far (p := ⟨gb352, 1, none⟩) (Kd.V_far (p := ⟨gb352, 0, none⟩) (Kd.V_mono HO346.out (fun k_ hk => (⟨hk, hk.2⟩ : _ ∧ k_ ≠ gb352))) (fun _ hk => hk.2) (.slice Ao11 t338.length co11)) (fun _ hk => hk.2) (.slice Ao14 t341.length co14)) (fun _ hk => hk.2) (.slice Ao15 t344.length co15)) (fun _ hk => hk.2) (.slice Ao16 t347.length co16)) (fun _ hk => hk.2) (.int .u64 t350)) (fun _ h_ => h_.1)))); (case side6 => exact (Kd.V_reads' HO346.out).2.1); (case side7 => refine (Kd.R_reads' (e := 75) (base := w.heap.size) (ok := fun k_ => True) (n := t347.length) (c := co16) ?_).2.2; exact (by (with_reducible repeat (first | apply Kd.R_alloc | apply Kd.R_drewN | apply Kd.R_drew)); exact (Kd.R_mono (Kd.R_far (p := ⟨gb352, 4, none⟩) (Kd.R_far (p := ⟨gb352, 3, none⟩) (Kd.R_far (p := ⟨gb352, 2, none⟩) (Kd.R_far (p := ⟨gb352, 1, none⟩) (Kd.R_far (p := ⟨gb352, 0, none⟩) (Kd.R_types HO349.out BK352.out (by decide)) (fun _ hk => hk.2) (.slice Ao11 t338.length co11)) (fun _ hk => hk.2) (.slice Ao14 t341.length co14)) (fun _ hk => hk.2) (.slice Ao15 t344.length co15)) (fun _ hk => hk.2) (.slice Ao16 t347.length co16)) (fun _ hk => hk.2) (.int .u64 t350)) (fun _ h_ => h_.1)))); (case side8 => exact (Kd.R_reads' HO349.out).2.1); (case side9 => exact Kd.C_below HR1.out bz); (case side10 => exact HC1.out); rintro e w17 ⟨rfl, hb⟩; refine ⟨_, rfl, ?_⟩; have n0_ := Aside0.mk (Kd.V_below (by (with_reducible repeat (first | apply Kd.V_alloc | apply Kd.V_drewN | apply Kd.V_drew)); exact (Kd.V_mono (Kd.V_far (p := ⟨gb352, 4, none⟩) (Kd.V_far (p := ⟨gb352, 3, none⟩) (Kd.V_far (p := ⟨gb352, 2, none⟩) (Kd.V_far (p := ⟨gb352, 1, none⟩) (Kd.V_far (p := ⟨gb352, 0, none⟩) (Kd.V_mono HO340.out (fun k_ hk => (⟨hk, hk.2⟩ : _ ∧ k_ ≠ gb352))) (fun _ hk => hk.2) (.slice Ao11 t338.length co11)) (fun _ hk => hk.2) (.slice Ao14 t341.length co14)) (fun _ hk => hk.2) (.slice Ao15 t344.length co15)) (fun _ hk => hk.2) (.slice Ao16 t347.length co16)) (fun _ hk => hk.2) (.int .u64 t350)) (fun _ h_ => h_.1))) hb); have n1_ := Aside0.mk (Kd.V_below (by (with_reducible repeat (first | apply Kd.V_alloc | apply Kd.V_drewN | apply Kd.V_drew)); exact (Kd.V_mono (Kd.V_far (p := ⟨gb352, 4, none⟩) (Kd.V_far (p := ⟨gb352, 3, none⟩) (Kd.V_far (p := ⟨gb352, 2, none⟩) (Kd.V_far (p := ⟨gb352, 1, none⟩) (Kd.V_far (p := ⟨gb352, 0, none⟩) (Kd.V_mono HO343.out (fun k_ hk => (⟨hk, hk.2⟩ : _ ∧ k_ ≠ gb352))) (fun _ hk => hk.2) (.slice Ao11 t338.length co11)) (fun _ hk => hk.2) (.slice Ao14 t341.length co14)) (fun _ hk => hk.2) (.slice Ao15 t344.length co15)) (fun _ hk => hk.2) (.slice Ao16 t347.length co16)) (fun _ hk => hk.2) (.int .u64 t350)) (fun _ h_ => h_.1))) hb); have n2_ := Aside0.mk (Kd.V_below (by (with_reducible repeat (first | apply Kd.V_alloc | apply Kd.V_drewN | apply Kd.V_drew)); exact (Kd.V_mono (Kd.V_far (p := ⟨gb352, 4, none⟩) (Kd.V_far (p := ⟨gb352, 3, none⟩) (Kd.V_far (p := ⟨gb352, 2, none⟩) (Kd.V_far (p := ⟨gb352, 1, none⟩) (Kd.V_far (p := ⟨gb352, 0, none⟩) (Kd.V_mono HO346.out (fun k_ hk => (⟨hk, hk.2⟩ : _ ∧ k_ ≠ gb352))) (fun _ hk => hk.2) (.slice Ao11 t338.length co11)) (fun _ hk => hk.2) (.slice Ao14 t341.length co14)) (fun _ hk => hk.2) (.slice Ao15 t344.length co15)) (fun _ hk => hk.2) (.slice Ao16 t347.length co16)) (fun _ hk => hk.2) (.int .u64 t350)) (fun _ h_ => h_.1))) hb); have n3_ := Aside0.mk (Kd.R_below (by (with_reducible repeat (first | apply Kd.R_alloc | apply Kd.R_drewN | apply Kd.R_drew)); exact (Kd.R_mono (Kd.R_far (p := ⟨gb352, 4, none⟩) (Kd.R_far (p := ⟨gb352, 3, none⟩) (Kd.R_far (p := ⟨gb352, 2, none⟩) (Kd.R_far (p := ⟨gb352, 1, none⟩) (Kd.R_far (p := ⟨gb352, 0, none⟩) (Kd.R_types HO349.out BK352.out (by decide)) (fun _ hk => hk.2) (.slice Ao11 t338.length co11)) (fun _ hk => hk.2) (.slice Ao14 t341.length co14)) (fun _ hk => hk.2) (.slice Ao15 t344.length co15)) (fun _ hk => hk.2) (.slice Ao16 t347.length co16)) (fun _ hk => hk.2) (.int .u64 t350)) (fun _ h_ => h_.1))) hb); have n4_ := Aside0.mk (blk_below (g := gb337) (o := .cells #[.slice A0_0 l0_0.length c0_0, .slice A0_1 l0_1.length c0_1, .slice A0_2 l0_2.length c0_2] 25 (0, 0)) (by (with_reducible repeat (first | refine blk_drewN ?_ _ | refine blk_drew ?_ | refine blk_alloc ?_ _)); refine blk_far ?_ NB337_352.out _; (with_reducible repeat (first | refine blk_drewN ?_ _ | refine blk_drew ?_ | refine blk_alloc ?_ _)); refine blk_far ?_ NB337_352.out _; (with_reducible repeat (first | refine blk_drewN ?_ _ | refine blk_drew ?_ | refine blk_alloc ?_ _)); refine blk_far ?_ NB337_352.out _; (with_reducible repeat (first | refine blk_drewN ?_ _ | refine blk_drew ?_ | refine blk_alloc ?_ _)); refine blk_far ?_ NB337_352.out _; (with_reducible repeat (first | refine blk_drewN ?_ _ | refine blk_drew ?_ | refine blk_alloc ?_ _)); refine blk_far ?_ NB337_352.out _; (with_reducible repeat (first | refine blk_drewN ?_ _ | refine blk_drew ?_ | refine blk_alloc ?_ _)); exact BK337.out) hb); have n5_ := Aside0.mk (blk_below (g := gb352) (o := .cells #[.slice Ao11 t338.length co11, .slice Ao14 t341.length co14, .slice Ao15 t344.length co15, .slice Ao16 t347.length co16, .int .u64 t350] 77 (0, 0)) (by (with_reducible repeat (first | refine blk_drewN ?_ _ | refine blk_drew ?_ | refine blk_alloc ?_ _)); refine blk_put (cs := #[.slice Ao11 t338.length co11, .slice Ao14 t341.length co14, .slice Ao15 t344.length co15, .slice Ao16 t347.length co16, .int .u64 0]) ?_ 4 _ rfl; (with_reducible repeat (first | refine blk_drewN ?_ _ | refine blk_drew ?_ | refine blk_alloc ?_ _)); refine blk_put (cs := #[.slice Ao11 t338.length co11, .slice Ao14 t341.length co14, .slice Ao15 t344.length co15, .slice none 0 0, .int .u64 0]) ?_ 3 _ rfl; (with_reducible repeat (first | refine blk_drewN ?_ _ | refine blk_drew ?_ | refine blk_alloc ?_ _)); refine blk_put (cs := #[.slice Ao11 t338.length co11, .slice Ao14 t341.length co14, .slice none 0 0, .slice none 0 0, .int .u64 0]) ?_ 2 _ rfl; (with_reducible repeat (first | refine blk_drewN ?_ _ | refine blk_drew ?_ | refine blk_alloc ?_ _)); refine blk_put (cs := #[.slice Ao11 t338.length co11, .slice none 0 0, .slice none 0 0, .slice none 0 0, .int .u64 0]) ?_ 1 _ rfl; (with_reducible repeat (first | refine blk_drewN ?_ _ | refine blk_drew ?_ | refine blk_alloc ?_ _)); refine blk_put (cs := #[.slice none 0 0, .slice none 0 0, .slice none 0 0, .slice none 0 0, .int .u64 0]) ?_ 0 _ rfl; (with_reducible repeat (first | refine blk_drewN ?_ _ | refine blk_drew ?_ | refine blk_alloc ?_ _)); exact BK352.out) hb); have n6_ := Aside0.mk (below_step bz hb); clear HO340; clear HO343; clear HO346; clear HO349; clear BK337; clear BK352; clear HB; have HO340 := n0_; have HO343 := n1_; have HO346 := n2_; have HO349 := n3_; have BK337 := n4_; have BK352 := n5_; have HB := n6_; clear n0_ n1_ n2_ n3_ n4_ n5_ n6_; (try clear hb); (try clear hb2); (try clear hk); (try clear hi)))
   go_ret3
   exact ⟨by first | rfl | (simp [errW_none, errW_some] <;> rfl) | (simp [*, errW_none, errW_some] <;> rfl), by repeat (first | (with_reducible first | exact HB.out | apply below_alloc | apply pw_below_drewN | apply below_drew1 | refine below_set ?_ GE337.out | refine below_set ?_ GE352.out) | exact HB.out)⟩
  ·replace c6 := Bool.eq_false_iff.mpr c6
   subst c6
   have H1 : (some (0, 0, 10)) = some (r1, r2, r3) := by rw [if_neg (show ¬ (false = true) by decide)] at H; exact H
   clear H
   have H := H1
   clear H1
   simp only [Option.some.injEq, Prod.mk.injEq] at H
   obtain ⟨rfl, rfl, rfl⟩ := H
   go_wp2_with (first | ((with_reducible refine gate_dst (N := 7) rfl ?_); refine box_event ?hg (N := 7) ?hd (cs := #[.slice none 0 0, .slice none 0 0, .slice none 0 0, .slice none 0 0, .int .u64 0]) (t := 77) ?hr ?_; (case hd => rfl); (case hg => rfl); (case hr => first | (go_simp; done) | (go_simp; rfl)); intro gb352 hg w21 hbox hb; have n0_ := Aside0.mk (Kd.V_below (Kd.V_elderB (by (with_reducible repeat (first | apply Kd.V_alloc | apply Kd.V_drewN | apply Kd.V_drew)); exact HO340.out) gb352 (Nat.le_of_eq hg.symm)) hb); have n1_ := Aside0.mk (Kd.V_below (Kd.V_elderB (by (with_reducible repeat (first | apply Kd.V_alloc | apply Kd.V_drewN | apply Kd.V_drew)); exact HO343.out) gb352 (Nat.le_of_eq hg.symm)) hb); have n2_ := Aside0.mk (Kd.V_below (Kd.V_elderB (by (with_reducible repeat (first | apply Kd.V_alloc | apply Kd.V_drewN | apply Kd.V_drew)); exact HO346.out) gb352 (Nat.le_of_eq hg.symm)) hb); have n3_ := Aside0.mk (Kd.R_below (rz HO349.out) hb); have n4_ := Aside0.mk (kb BK337.out hb); have n5_ := Aside0.mk (below_step bz hb); have n6_ := Aside0.mk (hbox); have n7_ := Aside0.mk ((by rw [hg]; exact (below_size bz) : w.heap.size ≤ gb352)); have n8_ := Aside0.mk ((by rw [hg]; exact (below_size bz) : w.heap.size ≤ gb352)); have n9_ := Aside0.mk ((by rw [hg]; exact Nat.ne_of_lt (kl BK337.out) : gb337 ≠ gb352)); have n10_ := Aside0.mk ((by rw [hg]; exact Nat.ne_of_gt (kl BK337.out) : gb352 ≠ gb337)); clear HO340; clear HO343; clear HO346; clear HO349; clear BK337; clear HB; have HO340 := n0_; have HO343 := n1_; have HO346 := n2_; have HO349 := n3_; have BK337 := n4_; have HB := n5_; have BK352 := n6_; have GW352 := n7_; have GE352 := n8_; have NB337_352 := n9_; have NB352_337 := n10_; clear n0_ n1_ n2_ n3_ n4_ n5_ n6_ n7_ n8_ n9_ n10_; clear hb hbox hg; obtain ⟨Ao22, co22, eo22⟩ := Kd.V_slice HO340.out; subst eo22; have hnb23 := NB352_337.out; have hnc23 := NB337_352.out; have hcz24_0 : w21.cell? ⟨gb352, 0, none⟩ = some (.slice none 0 0) := (blk_cell BK352.out 0).trans rfl; have hcz24_1 : w21.cell? ⟨gb352, 1, none⟩ = some (.slice none 0 0) := (blk_cell BK352.out 1).trans rfl; have hcz24_2 : w21.cell? ⟨gb352, 2, none⟩ = some (.slice none 0 0) := (blk_cell BK352.out 2).trans rfl; have hcz24_3 : w21.cell? ⟨gb352, 3, none⟩ = some (.slice none 0 0) := (blk_cell BK352.out 3).trans rfl; have hcz24_4 : w21.cell? ⟨gb352, 4, none⟩ = some (.int .u64 0) := (blk_cell BK352.out 4).trans rfl; have hfz24_0 := blk_frozen BK352.out 0; have hfz24_1 := blk_frozen BK352.out 1; have hfz24_2 := blk_frozen BK352.out 2; have hfz24_3 := blk_frozen BK352.out 3; have hfz24_4 := blk_frozen BK352.out 4; obtain ⟨Ao25, co25, eo25⟩ := Kd.V_slice HO343.out; subst eo25; obtain ⟨Ao26, co26, eo26⟩ := Kd.V_slice HO346.out; subst eo26; obtain ⟨Ao27, co27, eo27⟩ := Kd.R_slice HO349.out; subst eo27) | ((with_reducible refine gate_callee (f := 46) rfl ?_); refine goesL_ (some 23) rfl rfl Tryd.func46 (by kernel_rfl) rfl #[.agg #[.slice Ao22 t338.length co22, .slice Ao25 t341.length co25, .slice Ao26 t344.length co26, .slice Ao27 t347.length co27, .int .u64 t350], .slice A1 l1.length c1] rfl dz ?_; (with_reducible refine (tests_trial_costs.calls k _ _ t338 _ _ t341 _ _ t344 _ _ t347 t350 _ _ l1 t353 t354 false _ ?side1 ?side2 ?side3 ?side4 ?side5 ?side6 ?side7 ?side8 ?side9 ?side10 A5.out).mono ?_); (case side1 => refine (Kd.V_reads' (e := 3) (base := w.heap.size) (ok := fun k_ => ((some k_ ≠ (.slice Ao27 t347.length co27 : Value).ownBlock ∧ k_ ≠ gb337) ∧ k_ ≠ gb352)) (n := t338.length) (c := co22) ?_).2.2; exact (by (with_reducible repeat (first | apply Kd.V_alloc | apply Kd.V_drewN | apply Kd.V_drew)); exact (Kd.V_mono (Kd.V_far (p := ⟨gb352, 4, none⟩) (Kd.V_far (p := ⟨gb352, 3, none⟩) (Kd.V_far (p := ⟨gb352, 2, none⟩) (Kd.V_far (p := ⟨gb352, 1, none⟩) (Kd.V_far (p := ⟨gb352, 0, none⟩) (Kd.V_mono HO340.out (fun k_ hk => (⟨hk, hk.2⟩ : _ ∧ k_ ≠ gb352))) (fun _ hk => hk.2) (.slice Ao22 t338.length co22)) (fun _ hk => hk.2) (.slice Ao25 t341.length co25)) (fun _ hk => hk.2) (.slice Ao26 t344.length co26)) (fun _ hk => hk.2) (.slice Ao27 t347.length co27)) (fun _ hk => hk.2) (.int .u64 t350)) (fun _ h_ => h_.1)))); (case side2 => exact (Kd.V_reads' HO340.out).2.1); (case side3 => refine (Kd.V_reads' (e := 22) (base := w.heap.size) (ok := fun k_ => ((some k_ ≠ (.slice Ao27 t347.length co27 : Value).ownBlock ∧ k_ ≠ gb337) ∧ k_ ≠ gb352)) (n := t341.length) (c := co25) ?_).2.2; exact (by (with_reducible repeat (first | apply Kd.V_alloc | apply Kd.V_drewN | apply Kd.V_drew)); exact (Kd.V_mono (Kd.V_far (p := ⟨gb352, 4, none⟩) (Kd.V_far (p := ⟨gb352, 3, none⟩) (Kd.V_far (p := ⟨gb352, 2, none⟩) (Kd.V_far (p := ⟨gb352, 1, none⟩) (Kd.V_far (p := ⟨gb352, 0, none⟩) (Kd.V_mono HO343.out (fun k_ hk => (⟨hk, hk.2⟩ : _ ∧ k_ ≠ gb352))) (fun _ hk => hk.2) (.slice Ao22 t338.length co22)) (fun _ hk => hk.2) (.slice Ao25 t341.length co25)) (fun _ hk => hk.2) (.slice Ao26 t344.length co26)) (fun _ hk => hk.2) (.slice Ao27 t347.length co27)) (fun _ hk => hk.2) (.int .u64 t350)) (fun _ h_ => h_.1)))); (case side4 => exact (Kd.V_reads' HO343.out).2.1); (case side5 => refine (Kd.V_reads' (e := 3) (base := w.heap.size) (ok := fun k_ => ((some k_ ≠ (.slice Ao27 t347.length co27 : Value).ownBlock ∧ k_ ≠ gb337) ∧ k_ ≠ gb352)) (n := t344.length) (c := co26) ?_).2.2; exact (by (with_reducible repeat (first | apply Kd.V_alloc | apply Kd.V_drewN | apply Kd.V_drew)); exact (Kd.V_mono (Kd.V_far (p := ⟨gb352, 4, none⟩) (Kd.V_far (p := ⟨gb352, 3, none⟩) (Kd.V_far (p := ⟨gb352, 2, none⟩) (Kd.V_far (p := ⟨gb352, 1, none⟩) (Kd.V_far (p := ⟨gb352, 0, none⟩) (Kd.V_mono HO346.out (fun k_ hk => (⟨hk, hk.2⟩ : _ ∧ k_ ≠ gb352))) (fun _ hk => hk.2) (.slice Ao22 t338.length co22)) (fun _ hk => hk.2) (.slice Ao25 t341.length co25)) (fun _ hk => hk.2) (.slice Ao26 t344.length co26)) (fun _ hk => hk.2) (.slice Ao27 t347.length co27)) (fun _ hk => hk.2) (.int .u64 t350)) (fun _ h_ => h_.1)))); (case side6 => exact (Kd.V_reads' HO346.out).2.1); (case side7 => refine (Kd.R_reads' (e := 75) (base := w.heap.size) (ok := fun k_ => True) (n := t347.length) (c := co27) ?_).2.2; exact (by (with_reducible repeat (first | apply Kd.R_alloc | apply Kd.R_drewN | apply Kd.R_drew)); exact (Kd.R_mono (Kd.R_far (p := ⟨gb352, 4, none⟩) (Kd.R_far (p := ⟨gb352, 3, none⟩) (Kd.R_far (p := ⟨gb352, 2, none⟩) (Kd.R_far (p := ⟨gb352, 1, none⟩) (Kd.R_far (p := ⟨gb352, 0, none⟩) (Kd.R_types HO349.out BK352.out (by decide)) (fun _ hk => hk.2) (.slice Ao22 t338.length co22)) (fun _ hk => hk.2) (.slice Ao25 t341.length co25)) (fun _ hk => hk.2) (.slice Ao26 t344.length co26)) (fun _ hk => hk.2) (.slice Ao27 t347.length co27)) (fun _ hk => hk.2) (.int .u64 t350)) (fun _ h_ => h_.1)))); (case side8 => exact (Kd.R_reads' HO349.out).2.1); (case side9 => exact Kd.C_below HR1.out bz); (case side10 => exact HC1.out); rintro e w28 ⟨rfl, hb⟩; refine ⟨_, rfl, ?_⟩; have n0_ := Aside0.mk (Kd.V_below (by (with_reducible repeat (first | apply Kd.V_alloc | apply Kd.V_drewN | apply Kd.V_drew)); exact (Kd.V_mono (Kd.V_far (p := ⟨gb352, 4, none⟩) (Kd.V_far (p := ⟨gb352, 3, none⟩) (Kd.V_far (p := ⟨gb352, 2, none⟩) (Kd.V_far (p := ⟨gb352, 1, none⟩) (Kd.V_far (p := ⟨gb352, 0, none⟩) (Kd.V_mono HO340.out (fun k_ hk => (⟨hk, hk.2⟩ : _ ∧ k_ ≠ gb352))) (fun _ hk => hk.2) (.slice Ao22 t338.length co22)) (fun _ hk => hk.2) (.slice Ao25 t341.length co25)) (fun _ hk => hk.2) (.slice Ao26 t344.length co26)) (fun _ hk => hk.2) (.slice Ao27 t347.length co27)) (fun _ hk => hk.2) (.int .u64 t350)) (fun _ h_ => h_.1))) hb); have n1_ := Aside0.mk (Kd.V_below (by (with_reducible repeat (first | apply Kd.V_alloc | apply Kd.V_drewN | apply Kd.V_drew)); exact (Kd.V_mono (Kd.V_far (p := ⟨gb352, 4, none⟩) (Kd.V_far (p := ⟨gb352, 3, none⟩) (Kd.V_far (p := ⟨gb352, 2, none⟩) (Kd.V_far (p := ⟨gb352, 1, none⟩) (Kd.V_far (p := ⟨gb352, 0, none⟩) (Kd.V_mono HO343.out (fun k_ hk => (⟨hk, hk.2⟩ : _ ∧ k_ ≠ gb352))) (fun _ hk => hk.2) (.slice Ao22 t338.length co22)) (fun _ hk => hk.2) (.slice Ao25 t341.length co25)) (fun _ hk => hk.2) (.slice Ao26 t344.length co26)) (fun _ hk => hk.2) (.slice Ao27 t347.length co27)) (fun _ hk => hk.2) (.int .u64 t350)) (fun _ h_ => h_.1))) hb); have n2_ := Aside0.mk (Kd.V_below (by (with_reducible repeat (first | apply Kd.V_alloc | apply Kd.V_drewN | apply Kd.V_drew)); exact (Kd.V_mono (Kd.V_far (p := ⟨gb352, 4, none⟩) (Kd.V_far (p := ⟨gb352, 3, none⟩) (Kd.V_far (p := ⟨gb352, 2, none⟩) (Kd.V_far (p := ⟨gb352, 1, none⟩) (Kd.V_far (p := ⟨gb352, 0, none⟩) (Kd.V_mono HO346.out (fun k_ hk => (⟨hk, hk.2⟩ : _ ∧ k_ ≠ gb352))) (fun _ hk => hk.2) (.slice Ao22 t338.length co22)) (fun _ hk => hk.2) (.slice Ao25 t341.length co25)) (fun _ hk => hk.2) (.slice Ao26 t344.length co26)) (fun _ hk => hk.2) (.slice Ao27 t347.length co27)) (fun _ hk => hk.2) (.int .u64 t350)) (fun _ h_ => h_.1))) hb); have n3_ := Aside0.mk (Kd.R_below (by (with_reducible repeat (first | apply Kd.R_alloc | apply Kd.R_drewN | apply Kd.R_drew)); exact (Kd.R_mono (Kd.R_far (p := ⟨gb352, 4, none⟩) (Kd.R_far (p := ⟨gb352, 3, none⟩) (Kd.R_far (p := ⟨gb352, 2, none⟩) (Kd.R_far (p := ⟨gb352, 1, none⟩) (Kd.R_far (p := ⟨gb352, 0, none⟩) (Kd.R_types HO349.out BK352.out (by decide)) (fun _ hk => hk.2) (.slice Ao22 t338.length co22)) (fun _ hk => hk.2) (.slice Ao25 t341.length co25)) (fun _ hk => hk.2) (.slice Ao26 t344.length co26)) (fun _ hk => hk.2) (.slice Ao27 t347.length co27)) (fun _ hk => hk.2) (.int .u64 t350)) (fun _ h_ => h_.1))) hb); have n4_ := Aside0.mk (blk_below (g := gb337) (o := .cells #[.slice A0_0 l0_0.length c0_0, .slice A0_1 l0_1.length c0_1, .slice A0_2 l0_2.length c0_2] 25 (0, 0)) (by (with_reducible repeat (first | refine blk_drewN ?_ _ | refine blk_drew ?_ | refine blk_alloc ?_ _)); refine blk_far ?_ NB337_352.out _; (with_reducible repeat (first | refine blk_drewN ?_ _ | refine blk_drew ?_ | refine blk_alloc ?_ _)); refine blk_far ?_ NB337_352.out _; (with_reducible repeat (first | refine blk_drewN ?_ _ | refine blk_drew ?_ | refine blk_alloc ?_ _)); refine blk_far ?_ NB337_352.out _; (with_reducible repeat (first | refine blk_drewN ?_ _ | refine blk_drew ?_ | refine blk_alloc ?_ _)); refine blk_far ?_ NB337_352.out _; (with_reducible repeat (first | refine blk_drewN ?_ _ | refine blk_drew ?_ | refine blk_alloc ?_ _)); refine blk_far ?_ NB337_352.out _; (with_reducible repeat (first | refine blk_drewN ?_ _ | refine blk_drew ?_ | refine blk_alloc ?_ _)); exact BK337.out) hb); have n5_ := Aside0.mk (blk_below (g := gb352) (o := .cells #[.slice Ao22 t338.length co22, .slice Ao25 t341.length co25, .slice Ao26 t344.length co26, .slice Ao27 t347.length co27, .int .u64 t350] 77 (0, 0)) (by (with_reducible repeat (first | refine blk_drewN ?_ _ | refine blk_drew ?_ | refine blk_alloc ?_ _)); refine blk_put (cs := #[.slice Ao22 t338.length co22, .slice Ao25 t341.length co25, .slice Ao26 t344.length co26, .slice Ao27 t347.length co27, .int .u64 0]) ?_ 4 _ rfl; (with_reducible repeat (first | refine blk_drewN ?_ _ | refine blk_drew ?_ | refine blk_alloc ?_ _)); refine blk_put (cs := #[.slice Ao22 t338.length co22, .slice Ao25 t341.length co25, .slice Ao26 t344.length co26, .slice none 0 0, .int .u64 0]) ?_ 3 _ rfl; (with_reducible repeat (first | refine blk_drewN ?_ _ | refine blk_drew ?_ | refine blk_alloc ?_ _)); refine blk_put (cs := #[.slice Ao22 t338.length co22, .slice Ao25 t341.length co25, .slice none 0 0, .slice none 0 0, .int .u64 0]) ?_ 2 _ rfl; (with_reducible repeat (first | refine blk_drewN ?_ _ | refine blk_drew ?_ | refine blk_alloc ?_ _)); refine blk_put (cs := #[.slice Ao22 t338.length co22, .slice none 0 0, .slice none 0 0, .slice none 0 0, .int .u64 0]) ?_ 1 _ rfl; (with_reducible repeat (first | refine blk_drewN ?_ _ | refine blk_drew ?_ | refine blk_alloc ?_ _)); refine blk_put (cs := #[.slice none 0 0, .slice none 0 0, .slice none 0 0, .slice none 0 0, .int .u64 0]) ?_ 0 _ rfl; (with_reducible repeat (first | refine blk_drewN ?_ _ | refine blk_drew ?_ | refine blk_alloc ?_ _)); exact BK352.out) hb); have n6_ := Aside0.mk (below_step bz hb); clear HO340; clear HO343; clear HO346; clear HO349; clear BK337; clear BK352; clear HB; have HO340 := n0_; have HO343 := n1_; have HO346 := n2_; have HO349 := n3_; have BK337 := n4_; have BK352 := n5_; have HB := n6_; clear n0_ n1_ n2_ n3_ n4_ n5_ n6_; (try clear hb); (try clear hb2); (try clear hk); (try clear hi)))
   go_ret3
   exact ⟨by first | rfl | (simp [errW_none, errW_some] <;> rfl) | (simp [*, errW_none, errW_some] <;> rfl), by repeat (first | (with_reducible first | exact HB.out | apply below_alloc | apply pw_below_drewN | apply below_drew1 | refine below_set ?_ GE337.out | refine below_set ?_ GE352.out) | exact HB.out)⟩
 ·rw [if_neg c4] at H
  have c4b0 : (t351 == 0) = false := beq_eq_false_iff_ne.mpr c4
  have c4b1 : (t351 != 0) = true := bne_iff_ne.mpr c4
  simp only [Option.some.injEq, Prod.mk.injEq] at H
  obtain ⟨rfl, rfl, rfl⟩ := H
  go_wp2_with (first | ((with_reducible refine gate_dst (N := 7) rfl ?_); refine box_event ?hg (N := 7) ?hd (cs := #[.slice none 0 0, .slice none 0 0, .slice none 0 0, .slice none 0 0, .int .u64 0]) (t := 77) ?hr ?_; (case hd => rfl); (case hg => rfl); (case hr => first | (go_simp; done) | (go_simp; rfl)); intro gb352 hg w32 hbox hb; have n0_ := Aside0.mk (Kd.V_below (Kd.V_elderB (by (with_reducible repeat (first | apply Kd.V_alloc | apply Kd.V_drewN | apply Kd.V_drew)); exact HO340.out) gb352 (Nat.le_of_eq hg.symm)) hb); have n1_ := Aside0.mk (Kd.V_below (Kd.V_elderB (by (with_reducible repeat (first | apply Kd.V_alloc | apply Kd.V_drewN | apply Kd.V_drew)); exact HO343.out) gb352 (Nat.le_of_eq hg.symm)) hb); have n2_ := Aside0.mk (Kd.V_below (Kd.V_elderB (by (with_reducible repeat (first | apply Kd.V_alloc | apply Kd.V_drewN | apply Kd.V_drew)); exact HO346.out) gb352 (Nat.le_of_eq hg.symm)) hb); have n3_ := Aside0.mk (Kd.R_below (rz HO349.out) hb); have n4_ := Aside0.mk (kb BK337.out hb); have n5_ := Aside0.mk (below_step bz hb); have n6_ := Aside0.mk (hbox); have n7_ := Aside0.mk ((by rw [hg]; exact (below_size bz) : w.heap.size ≤ gb352)); have n8_ := Aside0.mk ((by rw [hg]; exact (below_size bz) : w.heap.size ≤ gb352)); have n9_ := Aside0.mk ((by rw [hg]; exact Nat.ne_of_lt (kl BK337.out) : gb337 ≠ gb352)); have n10_ := Aside0.mk ((by rw [hg]; exact Nat.ne_of_gt (kl BK337.out) : gb352 ≠ gb337)); clear HO340; clear HO343; clear HO346; clear HO349; clear BK337; clear HB; have HO340 := n0_; have HO343 := n1_; have HO346 := n2_; have HO349 := n3_; have BK337 := n4_; have HB := n5_; have BK352 := n6_; have GW352 := n7_; have GE352 := n8_; have NB337_352 := n9_; have NB352_337 := n10_; clear n0_ n1_ n2_ n3_ n4_ n5_ n6_ n7_ n8_ n9_ n10_; clear hb hbox hg; obtain ⟨Ao33, co33, eo33⟩ := Kd.V_slice HO340.out; subst eo33; have hnb34 := NB352_337.out; have hnc34 := NB337_352.out; have hcz35_0 : w32.cell? ⟨gb352, 0, none⟩ = some (.slice none 0 0) := (blk_cell BK352.out 0).trans rfl; have hcz35_1 : w32.cell? ⟨gb352, 1, none⟩ = some (.slice none 0 0) := (blk_cell BK352.out 1).trans rfl; have hcz35_2 : w32.cell? ⟨gb352, 2, none⟩ = some (.slice none 0 0) := (blk_cell BK352.out 2).trans rfl; have hcz35_3 : w32.cell? ⟨gb352, 3, none⟩ = some (.slice none 0 0) := (blk_cell BK352.out 3).trans rfl; have hcz35_4 : w32.cell? ⟨gb352, 4, none⟩ = some (.int .u64 0) := (blk_cell BK352.out 4).trans rfl; have hfz35_0 := blk_frozen BK352.out 0; have hfz35_1 := blk_frozen BK352.out 1; have hfz35_2 := blk_frozen BK352.out 2; have hfz35_3 := blk_frozen BK352.out 3; have hfz35_4 := blk_frozen BK352.out 4; obtain ⟨Ao36, co36, eo36⟩ := Kd.V_slice HO343.out; subst eo36; obtain ⟨Ao37, co37, eo37⟩ := Kd.V_slice HO346.out; subst eo37; obtain ⟨Ao38, co38, eo38⟩ := Kd.R_slice HO349.out; subst eo38))
  go_ret3
  exact ⟨by first | rfl | (simp [errW_none, errW_some] <;> rfl) | (simp [*, errW_none, errW_some] <;> rfl), by repeat (first | (with_reducible first | exact HB.out | apply below_alloc | apply pw_below_drewN | apply below_drew1 | refine below_set ?_ GE337.out | refine below_set ?_ GE352.out) | exact HB.out)⟩

end Go.Proofs.YtekmiepdodaidaaDoor.X
end

section
/- Layer 7, plain: the program's way, costs, Check and Find. -/
set_option linter.unusedVariables false
namespace Go.Proofs.YtekmiepdodaidaaDoor.X
open Go.RowKit Go.Proofs.YtekmiepdodaidaaDoorW.PrintWords Go.Proofs.YtekmiepdodaidaaDoorW.PrintLast Go.Proofs.YtekmiepdodaidaaDoorW.PrintMore

section
variable {a : List Int} {b : List (List Int)} {c : List Int}
theorem ones_at (h : CaseIs a b c) (t : Nat) (ht : t < b.length) : rd (onesOf b) (t : Int) = (rowV b[t] : Int) := by
 simp [rd, onesOf, List.getD_eq_getElem?_getD, List.getElem?_map, List.getElem?_eq_getElem ht]
theorem has_row (h : CaseIs a b c) (t f : Nat) (ht : t < b.length) (hf : f < a.length) : tests_faults_has.f (rd (onesOf b) (t : Int)) (f : Int) = some (decide (rd (rd_L1 b (t : Int)) (f : Int) = 1)) := by
 have hr := row_mem h t f ht hf
 rw [ones_at h t ht] at hr ⊢
 have hlt := row_lt h t ht
 have e : hasB (rowV b[t] : Int) (f : Int) = (rowV b[t]).testBit f := hasB_nat _ _ hlt
 unfold tests_faults_has.f
 rw [if_pos (by omega)]
 show some (hasB (rowV b[t] : Int) (f : Int)) = _
 rw [e]
 unfold memB at hr
 rw [Int.toNat_natCast] at hr
 congr 1
 rw [Bool.eq_iff_iff, decide_eq_true_iff]
 exact hr.symm
/-- The program's way. -/
theorem tway_l0 (h : CaseIs a b c) (plan : List S57) (H : PlanIs a.length b.length plan) (al : Int) (f : Nat) (hf : f < a.length) (d : Nat) : ∀ (p : Nat) (acc : List Int), p < plan.length → plan.length ≤ p + d → acc.length + d ≤ 2000 →
  Ev (fun k => tests_trial_way.l0 k plan (f : Int) acc a b c (onesOf b) al (rd_T57 plan (p : Int)).f0 (rd_T57 plan (p : Int)).f1 (rd_T57 plan (p : Int)).f2 (rd_T57 plan (p : Int)).f3) (acc ++ (wayN b plan (f : Int) d (p : Int)).1, (wayN b plan (f : Int) d (p : Int)).2) := by
 induction d with
 | zero => intro p acc hp hd; omega
 | succ d ih =>
  intro p acc hp hd hacc
  unfold wayN
  by_cases h0 : (rd_T57 plan (p : Int)).f0 < 0
  ·rw [if_pos h0]
   refine Ev.step (f := fun _ => some _) (fun k => ?_) (Ev.now _)
   simp only [tests_trial_way.l0]
   rw [if_neg (by omega)]; simp
  ·rw [if_neg h0]
   obtain ⟨o1, o2, o3, o4, o5, o6, o7⟩ := node_inner (H.node p hp) h0
   obtain ⟨t, ht⟩ : ∃ t : Nat, (rd_T57 plan (p : Int)).f0 = (t : Int) := ⟨(rd_T57 plan (p : Int)).f0.toNat, by omega⟩
   obtain ⟨j, e, h1, h2⟩ := kid_at (H.node p hp) h0 (rd (rd_L1 b (rd_T57 plan (p : Int)).f0) (f : Int) = 1)
   have := ih j (acc ++ [(t : Int)]) h2 (by omega) (by simp; omega)
   have hlen := onesOf_len (b := b)
   have hhas := has_row h t f (by omega) hf
   dsimp only
   rw [e, ht]
   rw [List.append_assoc] at this
   refine Ev.step (fun k => ?_) this
   show tests_trial_way.l0 (k + 1) plan (f : Int) acc a b c (onesOf b) al (t : Int) _ _ _ = _
   simp only [tests_trial_way.l0]
   rw [if_pos (by omega), if_pos (by omega)]
   simp only [Option.bind_some]
   rw [if_pos (by omega), if_pos (by omega), hhas]
   simp only [Option.bind_some, decide_eq_true_eq]
   rw [ht] at e
   by_cases hb : rd (rd_L1 b (t : Int)) (f : Int) = 1
   ·rw [if_pos hb] at e
    rw [if_pos hb, if_pos (by omega), if_pos (by omega), e]
   ·rw [if_neg hb] at e
    rw [if_neg hb, if_pos (by omega), if_pos (by omega), e]
theorem tway_ev (h : CaseIs a b c) (plan : List S57) (H : PlanIs a.length b.length plan) (al : Int) (f : Nat) (hf : f < a.length) : Ev (fun k => tests_trial_way.f k a b c (onesOf b) al plan (f : Int)) (wayP b plan (f : Int)) := by
 have := tway_l0 h plan H al f hf plan.length 0 [] (by have := H.l1; omega) (by omega) (by have := H.l1000; simp; omega)
 refine Ev.congr (fun k => ?_) (show Ev _ (wayP b plan (f : Int)) from by simpa [wayP] using this)
 unfold tests_trial_way.f
 rw [if_pos (by have := H.l1; omega)]
theorem tcost_l1 (h : CaseIs a b c) (plan : List S57) (al : Int) (f : Nat) (hf : f < a.length) (M W y : Int) (l : List Int) (hl : ∀ t ∈ l, 0 ≤ t ∧ t < (b.length : Int)) (hn : l.length ≤ 1000) (R : Int × Int × Bool) (m : Nat) : ∀ (i : Nat) (acc : Int), i + m = l.length → 0 ≤ acc → acc + 100 * (m : Int) ≤ 100000 →
  Ev (fun k => tests_trial_costs.l0 k plan (wrap64 (M + wrap64 (y * (acc + costL c (l.drop i))))) (mx W (acc + costL c (l.drop i))) a (a.length : Int) ((f + 1 : Nat) : Int) a b c (onesOf b) al) R →
  Ev (fun k => tests_trial_costs.l1 k plan M W y acc a (a.length : Int) (f : Int) l (l.length : Int) (i : Int) a b c (onesOf b) al) R := by
 have ha := h.a10
 have hcb := h.cb
 induction m with
 | zero =>
  intro i acc hi h0 h1 hR
  obtain rfl : i = l.length := by omega
  rw [List.drop_length] at hR
  refine Ev.step (fun k => ?_) hR
  simp only [tests_trial_costs.l1]
  rw [if_neg (by omega), w1 f (by omega)]
  simp [costL]
 | succ m ih =>
  intro i acc hi h0 h1 hR
  have hil : i < l.length := by omega
  have ht := hl l[i] (List.getElem_mem hil)
  obtain ⟨t, et⟩ : ∃ t : Nat, l[i] = (t : Int) := ⟨l[i].toNat, by omega⟩
  have hc := cost_at h t (by omega)
  rw [List.drop_eq_getElem_cons hil, et] at hR
  simp only [costL] at hR
  have e := ih (i + 1) (acc + rd c (t : Int)) (by omega) (by omega) (by omega) (by rw [Int.add_assoc]; exact hR)
  refine Ev.step (fun k => ?_) e
  show tests_trial_costs.l1 (k + 1) plan M W y acc a (a.length : Int) (f : Int) l (l.length : Int) (i : Int) a b c (onesOf b) al = _
  simp only [tests_trial_costs.l1]
  rw [if_pos (by omega), if_pos (by omega), if_pos (by omega), rd_at l i hil, et, if_pos (by omega), if_pos (by omega), w1 i (by omega), show wrap64 (acc + rd c (t : Int)) = acc + rd c (t : Int) from by unfold wrap64; omega]
theorem sum_bounds (h : CaseIs a b c) {plan : List S57} (H : PlanIs a.length b.length plan) (f : Nat) : f ≤ a.length → 0 ≤ sumR (fun f => rd a (f : Int) * wayC b c plan f) f ∧ sumR (fun f => rd a (f : Int) * wayC b c plan f) f ≤ 100000000 * (f : Int) := by
 induction f with
 | zero => intro _; simp [sumR]
 | succ f ih =>
  intro hf
  have i1 := ih (by omega)
  have hw := h.wa a[f] (List.getElem_mem (by omega))
  have hc := wayC_bounds h H f
  simp only [sumR]
  rw [rd_at a f (by omega)]
  have p1 : 0 ≤ a[f] * wayC b c plan f := Int.mul_nonneg (by omega) hc.1
  have p2 : a[f] * wayC b c plan f ≤ 1000 * 100000 := Int.mul_le_mul hw.2 hc.2 hc.1 (by omega)
  omega
theorem sum_step (h : CaseIs a b c) {plan : List S57} (H : PlanIs a.length b.length plan) (f : Nat) (hfl : f < a.length) : wrap64 (sumR (fun f => rd a (f : Int) * wayC b c plan f) f + wrap64 (rd a (f : Int) * costL c (wayP b plan (f : Int)).1)) = sumR (fun f => rd a (f : Int) * wayC b c plan f) (f + 1) := by
 have ha := h.a10
 have hw := h.wa a[f] (List.getElem_mem hfl)
 have hc := wayC_bounds h H f
 have hs := sum_bounds h H f (by omega)
 have hra := rd_at a f hfl
 have p1 : 0 ≤ rd a (f : Int) * wayC b c plan f := Int.mul_nonneg (by omega) hc.1
 have p2 : rd a (f : Int) * wayC b c plan f ≤ 1000 * 100000 := Int.mul_le_mul (by omega) hc.2 hc.1 (by omega)
 simp only [sumR]
 show wrap64 (_ + wrap64 (rd a (f : Int) * wayC b c plan f)) = _
 generalize rd a (f : Int) * wayC b c plan f = p at *
 generalize sumR (fun f => rd a (f : Int) * wayC b c plan f) f = s at *
 unfold wrap64; omega
theorem tcost_l0 (h : CaseIs a b c) (plan : List S57) (H : PlanIs a.length b.length plan) (al : Int) (m : Nat) : ∀ (f : Nat), f + m = a.length →
  Ev (fun k => tests_trial_costs.l0 k plan (sumR (fun f => rd a (f : Int) * wayC b c plan f) f) (maxR (fun f => wayC b c plan f) f) a (a.length : Int) (f : Int) a b c (onesOf b) al)
   (if allB (fun f => (wayP b plan f).2 == (f : Int)) f m = true then (sumR (fun f => rd a (f : Int) * wayC b c plan f) a.length, maxR (fun f => wayC b c plan f) a.length, true) else (0, 0, false)) := by
 have ha := h.a10
 induction m with
 | zero =>
  intro f hf
  obtain rfl : f = a.length := by omega
  refine Ev.step (f := fun _ => some _) (fun k => ?_) (Ev.now _)
  simp only [tests_trial_costs.l0]
  rw [if_neg (by omega)]; rfl
 | succ m ih =>
  intro f hf
  have hfl : f < a.length := by omega
  obtain ⟨hn, ht⟩ := way_tests (a := a) (b := b) (plan := plan) H (f : Int)
  refine Ev.step (f := fun k => (tests_trial_way.f k a b c (onesOf b) al plan (f : Int)).bind _) (fun k => by simp only [tests_trial_costs.l0]; rw [if_pos (by omega), if_pos (by omega), if_pos (by omega)]) ?_
  refine Ev.bind (tway_ev h plan H al f hfl) ?_
  rw [allB]
  by_cases hleaf : (wayP b plan (f : Int)).2 = (f : Int)
  ·rw [show ((wayP b plan (f : Int)).2 == (f : Int)) = true from beq_iff_eq.2 hleaf, Bool.true_and]
   refine Ev.congr (fun k => if_pos hleaf) ?_
   have e := ih (f + 1) (by omega)
   refine tcost_l1 h plan al f hfl _ _ _ _ ht hn _ (wayP b plan (f : Int)).1.length 0 0 (by omega) (by omega) (by omega) ?_
   rw [List.drop_zero, Int.zero_add, sum_step h H f hfl]
   exact e
  ·rw [show ((wayP b plan (f : Int)).2 == (f : Int)) = false from beq_eq_false_iff_ne.2 hleaf, Bool.false_and, if_neg Bool.false_ne_true]
   exact Ev.congr (f := fun _ => some _) (fun k => if_neg hleaf) (Ev.now _)
theorem tcosts_ev (h : CaseIs a b c) (plan : List S57) (al : Int) : Ev (fun k => tests_trial_costs.f k a b c (onesOf b) al plan) (corrR a b c plan) := by
 unfold tests_trial_costs.f tests_trial_isPlan.f corrR
 rw [onesOf_len]
 simp only [Option.bind_some]
 by_cases hp : planB a.length b.length plan = true
 ·rw [hp, Bool.true_and]
  have e := tcost_l0 h plan (plan_is hp) al a.length 0 (by omega)
  refine Ev.congr (f := fun k => tests_trial_costs.l0 k plan 0 0 a (a.length : Int) 0 a b c (onesOf b) al) (fun k => if_pos rfl) e
 ·have hp2 : planB a.length b.length plan = false := by simpa using hp
  rw [hp2, Bool.false_and, if_neg Bool.false_ne_true]
  exact Ev.congr (f := fun _ => some _) (fun k => if_neg Bool.false_ne_true) (Ev.now _)
end
def checkR (a : List Int) (b : List (List Int)) (c : List Int) (plan : List S57) : Int × Int × Int :=
 if caseB a b c = true then (if (corrR a b c plan).2.2 = true then ((corrR a b c plan).1, (corrR a b c plan).2.1, 0) else (0, 0, 10)) else (0, 0, 2)
theorem check_ev (a : List Int) (b : List (List Int)) (c : List Int) (plan : List S57) : Ev (fun k => tests_Check.f k a b c plan) (checkR a b c plan) := by
 unfold tests_Check.f checkR
 refine Ev.bind (newTrial_all a b c) ?_
 unfold trialR
 by_cases hc : caseB a b c = true
 ·rw [if_pos hc, if_pos hc]
  refine Ev.congr (fun k => if_pos rfl) ?_
  refine Ev.bind (tcosts_ev (case_is hc) plan _) ?_
  by_cases hr : (corrR a b c plan).2.2 = true
  ·rw [if_pos hr, if_pos hr]; exact Ev.now _
  ·rw [if_neg hr, if_neg hr]; exact Ev.now _
 ·rw [if_neg hc, if_neg hc]
  exact Ev.congr (f := fun _ => some _) (fun k => if_neg (by decide)) (Ev.now _)
end Go.Proofs.YtekmiepdodaidaaDoor.X
end

section
/- Layer 7, plain: trees of tests: none is better than what Best and Worst find. -/
set_option linter.unusedVariables false
namespace Go.Proofs.YtekmiepdodaidaaDoor.X
open Go.RowKit Go.Proofs.YtekmiepdodaidaaDoorW.PrintWords Go.Proofs.YtekmiepdodaidaaDoorW.PrintLast Go.Proofs.YtekmiepdodaidaaDoorW.PrintMore

inductive DT where
 | leaf (f : Nat) : DT
 | node (t : Nat) (z o : DT) : DT
/-- Where fault f comes to. -/
def DT.ends (ones : List Int) : DT → Nat → Nat
 | .leaf g, _ => g
 | .node t z o, f => if memB (rd ones (t : Int)) f = true then o.ends ones f else z.ends ones f
/-- What its way costs. -/
def DT.cost (ones c : List Int) : DT → Nat → Int
 | .leaf _, _ => 0
 | .node t z o, f => rd c (t : Int) + (if memB (rd ones (t : Int)) f = true then o.cost ones c f else z.cost ones c f)
theorem DT.ends_node (ones : List Int) (t : Nat) (z o : DT) (f : Nat) : (DT.node t z o).ends ones f = if memB (rd ones (t : Int)) f = true then o.ends ones f else z.ends ones f := rfl
theorem DT.cost_node (ones c : List Int) (t : Nat) (z o : DT) (f : Nat) : (DT.node t z o).cost ones c f = rd c (t : Int) + (if memB (rd ones (t : Int)) f = true then o.cost ones c f else z.cost ones c f) := rfl
theorem low_ar {k x y W M : Int} (h : M ≤ k + mx x y) (hx : x ≤ W - k) (hy : y ≤ W - k) : M ≤ W := by unfold mx at h; split at h <;> omega
theorem low_as {k C W : Int} (h : k + C ≤ W) : C ≤ W - k := by omega
theorem low_at {k C W : Int} (h : k + C ≤ W) (hk : 1 ≤ k) : C ≤ W := by omega
theorem low_au {k C W : Int} (h : C ≤ W - k) (h0 : 0 ≤ C) : 0 ≤ W - k := by omega
/-- Its tests are tests. -/
def DT.ok (nt : Nat) : DT → Prop
 | .leaf _ => True
 | .node t z o => t < nt ∧ z.ok nt ∧ o.ok nt
theorem DT.cost_nonneg {ones c : List Int} {nt : Nat} (hc : ∀ t : Nat, t < nt → 1 ≤ rd c (t : Int)) : ∀ (T : DT) (f : Nat), T.ok nt → 0 ≤ T.cost ones c f
 | .leaf _, _, _ => Int.le_refl _
 | .node t z o, f, h => by
  obtain ⟨h1, h2, h3⟩ := h
  have i1 := DT.cost_nonneg (ones := ones) hc z f h2
  have i2 := DT.cost_nonneg (ones := ones) hc o f h3
  have := hc t h1
  unfold DT.cost
  split <;> omega
theorem pickB_le {c : Int → Int → Int} {s : Int} : ∀ (l : List Int) (k : Nat) (b : Int × Int), (b.1 = -1 ∨ 0 ≤ b.1) → (0 ≤ b.1 → (pickB c s k l b).2 ≤ b.2) ∧ (∀ j x, l[j]? = some x → splitB s x = true → (pickB c s k l b).2 ≤ c ((k + j : Nat) : Int) x)
 | [], k, b, hb => ⟨fun _ => Int.le_refl _, fun j x h => by simp at h⟩
 | y :: ys, k, b, hb => by
  have ek : ((k : Int) + 1) = ((k + 1 : Nat) : Int) := by omega
  rw [pickB, ek]
  by_cases hy : splitB s y = true
  ·rw [if_pos hy]
   by_cases ht : b.1 < 0 ∨ c (k : Int) y < b.2
   ·rw [if_pos ht]
    obtain ⟨i1, i2⟩ := pickB_le (c := c) (s := s) ys (k + 1) ((k : Int), c (k : Int) y) (.inr (by simp))
    have i1' := i1 (by simp)
    refine ⟨fun h => by rcases ht with h' | h'; omega; exact Int.le_trans i1' (by simp; omega), fun j x hj hx => ?_⟩
    cases j with
    | zero => simp at hj; subst hj; exact i1'
    | succ j => have := i2 j x (by simpa using hj) hx; rwa [show k + 1 + j = k + (j + 1) by omega] at this
   ·rw [if_neg ht]
    obtain ⟨i1, i2⟩ := pickB_le (c := c) (s := s) ys (k + 1) b hb
    refine ⟨i1, fun j x hj hx => ?_⟩
    cases j with
    | zero =>
     simp at hj; subst hj
     have := i1 (by rcases hb with h | h; exact absurd (.inl (by omega)) ht; exact h)
     have h2 : ¬ c (k : Int) y < b.2 := fun h => ht (.inr h)
     exact Int.le_trans this (by simp; omega)
    | succ j => have := i2 j x (by simpa using hj) hx; rwa [show k + 1 + j = k + (j + 1) by omega] at this
  ·rw [if_neg hy]
   obtain ⟨i1, i2⟩ := pickB_le (c := c) (s := s) ys (k + 1) b hb
   refine ⟨i1, fun j x hj hx => ?_⟩
   cases j with
   | zero => simp at hj; subst hj; exact absurd hx hy
   | succ j => have := i2 j x (by simpa using hj) hx; rwa [show k + 1 + j = k + (j + 1) by omega] at this
section
variable {a : List Int} {b : List (List Int)} {c : List Int}
/-- No test is better than the best. -/
theorem cN_le (D : Differ a b c) (mf : Int → Int → Int → Int → Int) (s : Int) (hs : SetN a.length s) (hp : pcount s ≠ 1) (t : Nat) (ht : t < b.length) (hx : splitB s (rd (onesOf b) (t : Int)) = true) :
  cN mf b s ≤ mf (t : Int) s (cN mf b (bSub s (rd (onesOf b) (t : Int)))) (cN mf b (bAnd s (rd (onesOf b) (t : Int)))) := by
 have e0 : cN mf b s = (chs mf (onesOf b) s).2 := by unfold cN cstB; rw [if_neg hp]
 have hl : t < (onesOf b).length := by rw [onesOf_len]; exact ht
 have hr : rd (onesOf b) (t : Int) = (onesOf b)[t] := by simp [rd, List.getD_eq_getElem?_getD, List.getElem?_eq_getElem hl]
 rw [hr] at hx ⊢
 have := (pickB_le (c := fun k x => mf k s (cstB (chs mf (onesOf b)) (bSub s x)) (cstB (chs mf (onesOf b)) (bAnd s x))) (s := s) (onesOf b) 0 (-1, 0) (.inl rfl)).2 t _ (List.getElem?_eq_getElem hl) hx
 rw [Nat.zero_add, show ((0 : Nat) : Int) = 0 from rfl] at this
 rw [e0, chs_eq mf (onesOf b) D.set s hs.1]
 exact this
theorem set_parts_of (D : Differ a b c) {s : Int} (hs : SetN a.length s) {t : Nat} (ht : t < b.length) (hx : splitB s (rd (onesOf b) (t : Int)) = true) : SetN a.length (bSub s (rd (onesOf b) (t : Int))) ∧ SetN a.length (bAnd s (rd (onesOf b) (t : Int))) := by
 have hl : t < (onesOf b).length := by rw [onesOf_len]; exact ht
 have hm : rd (onesOf b) (t : Int) ∈ onesOf b := by simp only [rd, Int.toNat_natCast, List.getD_eq_getElem?_getD, List.getElem?_eq_getElem hl, Option.getD_some]; exact List.getElem_mem hl
 obtain ⟨⟨p1, p2⟩, q1, q2⟩ := split_parts hs.1 (D.set _ hm) hx
 have hsb := hs.1
 have hlt := hs.2.2
 unfold SetB at hsb
 exact ⟨⟨by unfold SetB; omega, q1, by omega⟩, ⟨by unfold SetB; omega, p1, by omega⟩⟩
theorem ones_set (D : Differ a b c) {t : Nat} (ht : t < b.length) : SetB (rd (onesOf b) (t : Int)) := by
 have hl : t < (onesOf b).length := by rw [onesOf_len]; exact ht
 refine D.set _ ?_
 simp only [rd, Int.toNat_natCast, List.getD_eq_getElem?_getD, List.getElem?_eq_getElem hl, Option.getD_some]; exact List.getElem_mem hl
/-- A test that does not divide a set: all go one way. -/
theorem one_way (D : Differ a b c) {s : Int} (hs : SetN a.length s) {t : Nat} (ht : t < b.length) (hx : ¬ splitB s (rd (onesOf b) (t : Int)) = true) : (∀ f, f < a.length → memB s f = true → memB (rd (onesOf b) (t : Int)) f = true) ∨ (∀ f, f < a.length → memB s f = true → memB (rd (onesOf b) (t : Int)) f = false) := by
 have hxs := ones_set D ht
 have hadd := bSub_add hs.1 hxs
 have ha := D.is.a10
 unfold splitB at hx
 simp only [Bool.and_eq_true, Bool.not_eq_true', beq_eq_false_iff_ne, ne_eq, not_and, Decidable.not_not] at hx
 by_cases h0 : bAnd s (rd (onesOf b) (t : Int)) = 0
 ·right
  intro f hf hm
  have := mem_and hs.1 hxs f
  rw [h0, hm, Bool.true_and] at this
  rw [← this]; unfold memB; simp
 ·left
  have h1 := hx h0
  intro f hf hm
  have := mem_sub hs.1 hxs f (by omega)
  rw [h1, hm, Bool.true_and] at this
  have e : memB 0 f = false := by unfold memB; simp
  rw [e] at this
  simpa using this.symm
def meanT (a c ones : List Int) (s : Int) (T : DT) : Int := sumR (fun f => if memB s f = true then rd a (f : Int) * T.cost ones c f else 0) a.length
theorem sumR_nonneg {g : Nat → Int} : ∀ (n : Nat), (∀ f, f < n → 0 ≤ g f) → 0 ≤ sumR g n
 | 0, _ => Int.le_refl _
 | n + 1, h => by
  have := sumR_nonneg n (fun f hf => h f (by omega))
  have := h n (Nat.lt_succ_self _)
  simp only [sumR]; omega
theorem sumR_le {g h : Nat → Int} : ∀ (n : Nat), (∀ f, f < n → g f ≤ h f) → sumR g n ≤ sumR h n
 | 0, _ => Int.le_refl _
 | n + 1, hh => by
  have := sumR_le n (fun f hf => hh f (by omega))
  have := hh n (Nat.lt_succ_self _)
  simp only [sumR]; omega
theorem w_in (D : Differ a b c) (f : Nat) (hf : f < a.length) : 1 ≤ rd a (f : Int) ∧ rd a (f : Int) ≤ 1000 := by
 rw [rd_at a f hf]; exact D.is.wa _ (List.getElem_mem hf)
theorem one_set (D : Differ a b c) {s : Int} (hs : SetN a.length s) {g : Nat} (h : ∀ f, f < a.length → memB s f = true → g = f) : pcount s = 1 := by
 have hsb := hs.1
 have ha := D.is.a10
 unfold SetB at hsb
 refine Classical.byContradiction fun hp => ?_
 rw [pcount_set hs.1] at hp
 have hc := cnt_pos s.toNat (by omega) (by have := hs.2.1; omega)
 obtain ⟨x, hx, y, hy, hxy, tx, ty⟩ := two_bits s.toNat (by omega) (by have := hs.2.1; omega) (by omega)
 have lt : ∀ q, s.toNat.testBit q = true → q < a.length := by
  intro q hq
  rcases Nat.lt_or_ge q a.length with h | h
  ·exact h
  ·have h3 : s.toNat < 2 ^ a.length := by have := hs.2.2; omega
   rw [Nat.testBit_lt_two_pow (Nat.lt_of_lt_of_le h3 (Nat.pow_le_pow_right (by omega) h))] at hq
   cases hq
 have h1 := h x (lt x tx) tx
 have h2 := h y (lt y ty) ty
 omega
/-- No tree has a smaller mean. -/
theorem low_mean (D : Differ a b c) : ∀ (T : DT) (s : Int), SetN a.length s → T.ok b.length → (∀ f, f < a.length → memB s f = true → T.ends (onesOf b) f = f) → cN (mfMean a b c) b s ≤ meanT a c (onesOf b) s T := by
 have hcost : ∀ t : Nat, t < b.length → 1 ≤ rd c (t : Int) := fun t ht => (cost_at D.is t ht).1
 have nn : ∀ (T : DT) (s : Int), T.ok b.length → 0 ≤ meanT a c (onesOf b) s T := fun T s hT => sumR_nonneg _ (fun f hf => by
  split
  ·exact Int.mul_nonneg (by have := w_in D f hf; omega) (DT.cost_nonneg hcost T f hT)
  ·exact Int.le_refl _)
 intro T
 induction T with
 | leaf g =>
  intro s hs hT h
  have hp := one_set D hs (g := g) h
  have e : cN (mfMean a b c) b s = 0 := by unfold cN cstB; rw [if_pos hp]
  rw [e]; exact nn _ _ hT
 | node t z o iz io =>
  intro s hs hT h
  by_cases hp : pcount s = 1
  ·have e : cN (mfMean a b c) b s = 0 := by unfold cN cstB; rw [if_pos hp]
   rw [e]; exact nn _ _ hT
  ·obtain ⟨ht, hz, ho⟩ := hT
   by_cases hx : splitB s (rd (onesOf b) (t : Int)) = true
   ·obtain ⟨p1, p2⟩ := set_parts_of D hs ht hx
    have hxs := ones_set D ht
    have ha := D.is.a10
    have i1 := iz _ p1 hz (fun f hf hm => by
     rw [mem_sub hs.1 hxs f (by omega), Bool.and_eq_true] at hm
     have := h f hf hm.1
     rw [DT.ends_node] at this
     rwa [if_neg (by intro e; rw [e] at hm; exact absurd hm.2 (by decide))] at this)
    have i2 := io _ p2 ho (fun f hf hm => by
     rw [mem_and hs.1 hxs f, Bool.and_eq_true] at hm
     have := h f hf hm.1
     rw [DT.ends_node] at this
     rwa [if_pos hm.2] at this)
    have hle := cN_le D (mfMean a b c) s hs hp t ht hx
    have B1 : 0 ≤ cN (mfMean a b c) b _ ∧ cN (mfMean a b c) b _ ≤ 1024000000 := cst_box D.set (mean_ok D.is) _ p1.1 p1.2.1
    have B2 : 0 ≤ cN (mfMean a b c) b _ ∧ cN (mfMean a b c) b _ ≤ 1024000000 := cst_box D.set (mean_ok D.is) _ p2.1 p2.2.1
    have hsb := hs.1
    unfold SetB at hsb
    obtain ⟨v, hv⟩ : ∃ v : Nat, s = v := ⟨s.toNat, (Int.toNat_of_nonneg hsb.1).symm⟩
    have hm := mfMean_eq D.is t ht v (by omega) _ _ ⟨B1.1, Int.le_trans B1.2 (by decide)⟩ ⟨B2.1, Int.le_trans B2.2 (by decide)⟩
    have hsum : meanT a c (onesOf b) s (.node t z o) = rd c (t : Int) * wOf a s.toNat + meanT a c (onesOf b) (bSub s (rd (onesOf b) (t : Int))) z + meanT a c (onesOf b) (bAnd s (rd (onesOf b) (t : Int))) o := by
     unfold meanT
     rw [wOf_sum, ← sumR_mul, ← sumR_add, ← sumR_add]
     refine sumR_congr _ (fun f hf => ?_)
     have m1 := mem_and hs.1 hxs f
     have m2 := mem_sub hs.1 hxs f (by omega)
     show _ = rd c (t : Int) * (if memB s f = true then rd a (f : Int) else 0) + _ + _
     cases hmm : memB s f
     ·rw [hmm, Bool.false_and] at m1 m2
      rw [m1, m2]; simp
     ·rw [hmm, Bool.true_and] at m1 m2
      rw [m1, m2]
      rw [DT.cost_node]
      cases hq : memB (rd (onesOf b) (t : Int)) f
      ·simp only [if_true, Bool.not_false]
       rw [if_neg (by decide), if_neg (by decide), Int.mul_add, Int.add_zero, Int.mul_comm (rd a (f : Int)) (rd c (t : Int))]
      ·simp only [if_true, Bool.not_true]
       rw [if_neg (by decide), Int.mul_add, Int.add_zero, Int.mul_comm (rd a (f : Int)) (rd c (t : Int))]
    rw [hsum]
    rw [hv] at hle ⊢
    rw [hv] at hm i1 i2
    rw [Int.toNat_natCast]
    rw [hm] at hle
    exact Int.le_trans hle (Int.add_le_add (Int.add_le_add_left i1 _) i2)
   ·-- all go one way
    have key : ∀ (Q : DT), Q.ok b.length → (∀ f, f < a.length → memB s f = true → (DT.node t z o).cost (onesOf b) c f = rd c (t : Int) + Q.cost (onesOf b) c f) → meanT a c (onesOf b) s Q ≤ meanT a c (onesOf b) s (.node t z o) := by
     intro Q hQ hq
     refine sumR_le _ (fun f hf => ?_)
     by_cases hm : memB s f = true
     ·rw [if_pos hm, if_pos hm, hq f hf hm]
      exact Int.mul_le_mul_of_nonneg_left (by have := hcost t ht; omega) (by have := w_in D f hf; omega)
     ·rw [if_neg hm, if_neg hm]; exact Int.le_refl _
    rcases one_way D hs ht hx with hall | hall
    ·have i2 := io s hs ho (fun f hf hm => by
      have := h f hf hm
      rw [DT.ends_node] at this
      rwa [if_pos (hall f hf hm)] at this)
     exact Int.le_trans i2 (key o ho (fun f hf hm => by show rd c (t : Int) + (if memB (rd (onesOf b) (t : Int)) f = true then o.cost (onesOf b) c f else z.cost (onesOf b) c f) = _; rw [if_pos (hall f hf hm)]))
    ·have i1 := iz s hs hz (fun f hf hm => by
      have := h f hf hm
      rw [DT.ends_node] at this
      rwa [if_neg (by rw [hall f hf hm]; decide)] at this)
     exact Int.le_trans i1 (key z hz (fun f hf hm => by show rd c (t : Int) + (if memB (rd (onesOf b) (t : Int)) f = true then o.cost (onesOf b) c f else z.cost (onesOf b) c f) = _; rw [if_neg (by rw [hall f hf hm]; decide)]))
/-- No tree has a smaller worst. -/
theorem low_worst (D : Differ a b c) : ∀ (T : DT) (s : Int) (W : Int), SetN a.length s → T.ok b.length → 0 ≤ W → (∀ f, f < a.length → memB s f = true → T.ends (onesOf b) f = f ∧ T.cost (onesOf b) c f ≤ W) → cN (mfWorst a b c) b s ≤ W := by
 have hcost : ∀ t : Nat, t < b.length → 1 ≤ rd c (t : Int) := fun t ht => (cost_at D.is t ht).1
 intro T
 induction T with
 | leaf g =>
  intro s W hs hT hW h
  have hp := one_set D hs (g := g) (fun f hf hm => (h f hf hm).1)
  have e : cN (mfWorst a b c) b s = 0 := by unfold cN cstB; rw [if_pos hp]
  rw [e]; exact hW
 | node t z o iz io =>
  intro s W hs hT hW h
  by_cases hp : pcount s = 1
  ·have e : cN (mfWorst a b c) b s = 0 := by unfold cN cstB; rw [if_pos hp]
   rw [e]; exact hW
  ·obtain ⟨ht, hz, ho⟩ := hT
   by_cases hx : splitB s (rd (onesOf b) (t : Int)) = true
   ·obtain ⟨p1, p2⟩ := set_parts_of D hs ht hx
    have hxs := ones_set D ht
    have ha := D.is.a10
    have hsub : ∀ f, f < a.length → memB (bSub s (rd (onesOf b) (t : Int))) f = true → z.ends (onesOf b) f = f ∧ z.cost (onesOf b) c f ≤ W - rd c (t : Int) := by
     intro f hf hm
     rw [mem_sub hs.1 hxs f (by omega), Bool.and_eq_true] at hm
     have h1 := h f hf hm.1
     have hn : ¬ memB (rd (onesOf b) (t : Int)) f = true := by intro e; rw [e] at hm; exact absurd hm.2 (by decide)
     rw [DT.ends_node, DT.cost_node] at h1
     rw [if_neg hn, if_neg hn] at h1
     exact ⟨h1.1, low_as h1.2⟩
    have hand : ∀ f, f < a.length → memB (bAnd s (rd (onesOf b) (t : Int))) f = true → o.ends (onesOf b) f = f ∧ o.cost (onesOf b) c f ≤ W - rd c (t : Int) := by
     intro f hf hm
     rw [mem_and hs.1 hxs f, Bool.and_eq_true] at hm
     have h1 := h f hf hm.1
     rw [DT.ends_node, DT.cost_node] at h1
     rw [if_pos hm.2, if_pos hm.2] at h1
     exact ⟨h1.1, low_as h1.2⟩
    have hW2 : 0 ≤ W - rd c (t : Int) := by
     obtain ⟨f, hf, hbit⟩ := bit_lt p1.1 p1.2.1 p1.2.2
     exact low_au (hsub f hf hbit).2 (DT.cost_nonneg (ones := onesOf b) hcost z f hz)
    have i1 := iz _ _ p1 hz hW2 hsub
    have i2 := io _ _ p2 ho hW2 hand
    have hle := cN_le D (mfWorst a b c) s hs hp t ht hx
    have B1 : 0 ≤ cN (mfWorst a b c) b _ ∧ cN (mfWorst a b c) b _ ≤ 1024000000 := cst_box D.set (worst_ok D.is) _ p1.1 p1.2.1
    have B2 : 0 ≤ cN (mfWorst a b c) b _ ∧ cN (mfWorst a b c) b _ ≤ 1024000000 := cst_box D.set (worst_ok D.is) _ p2.1 p2.2.1
    rw [mfWorst_eq D.is t ht s _ _ ⟨B1.1, Int.le_trans B1.2 (by decide)⟩ ⟨B2.1, Int.le_trans B2.2 (by decide)⟩] at hle
    exact low_ar hle i1 i2
   ·rcases one_way D hs ht hx with hall | hall
    ·refine io s W hs ho hW (fun f hf hm => ?_)
     have h1 := h f hf hm
     rw [DT.ends_node, DT.cost_node] at h1
     rw [if_pos (hall f hf hm), if_pos (hall f hf hm)] at h1
     exact ⟨h1.1, low_at h1.2 (hcost t ht)⟩
    ·refine iz s W hs hz hW (fun f hf hm => ?_)
     have h1 := h f hf hm
     have hn : ¬ memB (rd (onesOf b) (t : Int)) f = true := by rw [hall f hf hm]; decide
     rw [DT.ends_node, DT.cost_node] at h1
     rw [if_neg hn, if_neg hn] at h1
     exact ⟨h1.1, low_at h1.2 (hcost t ht)⟩
def dtOf (plan : List S57) : Nat → Int → DT
 | 0, _ => .leaf 0
 | d + 1, p => if (rd_T57 plan p).f0 < 0 then .leaf (rd_T57 plan p).f1.toNat else .node (rd_T57 plan p).f0.toNat (dtOf plan d (rd_T57 plan p).f2) (dtOf plan d (rd_T57 plan p).f3)
theorem dt_way (h : CaseIs a b c) {plan : List S57} (H : PlanIs a.length b.length plan) (d : Nat) : ∀ p : Nat, p < plan.length → plan.length ≤ p + d → (dtOf plan d p).ok b.length ∧ ∀ f, f < a.length → ((dtOf plan d p).ends (onesOf b) f : Int) = (wayN b plan (f : Int) d p).2 ∧ (dtOf plan d p).cost (onesOf b) c f = costL c (wayN b plan (f : Int) d p).1 := by
 induction d with
 | zero => intro p hp hd; omega
 | succ d ih =>
  intro p hp hd
  unfold dtOf wayN
  by_cases h0 : (rd_T57 plan (p : Int)).f0 < 0
  ·have hl := node_leaf (H.node p hp) h0
   rw [if_pos h0]
   refine ⟨trivial, fun f hf => ?_⟩
   rw [if_pos h0]
   exact ⟨by show (((rd_T57 plan (p : Int)).f1.toNat : Nat) : Int) = _; omega, rfl⟩
  ·obtain ⟨o1, o2, o3, o4, o5, o6, o7⟩ := node_inner (H.node p hp) h0
   rw [if_neg h0]
   obtain ⟨t, ht⟩ : ∃ t : Nat, (rd_T57 plan (p : Int)).f0 = (t : Int) := ⟨(rd_T57 plan (p : Int)).f0.toNat, by omega⟩
   obtain ⟨z, hz⟩ : ∃ z : Nat, (rd_T57 plan (p : Int)).f2 = (z : Int) := ⟨(rd_T57 plan (p : Int)).f2.toNat, by omega⟩
   obtain ⟨o, ho⟩ : ∃ o : Nat, (rd_T57 plan (p : Int)).f3 = (o : Int) := ⟨(rd_T57 plan (p : Int)).f3.toNat, by omega⟩
   obtain ⟨z1, z2⟩ := ih z (by omega) (by omega)
   obtain ⟨q1, q2⟩ := ih o (by omega) (by omega)
   rw [ht, hz, ho, Int.toNat_natCast]
   refine ⟨⟨by omega, z1, q1⟩, fun f hf => ?_⟩
   rw [if_neg (by omega)]
   have hm := row_mem h t f (by omega) hf
   rw [DT.ends_node, DT.cost_node]
   by_cases hb : memB (rd (onesOf b) (t : Int)) f = true
   ·rw [if_pos hb, if_pos hb, if_pos (hm.2 hb)]
    exact ⟨(q2 f hf).1, by rw [(q2 f hf).2]; rfl⟩
   ·rw [if_neg hb, if_neg hb, if_neg (fun e => hb (hm.1 e))]
    exact ⟨(z2 f hf).1, by rw [(z2 f hf).2]; rfl⟩
/-- A correct plan is a tree that comes to each fault's leaf. -/
theorem corr_dt (D : Differ a b c) {plan : List S57} {m w : Int} (h : corrR a b c plan = (m, w, true)) : ∃ T : DT, T.ok b.length ∧ (∀ f, f < a.length → T.ends (onesOf b) f = f) ∧ meanT a c (onesOf b) (allOf a) T = m ∧ maxR (fun f => T.cost (onesOf b) c f) a.length = w := by
 unfold corrR at h
 split at h
 ·rename_i hp
  rw [Bool.and_eq_true] at hp
  have H := plan_is hp.1
  have hl1 := H.l1
  obtain ⟨k1, k2⟩ := dt_way D.is H plan.length 0 (by omega) (by omega)
  rw [show ((0 : Nat) : Int) = 0 from rfl] at k1 k2
  injection h with h1 h2
  injection h2 with h2 _
  refine ⟨dtOf plan plan.length 0, k1, fun f hf => ?_, ?_, ?_⟩
  ·have e1 := (k2 f hf).1
   have e2 := (allB_iff _ _ _).1 hp.2 f (by omega) (by omega)
   have e3 : (wayP b plan (f : Int)).2 = (f : Int) := by simpa using e2
   unfold wayP at e3
   rw [e3] at e1
   exact Int.ofNat.inj e1
  ·rw [← h1]
   unfold meanT
   refine sumR_congr _ (fun f hf => ?_)
   rw [all_mem, if_pos (decide_eq_true hf), (k2 f hf).2]; rfl
  ·rw [← h2]
   refine maxR_congr _ (fun f hf => ?_)
   rw [(k2 f hf).2]; rfl
 ·injection h with _ h2
  injection h2 with _ h3
  cases h3
/-- No correct plan is better. -/
theorem corr_low (D : Differ a b c) {plan : List S57} {m w : Int} (h : corrR a b c plan = (m, w, true)) : cN (mfMean a b c) b (allOf a) ≤ m ∧ cN (mfWorst a b c) b (allOf a) ≤ w := by
 obtain ⟨T, h1, h2, h3, h4⟩ := corr_dt D h
 refine ⟨by rw [← h3]; exact low_mean D T _ (all_in D) h1 (fun f hf _ => h2 f hf), ?_⟩
 rw [← h4]
 exact low_worst D T _ _ (all_in D) h1 (maxR_nonneg _ _) (fun f hf _ => ⟨h2 f hf, le_maxR (fun f => T.cost (onesOf b) c f) a.length f hf⟩)
end
end Go.Proofs.YtekmiepdodaidaaDoor.X
end

section
namespace Go.Proofs.YtekmiepdodaidaaDoor.X
open Go.RowKit Go.Proofs.YtekmiepdodaidaaDoorW.PrintWords Go.Proofs.YtekmiepdodaidaaDoorW.PrintLast Go.Proofs.YtekmiepdodaidaaDoorW.PrintMore
attribute [local go_sem] max2_int min2_int max_two min_two max_three min_three max_four min_four   -- for this text's walks alone
set_option linter.unusedVariables false
set_option linter.unusedSimpArgs false

def tickinglaw07_nodes.f (l0 : List (S57)) : Option ((List (S57))) := if 0 ≤ (mn (l0.length : Int) 1001) then (if (mn (l0.length : Int) 1001) ≤ (l0.length : Int) then ((some (l0.take ((mn (l0.length : Int) 1001) : Int).toNat : List (S57))).bind fun y311 => (if ([] : List (S57)).length + y311.length < 4398046511104 then (some (([] : List (S57)) ++ y311)) else (none))) else (none)) else (none)
set_option maxHeartbeats 8000000 in
set_option maxRecDepth 100000 in
theorem tickinglaw07_nodes.calls (A0 : Option Addr) (c0 : Nat) (l0 : List (S57)) (r : List (S57)) (w : World) (hr0 : Kd.C k57 w A0 l0.length l0) (hc0 : l0.length ≤ c0) (h : tickinglaw07_nodes.f l0 = some r) :
  Calls Tryd.prog 21 #[.slice A0 l0.length c0] w fun e w' => ∃ v0_ : Value, e = .returned (v0_) ∧ Kd.R k57 57 w' w.heap.size (fun _ => True) v0_ r ∧ Below w.heap.size w w' := by
 have HR0 := Aside0.mk hr0
 have HC0 := Aside0.mk hc0
 clear hr0 hc0
 have HB := Aside0.mk (Below.refl w.heap.size w)
 have H : (if 0 ≤ (mn (l0.length : Int) 1001) then (if (mn (l0.length : Int) 1001) ≤ (l0.length : Int) then ((some (l0.take ((mn (l0.length : Int) 1001) : Int).toNat : List (S57))).bind fun y311 => (if ([] : List (S57)).length + y311.length < 4398046511104 then (some (([] : List (S57)) ++ y311)) else (none))) else (none)) else (none)) = some r := h
 clear h
 obtain ⟨ji2, hji2⟩ : ∃ j_ : Int, (mn (l0.length : Int) 1001) = j_ := ⟨_, rfl⟩
 replace H : (if 0 ≤ (ji2) then (if (ji2) ≤ (l0.length : Int) then ((some (l0.take ((ji2) : Int).toNat : List (S57))).bind fun y311 => (if ([] : List (S57)).length + y311.length < 4398046511104 then (some (([] : List (S57)) ++ y311)) else (none))) else (none)) else (none)) = some r := by first | (rw [hji2] at H; exact H) | (simp only [hji2] at H ⊢; exact H)
 (try (have hji2h : ji2 ≤ 1001 := by (rw [← hji2]; unfold mn; (repeat' split) <;> omega)))
 (try (have hji2g : ji2 ≤ 64 := by omega))
 (try (have hji2l : 0 ≤ ji2 := by (rw [← hji2]; unfold mn; (repeat' split) <;> omega)))
 (try (have hji2m : 0 ≤ ji2 := by omega))
 have hji2_ : (if 1001 < (l0.length : Int) then 1001 else (l0.length : Int)) = ji2 := hji2
 by_cases c3 : 0 ≤ (ji2)
 ·rw [if_pos c3] at H
  have c3b0 := eq_true c3
  have c3b1 : decide (0 ≤ (ji2)) = true := decide_eq_true c3
  clear c3
  by_cases c4 : (ji2) ≤ (l0.length : Int)
  ·rw [if_pos c4] at H
   have c4b0 := eq_true c4
   have c4b1 : decide ((ji2) ≤ (l0.length : Int)) = true := decide_eq_true c4
   clear c4
   obtain ⟨y311, hy311⟩ : ∃ y_ : List (S57), y_ = (l0.take ((ji2) : Int).toNat) := ⟨_, rfl⟩
   replace H : (if ([] : List (S57)).length + y311.length < 4398046511104 then (some (([] : List (S57)) ++ y311)) else (none)) = some r := by first | (rw [hy311]; with_reducible exact H) | (have H2_ := (Option.bind_some _ _).symm.trans H; rw [hy311]; with_reducible exact H2_) | (have H2_ := (Option.bind_some _ _).symm.trans H; with_reducible exact H2_) | with_reducible exact H | (rw [hy311]; exact H) | exact H
   have Ny311 := Aside0.mk hy311
   clear hy311
   by_cases c5 : ([] : List (S57)).length + y311.length < 4398046511104
   ·rw [if_pos c5] at H
    have LMc5 := Aside0.mk c5
    clear c5
    obtain ⟨y315, hy315⟩ : ∃ y_ : List (S57), y_ = (([] : List (S57)) ++ y311) := ⟨_, rfl⟩
    replace H : (some y315) = some r := by first | (rw [hy315]; with_reducible exact H) | (have H2_ := (Option.bind_some _ _).symm.trans H; rw [hy315]; with_reducible exact H2_) | (have H2_ := (Option.bind_some _ _).symm.trans H; with_reducible exact H2_) | with_reducible exact H | (rw [hy315]; exact H) | exact H
    have Ny315 := Aside0.mk hy315
    clear hy315
    obtain rfl := Option.some.inj H
    have q6 : ((ji2) : Int) ≤ ((l0.length : Int) : Int) := of_decide_eq_true az
    obtain ⟨i06, hi06, _, hsz6, _⟩ := info_parts info57
    have hroom6 : l0.length ≤ c0 := HC0.out
    have hC6 : Kd.C k57 _ A0 l0.length l0 := HR0.out
    have hcut6 := cut_to (P := Tryd.prog) 27 57 .i64 Tryd.underlying27 hi06 A0 l0.length c0 (ji2) (of_decide_eq_true az) q6 hroom6
    have hr6 := Kd.C_take (m := ((ji2) : Int).toNat) hC6 (by omega)
    have hy6 : y311.length = ((ji2) : Int).toNat := (by rw [Ny311.out, List.length_take]; omega)
    rw [← Ny311.out] at hr6
    rw [← hy6] at hcut6
    have HR314 := Aside0.mk hr6
    have HC314 := Aside0.mk (show y311.length ≤ c0 from by omega)
    clear hr6 hC6 hroom6 hi06 hsz6
    have KY6 := Aside0.mk hy6
    clear hy6
    replace q6 := eq_true q6
    go_enter Tryd.func21, Tryd.ntmps21
    go_wp2_with (first | ((with_reducible refine gate_builtin (b := .append) (xs := #[.tmp 4, .tmp 9]) rfl ?_); at_builtin; refine Kd.R_append_rows k57 (w0 := w) w.heap.size rfl (.tmp 4) (.tmp 9) 27 57 (.agg #[(.int .i64 0), (.int .i64 0), (.int .i64 0), (.int .i64 0)]) 32 rfl Tryd.underlying27 info57 rfl (by decide) (by omega) (.slice none 0 0) ([] : List (S57)) y311 _ _ _ (fun _ => True) (fun _ => False) rfl rfl ?aO ?aR (fun _ _ h => h) (fun _ h => h.elim) ?aF ?aB ?aS ?aL ?_; (case aR => exact cz (HR314.out)); (case aB => exact bz); (case aF => exact (fun _ _ => trivial)); (case aO => exact ((Kd.R_nil _ _ _ _ (fun _ => True)))); (case aS => exact (below_size bz)); (case aL => have := LMc5.out; omega); intro v316 w7 ho hb hg hat; rw [← Ny315.out] at ho; have n0_ := Aside0.mk (hb); have n1_ := Aside0.mk (ho); clear HB; have HB := n0_; have HO317 := n1_; clear n0_ n1_; clear ho hb hg hat))
    go_ret
    exact ⟨_, by first | rfl | (simp [errW_none, errW_some] <;> rfl) | (simp only [← hji2]; first | rfl | (simp [errW_none, errW_some] <;> rfl)) | (simp [*, errW_none, errW_some] <;> rfl), by (with_reducible repeat (first | apply Kd.R_alloc | apply Kd.R_drewN | apply Kd.R_drew)); exact HO317.out, by repeat (first | (with_reducible first | exact HB.out | apply below_alloc | apply pw_below_drewN | apply below_drew1) | exact HB.out)⟩
   ·rw [if_neg c5] at H
    exact absurd H (by simp)
  ·rw [if_neg c4] at H
   exact absurd H (by simp)
 ·rw [if_neg c3] at H
  exact absurd H (by simp)

end Go.Proofs.YtekmiepdodaidaaDoor.X
end

section
/- Layer 7: the program's functions at a case in which all faults differ. -/
set_option linter.unusedVariables false
set_option linter.unusedSimpArgs false
namespace Go.Proofs.YtekmiepdodaidaaDoor.X
open Go.RowKit Go.Proofs.YtekmiepdodaidaaDoorW.PrintWords Go.Proofs.YtekmiepdodaidaaDoorW.PrintLast Go.Proofs.YtekmiepdodaidaaDoorW.PrintMore

def planM (a : List Int) (b : List (List Int)) (c : List Int) : List S57 := treeB (fun s => (chs (mfMean a b c) (onesOf b) s).1) (onesOf b) (allOf a) 0
def planW (a : List Int) (b : List (List Int)) (c : List Int) : List S57 := treeB (fun s => (chs (mfWorst a b c) (onesOf b) s).1) (onesOf b) (allOf a) 0
def planG (a : List Int) (b : List (List Int)) (c : List Int) : List S57 := treeB (greedyT a c (onesOf b)) (onesOf b) (allOf a) 0
def valM (a : List Int) (b : List (List Int)) (c : List Int) : Int := cN (mfMean a b c) b (allOf a)
def valW (a : List Int) (b : List (List Int)) (c : List Int) : Int := cN (mfWorst a b c) b (allOf a)
theorem boxS7 {W : World} {g : Nat} {x y z : Value} (h : W.heap[g]? = some (.cells #[x, y, z] 25 (0, 0))) : W.cell? ⟨g, 0, none⟩ = some x ∧ W.cell? ⟨g, 1, none⟩ = some y ∧ W.cell? ⟨g, 2, none⟩ = some z :=
 ⟨(blk_cell h 0).trans rfl, (blk_cell h 1).trans rfl, (blk_cell h 2).trans rfl⟩
/-- A list that was made comes back, in a value. -/
def SlPost {α : Type} (d : Kd α) (l : List α) (f : Value → Value) (w : World) (e : Ending) (w' : World) : Prop := ∃ A n, e = .returned (f (.slice A l.length n)) ∧ (l.length ≤ n ∧ d.C w' A l.length l) ∧ Below w.heap.size w w'
theorem sl_post {α : Type} {d : Kd α} {e : Nat} {l : List α} {v : Value} {w w' : World} {f : Value → Value} {base : Nat} {ok : Nat → Prop} (h : d.R e w' base ok v l) (hb : Below w.heap.size w w') : SlPost d l f w (.returned (f v)) w' := by
 obtain ⟨A, n, rfl⟩ := Kd.R_slice h
 exact ⟨A, n, rfl, ⟨(Kd.R_reads' h).2.1, (Kd.R_reads' h).2.2⟩, hb⟩
section
variable {A0 : Option Addr} {c0 : Nat} {a : List Int} {A1 : Option Addr} {c1 : Nat} {b : List (List Int)} {A2 : Option Addr} {c2 : Nat} {c : List Int} {w : World}
theorem best_n (h : CaseAt w A0 c0 a A1 c1 b A2 c2 c) (D : Differ a b c) (hT : Tab w) : Calls Tryd.prog 14 #[.agg #[.slice A0 a.length c0, .slice A1 b.length c1, .slice A2 c.length c2]] w (SlPost k57 (planM a b c) (fun v => .tuple #[v, .int .i64 (valM a b c), .int .i64 0]) w) := by
 refine (tests_Best.calls A0 c0 a A1 c1 b A2 c2 c (planM a b c) (valM a b c) 0 w h.r0 h.n0 h.r1 h.n1 h.r2 h.n2 ?_ hT).mono ?_
 ·unfold tests_Best.f optRes
  rw [if_pos (caseB_of D.is), if_pos D.al]; rfl
 ·rintro e w' ⟨v, rfl, hv, hb⟩
  exact sl_post (f := fun v => .tuple #[v, .int .i64 (valM a b c), .int .i64 0]) hv hb
theorem worst_n (h : CaseAt w A0 c0 a A1 c1 b A2 c2 c) (D : Differ a b c) (hT : Tab w) : Calls Tryd.prog 15 #[.agg #[.slice A0 a.length c0, .slice A1 b.length c1, .slice A2 c.length c2]] w (SlPost k57 (planW a b c) (fun v => .tuple #[v, .int .i64 (valW a b c), .int .i64 0]) w) := by
 refine (tests_Worst.calls A0 c0 a A1 c1 b A2 c2 c (planW a b c) (valW a b c) 0 w h.r0 h.n0 h.r1 h.n1 h.r2 h.n2 ?_ hT).mono ?_
 ·unfold tests_Worst.f optRes
  rw [if_pos (caseB_of D.is), if_pos D.al]; rfl
 ·rintro e w' ⟨v, rfl, hv, hb⟩
  exact sl_post (f := fun v => .tuple #[v, .int .i64 (valW a b c), .int .i64 0]) hv hb
theorem greedy_n (h : CaseAt w A0 c0 a A1 c1 b A2 c2 c) (D : Differ a b c) (hT : Tab w) : Calls Tryd.prog 26 #[.agg #[.slice A0 a.length c0, .slice A1 b.length c1, .slice A2 c.length c2]] w (SlPost k57 (planG a b c) (fun v => .tuple #[v, .int .i64 0]) w) := by
 refine (tests_Greedy.calls A0 c0 a A1 c1 b A2 c2 c (planG a b c) 0 w h.r0 h.n0 h.r1 h.n1 h.r2 h.n2 ?_ hT).mono ?_
 ·unfold tests_Greedy.f
  rw [if_pos (caseB_of D.is), if_pos D.al]; rfl
 ·rintro e w' ⟨v, rfl, hv, hb⟩
  exact sl_post (f := fun v => .tuple #[v, .int .i64 0]) hv hb
theorem check_n (h : CaseAt w A0 c0 a A1 c1 b A2 c2 c) (A : Option Addr) (n : Nat) (p : List S57) (hp : p.length ≤ n ∧ k57.C w A p.length p) :
  Calls Tryd.prog 22 #[.agg #[.slice A0 a.length c0, .slice A1 b.length c1, .slice A2 c.length c2], .slice A p.length n] w fun e w' => e = .returned (.tuple #[.int .i64 (checkR a b c p).1, .int .i64 (checkR a b c p).2.1, .int .i64 (checkR a b c p).2.2]) ∧ Below w.heap.size w w' := by
 obtain ⟨k, hk⟩ := (check_ev a b c p).rounds
 exact tests_Check.calls k A0 c0 a A1 c1 b A2 c2 c A n p _ _ _ w h.r0 h.n0 h.r1 h.n1 h.r2 h.n2 hp.2 hp.1 hk
theorem awake_n (w : World) (hT : Tab w) : Calls Tryd.prog 17 #[] w fun e w' => e = .returned (.bool true) ∧ Below w.heap.size w w' := by
 obtain ⟨k, hk⟩ := awake_ev.rounds
 exact tickinglaw07_awake.calls k true w hk hT
theorem nodes_n (A : Option Addr) (n : Nat) (p : List S57) (hp : p.length ≤ n ∧ k57.C w A p.length p) : Calls Tryd.prog 21 #[.slice A p.length n] w (SlPost k57 (p.take (min p.length 1001)) (fun v => v) w) := by
 refine (tickinglaw07_nodes.calls A n p (p.take (min p.length 1001)) w hp.2 hp.1 ?_).mono ?_
 ·unfold tickinglaw07_nodes.f
  have e : mn (p.length : Int) 1001 = ((min p.length 1001 : Nat) : Int) := by unfold mn; split <;> omega
  rw [e, if_pos (by omega), if_pos (by omega), Int.toNat_natCast]
  simp only [Option.bind_some]
  split
  ·simp
  ·rename_i h
   exact absurd (by simp; omega) h
 ·rintro e w' ⟨v, rfl, hv, hb⟩
  exact sl_post (f := fun v => v) hv hb
/-- A law's case, in a box of its own. -/
structure LawW (w : World) (A0 : Option Addr) (c0 : Nat) (a : List Int) (A1 : Option Addr) (c1 : Nat) (b : List (List Int)) (A2 : Option Addr) (c2 : Nat) (c : List Int) (g : Nat) (w' : World) : Prop where
 bx : w'.heap[g]? = some (.cells #[.slice A0 a.length c0, .slice A1 b.length c1, .slice A2 c.length c2] 25 (0, 0))
 cs : CaseAt w' A0 c0 a A1 c1 b A2 c2 c
 bl : Below w.heap.size w w'
 lt : w.heap.size ≤ g
theorem LawW.below {w : World} {A0 : Option Addr} {c0 : Nat} {a : List Int} {A1 : Option Addr} {c1 : Nat} {b : List (List Int)} {A2 : Option Addr} {c2 : Nat} {c : List Int} {g : Nat} {w' w2 : World} (h : LawW w A0 c0 a A1 c1 b A2 c2 c g w') (hb : Below w'.heap.size w' w2) : LawW w A0 c0 a A1 c1 b A2 c2 c g w2 := ⟨blk_below h.bx hb, h.cs.below hb, below_step h.bl hb, h.lt⟩
theorem LawW.cells {w : World} {A0 : Option Addr} {c0 : Nat} {a : List Int} {A1 : Option Addr} {c1 : Nat} {b : List (List Int)} {A2 : Option Addr} {c2 : Nat} {c : List Int} {g : Nat} {w' : World} (h : LawW w A0 c0 a A1 c1 b A2 c2 c g w') : w'.cell? ⟨g, 0, none⟩ = some (.slice A0 a.length c0) ∧ w'.cell? ⟨g, 1, none⟩ = some (.slice A1 b.length c1) ∧ w'.cell? ⟨g, 2, none⟩ = some (.slice A2 c.length c2) := boxS7 h.bx
/-- A tame case. -/
def TameSl (a : List Int) (b : List (List Int)) (c : List Int) (w : World) (e : Ending) (w' : World) : Prop :=
 ∃ B0 d0 B1 d1 B2 d2, e = .returned (.agg #[.slice B0 (tameW a).length d0, .slice B1 (tameB a b).length d1, .slice B2 (tameC b c).length d2]) ∧ CaseAt w' B0 d0 (tameW a) B1 d1 (tameB a b) B2 d2 (tameC b c) ∧ Below w.heap.size w w'
theorem tame_sl (h : CaseAt w A0 c0 a A1 c1 b A2 c2 c) : Calls Tryd.prog 33 #[.agg #[.slice A0 a.length c0, .slice A1 b.length c1, .slice A2 c.length c2]] w (TameSl a b c w) := by
 refine (tame_n h).mono ?_
 rintro e w' ⟨v0, v1, v2, rfl, h0, h1, h2, hb⟩
 obtain ⟨B0, d0, rfl⟩ := Kd.R_slice h0
 obtain ⟨B1, d1, rfl⟩ := Kd.R_slice h1
 obtain ⟨B2, d2, rfl⟩ := Kd.R_slice h2
 exact ⟨B0, d0, B1, d1, B2, d2, rfl, ⟨(Kd.R_reads' h0).2.2, (Kd.R_reads' h0).2.1, (Kd.R_reads' h1).2.2, (Kd.R_reads' h1).2.1, (Kd.R_reads' h2).2.2, (Kd.R_reads' h2).2.1⟩, hb⟩
end
section
variable {a : List Int} {b : List (List Int)} {c : List Int}
theorem check_tree (D : Differ a b c) {tf : Int → Int} (H : TreeOk a.length b.length tf (onesOf b) (SetN a.length)) : ∃ m w, checkR a b c (treeB tf (onesOf b) (allOf a) 0) = (m, w, 0) ∧ corrR a b c (treeB tf (onesOf b) (allOf a) 0) = (m, w, true) := by
 have e := corr_tree D H
 refine ⟨_, _, ?_, e⟩
 unfold checkR
 rw [if_pos (caseB_of D.is), e, if_pos rfl]
theorem check_M (D : Differ a b c) : ∃ w, checkR a b c (planM a b c) = (valM a b c, w, 0) ∧ valW a b c ≤ w := by
 obtain ⟨m, w, h1, h2⟩ := check_tree D (chs_ok D (mfMean a b c))
 have h3 := corr_tree D (chs_ok D (mfMean a b c))
 rw [h2] at h3
 injection h3 with h3 _
 refine ⟨w, ?_, (corr_low D h2).2⟩
 unfold planM valM
 rw [h1, h3, cN_mean D _ (allOf a) (all_in D) (Nat.le_refl _)]
theorem check_W (D : Differ a b c) : ∃ m, checkR a b c (planW a b c) = (m, valW a b c, 0) ∧ valM a b c ≤ m := by
 obtain ⟨m, w, h1, h2⟩ := check_tree D (chs_ok D (mfWorst a b c))
 have h3 := corr_tree D (chs_ok D (mfWorst a b c))
 rw [h2] at h3
 injection h3 with _ h3
 injection h3 with h3 _
 refine ⟨m, ?_, (corr_low D h2).1⟩
 unfold planW valW
 rw [h1, h3, cN_worst D _ (allOf a) (all_in D) (Nat.le_refl _)]
theorem check_G (D : Differ a b c) : ∃ m w, checkR a b c (planG a b c) = (m, w, 0) ∧ valM a b c ≤ m ∧ valW a b c ≤ w := by
 obtain ⟨m, w, h1, h2⟩ := check_tree D (greedy_ok D)
 exact ⟨m, w, h1, corr_low D h2⟩
theorem check_any (D : Differ a b c) (p : List S57) : (checkR a b c p).2.2 ≠ 0 ∨ (valM a b c ≤ (checkR a b c p).1 ∧ valW a b c ≤ (checkR a b c p).2.1) := by
 unfold checkR
 rw [if_pos (caseB_of D.is)]
 split
 ·rename_i h
  right
  have hr : corrR a b c p = ((corrR a b c p).1, (corrR a b c p).2.1, true) := by rw [← h]
  exact corr_low D hr
 ·left; decide
end
end Go.Proofs.YtekmiepdodaidaaDoor.X
end
