/- Texts behind TestsWays, part 28: contracts of the program's functions and the plain words for them. -/
import Derived.Test.YtekmiepdodaidaaDoorTpba
section
/- (trial).isPlan, by hand: are the nodes a plan? -/
set_option linter.unusedVariables false
set_option linter.unusedSimpArgs false
namespace Go.Proofs.YtekmiepdodaidaaDoor.X
open Go.RowKit Go.Proofs.YtekmiepdodaidaaDoorW.PrintWords Go.Proofs.YtekmiepdodaidaaDoorW.PrintLast Go.Proofs.YtekmiepdodaidaaDoorW.PrintMore
attribute [local go_sem high] eqA57
def tests_trial_isPlan.f (l0_0 : List Int) (l0_1 : List (List Int)) (l0_2 : List Int) (l0_3 : List Int) (a0_4 : Int) (l1 : List S57) : Option Bool := some (planB l0_0.length l0_3.length l1)
structure PlanAt (TC PC : Array Value) (n nt : Nat) (plan : List S57) (gT gP gU B : Nat) (w w' : World) (i : Nat) : Prop where
 bT : w'.heap[gT]? = some (.cells TC 77 (0, 0))
 bP : w'.heap[gP]? = some (.cells PC 27 (0, 0))
 bU : w'.heap[gU]? = some (.cells #[.map (some B)] 102 (0, 0))
 bel : Below w.heap.size w w'
 used : ∃ g m, MapIs Tryd.prog 3 w' B m g ∧ m ≤ 2 * i ∧ UsedAt plan i g
 ok : ∀ i' : Nat, i' < i → nodeB n nt plan.length i' (rd_T57 plan i') = true
theorem wr_pred {n : Nat} (hn : n ≤ 9223372036854775807) : wrap64 ((n : Int) - 1) = (n : Int) - 1 := by unfold wrap64; omega
theorem leaf_in {n : Nat} {x : Int} (h : 0 ≤ x ∧ x < (n : Int)) (hn : n ≤ 9223372036854775807) : inB 0 (wrap64 ((n : Int) - 1)) x = true := by
 rw [wr_pred hn]; unfold inB; simp; omega
theorem leaf_out {n : Nat} {x : Int} (h : ¬ (0 ≤ x ∧ x < (n : Int))) (hn : n ≤ 9223372036854775807) : inB 0 (wrap64 ((n : Int) - 1)) x = false := by
 rw [wr_pred hn]
 cases hb : inB 0 ((n : Int) - 1) x with
 | false => rfl
 | true => unfold inB at hb; simp at hb; omega
theorem far_ne {B g : Nat} (h : B ≠ g) : some g ≠ some B := fun e => h (by injection e with e; exact e.symm)
theorem bel_two {w wr w9 w10 : World} {B : Nat} (h : Below w.heap.size w wr) (h9 : Below wr.heap.size wr w9) (hg : w9.grownBy w10 (some B)) (hB : w.heap.size ≤ B) : Below w.heap.size w w10 := by
 have b9 := below_step h h9
 exact b9.grown hg b9.size (fun k e => by injection e with e; omega)
theorem bel_three {w wr w9 w10 w11 : World} {B : Nat} (h : Below w.heap.size w wr) (h9 : Below wr.heap.size wr w9) (hg : w9.grownBy w10 (some B)) (hg2 : w10.grownBy w11 (some B)) (hB : w.heap.size ≤ B) : Below w.heap.size w w11 := by
 have b10 := bel_two h h9 hg hB
 exact b10.grown hg2 b10.size (fun k e => by injection e with e; omega)
theorem end_eq {q l : Nat} (h1 : 1 ≤ l) (h2 : l ≤ 1000) : (Ending.returned (.bool ((q : Int) == wrap64 ((l : Int) - 1))) : Ending) = .returned (.bool (decide (q = l - 1))) := by
 have e : wrap64 ((l : Int) - 1) = ((l - 1 : Nat) : Int) := by unfold wrap64; omega
 rw [e]
 congr 2
 rw [Bool.eq_iff_iff, beq_iff_eq, decide_eq_true_iff]
 exact Int.natCast_inj
theorem node_st {w8 w9 : World} {gN : Nat} {f0 f1 f2 f3 : Int} (hb : w8.heap[gN]? = some (.cells #[.int .i64 0, .int .i64 0, .int .i64 0, .int .i64 0] 57 (0, 0))) (hw : w9 = (((w8.setCell ⟨gN, 0, none⟩ (.int .i64 f0)).setCell ⟨gN, 1, none⟩ (.int .i64 f1)).setCell ⟨gN, 2, none⟩ (.int .i64 f2)).setCell ⟨gN, 3, none⟩ (.int .i64 f3)) :
  w9.heap[gN]? = some (.cells #[.int .i64 f0, .int .i64 f1, .int .i64 f2, .int .i64 f3] 57 (0, 0)) := by
 rw [hw]
 exact blk_put (blk_put (blk_put (blk_put hb 0 _ rfl) 1 _ rfl) 2 _ rfl) 3 _ rfl
theorem node_bel {wr w8 w9 : World} {gN : Nat} {f0 f1 f2 f3 : Int} (hb : Below wr.heap.size wr w8) (hg : gN = wr.heap.size) (hw : w9 = (((w8.setCell ⟨gN, 0, none⟩ (.int .i64 f0)).setCell ⟨gN, 1, none⟩ (.int .i64 f1)).setCell ⟨gN, 2, none⟩ (.int .i64 f2)).setCell ⟨gN, 3, none⟩ (.int .i64 f3)) : Below wr.heap.size wr w9 := by
 have hle : wr.heap.size ≤ gN := Nat.le_of_eq hg.symm
 rw [hw]
 exact below_set (below_set (below_set (below_set hb hle) hle) hle) hle
section
variable {TC PC : Array Value} {n nt : Nat} {plan : List S57} {gT gP gU B : Nat} {w wr : World} {i : Nat}
theorem plan_leaf (h : PlanAt TC PC n nt plan gT gP gU B w wr i) {w9 : World} (hb : Below wr.heap.size wr w9) (hi : i < plan.length) (hn : nodeB n nt plan.length i (rd_T57 plan i) = true) (h0 : (rd_T57 plan i).f0 = -1) : PlanAt TC PC n nt plan gT gP gU B w w9 (i + 1) := by
 obtain ⟨bT, bP, bU, bel, ⟨g, m, hm, hm2, hu⟩, hok⟩ := h
 exact ⟨blk_below bT hb, blk_below bP hb, blk_below bU hb, below_step bel hb, ⟨g, m, hm.below hb, by omega, used_leaf hu hi h0⟩, fun i' hi' => by
  by_cases e : i' = i
  ·rw [e]; exact hn
  ·exact hok i' (by omega)⟩
theorem plan_inner (h : PlanAt TC PC n nt plan gT gP gU B w wr i) {w9 w10 w11 : World} (hb : Below wr.heap.size wr w9) (hg1 : w9.grownBy w10 (some B)) (hg2 : w10.grownBy w11 (some B)) (hB : w.heap.size ≤ B) {g : KMap} {m : Nat} (hm : MapIs Tryd.prog 3 w11 B m g) (hm2 : m ≤ 2 * (i + 1)) (hu : UsedAt plan (i + 1) g)
  (hn : nodeB n nt plan.length i (rd_T57 plan i) = true) (nT : B ≠ gT) (nP : B ≠ gP) (nU : B ≠ gU) : PlanAt TC PC n nt plan gT gP gU B w w11 (i + 1) := by
 obtain ⟨bT, bP, bU, bel, _, hok⟩ := h
 have far {g' : Nat} (e : B ≠ g') : some g' ≠ some B := fun h => e (by injection h with h; exact h.symm)
 have b9 := below_step bel hb
 refine ⟨blk_grown (blk_grown (blk_below bT hb) hg1 (far nT)) hg2 (far nT), blk_grown (blk_grown (blk_below bP hb) hg1 (far nP)) hg2 (far nP), blk_grown (blk_grown (blk_below bU hb) hg1 (far nU)) hg2 (far nU), ?_, ⟨g, m, hm, hm2, hu⟩, fun i' hi' => ?_⟩
 ·have b10 := b9.grown hg1 b9.size (fun k e => by injection e with e; omega)
  exact b10.grown hg2 b10.size (fun k e => by injection e with e; omega)
 ·by_cases e : i' = i
  ·rw [e]; exact hn
  ·exact hok i' (by omega)
end
section
variable {A0 : Option Addr} {c0 : Nat} {a : List Int} {A1 : Option Addr} {c1 : Nat} {b : List (List Int)} {A2 : Option Addr} {c2 : Nat} {c : List Int} {A3 : Option Addr} {c3 : Nat} {ones : List Int} {al : Int} {A : Option Addr} {cp : Nat} {plan : List S57} {w : World}
set_option maxHeartbeats 4000000 in
set_option maxRecDepth 100000 in
theorem plan_bad (h : ¬ (1 ≤ plan.length ∧ plan.length ≤ 1000)) : Calls Tryd.prog 65 #[.agg #[.slice A0 a.length c0, .slice A1 b.length c1, .slice A2 c.length c2, .slice A3 ones.length c3, .int .u64 al], .slice A plan.length cp] w fun e w' => e = .returned (.bool false) ∧ Below w.heap.size w w' := by
 have HIN := Aside0.mk (show inB 1 1000 (plan.length : Int) = false by
  cases hb : inB 1 1000 (plan.length : Int) with
  | false => rfl
  | true => unfold inB at hb; simp at hb; omega)
 clear h
 go_enter Tryd.func65, Tryd.ntmps65
 go_wp2_with (first | (go_at_call 47; refine (within_n _ _ _ _).mono ?_; rintro e w5 ⟨rfl, rfl⟩; rw [HIN.out]))
 go_ret
 exact ⟨rfl, by repeat (first | exact Below.refl _ _ | apply below_alloc)⟩
set_option maxHeartbeats 16000000 in
set_option maxRecDepth 100000 in
theorem plan_good (hmx : a.length ≤ 9223372036854775807) (hmo : ones.length ≤ 9223372036854775807) (h : 1 ≤ plan.length ∧ plan.length ≤ 1000) (hr : Kd.C k57 w A plan.length plan) : Calls Tryd.prog 65 #[.agg #[.slice A0 a.length c0, .slice A1 b.length c1, .slice A2 c.length c2, .slice A3 ones.length c3, .int .u64 al], .slice A plan.length cp] w fun e w' => e = .returned (.bool (planB a.length ones.length plan)) ∧ Below w.heap.size w w' := by
 have HIN := Aside0.mk (show inB 1 1000 (plan.length : Int) = true by unfold inB; simp; omega)
 have HMX := Aside0.mk hmx
 have HMO := Aside0.mk hmo
 have HL := Aside0.mk h
 have HR := Aside0.mk hr
 have hmm := @run_makeMap Tryd.prog
 have hu25 := Tryd.underlying25
 have hu77 := Tryd.underlying77
 clear h hr hmx hmo
 go_enter Tryd.func65, Tryd.ntmps65
 go_wp2_with (first | ((with_reducible refine gate_dst (N := 2) rfl ?_); refine box_event ?hg (N := 2) ?hd (cs := #[.slice A0 a.length c0, .slice A1 b.length c1, .slice A2 c.length c2, .slice A3 ones.length c3, .int .u64 al]) (t := 77) ?hr ?_; (case hd => rfl); (case hg => rfl); (case hr => first | (go_simp; done) | (go_simp; rfl)); intro gT hgT w1 hbT hb1; have BT1 := Aside0.mk hbT; have B1 := Aside0.mk hb1; have GT := Aside0.mk hgT; clear hbT hb1 hgT) | ((with_reducible refine gate_dst (N := 3) rfl ?_); refine box_event ?hg (N := 3) ?hd (cs := #[.slice A plan.length cp]) (t := 27) ?hr ?_; (case hd => rfl); (case hg => rfl); (case hr => first | (go_simp; done) | (go_simp; rfl)); intro gP hgP w2 hbP hb2; have BP2 := Aside0.mk hbP; have B2 := Aside0.mk hb2; have GP := Aside0.mk hgP; have hcP2 : w2.cell? ⟨gP, 0, none⟩ = some (.slice A plan.length cp) := (blk_cell hbP 0).trans rfl; have hcP3 : ((w2.alloc (.map #[] 0)).alloc (.cells #[.map (some w2.heap.size)] 102)).cell? ⟨gP, 0, none⟩ = some (.slice A plan.length cp) := (blk_cell (blk_alloc (blk_alloc hbP _) _) 0).trans rfl; clear hbP hb2 hgP) | (go_at_call 47; refine (within_n _ _ _ _).mono ?_; rintro e w5 ⟨rfl, rfl⟩; rw [HIN.out]))
 clear hcP2 hcP3
 go_loopg [17] plan.length (fun kq v17 w' => ∃ i : Nat, v17 = .int .i64 i ∧ Aside0 (kq + i = plan.length) ∧ Aside0 (PlanAt #[.slice A0 a.length c0, .slice A1 b.length c1, .slice A2 c.length c2, .slice A3 ones.length c3, .int .u64 al] #[.slice A plan.length cp] a.length ones.length plan gT gP (w2.heap.size + 1) w2.heap.size w w' i))
 case atStart =>
  refine ⟨0, rfl, ⟨by omega⟩, ⟨⟨blk_alloc (blk_alloc (blk_below BT1.out B2.out) _) _, blk_alloc (blk_alloc BP2.out _) _, ?_, ?_, ⟨KMap.empty, 0, ?_, Nat.le_refl _, used_zero plan⟩, fun i' h => absurd h (Nat.not_lt_zero _)⟩⟩⟩
  ·have := blk_new (w2.alloc (.map #[] 0)) (.cells #[.map (some w2.heap.size)] 102 (0, 0))
   rwa [size_alloc'] at this
  ·exact below_alloc (below_alloc (below_step B1.out B2.out) _) _
  ·exact (MapIs.made w2 Tryd.prog 3).alloc _
 case round =>
  obtain ⟨i, rfl, HKQ, HPA⟩ := hrel
  obtain ⟨k1, rfl⟩ : ∃ k1, k1 = gk := ⟨_, rfl⟩
  by_cases hi : i < plan.length
  ·obtain ⟨bT, bP, bU, bel, ⟨g, m, hm, hm2, hu⟩, hok⟩ := HPA.out
   obtain ⟨ad, e1, hx0, hx1, hx2, hx3⟩ := at_T57 (Kd.C_below HR.out bel) (i : Int) (by omega) (by omega)
   cases e1
   simp only [Int.toNat_natCast] at hx0 hx1 hx2 hx3
   obtain ⟨x, hx⟩ : ∃ x, rd_T57 plan (i : Int) = x := ⟨_, rfl⟩
   rw [hx] at hx0 hx1 hx2 hx3
   obtain ⟨f0, f1, f2, f3⟩ := x
   dsimp only at hx0 hx1 hx2 hx3
   have HX := Aside0.mk hx
   have BT := Aside0.mk bT
   have BP := Aside0.mk bP
   have BU := Aside0.mk bU
   have BEL := Aside0.mk bel
   have HM := Aside0.mk hm
   have HM2 := Aside0.mk hm2
   have HU := Aside0.mk hu
   have HOK := Aside0.mk hok
   have HPL := HPA
   have HBB := Aside0.mk (show w.heap.size ≤ w2.heap.size from (below_step B1.out B2.out).size)
   have hmx := HMX.out
   clear bT bP bU bel hm hm2 hu hok hx HPA
   by_cases h0 : f0 = -1
   ·have hb0 : (f0 == -1) = true := beq_iff_eq.mpr h0
    by_cases hok : nodeB a.length ones.length plan.length i (rd_T57 plan i) = true
    ·have hw := hok
     rw [HX.out] at hw
     obtain ⟨_, q1, q2, q3, q4⟩ := node_leaf hw (show f0 < 0 by omega)
     have HO := Aside0.mk hok
     have hb2 : (f2 == 0) = true := beq_iff_eq.mpr q3
     have hb3 : (f3 == 0) = true := beq_iff_eq.mpr q4
     have H0 := Aside0.mk h0
     have HI1 := Aside0.mk (leaf_in (n := a.length) ⟨q1, q2⟩ hmx)
     clear hok hw q1 q2 q3 q4 h0 hmx
     go_wp2_with (first | ((with_reducible refine gate_dst (N := 8) rfl ?_); refine box_event ?hg (N := 8) ?hd (cs := #[.int .i64 0, .int .i64 0, .int .i64 0, .int .i64 0]) (t := 57) ?hr ?_; (case hd => rfl); (case hg => rfl); (case hr => first | (go_simp; done) | (go_simp; rfl)); intro gN hgN w8 hbN hb8; have GN := Aside0.mk hgN; have B8 := Aside0.mk hb8; have BN8 := Aside0.mk hbN; have hz0 : w8.cell? ⟨gN, 0, none⟩ = some (.int .i64 0) := (blk_cell hbN 0).trans rfl; have hz1 : w8.cell? ⟨gN, 1, none⟩ = some (.int .i64 0) := (blk_cell hbN 1).trans rfl; have hz2 : w8.cell? ⟨gN, 2, none⟩ = some (.int .i64 0) := (blk_cell hbN 2).trans rfl; have hz3 : w8.cell? ⟨gN, 3, none⟩ = some (.int .i64 0) := (blk_cell hbN 3).trans rfl; have hf0 := blk_frozen hbN 0; have hf1 := blk_frozen hbN 1; have hf2 := blk_frozen hbN 2; have hf3 := blk_frozen hbN 3; clear hgN hb8 hbN) | ((with_reducible refine gate_store (t := 57) (p := 8) rfl ?_); refine store_event (t := 57) (p := 8) (v := ?vo) (w1 := ((((w8.setCell ⟨gN, 0, none⟩ (.int .i64 f0)).setCell ⟨gN, 1, none⟩ (.int .i64 f1)).setCell ⟨gN, 2, none⟩ (.int .i64 f2)).setCell ⟨gN, 3, none⟩ (.int .i64 f3))) ?hg ?ho ?hn ?hr ?_; (case ho => rfl); (case hg => rfl); (case hn => rfl); (case hr => first | (go_simp; done) | (go_simp; rfl)); intro w9 hw9; have BN9 := Aside0.mk (node_st BN8.out hw9); have B9 := Aside0.mk (node_bel B8.out GN.out hw9); have hn0 : w9.cell? ⟨gN, 0, none⟩ = some (.int .i64 f0) := (blk_cell BN9.out 0).trans rfl; have hn1 : w9.cell? ⟨gN, 1, none⟩ = some (.int .i64 f1) := (blk_cell BN9.out 1).trans rfl; have hn2 : w9.cell? ⟨gN, 2, none⟩ = some (.int .i64 f2) := (blk_cell BN9.out 2).trans rfl; have hn3 : w9.cell? ⟨gN, 3, none⟩ = some (.int .i64 f3) := (blk_cell BN9.out 3).trans rfl; have hT0 : w9.cell? ⟨gT, 0, none⟩ = some (.slice A0 a.length c0) := (blk_cell (blk_below BT.out B9.out) 0).trans rfl; have hT3 : w9.cell? ⟨gT, 3, none⟩ = some (.slice A3 ones.length c3) := (blk_cell (blk_below BT.out B9.out) 3).trans rfl; clear hw9 hz0 hz1 hz2 hz3 hf0 hf1 hf2 hf3) | (go_at_call 47; refine (within_n _ _ _ _).mono ?_; rintro e w5 ⟨rfl, rfl⟩; rw [HI1.out]))
     go_roundg (k1 - 1)
     case measure => have := HKQ.out; omega
     case rel => exact ⟨i + 1, by rw [Go.Proofs.YtekmiepdodaidaaDoor.X.w1 i (by have := HL.out.2; omega)], ⟨by have := HKQ.out; omega⟩, ⟨plan_leaf HPL.out B9.out hi HO.out (by rw [HX.out]; exact H0.out)⟩⟩
    ·have PF := Aside0.mk (planB_node (n := a.length) (nt := ones.length) hi (by simpa using hok))
     by_cases q3 : f2 = 0
     ·have hb2 : (f2 == 0) = true := beq_iff_eq.mpr q3
      by_cases q4 : f3 = 0
      ·have hb3 : (f3 == 0) = true := beq_iff_eq.mpr q4
       have HI1 := Aside0.mk (leaf_out (n := a.length) (x := f1) (fun hq => hok (by rw [HX.out]; unfold nodeB; rw [if_pos h0]; simp [hq.1, hq.2, q3, q4])) hmx)
       clear hok q3 q4 h0 hmx
       go_wp2_with (first | ((with_reducible refine gate_dst (N := 8) rfl ?_); refine box_event ?hg (N := 8) ?hd (cs := #[.int .i64 0, .int .i64 0, .int .i64 0, .int .i64 0]) (t := 57) ?hr ?_; (case hd => rfl); (case hg => rfl); (case hr => first | (go_simp; done) | (go_simp; rfl)); intro gN hgN w8 hbN hb8; have GN := Aside0.mk hgN; have B8 := Aside0.mk hb8; have BN8 := Aside0.mk hbN; have hz0 : w8.cell? ⟨gN, 0, none⟩ = some (.int .i64 0) := (blk_cell hbN 0).trans rfl; have hz1 : w8.cell? ⟨gN, 1, none⟩ = some (.int .i64 0) := (blk_cell hbN 1).trans rfl; have hz2 : w8.cell? ⟨gN, 2, none⟩ = some (.int .i64 0) := (blk_cell hbN 2).trans rfl; have hz3 : w8.cell? ⟨gN, 3, none⟩ = some (.int .i64 0) := (blk_cell hbN 3).trans rfl; have hf0 := blk_frozen hbN 0; have hf1 := blk_frozen hbN 1; have hf2 := blk_frozen hbN 2; have hf3 := blk_frozen hbN 3; clear hgN hb8 hbN) | ((with_reducible refine gate_store (t := 57) (p := 8) rfl ?_); refine store_event (t := 57) (p := 8) (v := ?vo) (w1 := ((((w8.setCell ⟨gN, 0, none⟩ (.int .i64 f0)).setCell ⟨gN, 1, none⟩ (.int .i64 f1)).setCell ⟨gN, 2, none⟩ (.int .i64 f2)).setCell ⟨gN, 3, none⟩ (.int .i64 f3))) ?hg ?ho ?hn ?hr ?_; (case ho => rfl); (case hg => rfl); (case hn => rfl); (case hr => first | (go_simp; done) | (go_simp; rfl)); intro w9 hw9; have BN9 := Aside0.mk (node_st BN8.out hw9); have B9 := Aside0.mk (node_bel B8.out GN.out hw9); have hn0 : w9.cell? ⟨gN, 0, none⟩ = some (.int .i64 f0) := (blk_cell BN9.out 0).trans rfl; have hn1 : w9.cell? ⟨gN, 1, none⟩ = some (.int .i64 f1) := (blk_cell BN9.out 1).trans rfl; have hn2 : w9.cell? ⟨gN, 2, none⟩ = some (.int .i64 f2) := (blk_cell BN9.out 2).trans rfl; have hn3 : w9.cell? ⟨gN, 3, none⟩ = some (.int .i64 f3) := (blk_cell BN9.out 3).trans rfl; have hT0 : w9.cell? ⟨gT, 0, none⟩ = some (.slice A0 a.length c0) := (blk_cell (blk_below BT.out B9.out) 0).trans rfl; have hT3 : w9.cell? ⟨gT, 3, none⟩ = some (.slice A3 ones.length c3) := (blk_cell (blk_below BT.out B9.out) 3).trans rfl; clear hw9 hz0 hz1 hz2 hz3 hf0 hf1 hf2 hf3) | (go_at_call 47; refine (within_n _ _ _ _).mono ?_; rintro e w5 ⟨rfl, rfl⟩; rw [HI1.out]))
       go_ret
       exact ⟨by rw [PF.out]; rfl, below_step BEL.out B9.out⟩
      ·have hb3 : (f3 == 0) = false := beq_eq_false_iff_ne.mpr q4
       clear hok q3 q4 h0 hmx
       go_wp2_with (first | ((with_reducible refine gate_dst (N := 8) rfl ?_); refine box_event ?hg (N := 8) ?hd (cs := #[.int .i64 0, .int .i64 0, .int .i64 0, .int .i64 0]) (t := 57) ?hr ?_; (case hd => rfl); (case hg => rfl); (case hr => first | (go_simp; done) | (go_simp; rfl)); intro gN hgN w8 hbN hb8; have GN := Aside0.mk hgN; have B8 := Aside0.mk hb8; have BN8 := Aside0.mk hbN; have hz0 : w8.cell? ⟨gN, 0, none⟩ = some (.int .i64 0) := (blk_cell hbN 0).trans rfl; have hz1 : w8.cell? ⟨gN, 1, none⟩ = some (.int .i64 0) := (blk_cell hbN 1).trans rfl; have hz2 : w8.cell? ⟨gN, 2, none⟩ = some (.int .i64 0) := (blk_cell hbN 2).trans rfl; have hz3 : w8.cell? ⟨gN, 3, none⟩ = some (.int .i64 0) := (blk_cell hbN 3).trans rfl; have hf0 := blk_frozen hbN 0; have hf1 := blk_frozen hbN 1; have hf2 := blk_frozen hbN 2; have hf3 := blk_frozen hbN 3; clear hgN hb8 hbN) | ((with_reducible refine gate_store (t := 57) (p := 8) rfl ?_); refine store_event (t := 57) (p := 8) (v := ?vo) (w1 := ((((w8.setCell ⟨gN, 0, none⟩ (.int .i64 f0)).setCell ⟨gN, 1, none⟩ (.int .i64 f1)).setCell ⟨gN, 2, none⟩ (.int .i64 f2)).setCell ⟨gN, 3, none⟩ (.int .i64 f3))) ?hg ?ho ?hn ?hr ?_; (case ho => rfl); (case hg => rfl); (case hn => rfl); (case hr => first | (go_simp; done) | (go_simp; rfl)); intro w9 hw9; have BN9 := Aside0.mk (node_st BN8.out hw9); have B9 := Aside0.mk (node_bel B8.out GN.out hw9); have hn0 : w9.cell? ⟨gN, 0, none⟩ = some (.int .i64 f0) := (blk_cell BN9.out 0).trans rfl; have hn1 : w9.cell? ⟨gN, 1, none⟩ = some (.int .i64 f1) := (blk_cell BN9.out 1).trans rfl; have hn2 : w9.cell? ⟨gN, 2, none⟩ = some (.int .i64 f2) := (blk_cell BN9.out 2).trans rfl; have hn3 : w9.cell? ⟨gN, 3, none⟩ = some (.int .i64 f3) := (blk_cell BN9.out 3).trans rfl; have hT0 : w9.cell? ⟨gT, 0, none⟩ = some (.slice A0 a.length c0) := (blk_cell (blk_below BT.out B9.out) 0).trans rfl; have hT3 : w9.cell? ⟨gT, 3, none⟩ = some (.slice A3 ones.length c3) := (blk_cell (blk_below BT.out B9.out) 3).trans rfl; clear hw9 hz0 hz1 hz2 hz3 hf0 hf1 hf2 hf3))
       go_ret
       exact ⟨by rw [PF.out]; rfl, below_step BEL.out B9.out⟩
     ·have hb2 : (f2 == 0) = false := beq_eq_false_iff_ne.mpr q3
      clear hok q3 h0 hmx
      go_wp2_with (first | ((with_reducible refine gate_dst (N := 8) rfl ?_); refine box_event ?hg (N := 8) ?hd (cs := #[.int .i64 0, .int .i64 0, .int .i64 0, .int .i64 0]) (t := 57) ?hr ?_; (case hd => rfl); (case hg => rfl); (case hr => first | (go_simp; done) | (go_simp; rfl)); intro gN hgN w8 hbN hb8; have GN := Aside0.mk hgN; have B8 := Aside0.mk hb8; have BN8 := Aside0.mk hbN; have hz0 : w8.cell? ⟨gN, 0, none⟩ = some (.int .i64 0) := (blk_cell hbN 0).trans rfl; have hz1 : w8.cell? ⟨gN, 1, none⟩ = some (.int .i64 0) := (blk_cell hbN 1).trans rfl; have hz2 : w8.cell? ⟨gN, 2, none⟩ = some (.int .i64 0) := (blk_cell hbN 2).trans rfl; have hz3 : w8.cell? ⟨gN, 3, none⟩ = some (.int .i64 0) := (blk_cell hbN 3).trans rfl; have hf0 := blk_frozen hbN 0; have hf1 := blk_frozen hbN 1; have hf2 := blk_frozen hbN 2; have hf3 := blk_frozen hbN 3; clear hgN hb8 hbN) | ((with_reducible refine gate_store (t := 57) (p := 8) rfl ?_); refine store_event (t := 57) (p := 8) (v := ?vo) (w1 := ((((w8.setCell ⟨gN, 0, none⟩ (.int .i64 f0)).setCell ⟨gN, 1, none⟩ (.int .i64 f1)).setCell ⟨gN, 2, none⟩ (.int .i64 f2)).setCell ⟨gN, 3, none⟩ (.int .i64 f3))) ?hg ?ho ?hn ?hr ?_; (case ho => rfl); (case hg => rfl); (case hn => rfl); (case hr => first | (go_simp; done) | (go_simp; rfl)); intro w9 hw9; have BN9 := Aside0.mk (node_st BN8.out hw9); have B9 := Aside0.mk (node_bel B8.out GN.out hw9); have hn0 : w9.cell? ⟨gN, 0, none⟩ = some (.int .i64 f0) := (blk_cell BN9.out 0).trans rfl; have hn1 : w9.cell? ⟨gN, 1, none⟩ = some (.int .i64 f1) := (blk_cell BN9.out 1).trans rfl; have hn2 : w9.cell? ⟨gN, 2, none⟩ = some (.int .i64 f2) := (blk_cell BN9.out 2).trans rfl; have hn3 : w9.cell? ⟨gN, 3, none⟩ = some (.int .i64 f3) := (blk_cell BN9.out 3).trans rfl; have hT0 : w9.cell? ⟨gT, 0, none⟩ = some (.slice A0 a.length c0) := (blk_cell (blk_below BT.out B9.out) 0).trans rfl; have hT3 : w9.cell? ⟨gT, 3, none⟩ = some (.slice A3 ones.length c3) := (blk_cell (blk_below BT.out B9.out) 3).trans rfl; clear hw9 hz0 hz1 hz2 hz3 hf0 hf1 hf2 hf3))
      go_ret
      exact ⟨by rw [PF.out]; rfl, below_step BEL.out B9.out⟩
   ·have hb0 : (f0 == -1) = false := beq_eq_false_iff_ne.mpr h0
    have HNE := Aside0.mk (show (rd_T57 plan (i : Int)).f0 ≠ -1 by rw [HX.out]; exact h0)
    have hmo := HMO.out
    clear hmx
    by_cases r0 : 0 ≤ f0 ∧ f0 < (ones.length : Int)
    ·have HI1 := Aside0.mk (leaf_in r0 hmo)
     by_cases r1 : f1 = 0
     ·have hb1 : (f1 == 0) = true := beq_iff_eq.mpr r1
      have hb1' : (f1 != 0) = false := bne_eq_false_iff_eq.mpr r1
      by_cases r2 : (i : Int) < f2 ∧ f2 < (plan.length : Int)
      ·obtain ⟨z, hz⟩ : ∃ z : Nat, f2 = (z : Int) := ⟨f2.toNat, by omega⟩
       have HZ := Aside0.mk hz
       have hzi : i < z ∧ z < plan.length := ⟨by omega, by omega⟩
       have R2 := Aside0.mk hzi
       have hml : m < maxLen := by have := HM2.out; have := HL.out.2; unfold maxLen; omega
       have HMLT := Aside0.mk hml
       have NP := Aside0.mk (show w2.heap.size ≠ gP from Nat.ne_of_gt (blk_lt BP2.out))
       have NU := Aside0.mk (show w2.heap.size ≠ w2.heap.size + 1 from Nat.ne_of_lt (Nat.lt_succ_self _))
       have NT := Aside0.mk (show w2.heap.size ≠ gT from Nat.ne_of_gt (blk_lt (blk_below BT1.out B2.out)))
       have NN := Aside0.mk (show ∀ gN : Nat, gN = wr.heap.size → w2.heap.size ≠ gN from fun gN e => by rw [e]; exact Nat.ne_of_lt HM.out.lt)
       have E2 := Aside0.mk (show (rd_T57 plan (i : Int)).f2 = (z : Int) by rw [HX.out]; exact hz)
       clear hml r2
       have huz := HU.out.at_ z hzi.2
       rcases huz with ⟨hgz, _⟩ | ⟨hgz, _⟩
       ·have HV1 := Aside0.mk (show (g (ki (z : Int))).getD (.bool false) = .bool true by rw [hgz]; rfl)
        have PF := Aside0.mk (used_bad1 (n := a.length) (nt := ones.length) HU.out hi HNE.out E2.out hzi hgz)
        clear r0 r1 h0 hmo hz hzi hgz
        go_wp2_with (first | ((with_reducible refine gate_dst (N := 8) rfl ?_); refine box_event ?hg (N := 8) ?hd (cs := #[.int .i64 0, .int .i64 0, .int .i64 0, .int .i64 0]) (t := 57) ?hr ?_; (case hd => rfl); (case hg => rfl); (case hr => first | (go_simp; done) | (go_simp; rfl)); intro gN hgN w8 hbN hb8; have GN := Aside0.mk hgN; have B8 := Aside0.mk hb8; have BN8 := Aside0.mk hbN; have hz0 : w8.cell? ⟨gN, 0, none⟩ = some (.int .i64 0) := (blk_cell hbN 0).trans rfl; have hz1 : w8.cell? ⟨gN, 1, none⟩ = some (.int .i64 0) := (blk_cell hbN 1).trans rfl; have hz2 : w8.cell? ⟨gN, 2, none⟩ = some (.int .i64 0) := (blk_cell hbN 2).trans rfl; have hz3 : w8.cell? ⟨gN, 3, none⟩ = some (.int .i64 0) := (blk_cell hbN 3).trans rfl; have hf0 := blk_frozen hbN 0; have hf1 := blk_frozen hbN 1; have hf2 := blk_frozen hbN 2; have hf3 := blk_frozen hbN 3; clear hgN hb8 hbN) | ((with_reducible refine gate_store (t := 57) (p := 8) rfl ?_); refine store_event (t := 57) (p := 8) (v := ?vo) (w1 := ((((w8.setCell ⟨gN, 0, none⟩ (.int .i64 f0)).setCell ⟨gN, 1, none⟩ (.int .i64 f1)).setCell ⟨gN, 2, none⟩ (.int .i64 f2)).setCell ⟨gN, 3, none⟩ (.int .i64 f3))) ?hg ?ho ?hn ?hr ?_; (case ho => rfl); (case hg => rfl); (case hn => rfl); (case hr => first | (go_simp; done) | (go_simp; rfl)); intro w9 hw9; have BN9 := Aside0.mk (node_st BN8.out hw9); have B9 := Aside0.mk (node_bel B8.out GN.out hw9); have hn0 : w9.cell? ⟨gN, 0, none⟩ = some (.int .i64 f0) := (blk_cell BN9.out 0).trans rfl; have hn1 : w9.cell? ⟨gN, 1, none⟩ = some (.int .i64 f1) := (blk_cell BN9.out 1).trans rfl; have hn2 : w9.cell? ⟨gN, 2, none⟩ = some (.int .i64 f2) := (blk_cell BN9.out 2).trans rfl; have hn3 : w9.cell? ⟨gN, 3, none⟩ = some (.int .i64 f3) := (blk_cell BN9.out 3).trans rfl; have hT0 : w9.cell? ⟨gT, 0, none⟩ = some (.slice A0 a.length c0) := (blk_cell (blk_below BT.out B9.out) 0).trans rfl; have hT3 : w9.cell? ⟨gT, 3, none⟩ = some (.slice A3 ones.length c3) := (blk_cell (blk_below BT.out B9.out) 3).trans rfl; have hP9 : w9.cell? ⟨gP, 0, none⟩ = some (.slice (some ad) plan.length cp) := (blk_cell (blk_below BP.out B9.out) 0).trans rfl; have hU9 : w9.cell? ⟨w2.heap.size + 1, 0, none⟩ = some (.map (some w2.heap.size)) := (blk_cell (blk_below BU.out B9.out) 0).trans rfl; clear hw9 hz0 hz1 hz2 hz3 hf0 hf1 hf2 hf3) | (go_at_call 47; refine (within_n _ _ _ _).mono ?_; rintro e w5 ⟨rfl, rfl⟩; rw [HI1.out]) | (go_at_call 74; rw [HZ.out]; refine (enter_in hP9 hU9 (HM.out.below B9.out) HL.out.2 R2.out.1 R2.out.2 HMLT.out HV1.out).mono ?_; rintro e w10 ⟨rfl, hm1, hg⟩; have HM1 := Aside0.mk hm1; have HG := Aside0.mk hg; have hP10 : w10.cell? ⟨gP, 0, none⟩ = some (.slice (some ad) plan.length cp) := (blk_cell (blk_grown (blk_below BP.out B9.out) hg (far_ne NP.out)) 0).trans rfl; have hU10 : w10.cell? ⟨w2.heap.size + 1, 0, none⟩ = some (.map (some w2.heap.size)) := (blk_cell (blk_grown (blk_below BU.out B9.out) hg (far_ne NU.out)) 0).trans rfl; have hm0 : w10.cell? ⟨gN, 0, none⟩ = some (.int .i64 f0) := (blk_cell (blk_grown BN9.out hg (far_ne (NN.out _ GN.out))) 0).trans rfl; have hm1' : w10.cell? ⟨gN, 1, none⟩ = some (.int .i64 f1) := (blk_cell (blk_grown BN9.out hg (far_ne (NN.out _ GN.out))) 1).trans rfl; have hm2 : w10.cell? ⟨gN, 2, none⟩ = some (.int .i64 f2) := (blk_cell (blk_grown BN9.out hg (far_ne (NN.out _ GN.out))) 2).trans rfl; have hm3 : w10.cell? ⟨gN, 3, none⟩ = some (.int .i64 f3) := (blk_cell (blk_grown BN9.out hg (far_ne (NN.out _ GN.out))) 3).trans rfl; clear hm1 hg))
        go_ret
        exact ⟨by rw [PF.out]; rfl, bel_two BEL.out B9.out HG.out HBB.out⟩
       ·have HV1 := Aside0.mk (show (g (ki (z : Int))).getD (.bool false) = .bool false by rw [hgz]; rfl)
        have HGZ := Aside0.mk hgz
        clear hz hzi hgz
        by_cases r3 : (i : Int) < f3 ∧ f3 < (plan.length : Int)
        ·obtain ⟨o, ho⟩ : ∃ o : Nat, f3 = (o : Int) := ⟨f3.toNat, by omega⟩
         have HZO := Aside0.mk ho
         have hoi : i < o ∧ o < plan.length := ⟨by omega, by omega⟩
         have R3 := Aside0.mk hoi
         have E3 := Aside0.mk (show (rd_T57 plan (i : Int)).f3 = (o : Int) by rw [HX.out]; exact ho)
         have hml2 : m + 1 < maxLen := by have := HM2.out; have := HL.out.2; unfold maxLen; omega
         have HMLT2 := Aside0.mk hml2
         have HNB := Aside0.mk (show nodeB a.length ones.length plan.length i (rd_T57 plan (i : Int)) = true by rw [HX.out]; unfold nodeB; rw [if_neg h0]; simp; have := R2.out; have := HZ.out; omega)
         clear hml2 r3
         have hgo : g.put (ki (z : Int)) (.bool true) (ki (o : Int)) = some (.bool true) ∨ g.put (ki (z : Int)) (.bool true) (ki (o : Int)) = none := by
          rw [put_at]
          by_cases e : o = z
          ·exact .inl (if_pos e)
          ·rw [if_neg e]
           rcases HU.out.at_ o hoi.2 with ⟨h, _⟩ | ⟨h, _⟩
           ·exact .inl h
           ·exact .inr h
         rcases hgo with hgo | hgo
         ·have HV2 := Aside0.mk (show (g.put (ki (z : Int)) (.bool true) (ki (o : Int))).getD (.bool false) = .bool true by rw [hgo]; rfl)
          have PF := Aside0.mk (used_bad2 (n := a.length) (nt := ones.length) HU.out hi HNE.out E2.out E3.out hoi hgo)
          clear r0 r1 h0 hmo ho hoi hgo
          go_wp2_with (first | ((with_reducible refine gate_dst (N := 8) rfl ?_); refine box_event ?hg (N := 8) ?hd (cs := #[.int .i64 0, .int .i64 0, .int .i64 0, .int .i64 0]) (t := 57) ?hr ?_; (case hd => rfl); (case hg => rfl); (case hr => first | (go_simp; done) | (go_simp; rfl)); intro gN hgN w8 hbN hb8; have GN := Aside0.mk hgN; have B8 := Aside0.mk hb8; have BN8 := Aside0.mk hbN; have hz0 : w8.cell? ⟨gN, 0, none⟩ = some (.int .i64 0) := (blk_cell hbN 0).trans rfl; have hz1 : w8.cell? ⟨gN, 1, none⟩ = some (.int .i64 0) := (blk_cell hbN 1).trans rfl; have hz2 : w8.cell? ⟨gN, 2, none⟩ = some (.int .i64 0) := (blk_cell hbN 2).trans rfl; have hz3 : w8.cell? ⟨gN, 3, none⟩ = some (.int .i64 0) := (blk_cell hbN 3).trans rfl; have hf0 := blk_frozen hbN 0; have hf1 := blk_frozen hbN 1; have hf2 := blk_frozen hbN 2; have hf3 := blk_frozen hbN 3; clear hgN hb8 hbN) | ((with_reducible refine gate_store (t := 57) (p := 8) rfl ?_); refine store_event (t := 57) (p := 8) (v := ?vo) (w1 := ((((w8.setCell ⟨gN, 0, none⟩ (.int .i64 f0)).setCell ⟨gN, 1, none⟩ (.int .i64 f1)).setCell ⟨gN, 2, none⟩ (.int .i64 f2)).setCell ⟨gN, 3, none⟩ (.int .i64 f3))) ?hg ?ho ?hn ?hr ?_; (case ho => rfl); (case hg => rfl); (case hn => rfl); (case hr => first | (go_simp; done) | (go_simp; rfl)); intro w9 hw9; have BN9 := Aside0.mk (node_st BN8.out hw9); have B9 := Aside0.mk (node_bel B8.out GN.out hw9); have hn0 : w9.cell? ⟨gN, 0, none⟩ = some (.int .i64 f0) := (blk_cell BN9.out 0).trans rfl; have hn1 : w9.cell? ⟨gN, 1, none⟩ = some (.int .i64 f1) := (blk_cell BN9.out 1).trans rfl; have hn2 : w9.cell? ⟨gN, 2, none⟩ = some (.int .i64 f2) := (blk_cell BN9.out 2).trans rfl; have hn3 : w9.cell? ⟨gN, 3, none⟩ = some (.int .i64 f3) := (blk_cell BN9.out 3).trans rfl; have hT0 : w9.cell? ⟨gT, 0, none⟩ = some (.slice A0 a.length c0) := (blk_cell (blk_below BT.out B9.out) 0).trans rfl; have hT3 : w9.cell? ⟨gT, 3, none⟩ = some (.slice A3 ones.length c3) := (blk_cell (blk_below BT.out B9.out) 3).trans rfl; have hP9 : w9.cell? ⟨gP, 0, none⟩ = some (.slice (some ad) plan.length cp) := (blk_cell (blk_below BP.out B9.out) 0).trans rfl; have hU9 : w9.cell? ⟨w2.heap.size + 1, 0, none⟩ = some (.map (some w2.heap.size)) := (blk_cell (blk_below BU.out B9.out) 0).trans rfl; clear hw9 hz0 hz1 hz2 hz3 hf0 hf1 hf2 hf3) | (go_at_call 47; refine (within_n _ _ _ _).mono ?_; rintro e w5 ⟨rfl, rfl⟩; rw [HI1.out]) | (go_at_call 74; rw [HZ.out]; refine (enter_in hP9 hU9 (HM.out.below B9.out) HL.out.2 R2.out.1 R2.out.2 HMLT.out HV1.out).mono ?_; rintro e w10 ⟨rfl, hm1, hg⟩; have HM1 := Aside0.mk hm1; have HG := Aside0.mk hg; have hP10 : w10.cell? ⟨gP, 0, none⟩ = some (.slice (some ad) plan.length cp) := (blk_cell (blk_grown (blk_below BP.out B9.out) hg (far_ne NP.out)) 0).trans rfl; have hU10 : w10.cell? ⟨w2.heap.size + 1, 0, none⟩ = some (.map (some w2.heap.size)) := (blk_cell (blk_grown (blk_below BU.out B9.out) hg (far_ne NU.out)) 0).trans rfl; have hm0 : w10.cell? ⟨gN, 0, none⟩ = some (.int .i64 f0) := (blk_cell (blk_grown BN9.out hg (far_ne (NN.out _ GN.out))) 0).trans rfl; have hm1' : w10.cell? ⟨gN, 1, none⟩ = some (.int .i64 f1) := (blk_cell (blk_grown BN9.out hg (far_ne (NN.out _ GN.out))) 1).trans rfl; have hm2 : w10.cell? ⟨gN, 2, none⟩ = some (.int .i64 f2) := (blk_cell (blk_grown BN9.out hg (far_ne (NN.out _ GN.out))) 2).trans rfl; have hm3 : w10.cell? ⟨gN, 3, none⟩ = some (.int .i64 f3) := (blk_cell (blk_grown BN9.out hg (far_ne (NN.out _ GN.out))) 3).trans rfl; clear hm1 hg) | (go_at_call 74; rw [HZO.out]; refine (enter_in hP10 hU10 HM1.out HL.out.2 R3.out.1 R3.out.2 HMLT2.out HV2.out).mono ?_; rintro e w11 ⟨rfl, hm2, hg⟩; have HM3 := Aside0.mk hm2; have HG2 := Aside0.mk hg; clear hm2 hg))
          go_ret
          exact ⟨by rw [PF.out]; rfl, bel_three BEL.out B9.out HG.out HG2.out HBB.out⟩
         ·have HV2 := Aside0.mk (show (g.put (ki (z : Int)) (.bool true) (ki (o : Int))).getD (.bool false) = .bool false by rw [hgo]; rfl)
          have HGO := Aside0.mk hgo
          clear r0 r1 h0 hmo ho hoi hgo
          go_wp2_with (first | ((with_reducible refine gate_dst (N := 8) rfl ?_); refine box_event ?hg (N := 8) ?hd (cs := #[.int .i64 0, .int .i64 0, .int .i64 0, .int .i64 0]) (t := 57) ?hr ?_; (case hd => rfl); (case hg => rfl); (case hr => first | (go_simp; done) | (go_simp; rfl)); intro gN hgN w8 hbN hb8; have GN := Aside0.mk hgN; have B8 := Aside0.mk hb8; have BN8 := Aside0.mk hbN; have hz0 : w8.cell? ⟨gN, 0, none⟩ = some (.int .i64 0) := (blk_cell hbN 0).trans rfl; have hz1 : w8.cell? ⟨gN, 1, none⟩ = some (.int .i64 0) := (blk_cell hbN 1).trans rfl; have hz2 : w8.cell? ⟨gN, 2, none⟩ = some (.int .i64 0) := (blk_cell hbN 2).trans rfl; have hz3 : w8.cell? ⟨gN, 3, none⟩ = some (.int .i64 0) := (blk_cell hbN 3).trans rfl; have hf0 := blk_frozen hbN 0; have hf1 := blk_frozen hbN 1; have hf2 := blk_frozen hbN 2; have hf3 := blk_frozen hbN 3; clear hgN hb8 hbN) | ((with_reducible refine gate_store (t := 57) (p := 8) rfl ?_); refine store_event (t := 57) (p := 8) (v := ?vo) (w1 := ((((w8.setCell ⟨gN, 0, none⟩ (.int .i64 f0)).setCell ⟨gN, 1, none⟩ (.int .i64 f1)).setCell ⟨gN, 2, none⟩ (.int .i64 f2)).setCell ⟨gN, 3, none⟩ (.int .i64 f3))) ?hg ?ho ?hn ?hr ?_; (case ho => rfl); (case hg => rfl); (case hn => rfl); (case hr => first | (go_simp; done) | (go_simp; rfl)); intro w9 hw9; have BN9 := Aside0.mk (node_st BN8.out hw9); have B9 := Aside0.mk (node_bel B8.out GN.out hw9); have hn0 : w9.cell? ⟨gN, 0, none⟩ = some (.int .i64 f0) := (blk_cell BN9.out 0).trans rfl; have hn1 : w9.cell? ⟨gN, 1, none⟩ = some (.int .i64 f1) := (blk_cell BN9.out 1).trans rfl; have hn2 : w9.cell? ⟨gN, 2, none⟩ = some (.int .i64 f2) := (blk_cell BN9.out 2).trans rfl; have hn3 : w9.cell? ⟨gN, 3, none⟩ = some (.int .i64 f3) := (blk_cell BN9.out 3).trans rfl; have hT0 : w9.cell? ⟨gT, 0, none⟩ = some (.slice A0 a.length c0) := (blk_cell (blk_below BT.out B9.out) 0).trans rfl; have hT3 : w9.cell? ⟨gT, 3, none⟩ = some (.slice A3 ones.length c3) := (blk_cell (blk_below BT.out B9.out) 3).trans rfl; have hP9 : w9.cell? ⟨gP, 0, none⟩ = some (.slice (some ad) plan.length cp) := (blk_cell (blk_below BP.out B9.out) 0).trans rfl; have hU9 : w9.cell? ⟨w2.heap.size + 1, 0, none⟩ = some (.map (some w2.heap.size)) := (blk_cell (blk_below BU.out B9.out) 0).trans rfl; clear hw9 hz0 hz1 hz2 hz3 hf0 hf1 hf2 hf3) | (go_at_call 47; refine (within_n _ _ _ _).mono ?_; rintro e w5 ⟨rfl, rfl⟩; rw [HI1.out]) | (go_at_call 74; rw [HZ.out]; refine (enter_in hP9 hU9 (HM.out.below B9.out) HL.out.2 R2.out.1 R2.out.2 HMLT.out HV1.out).mono ?_; rintro e w10 ⟨rfl, hm1, hg⟩; have HM1 := Aside0.mk hm1; have HG := Aside0.mk hg; have hP10 : w10.cell? ⟨gP, 0, none⟩ = some (.slice (some ad) plan.length cp) := (blk_cell (blk_grown (blk_below BP.out B9.out) hg (far_ne NP.out)) 0).trans rfl; have hU10 : w10.cell? ⟨w2.heap.size + 1, 0, none⟩ = some (.map (some w2.heap.size)) := (blk_cell (blk_grown (blk_below BU.out B9.out) hg (far_ne NU.out)) 0).trans rfl; have hm0 : w10.cell? ⟨gN, 0, none⟩ = some (.int .i64 f0) := (blk_cell (blk_grown BN9.out hg (far_ne (NN.out _ GN.out))) 0).trans rfl; have hm1' : w10.cell? ⟨gN, 1, none⟩ = some (.int .i64 f1) := (blk_cell (blk_grown BN9.out hg (far_ne (NN.out _ GN.out))) 1).trans rfl; have hm2 : w10.cell? ⟨gN, 2, none⟩ = some (.int .i64 f2) := (blk_cell (blk_grown BN9.out hg (far_ne (NN.out _ GN.out))) 2).trans rfl; have hm3 : w10.cell? ⟨gN, 3, none⟩ = some (.int .i64 f3) := (blk_cell (blk_grown BN9.out hg (far_ne (NN.out _ GN.out))) 3).trans rfl; clear hm1 hg) | (go_at_call 74; rw [HZO.out]; refine (enter_in hP10 hU10 HM1.out HL.out.2 R3.out.1 R3.out.2 HMLT2.out HV2.out).mono ?_; rintro e w11 ⟨rfl, hm2, hg⟩; have HM3 := Aside0.mk hm2; have HG2 := Aside0.mk hg; clear hm2 hg))
          go_roundg (k1 - 1)
          case measure => have := HKQ.out; omega
          case rel => exact ⟨i + 1, by rw [Go.Proofs.YtekmiepdodaidaaDoor.X.w1 i (by have := HL.out.2; omega)], ⟨by have := HKQ.out; omega⟩, ⟨plan_inner HPL.out B9.out HG.out HG2.out HBB.out HM3.out (by have := HM2.out; omega) (used_inner HU.out hi HNE.out E2.out E3.out R2.out R3.out HGZ.out HGO.out) HNB.out NT.out NP.out NU.out⟩⟩
        ·have PF := Aside0.mk (planB_node (n := a.length) (nt := ones.length) hi (by rw [HX.out]; unfold nodeB; rw [if_neg h0]; simp; have := R2.out; have := HZ.out; omega))
         have R3 := Aside0.mk r3
         clear r0 r1 h0 hmo r3
         go_wp2_with (first | ((with_reducible refine gate_dst (N := 8) rfl ?_); refine box_event ?hg (N := 8) ?hd (cs := #[.int .i64 0, .int .i64 0, .int .i64 0, .int .i64 0]) (t := 57) ?hr ?_; (case hd => rfl); (case hg => rfl); (case hr => first | (go_simp; done) | (go_simp; rfl)); intro gN hgN w8 hbN hb8; have GN := Aside0.mk hgN; have B8 := Aside0.mk hb8; have BN8 := Aside0.mk hbN; have hz0 : w8.cell? ⟨gN, 0, none⟩ = some (.int .i64 0) := (blk_cell hbN 0).trans rfl; have hz1 : w8.cell? ⟨gN, 1, none⟩ = some (.int .i64 0) := (blk_cell hbN 1).trans rfl; have hz2 : w8.cell? ⟨gN, 2, none⟩ = some (.int .i64 0) := (blk_cell hbN 2).trans rfl; have hz3 : w8.cell? ⟨gN, 3, none⟩ = some (.int .i64 0) := (blk_cell hbN 3).trans rfl; have hf0 := blk_frozen hbN 0; have hf1 := blk_frozen hbN 1; have hf2 := blk_frozen hbN 2; have hf3 := blk_frozen hbN 3; clear hgN hb8 hbN) | ((with_reducible refine gate_store (t := 57) (p := 8) rfl ?_); refine store_event (t := 57) (p := 8) (v := ?vo) (w1 := ((((w8.setCell ⟨gN, 0, none⟩ (.int .i64 f0)).setCell ⟨gN, 1, none⟩ (.int .i64 f1)).setCell ⟨gN, 2, none⟩ (.int .i64 f2)).setCell ⟨gN, 3, none⟩ (.int .i64 f3))) ?hg ?ho ?hn ?hr ?_; (case ho => rfl); (case hg => rfl); (case hn => rfl); (case hr => first | (go_simp; done) | (go_simp; rfl)); intro w9 hw9; have BN9 := Aside0.mk (node_st BN8.out hw9); have B9 := Aside0.mk (node_bel B8.out GN.out hw9); have hn0 : w9.cell? ⟨gN, 0, none⟩ = some (.int .i64 f0) := (blk_cell BN9.out 0).trans rfl; have hn1 : w9.cell? ⟨gN, 1, none⟩ = some (.int .i64 f1) := (blk_cell BN9.out 1).trans rfl; have hn2 : w9.cell? ⟨gN, 2, none⟩ = some (.int .i64 f2) := (blk_cell BN9.out 2).trans rfl; have hn3 : w9.cell? ⟨gN, 3, none⟩ = some (.int .i64 f3) := (blk_cell BN9.out 3).trans rfl; have hT0 : w9.cell? ⟨gT, 0, none⟩ = some (.slice A0 a.length c0) := (blk_cell (blk_below BT.out B9.out) 0).trans rfl; have hT3 : w9.cell? ⟨gT, 3, none⟩ = some (.slice A3 ones.length c3) := (blk_cell (blk_below BT.out B9.out) 3).trans rfl; have hP9 : w9.cell? ⟨gP, 0, none⟩ = some (.slice (some ad) plan.length cp) := (blk_cell (blk_below BP.out B9.out) 0).trans rfl; have hU9 : w9.cell? ⟨w2.heap.size + 1, 0, none⟩ = some (.map (some w2.heap.size)) := (blk_cell (blk_below BU.out B9.out) 0).trans rfl; clear hw9 hz0 hz1 hz2 hz3 hf0 hf1 hf2 hf3) | (go_at_call 47; refine (within_n _ _ _ _).mono ?_; rintro e w5 ⟨rfl, rfl⟩; rw [HI1.out]) | (go_at_call 74; rw [HZ.out]; refine (enter_in hP9 hU9 (HM.out.below B9.out) HL.out.2 R2.out.1 R2.out.2 HMLT.out HV1.out).mono ?_; rintro e w10 ⟨rfl, hm1, hg⟩; have HM1 := Aside0.mk hm1; have HG := Aside0.mk hg; have hP10 : w10.cell? ⟨gP, 0, none⟩ = some (.slice (some ad) plan.length cp) := (blk_cell (blk_grown (blk_below BP.out B9.out) hg (far_ne NP.out)) 0).trans rfl; have hU10 : w10.cell? ⟨w2.heap.size + 1, 0, none⟩ = some (.map (some w2.heap.size)) := (blk_cell (blk_grown (blk_below BU.out B9.out) hg (far_ne NU.out)) 0).trans rfl; have hm0 : w10.cell? ⟨gN, 0, none⟩ = some (.int .i64 f0) := (blk_cell (blk_grown BN9.out hg (far_ne (NN.out _ GN.out))) 0).trans rfl; have hm1' : w10.cell? ⟨gN, 1, none⟩ = some (.int .i64 f1) := (blk_cell (blk_grown BN9.out hg (far_ne (NN.out _ GN.out))) 1).trans rfl; have hm2 : w10.cell? ⟨gN, 2, none⟩ = some (.int .i64 f2) := (blk_cell (blk_grown BN9.out hg (far_ne (NN.out _ GN.out))) 2).trans rfl; have hm3 : w10.cell? ⟨gN, 3, none⟩ = some (.int .i64 f3) := (blk_cell (blk_grown BN9.out hg (far_ne (NN.out _ GN.out))) 3).trans rfl; clear hm1 hg) | (go_at_call 74; refine (enter_out hP10 hU10 HM1.out HL.out.2 hi R3.out).mono ?_; rintro e w11 ⟨rfl, hg⟩; have HG2 := Aside0.mk hg; clear hg))
         go_ret
         exact ⟨by rw [PF.out]; rfl, bel_three BEL.out B9.out HG.out HG2.out HBB.out⟩
      ·have PF := Aside0.mk (planB_node (n := a.length) (nt := ones.length) hi (by rw [HX.out]; unfold nodeB; rw [if_neg h0]; simp; omega))
       have R2 := Aside0.mk r2
       clear r0 r1 r2 h0 hmo
       go_wp2_with (first | ((with_reducible refine gate_dst (N := 8) rfl ?_); refine box_event ?hg (N := 8) ?hd (cs := #[.int .i64 0, .int .i64 0, .int .i64 0, .int .i64 0]) (t := 57) ?hr ?_; (case hd => rfl); (case hg => rfl); (case hr => first | (go_simp; done) | (go_simp; rfl)); intro gN hgN w8 hbN hb8; have GN := Aside0.mk hgN; have B8 := Aside0.mk hb8; have BN8 := Aside0.mk hbN; have hz0 : w8.cell? ⟨gN, 0, none⟩ = some (.int .i64 0) := (blk_cell hbN 0).trans rfl; have hz1 : w8.cell? ⟨gN, 1, none⟩ = some (.int .i64 0) := (blk_cell hbN 1).trans rfl; have hz2 : w8.cell? ⟨gN, 2, none⟩ = some (.int .i64 0) := (blk_cell hbN 2).trans rfl; have hz3 : w8.cell? ⟨gN, 3, none⟩ = some (.int .i64 0) := (blk_cell hbN 3).trans rfl; have hf0 := blk_frozen hbN 0; have hf1 := blk_frozen hbN 1; have hf2 := blk_frozen hbN 2; have hf3 := blk_frozen hbN 3; clear hgN hb8 hbN) | ((with_reducible refine gate_store (t := 57) (p := 8) rfl ?_); refine store_event (t := 57) (p := 8) (v := ?vo) (w1 := ((((w8.setCell ⟨gN, 0, none⟩ (.int .i64 f0)).setCell ⟨gN, 1, none⟩ (.int .i64 f1)).setCell ⟨gN, 2, none⟩ (.int .i64 f2)).setCell ⟨gN, 3, none⟩ (.int .i64 f3))) ?hg ?ho ?hn ?hr ?_; (case ho => rfl); (case hg => rfl); (case hn => rfl); (case hr => first | (go_simp; done) | (go_simp; rfl)); intro w9 hw9; have BN9 := Aside0.mk (node_st BN8.out hw9); have B9 := Aside0.mk (node_bel B8.out GN.out hw9); have hn0 : w9.cell? ⟨gN, 0, none⟩ = some (.int .i64 f0) := (blk_cell BN9.out 0).trans rfl; have hn1 : w9.cell? ⟨gN, 1, none⟩ = some (.int .i64 f1) := (blk_cell BN9.out 1).trans rfl; have hn2 : w9.cell? ⟨gN, 2, none⟩ = some (.int .i64 f2) := (blk_cell BN9.out 2).trans rfl; have hn3 : w9.cell? ⟨gN, 3, none⟩ = some (.int .i64 f3) := (blk_cell BN9.out 3).trans rfl; have hT0 : w9.cell? ⟨gT, 0, none⟩ = some (.slice A0 a.length c0) := (blk_cell (blk_below BT.out B9.out) 0).trans rfl; have hT3 : w9.cell? ⟨gT, 3, none⟩ = some (.slice A3 ones.length c3) := (blk_cell (blk_below BT.out B9.out) 3).trans rfl; have hP9 : w9.cell? ⟨gP, 0, none⟩ = some (.slice (some ad) plan.length cp) := (blk_cell (blk_below BP.out B9.out) 0).trans rfl; have hU9 : w9.cell? ⟨w2.heap.size + 1, 0, none⟩ = some (.map (some w2.heap.size)) := (blk_cell (blk_below BU.out B9.out) 0).trans rfl; clear hw9 hz0 hz1 hz2 hz3 hf0 hf1 hf2 hf3) | (go_at_call 47; refine (within_n _ _ _ _).mono ?_; rintro e w5 ⟨rfl, rfl⟩; rw [HI1.out]) | (go_at_call 74; refine (enter_out hP9 hU9 (HM.out.below B9.out) HL.out.2 hi R2.out).mono ?_; rintro e w10 ⟨rfl, hg⟩; have HG := Aside0.mk hg; clear hg))
       go_ret
       exact ⟨by rw [PF.out]; rfl, bel_two BEL.out B9.out HG.out HBB.out⟩
     ·have hb1 : (f1 == 0) = false := beq_eq_false_iff_ne.mpr r1
      have hb1' : (f1 != 0) = true := bne_iff_ne.mpr r1
      have PF := Aside0.mk (planB_node (n := a.length) (nt := ones.length) hi (by rw [HX.out]; unfold nodeB; rw [if_neg h0]; simp; omega))
      clear r0 r1 h0 hmo
      go_wp2_with (first | ((with_reducible refine gate_dst (N := 8) rfl ?_); refine box_event ?hg (N := 8) ?hd (cs := #[.int .i64 0, .int .i64 0, .int .i64 0, .int .i64 0]) (t := 57) ?hr ?_; (case hd => rfl); (case hg => rfl); (case hr => first | (go_simp; done) | (go_simp; rfl)); intro gN hgN w8 hbN hb8; have GN := Aside0.mk hgN; have B8 := Aside0.mk hb8; have BN8 := Aside0.mk hbN; have hz0 : w8.cell? ⟨gN, 0, none⟩ = some (.int .i64 0) := (blk_cell hbN 0).trans rfl; have hz1 : w8.cell? ⟨gN, 1, none⟩ = some (.int .i64 0) := (blk_cell hbN 1).trans rfl; have hz2 : w8.cell? ⟨gN, 2, none⟩ = some (.int .i64 0) := (blk_cell hbN 2).trans rfl; have hz3 : w8.cell? ⟨gN, 3, none⟩ = some (.int .i64 0) := (blk_cell hbN 3).trans rfl; have hf0 := blk_frozen hbN 0; have hf1 := blk_frozen hbN 1; have hf2 := blk_frozen hbN 2; have hf3 := blk_frozen hbN 3; clear hgN hb8 hbN) | ((with_reducible refine gate_store (t := 57) (p := 8) rfl ?_); refine store_event (t := 57) (p := 8) (v := ?vo) (w1 := ((((w8.setCell ⟨gN, 0, none⟩ (.int .i64 f0)).setCell ⟨gN, 1, none⟩ (.int .i64 f1)).setCell ⟨gN, 2, none⟩ (.int .i64 f2)).setCell ⟨gN, 3, none⟩ (.int .i64 f3))) ?hg ?ho ?hn ?hr ?_; (case ho => rfl); (case hg => rfl); (case hn => rfl); (case hr => first | (go_simp; done) | (go_simp; rfl)); intro w9 hw9; have BN9 := Aside0.mk (node_st BN8.out hw9); have B9 := Aside0.mk (node_bel B8.out GN.out hw9); have hn0 : w9.cell? ⟨gN, 0, none⟩ = some (.int .i64 f0) := (blk_cell BN9.out 0).trans rfl; have hn1 : w9.cell? ⟨gN, 1, none⟩ = some (.int .i64 f1) := (blk_cell BN9.out 1).trans rfl; have hn2 : w9.cell? ⟨gN, 2, none⟩ = some (.int .i64 f2) := (blk_cell BN9.out 2).trans rfl; have hn3 : w9.cell? ⟨gN, 3, none⟩ = some (.int .i64 f3) := (blk_cell BN9.out 3).trans rfl; have hT0 : w9.cell? ⟨gT, 0, none⟩ = some (.slice A0 a.length c0) := (blk_cell (blk_below BT.out B9.out) 0).trans rfl; have hT3 : w9.cell? ⟨gT, 3, none⟩ = some (.slice A3 ones.length c3) := (blk_cell (blk_below BT.out B9.out) 3).trans rfl; clear hw9 hz0 hz1 hz2 hz3 hf0 hf1 hf2 hf3) | (go_at_call 47; refine (within_n _ _ _ _).mono ?_; rintro e w5 ⟨rfl, rfl⟩; rw [HI1.out]))
      go_ret
      exact ⟨by rw [PF.out]; rfl, below_step BEL.out B9.out⟩
    ·have HI1 := Aside0.mk (leaf_out r0 hmo)
     have PF := Aside0.mk (planB_node (n := a.length) (nt := ones.length) hi (by rw [HX.out]; unfold nodeB; rw [if_neg h0]; simp; omega))
     clear r0 h0 hmo
     go_wp2_with (first | ((with_reducible refine gate_dst (N := 8) rfl ?_); refine box_event ?hg (N := 8) ?hd (cs := #[.int .i64 0, .int .i64 0, .int .i64 0, .int .i64 0]) (t := 57) ?hr ?_; (case hd => rfl); (case hg => rfl); (case hr => first | (go_simp; done) | (go_simp; rfl)); intro gN hgN w8 hbN hb8; have GN := Aside0.mk hgN; have B8 := Aside0.mk hb8; have BN8 := Aside0.mk hbN; have hz0 : w8.cell? ⟨gN, 0, none⟩ = some (.int .i64 0) := (blk_cell hbN 0).trans rfl; have hz1 : w8.cell? ⟨gN, 1, none⟩ = some (.int .i64 0) := (blk_cell hbN 1).trans rfl; have hz2 : w8.cell? ⟨gN, 2, none⟩ = some (.int .i64 0) := (blk_cell hbN 2).trans rfl; have hz3 : w8.cell? ⟨gN, 3, none⟩ = some (.int .i64 0) := (blk_cell hbN 3).trans rfl; have hf0 := blk_frozen hbN 0; have hf1 := blk_frozen hbN 1; have hf2 := blk_frozen hbN 2; have hf3 := blk_frozen hbN 3; clear hgN hb8 hbN) | ((with_reducible refine gate_store (t := 57) (p := 8) rfl ?_); refine store_event (t := 57) (p := 8) (v := ?vo) (w1 := ((((w8.setCell ⟨gN, 0, none⟩ (.int .i64 f0)).setCell ⟨gN, 1, none⟩ (.int .i64 f1)).setCell ⟨gN, 2, none⟩ (.int .i64 f2)).setCell ⟨gN, 3, none⟩ (.int .i64 f3))) ?hg ?ho ?hn ?hr ?_; (case ho => rfl); (case hg => rfl); (case hn => rfl); (case hr => first | (go_simp; done) | (go_simp; rfl)); intro w9 hw9; have BN9 := Aside0.mk (node_st BN8.out hw9); have B9 := Aside0.mk (node_bel B8.out GN.out hw9); have hn0 : w9.cell? ⟨gN, 0, none⟩ = some (.int .i64 f0) := (blk_cell BN9.out 0).trans rfl; have hn1 : w9.cell? ⟨gN, 1, none⟩ = some (.int .i64 f1) := (blk_cell BN9.out 1).trans rfl; have hn2 : w9.cell? ⟨gN, 2, none⟩ = some (.int .i64 f2) := (blk_cell BN9.out 2).trans rfl; have hn3 : w9.cell? ⟨gN, 3, none⟩ = some (.int .i64 f3) := (blk_cell BN9.out 3).trans rfl; have hT0 : w9.cell? ⟨gT, 0, none⟩ = some (.slice A0 a.length c0) := (blk_cell (blk_below BT.out B9.out) 0).trans rfl; have hT3 : w9.cell? ⟨gT, 3, none⟩ = some (.slice A3 ones.length c3) := (blk_cell (blk_below BT.out B9.out) 3).trans rfl; clear hw9 hz0 hz1 hz2 hz3 hf0 hf1 hf2 hf3) | (go_at_call 47; refine (within_n _ _ _ _).mono ?_; rintro e w5 ⟨rfl, rfl⟩; rw [HI1.out]))
     go_ret
     exact ⟨by rw [PF.out]; rfl, below_step BEL.out B9.out⟩
  ·obtain rfl : i = plan.length := by have := HKQ.out; omega
   obtain ⟨bT, bP, bU, bel, ⟨g, m, hm, hm2, hu⟩, hok⟩ := HPA.out
   obtain ⟨q, hlen, hq⟩ := hm.len (t := 102) (e := 4) keyed3 Tryd.underlying102 3
   have hq2 := hq (usedL plan) (usedL_nodup plan) (usedL_iff hu)
   have HQ := Aside0.mk (plan_end HL.out.1 HL.out.2 hok hq2)
   have BEL := Aside0.mk bel
   have hP : wr.cell? ⟨gP, 0, none⟩ = some (.slice A plan.length cp) := (blk_cell bP 0).trans rfl
   have hU : wr.cell? ⟨w2.heap.size + 1, 0, none⟩ = some (.map (some w2.heap.size)) := (blk_cell bU 0).trans rfl
   clear bT bP bU bel hm hm2 hu hok hq hq2 HPA
   go_wp2
   go_ret
   exact ⟨by rw [HQ.out]; exact end_eq HL.out.1 HL.out.2, BEL.out⟩
end
theorem tests_trial_isPlan.calls (A0 : Option Addr) (c0 : Nat) (a : List Int) (A1 : Option Addr) (c1 : Nat) (b : List (List Int)) (A2 : Option Addr) (c2 : Nat) (c : List Int) (A3 : Option Addr) (c3 : Nat) (ones : List Int) (al : Int) (A : Option Addr) (cp : Nat) (plan : List S57) (r : Bool) (w : World)
  (h0 : Kd.C (Kd.int .i64) w A0 a.length a) (n0 : a.length ≤ c0) (h1 : Kd.C (Kd.slice 3 (Kd.int .i64)) w A1 b.length b) (n1 : b.length ≤ c1) (h2 : Kd.C (Kd.int .i64) w A2 c.length c) (n2 : c.length ≤ c2) (h3 : Kd.C (Kd.int .u64) w A3 ones.length ones) (n3 : ones.length ≤ c3) (h4 : Kd.C k57 w A plan.length plan) (n4 : plan.length ≤ cp) (h : tests_trial_isPlan.f a b c ones al plan = some r) :
  Calls Tryd.prog 65 #[.agg #[.slice A0 a.length c0, .slice A1 b.length c1, .slice A2 c.length c2, .slice A3 ones.length c3, .int .u64 al], .slice A plan.length cp] w fun e w' => e = .returned (.bool r) ∧ Below w.heap.size w w' := by
 obtain rfl := Option.some.inj h
 by_cases hl : 1 ≤ plan.length ∧ plan.length ≤ 1000
 ·exact plan_good (Kd.C_max h0) (Kd.C_max h3) hl h4
 ·have e : planB a.length ones.length plan = false := by
   unfold planB
   by_cases q : 1 ≤ plan.length
   ·rw [show decide (plan.length ≤ 1000) = false from decide_eq_false (fun q2 => hl ⟨q, q2⟩)]; simp
   ·rw [show decide (1 ≤ plan.length) = false from decide_eq_false q]; simp
  rw [e]
  exact plan_bad hl
end Go.Proofs.YtekmiepdodaidaaDoor.X
end
