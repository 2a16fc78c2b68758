/- Texts behind TestsMore, part 26: contracts of the program's functions and the plain words for them. -/
import Derived.Test.YtekmiepdodaidaaDoorTpas
import Derived.Test.YtekmiepdodaidaaDoorTpav
import Derived.Test.YtekmiepdodaidaaDoorTpaw
import Derived.Test.YtekmiepdodaidaaDoorTpay
section
namespace Go.Proofs.YtekmiepdodaidaaDoor.X
open Go.RowKit Go.Proofs.YtekmiepdodaidaaDoorW.PrintWords Go.Proofs.YtekmiepdodaidaaDoorW.PrintLast Go.Proofs.YtekmiepdodaidaaDoorW.PrintMore
attribute [local go_sem] max2_int min2_int max_two min_two max_three min_three max_four min_four   -- for this text's walks alone
set_option linter.unusedVariables false
set_option linter.unusedSimpArgs false

def tickinglaw07_own.l0 : Nat → Int → List Int → List (List Int) → List Int → List Int → List (List Int) → List Int → Option (List Int × (List (List Int)) × List Int)
 | 0, _, _, _, _, _, _, _ => none
 | k + 1, x4, x114000, x114001, x114002, x122000, x122001, x122002 => if x4 < (x114001.length : Int) then (if x4 < 14 then (if 0 ≤ x4 then ((tickinglaw07_list.f (rd_L1 x114001 x4)).bind fun t123 => (if x122001.length < 5864062014805 then (tickinglaw07_own.l0 k (wrap64 (x4 + 1)) x114000 x114001 x114002 x122000 (x122001 ++ [t123]) x122002) else (none))) else (none)) else (some (x122000, x122001, x122002))) else (some (x122000, x122001, x122002))
def tickinglaw07_own.f (k : Nat) (l0_0 : List Int) (l0_1 : List (List Int)) (l0_2 : List Int) : Option (List Int × (List (List Int)) × List Int) := (tickinglaw07_list.f l0_0).bind fun t115 => ((tickinglaw07_list.f l0_2).bind fun t118 => (tickinglaw07_own.l0 k 0 l0_0 l0_1 l0_2 t115 ([] : List (List Int)) t118))
def tickinglaw07_own.T1 : Bool × List (List Nat × List Nat) := (true, [([], []), ([0], [0]), ([1], [1]), ([], []), ([3], [3]), ([4, 2], [4]), ([2, 5], [2, 5]), ([], []), ([7, 6, 5, 0, 1, 2, 3, 4, 5, 6, 7], [6, 7])])
def tickinglaw07_own.B1 : List Nat := [0, 1, 3, 0, 8, 31, 63, 0, 255]
theorem tickinglaw07_own.tab1 : rtab .any (opsOf Tryd.f13 1) = tickinglaw07_own.T1 := by kernel_rfl
theorem tickinglaw07_own.bits1 : waitsOk tickinglaw07_own.T1.2 tickinglaw07_own.B1 = true := by kernel_rfl
set_option maxHeartbeats 8000000 in
set_option maxRecDepth 100000 in
theorem tickinglaw07_own.calls (k : Nat) (A0_0 : Option Addr) (c0_0 : Nat) (l0_0 : List Int) (A0_1 : Option Addr) (c0_1 : Nat) (l0_1 : List (List Int)) (A0_2 : Option Addr) (c0_2 : Nat) (l0_2 : List Int) (r1 : List Int) (r2 : List (List Int)) (r3 : List Int) (w : World) (hr0_0 : Kd.C (Kd.int .i64) w A0_0 l0_0.length l0_0) (hc0_0 : l0_0.length ≤ c0_0) (hr0_1 : Kd.C (Kd.slice 3 (Kd.int .i64)) w A0_1 l0_1.length l0_1) (hc0_1 : l0_1.length ≤ c0_1) (hr0_2 : Kd.C (Kd.int .i64) w A0_2 l0_2.length l0_2) (hc0_2 : l0_2.length ≤ c0_2) (h : tickinglaw07_own.f k l0_0 l0_1 l0_2 = some (r1, r2, r3)) :
  Calls Tryd.prog 13 #[.agg #[.slice A0_0 l0_0.length c0_0, .slice A0_1 l0_1.length c0_1, .slice A0_2 l0_2.length c0_2]] w fun e w' => ∃ v0_ v1_ v2_ : Value, e = .returned (.agg #[v0_, v1_, v2_]) ∧ Kd.R (Kd.int .i64) 3 w' w.heap.size (fun k_ => some k_ ≠ (v2_ : Value).ownBlock) v0_ r1 ∧ Kd.S (Kd.slice 3 (Kd.int .i64)) 22 w' w.heap.size (fun k_ => some k_ ≠ (v0_ : Value).ownBlock ∧ some k_ ≠ (v2_ : Value).ownBlock) v1_ r2 ∧ Kd.R (Kd.int .i64) 3 w' w.heap.size (fun k_ => some k_ ≠ (v0_ : Value).ownBlock) v2_ r3 ∧ Below w.heap.size w w' := by
 have hu25 := Tryd.underlying25
 have HR0_0 := Aside0.mk hr0_0
 have HC0_0 := Aside0.mk hc0_0
 clear hr0_0 hc0_0
 have HR0_1 := Aside0.mk hr0_1
 have HC0_1 := Aside0.mk hc0_1
 clear hr0_1 hc0_1
 have HR0_2 := Aside0.mk hr0_2
 have HC0_2 := Aside0.mk hc0_2
 clear hr0_2 hc0_2
 have HB := Aside0.mk (Below.refl w.heap.size w)
 have H : ((tickinglaw07_list.f l0_0).bind fun t115 => ((tickinglaw07_list.f l0_2).bind fun t118 => (tickinglaw07_own.l0 k 0 l0_0 l0_1 l0_2 t115 ([] : List (List Int)) t118))) = some (r1, r2, r3) := h
 clear h
 replace H := Option.bind_eq_some_iff.mp H
 obtain ⟨t115, A20, H⟩ := H
 replace H : ((tickinglaw07_list.f l0_2).bind fun t118 => (tickinglaw07_own.l0 k 0 l0_0 l0_1 l0_2 t115 ([] : List (List Int)) t118)) = some (r1, r2, r3) := H
 have A2 := Aside0.mk A20
 clear A20
 replace H := Option.bind_eq_some_iff.mp H
 obtain ⟨t118, A30, H⟩ := H
 replace H : (tickinglaw07_own.l0 k 0 l0_0 l0_1 l0_2 t115 ([] : List (List Int)) t118) = some (r1, r2, r3) := H
 have A3 := Aside0.mk A30
 clear A30
 have H' := Aside0.mk H
 clear H
 go_enter Tryd.func13, Tryd.ntmps13
 try go_wp2_with (first | ((with_reducible refine gate_dst (N := 1) rfl ?_); refine box_event ?hg (N := 1) ?hd (cs := #[.slice A0_0 l0_0.length c0_0, .slice A0_1 l0_1.length c0_1, .slice A0_2 l0_2.length c0_2]) (t := 25) ?hr ?_; (case hd => rfl); (case hg => rfl); (case hr => first | (go_simp; done) | (go_simp; rfl)); intro gb113 hg w4 hbox hb; have n0_ := Aside0.mk (below_step bz hb); have n1_ := Aside0.mk (hbox); have n2_ := Aside0.mk ((by rw [hg]; exact (below_size bz) : w.heap.size ≤ gb113)); have n3_ := Aside0.mk ((by rw [hg]; exact (below_size bz) : w.heap.size ≤ gb113)); clear HB; have HB := n0_; have BK113 := n1_; have GW113 := n2_; have GE113 := n3_; clear n0_ n1_ n2_ n3_; clear hb hbox hg) | ((with_reducible refine gate_dst (N := 2) rfl ?_); refine box_event ?hg (N := 2) ?hd (cs := #[.slice none 0 0, .slice none 0 0, .slice none 0 0]) (t := 25) ?hr ?_; (case hd => rfl); (case hg => rfl); (case hr => first | (go_simp; done) | (go_simp; rfl)); intro gb114 hg w5 hbox hb; have n0_ := Aside0.mk (kb BK113.out hb); have n1_ := Aside0.mk (below_step bz hb); have n2_ := Aside0.mk (hbox); have n3_ := Aside0.mk ((by rw [hg]; exact (below_size bz) : w.heap.size ≤ gb114)); have n4_ := Aside0.mk ((by rw [hg]; exact (below_size bz) : w.heap.size ≤ gb114)); have n5_ := Aside0.mk ((by rw [hg]; exact Nat.ne_of_lt (kl BK113.out) : gb113 ≠ gb114)); have n6_ := Aside0.mk ((by rw [hg]; exact Nat.ne_of_gt (kl BK113.out) : gb114 ≠ gb113)); clear BK113; clear HB; have BK113 := n0_; have HB := n1_; have BK114 := n2_; have GW114 := n3_; have GE114 := n4_; have NB113_114 := n5_; have NB114_113 := n6_; clear n0_ n1_ n2_ n3_ n4_ n5_ n6_; clear hb hbox hg))
 have n0_ := Aside0.mk (blk_drew BK113.out)
 have n1_ := Aside0.mk (blk_drew BK114.out)
 have n2_ := Aside0.mk (below_drew1 HB.out)
 clear BK113
 clear BK114
 clear HB
 have BK113 := n0_
 have BK114 := n1_
 have HB := n2_
 clear n0_ n1_ n2_
 refine start_ (n := 9) (S := fun w' => w'.cell? ⟨gb113, 0, none⟩ = some (.slice A0_0 l0_0.length c0_0) ∧ w'.cell? ⟨gb113, 1, none⟩ = some (.slice A0_1 l0_1.length c0_1) ∧ w'.cell? ⟨gb113, 2, none⟩ = some (.slice A0_2 l0_2.length c0_2)) (ds := []) #[false, false, false, false, false, false, false, false, false] (by kernel_rfl) rfl rfl ⟨(blk_cell BK113.out 0).trans rfl, (blk_cell BK113.out 1).trans rfl, (blk_cell BK113.out 2).trans rfl⟩ (fun hHeld => ?_); refine with_tabW tickinglaw07_own.tab1 tickinglaw07_own.bits1 (fun HT_ HW_ => ?_)
 generalize w5.drew = w6 at BK113 BK114 HB hHeld ⊢
 refine pure_ (i := 0) (N := some 6) (v := ?_) (a' := ?_) #[true, false, false, false, false, false, false, false, false] rfl rfl (any_of HT_.out (by kernel_rfl)) (fun _ _ _ h => h) (Or.inl ⟨by rfl, ?_⟩) ?_ ?_
 rotate_left
 ·intro w'
  go_simp
  with_reducible rfl
 rotate_left
 ·simp only [Act.put, List.setIfInBounds_toArray, List.set_cons_zero, List.set_cons_succ, i64_w, i32_w]
  rfl
 refine pure_ (i := 3) (N := some 9) (v := ?_) (a' := ?_) #[true, false, false, true, false, false, false, false, false] rfl rfl (any_of HT_.out (by kernel_rfl)) (fun _ _ _ h => h) (Or.inl ⟨by rfl, ?_⟩) ?_ ?_
 rotate_left
 ·intro w'
  go_simp
  with_reducible rfl
 rotate_left
 ·simp only [Act.put, List.setIfInBounds_toArray, List.set_cons_zero, List.set_cons_succ, i64_w, i32_w]
  rfl
 refine take_ (i := 1) (N := some 7) (v := ?_) (a' := ?_) #[true, true, false, true, false, false, false, false, false] rfl rfl (take_ofW HT_.out HW_.out (by kernel_rfl)) (fun _ _ _ h => h) (Or.inl ⟨by rfl, ?_⟩) hHeld ?_ ?_
 rotate_left
 ·rintro w' ⟨s0, s1, s2⟩
  go_simp
  with_reducible rfl
 rotate_left
 ·simp only [Act.put, List.setIfInBounds_toArray, List.set_cons_zero, List.set_cons_succ, i64_w, i32_w]
  rfl
 refine take_ (i := 4) (N := some 10) (v := ?_) (a' := ?_) #[true, true, false, true, true, false, false, false, false] rfl rfl (take_ofW HT_.out HW_.out (by kernel_rfl)) (fun _ _ _ h => h) (Or.inl ⟨by rfl, ?_⟩) hHeld ?_ ?_
 rotate_left
 ·rintro w' ⟨s0, s1, s2⟩
  go_simp
  with_reducible rfl
 rotate_left
 ·simp only [Act.put, List.setIfInBounds_toArray, List.set_cons_zero, List.set_cons_succ, i64_w, i32_w]
  rfl
 refine join_ (σ := Value × Value × Nat) 1 #[true, true, true, true, true, true, true, true, false] (fun s_ => [(8, s_.1), (11, s_.2.1), (3, .pointer (some ⟨s_.2.2, 0, none⟩)), (12, .agg #[s_.1, .slice none 0 0, s_.2.1])]) (fun s_ w' => (w'.cell? ⟨gb113, 0, none⟩ = some (.slice A0_0 l0_0.length c0_0) ∧ w'.cell? ⟨gb113, 1, none⟩ = some (.slice A0_1 l0_1.length c0_1) ∧ w'.cell? ⟨gb113, 2, none⟩ = some (.slice A0_2 l0_2.length c0_2)) ∧ (Kd.R (Kd.int .i64) 3 w' w.heap.size (fun k_ => some k_ ≠ (s_.2.1 : Value).ownBlock) s_.1 t115) ∧ (Kd.R (Kd.int .i64) 3 w' w.heap.size (fun k_ => some k_ ≠ (s_.1 : Value).ownBlock) s_.2.1 t118) ∧ (w'.heap[gb113]? = some (.cells #[.slice A0_0 l0_0.length c0_0, .slice A0_1 l0_1.length c0_1, .slice A0_2 l0_2.length c0_2] 25 (0, 0))) ∧ (w'.heap[gb114]? = some (.cells #[.slice none 0 0, .slice none 0 0, .slice none 0 0] 25 (0, 0))) ∧ (w'.heap[s_.2.2]? = some (.cells #[.slice none 0 0, .slice none 0 0, .slice none 0 0] 25 (0, 0))) ∧ (w.heap.size ≤ s_.2.2) ∧ (w.heap.size ≤ s_.2.2) ∧ (gb113 ≠ s_.2.2) ∧ (s_.2.2 ≠ gb113) ∧ (gb114 ≠ s_.2.2) ∧ (s_.2.2 ≠ gb114) ∧ (Below w.heap.size w w')) ?_ ?_
 rotate_left
 ·intro hCont
  refine two_ (i := 2) (j := 7) (Ni := some 8) (Nj := some 3) #[true, true, true, true, true, false, false, false, false] #[true, true, false, true, true, false, false, true, false] rfl rfl rfl rfl (two_of HT_.out (by kernel_rfl)) (by decide) (by decide) (fun K hK => ?_) (fun K hK => ?_)
  ·skip
   refine goes_ Tryd.func38 (by kernel_rfl) rfl #[.slice A0_0 l0_0.length c0_0] (by rfl) rfl rfl dz ?_
   with_reducible refine (tickinglaw07_list.calls _ _ l0_0 t115 _ ?side1 ?side2 A2.out).mono ?_
   (case side1 => exact cz ((Kd.C_below HR0_0.out HB.out)))
   (case side2 => exact HC0_0.out)
   rintro e w7 ⟨v116, rfl, ho0, hb⟩
   refine ⟨_, rfl, ?_⟩
   have n0_ := Aside0.mk (Kd.R_lower ho0 (below_size bz))
   have n1_ := Aside0.mk (kb BK113.out hb)
   have n2_ := Aside0.mk (kb BK114.out hb)
   have n3_ := Aside0.mk (below_step bz hb)
   clear BK113
   clear BK114
   clear HB
   have HO117 := n0_
   have BK113 := n1_
   have BK114 := n2_
   have HB := n3_
   clear n0_ n1_ n2_ n3_
   (try clear hb)
   (try clear hb2)
   (try clear hk)
   (try clear hi)
   (try clear ho0)
   refine hK.out _ _ ⟨(blk_cell BK113.out 0).trans rfl, (blk_cell BK113.out 1).trans rfl, (blk_cell BK113.out 2).trans rfl⟩ (fun hHeld => ?_)
   clear hK K
   refine norm_ (a' := ?_) ?_ ?_
   rotate_left
   ·show Act.put _ (some 8) _ = _
    simp only [Act.put, List.setIfInBounds_toArray, List.set_cons_zero, List.set_cons_succ, i64_w, i32_w]
    rfl
   refine two_ (i := 5) (j := 7) (Ni := some 11) (Nj := some 3) #[true, true, true, true, true, true, false, false, false] #[true, true, true, true, true, false, false, true, false] rfl rfl rfl rfl (two_of HT_.out (by kernel_rfl)) (by decide) (by decide) (fun K hK => ?_) (fun K hK => ?_)
   ·skip
    refine goes_ Tryd.func38 (by kernel_rfl) rfl #[.slice A0_2 l0_2.length c0_2] (by rfl) rfl rfl dz ?_
    with_reducible refine (tickinglaw07_list.calls _ _ l0_2 t118 _ ?side1 ?side2 A3.out).mono ?_
    (case side1 => exact cz ((Kd.C_below HR0_2.out HB.out)))
    (case side2 => exact HC0_2.out)
    rintro e w8 ⟨v119, rfl, ho0, hb⟩
    refine ⟨_, rfl, ?_⟩
    have n0_ := Aside0.mk (Kd.R_elder' (rz HO117.out) (Kd.R_base ho0) hb)
    have n1_ := Aside0.mk (Kd.R_lower (Kd.R_new' ho0 (Kd.R_lt (rz HO117.out))) (below_size bz))
    have n2_ := Aside0.mk (kb BK113.out hb)
    have n3_ := Aside0.mk (kb BK114.out hb)
    have n4_ := Aside0.mk (below_step bz hb)
    clear HO117
    clear BK113
    clear BK114
    clear HB
    have HO117 := n0_
    have HO120 := n1_
    have BK113 := n2_
    have BK114 := n3_
    have HB := n4_
    clear n0_ n1_ n2_ n3_ n4_
    (try clear hb)
    (try clear hb2)
    (try clear hk)
    (try clear hi)
    (try clear ho0)
    obtain ⟨Ao9, co9, eo9⟩ := Kd.R_slice HO120.out
    (first | subst eo9 | (injection eo9 with f1_ f2_ f3_; have f4_ := f1_.symm; have f5_ := f3_.symm; clear f1_ f2_ f3_; subst f4_; subst f5_))
    obtain ⟨Ao10, co10, eo10⟩ := Kd.R_slice HO117.out
    (first | subst eo10 | (injection eo10 with f1_ f2_ f3_; have f4_ := f1_.symm; have f5_ := f3_.symm; clear f1_ f2_ f3_; subst f4_; subst f5_))
    refine hK.out _ _ ⟨(blk_cell BK113.out 0).trans rfl, (blk_cell BK113.out 1).trans rfl, (blk_cell BK113.out 2).trans rfl⟩ (fun hHeld => ?_)
    clear hK K
    refine norm_ (a' := ?_) ?_ ?_
    rotate_left
    ·show Act.put _ (some 11) _ = _
     simp only [Act.put, List.setIfInBounds_toArray, List.set_cons_zero, List.set_cons_succ, i64_w, i32_w]
     rfl
    refine pure_ (i := 6) (N := some 12) (v := ?_) (a' := ?_) #[true, true, true, true, true, true, true, false, false] rfl rfl (any_of HT_.out (by kernel_rfl)) (fun _ _ _ h => h) (Or.inl ⟨by rfl, ?_⟩) ?_ ?_
    rotate_left
    ·intro w'
     go_simp
     with_reducible rfl
    rotate_left
    ·simp only [Act.put, List.setIfInBounds_toArray, List.set_cons_zero, List.set_cons_succ, i64_w, i32_w]
     rfl
    refine one_ (i := 7) (N := some 3) #[true, true, true, true, true, true, true, true, false] rfl rfl (one_of HT_.out (by kernel_rfl)) (by decide) (fun K hK => ?_)
    refine box_step ?hg (N := 3) ?hd (cs := #[.slice none 0 0, .slice none 0 0, .slice none 0 0]) (t := 25) ?hr ?_; (case hd => rfl); (case hg => rfl); (case hr => first | (go_simp; done) | (go_simp; rfl))
    intro gb121 hg w11 hbox hb
    have n0_ := Aside0.mk (Kd.R_below (rz HO117.out) hb)
    have n1_ := Aside0.mk (Kd.R_below (rz HO120.out) hb)
    have n2_ := Aside0.mk (kb BK113.out hb)
    have n3_ := Aside0.mk (kb BK114.out hb)
    have n4_ := Aside0.mk (below_step bz hb)
    have n5_ := Aside0.mk (hbox)
    have n6_ := Aside0.mk ((by rw [hg]; exact (below_size bz) : w.heap.size ≤ gb121))
    have n7_ := Aside0.mk ((by rw [hg]; exact (below_size bz) : w.heap.size ≤ gb121))
    have n8_ := Aside0.mk ((by rw [hg]; exact Nat.ne_of_lt (kl BK113.out) : gb113 ≠ gb121))
    have n9_ := Aside0.mk ((by rw [hg]; exact Nat.ne_of_gt (kl BK113.out) : gb121 ≠ gb113))
    have n10_ := Aside0.mk ((by rw [hg]; exact Nat.ne_of_lt (kl BK114.out) : gb114 ≠ gb121))
    have n11_ := Aside0.mk ((by rw [hg]; exact Nat.ne_of_gt (kl BK114.out) : gb121 ≠ gb114))
    clear HO117
    clear HO120
    clear BK113
    clear BK114
    clear HB
    have HO117 := n0_
    have HO120 := n1_
    have BK113 := n2_
    have BK114 := n3_
    have HB := n4_
    have BK121 := n5_
    have GW121 := n6_
    have GE121 := n7_
    have NB113_121 := n8_
    have NB121_113 := n9_
    have NB114_121 := n10_
    have NB121_114 := n11_
    clear n0_ n1_ n2_ n3_ n4_ n5_ n6_ n7_ n8_ n9_ n10_ n11_
    clear hb hbox hg
    refine hK.out _ _ ⟨(blk_cell BK113.out 0).trans rfl, (blk_cell BK113.out 1).trans rfl, (blk_cell BK113.out 2).trans rfl⟩ (fun hHeld => ?_)
    clear hK K
    refine norm_ (a' := ?_) ?_ ?_
    rotate_left
    ·show Act.put _ (some 3) _ = _
     simp only [Act.put, List.setIfInBounds_toArray, List.set_cons_zero, List.set_cons_succ, i64_w, i32_w]
     rfl
    exact norm_ (by simp only [putAll, Act.put, List.setIfInBounds_toArray, List.set_cons_zero, List.set_cons_succ]) (hCont (.slice Ao10 t115.length co10, .slice Ao9 t118.length co9, gb121) _ ⟨hHeld, (by (with_reducible repeat (first | apply Kd.R_alloc | apply Kd.R_drewN | apply Kd.R_drew)); exact Kd.R_mono HO117.out (fun _ hk => hk.2)), (by (with_reducible repeat (first | apply Kd.R_alloc | apply Kd.R_drewN | apply Kd.R_drew)); exact Kd.R_mono HO120.out (fun _ hk => hk.2)), (kz BK113.out), (kz BK114.out), (kz BK121.out), GW121.out, GE121.out, NB113_121.out, NB121_113.out, NB114_121.out, NB121_114.out, bz⟩)
   ·skip
    refine box_step ?hg (N := 3) ?hd (cs := #[.slice none 0 0, .slice none 0 0, .slice none 0 0]) (t := 25) ?hr ?_; (case hd => rfl); (case hg => rfl); (case hr => first | (go_simp; done) | (go_simp; rfl))
    intro gb121 hg w8 hbox hb
    have n0_ := Aside0.mk (Kd.R_below (rz HO117.out) hb)
    have n1_ := Aside0.mk (kb BK113.out hb)
    have n2_ := Aside0.mk (kb BK114.out hb)
    have n3_ := Aside0.mk (below_step bz hb)
    have n4_ := Aside0.mk (hbox)
    have n5_ := Aside0.mk ((by rw [hg]; exact (below_size bz) : w.heap.size ≤ gb121))
    have n6_ := Aside0.mk ((by rw [hg]; exact (below_size bz) : w.heap.size ≤ gb121))
    have n7_ := Aside0.mk ((by rw [hg]; exact Nat.ne_of_lt (kl BK113.out) : gb113 ≠ gb121))
    have n8_ := Aside0.mk ((by rw [hg]; exact Nat.ne_of_gt (kl BK113.out) : gb121 ≠ gb113))
    have n9_ := Aside0.mk ((by rw [hg]; exact Nat.ne_of_lt (kl BK114.out) : gb114 ≠ gb121))
    have n10_ := Aside0.mk ((by rw [hg]; exact Nat.ne_of_gt (kl BK114.out) : gb121 ≠ gb114))
    clear HO117
    clear BK113
    clear BK114
    clear HB
    have HO117 := n0_
    have BK113 := n1_
    have BK114 := n2_
    have HB := n3_
    have BK121 := n4_
    have GW121 := n5_
    have GE121 := n6_
    have NB113_121 := n7_
    have NB121_113 := n8_
    have NB114_121 := n9_
    have NB121_114 := n10_
    clear n0_ n1_ n2_ n3_ n4_ n5_ n6_ n7_ n8_ n9_ n10_
    clear hb hbox hg
    refine hK.out _ _ ⟨(blk_cell BK113.out 0).trans rfl, (blk_cell BK113.out 1).trans rfl, (blk_cell BK113.out 2).trans rfl⟩ (fun hHeld => ?_)
    clear hK K
    refine norm_ (a' := ?_) ?_ ?_
    rotate_left
    ·show Act.put _ (some 3) _ = _
     simp only [Act.put, List.setIfInBounds_toArray, List.set_cons_zero, List.set_cons_succ, i64_w, i32_w]
     rfl
    refine one_ (i := 5) (N := some 11) #[true, true, true, true, true, true, false, true, false] rfl rfl (one_of HT_.out (by kernel_rfl)) (by decide) (fun K hK => ?_)
    refine goes_ Tryd.func38 (by kernel_rfl) rfl #[.slice A0_2 l0_2.length c0_2] (by rfl) rfl rfl dz ?_
    with_reducible refine (tickinglaw07_list.calls _ _ l0_2 t118 _ ?side1 ?side2 A3.out).mono ?_
    (case side1 => exact cz ((Kd.C_below HR0_2.out HB.out)))
    (case side2 => exact HC0_2.out)
    rintro e w9 ⟨v119, rfl, ho0, hb⟩
    refine ⟨_, rfl, ?_⟩
    have n0_ := Aside0.mk (Kd.R_elder' (rz HO117.out) (Kd.R_base ho0) hb)
    have n1_ := Aside0.mk (Kd.R_lower (Kd.R_new' ho0 (Kd.R_lt (rz HO117.out))) (below_size bz))
    have n2_ := Aside0.mk (kb BK113.out hb)
    have n3_ := Aside0.mk (kb BK114.out hb)
    have n4_ := Aside0.mk (kb BK121.out hb)
    have n5_ := Aside0.mk (below_step bz hb)
    clear HO117
    clear BK113
    clear BK114
    clear BK121
    clear HB
    have HO117 := n0_
    have HO120 := n1_
    have BK113 := n2_
    have BK114 := n3_
    have BK121 := n4_
    have HB := n5_
    clear n0_ n1_ n2_ n3_ n4_ n5_
    (try clear hb)
    (try clear hb2)
    (try clear hk)
    (try clear hi)
    (try clear ho0)
    obtain ⟨Ao10, co10, eo10⟩ := Kd.R_slice HO120.out
    (first | subst eo10 | (injection eo10 with f1_ f2_ f3_; have f4_ := f1_.symm; have f5_ := f3_.symm; clear f1_ f2_ f3_; subst f4_; subst f5_))
    obtain ⟨Ao11, co11, eo11⟩ := Kd.R_slice HO117.out
    (first | subst eo11 | (injection eo11 with f1_ f2_ f3_; have f4_ := f1_.symm; have f5_ := f3_.symm; clear f1_ f2_ f3_; subst f4_; subst f5_))
    refine hK.out _ _ ⟨(blk_cell BK113.out 0).trans rfl, (blk_cell BK113.out 1).trans rfl, (blk_cell BK113.out 2).trans rfl⟩ (fun hHeld => ?_)
    clear hK K
    refine norm_ (a' := ?_) ?_ ?_
    rotate_left
    ·show Act.put _ (some 11) _ = _
     simp only [Act.put, List.setIfInBounds_toArray, List.set_cons_zero, List.set_cons_succ, i64_w, i32_w]
     rfl
    refine pure_ (i := 6) (N := some 12) (v := ?_) (a' := ?_) #[true, true, true, true, true, true, true, true, false] rfl rfl (any_of HT_.out (by kernel_rfl)) (fun _ _ _ h => h) (Or.inl ⟨by rfl, ?_⟩) ?_ ?_
    rotate_left
    ·intro w'
     go_simp
     with_reducible rfl
    rotate_left
    ·simp only [Act.put, List.setIfInBounds_toArray, List.set_cons_zero, List.set_cons_succ, i64_w, i32_w]
     rfl
    exact norm_ (by simp only [putAll, Act.put, List.setIfInBounds_toArray, List.set_cons_zero, List.set_cons_succ]) (hCont (.slice Ao11 t115.length co11, .slice Ao10 t118.length co10, gb121) _ ⟨hHeld, (by (with_reducible repeat (first | apply Kd.R_alloc | apply Kd.R_drewN | apply Kd.R_drew)); exact Kd.R_mono HO117.out (fun _ hk => hk.2)), (by (with_reducible repeat (first | apply Kd.R_alloc | apply Kd.R_drewN | apply Kd.R_drew)); exact Kd.R_mono HO120.out (fun _ hk => hk.2)), (kz BK113.out), (kz BK114.out), (kz BK121.out), GW121.out, GE121.out, NB113_121.out, NB121_113.out, NB114_121.out, NB121_114.out, bz⟩)
  ·skip
   refine box_step ?hg (N := 3) ?hd (cs := #[.slice none 0 0, .slice none 0 0, .slice none 0 0]) (t := 25) ?hr ?_; (case hd => rfl); (case hg => rfl); (case hr => first | (go_simp; done) | (go_simp; rfl))
   intro gb121 hg w7 hbox hb
   have n0_ := Aside0.mk (kb BK113.out hb)
   have n1_ := Aside0.mk (kb BK114.out hb)
   have n2_ := Aside0.mk (below_step bz hb)
   have n3_ := Aside0.mk (hbox)
   have n4_ := Aside0.mk ((by rw [hg]; exact (below_size bz) : w.heap.size ≤ gb121))
   have n5_ := Aside0.mk ((by rw [hg]; exact (below_size bz) : w.heap.size ≤ gb121))
   have n6_ := Aside0.mk ((by rw [hg]; exact Nat.ne_of_lt (kl BK113.out) : gb113 ≠ gb121))
   have n7_ := Aside0.mk ((by rw [hg]; exact Nat.ne_of_gt (kl BK113.out) : gb121 ≠ gb113))
   have n8_ := Aside0.mk ((by rw [hg]; exact Nat.ne_of_lt (kl BK114.out) : gb114 ≠ gb121))
   have n9_ := Aside0.mk ((by rw [hg]; exact Nat.ne_of_gt (kl BK114.out) : gb121 ≠ gb114))
   clear BK113
   clear BK114
   clear HB
   have BK113 := n0_
   have BK114 := n1_
   have HB := n2_
   have BK121 := n3_
   have GW121 := n4_
   have GE121 := n5_
   have NB113_121 := n6_
   have NB121_113 := n7_
   have NB114_121 := n8_
   have NB121_114 := n9_
   clear n0_ n1_ n2_ n3_ n4_ n5_ n6_ n7_ n8_ n9_
   clear hb hbox hg
   refine hK.out _ _ ⟨(blk_cell BK113.out 0).trans rfl, (blk_cell BK113.out 1).trans rfl, (blk_cell BK113.out 2).trans rfl⟩ (fun hHeld => ?_)
   clear hK K
   refine norm_ (a' := ?_) ?_ ?_
   rotate_left
   ·show Act.put _ (some 3) _ = _
    simp only [Act.put, List.setIfInBounds_toArray, List.set_cons_zero, List.set_cons_succ, i64_w, i32_w]
    rfl
   refine one_ (i := 2) (N := some 8) #[true, true, true, true, true, false, false, true, false] rfl rfl (one_of HT_.out (by kernel_rfl)) (by decide) (fun K hK => ?_)
   refine goes_ Tryd.func38 (by kernel_rfl) rfl #[.slice A0_0 l0_0.length c0_0] (by rfl) rfl rfl dz ?_
   with_reducible refine (tickinglaw07_list.calls _ _ l0_0 t115 _ ?side1 ?side2 A2.out).mono ?_
   (case side1 => exact cz ((Kd.C_below HR0_0.out HB.out)))
   (case side2 => exact HC0_0.out)
   rintro e w8 ⟨v116, rfl, ho0, hb⟩
   refine ⟨_, rfl, ?_⟩
   have n0_ := Aside0.mk (Kd.R_lower ho0 (below_size bz))
   have n1_ := Aside0.mk (kb BK113.out hb)
   have n2_ := Aside0.mk (kb BK114.out hb)
   have n3_ := Aside0.mk (kb BK121.out hb)
   have n4_ := Aside0.mk (below_step bz hb)
   clear BK113
   clear BK114
   clear BK121
   clear HB
   have HO117 := n0_
   have BK113 := n1_
   have BK114 := n2_
   have BK121 := n3_
   have HB := n4_
   clear n0_ n1_ n2_ n3_ n4_
   (try clear hb)
   (try clear hb2)
   (try clear hk)
   (try clear hi)
   (try clear ho0)
   refine hK.out _ _ ⟨(blk_cell BK113.out 0).trans rfl, (blk_cell BK113.out 1).trans rfl, (blk_cell BK113.out 2).trans rfl⟩ (fun hHeld => ?_)
   clear hK K
   refine norm_ (a' := ?_) ?_ ?_
   rotate_left
   ·show Act.put _ (some 8) _ = _
    simp only [Act.put, List.setIfInBounds_toArray, List.set_cons_zero, List.set_cons_succ, i64_w, i32_w]
    rfl
   refine one_ (i := 5) (N := some 11) #[true, true, true, true, true, true, false, true, false] rfl rfl (one_of HT_.out (by kernel_rfl)) (by decide) (fun K hK => ?_)
   refine goes_ Tryd.func38 (by kernel_rfl) rfl #[.slice A0_2 l0_2.length c0_2] (by rfl) rfl rfl dz ?_
   with_reducible refine (tickinglaw07_list.calls _ _ l0_2 t118 _ ?side1 ?side2 A3.out).mono ?_
   (case side1 => exact cz ((Kd.C_below HR0_2.out HB.out)))
   (case side2 => exact HC0_2.out)
   rintro e w9 ⟨v119, rfl, ho0, hb⟩
   refine ⟨_, rfl, ?_⟩
   have n0_ := Aside0.mk (Kd.R_elder' (rz HO117.out) (Kd.R_base ho0) hb)
   have n1_ := Aside0.mk (Kd.R_lower (Kd.R_new' ho0 (Kd.R_lt (rz HO117.out))) (below_size bz))
   have n2_ := Aside0.mk (kb BK113.out hb)
   have n3_ := Aside0.mk (kb BK114.out hb)
   have n4_ := Aside0.mk (kb BK121.out hb)
   have n5_ := Aside0.mk (below_step bz hb)
   clear HO117
   clear BK113
   clear BK114
   clear BK121
   clear HB
   have HO117 := n0_
   have HO120 := n1_
   have BK113 := n2_
   have BK114 := n3_
   have BK121 := n4_
   have HB := n5_
   clear n0_ n1_ n2_ n3_ n4_ n5_
   (try clear hb)
   (try clear hb2)
   (try clear hk)
   (try clear hi)
   (try clear ho0)
   obtain ⟨Ao10, co10, eo10⟩ := Kd.R_slice HO120.out
   (first | subst eo10 | (injection eo10 with f1_ f2_ f3_; have f4_ := f1_.symm; have f5_ := f3_.symm; clear f1_ f2_ f3_; subst f4_; subst f5_))
   obtain ⟨Ao11, co11, eo11⟩ := Kd.R_slice HO117.out
   (first | subst eo11 | (injection eo11 with f1_ f2_ f3_; have f4_ := f1_.symm; have f5_ := f3_.symm; clear f1_ f2_ f3_; subst f4_; subst f5_))
   refine hK.out _ _ ⟨(blk_cell BK113.out 0).trans rfl, (blk_cell BK113.out 1).trans rfl, (blk_cell BK113.out 2).trans rfl⟩ (fun hHeld => ?_)
   clear hK K
   refine norm_ (a' := ?_) ?_ ?_
   rotate_left
   ·show Act.put _ (some 11) _ = _
    simp only [Act.put, List.setIfInBounds_toArray, List.set_cons_zero, List.set_cons_succ, i64_w, i32_w]
    rfl
   refine pure_ (i := 6) (N := some 12) (v := ?_) (a' := ?_) #[true, true, true, true, true, true, true, true, false] rfl rfl (any_of HT_.out (by kernel_rfl)) (fun _ _ _ h => h) (Or.inl ⟨by rfl, ?_⟩) ?_ ?_
   rotate_left
   ·intro w'
    go_simp
    with_reducible rfl
   rotate_left
   ·simp only [Act.put, List.setIfInBounds_toArray, List.set_cons_zero, List.set_cons_succ, i64_w, i32_w]
    rfl
   exact norm_ (by simp only [putAll, Act.put, List.setIfInBounds_toArray, List.set_cons_zero, List.set_cons_succ]) (hCont (.slice Ao11 t115.length co11, .slice Ao10 t118.length co10, gb121) _ ⟨hHeld, (by (with_reducible repeat (first | apply Kd.R_alloc | apply Kd.R_drewN | apply Kd.R_drew)); exact Kd.R_mono HO117.out (fun _ hk => hk.2)), (by (with_reducible repeat (first | apply Kd.R_alloc | apply Kd.R_drewN | apply Kd.R_drew)); exact Kd.R_mono HO120.out (fun _ hk => hk.2)), (kz BK113.out), (kz BK114.out), (kz BK121.out), GW121.out, GE121.out, NB113_121.out, NB121_113.out, NB114_121.out, NB121_114.out, bz⟩)
 rintro ⟨v116, v119, gb121⟩ w12 ⟨hS_, h0_, h1_, h2_, h3_, h4_, h5_, h6_, h7_, h8_, h9_, h10_, h11_⟩
 have n0_ : Aside0 (Kd.R (Kd.int .i64) 3 w12 w.heap.size (fun k_ => some k_ ≠ (v119 : Value).ownBlock) v116 t115) := ⟨h0_⟩
 have n1_ : Aside0 (Kd.R (Kd.int .i64) 3 w12 w.heap.size (fun k_ => some k_ ≠ (v116 : Value).ownBlock) v119 t118) := ⟨h1_⟩
 have n2_ : Aside0 (w12.heap[gb113]? = some (.cells #[.slice A0_0 l0_0.length c0_0, .slice A0_1 l0_1.length c0_1, .slice A0_2 l0_2.length c0_2] 25 (0, 0))) := ⟨h2_⟩
 have n3_ : Aside0 (w12.heap[gb114]? = some (.cells #[.slice none 0 0, .slice none 0 0, .slice none 0 0] 25 (0, 0))) := ⟨h3_⟩
 have n4_ : Aside0 (w12.heap[gb121]? = some (.cells #[.slice none 0 0, .slice none 0 0, .slice none 0 0] 25 (0, 0))) := ⟨h4_⟩
 have n5_ : Aside0 (w.heap.size ≤ gb121) := ⟨h5_⟩
 have n6_ : Aside0 (w.heap.size ≤ gb121) := ⟨h6_⟩
 have n7_ : Aside0 (gb113 ≠ gb121) := ⟨h7_⟩
 have n8_ : Aside0 (gb121 ≠ gb113) := ⟨h8_⟩
 have n9_ : Aside0 (gb114 ≠ gb121) := ⟨h9_⟩
 have n10_ : Aside0 (gb121 ≠ gb114) := ⟨h10_⟩
 have n11_ : Aside0 (Below w.heap.size w w12) := ⟨h11_⟩
 clear BK113
 clear BK114
 clear HB
 clear h0_ h1_ h2_ h3_ h4_ h5_ h6_ h7_ h8_ h9_ h10_ h11_
 have HO117 := n0_
 have HO120 := n1_
 have BK113 := n2_
 have BK114 := n3_
 have BK121 := n4_
 have GW121 := n5_
 have GE121 := n6_
 have NB113_121 := n7_
 have NB121_113 := n8_
 have NB114_121 := n9_
 have NB121_114 := n10_
 have HB := n11_
 clear n0_ n1_ n2_ n3_ n4_ n5_ n6_ n7_ n8_ n9_ n10_ n11_
 have hHeld : w12.cell? ⟨gb113, 0, none⟩ = some (.slice A0_0 l0_0.length c0_0) ∧ w12.cell? ⟨gb113, 1, none⟩ = some (.slice A0_1 l0_1.length c0_1) ∧ w12.cell? ⟨gb113, 2, none⟩ = some (.slice A0_2 l0_2.length c0_2) := hS_
 obtain ⟨Ao13, co13, eo13⟩ := Kd.R_slice HO120.out
 (first | subst eo13 | (injection eo13 with f1_ f2_ f3_; have f4_ := f1_.symm; have f5_ := f3_.symm; clear f1_ f2_ f3_; subst f4_; subst f5_))
 obtain ⟨Ao14, co14, eo14⟩ := Kd.R_slice HO117.out
 (first | subst eo14 | (injection eo14 with f1_ f2_ f3_; have f4_ := f1_.symm; have f5_ := f3_.symm; clear f1_ f2_ f3_; subst f4_; subst f5_))
 refine norm_ (a' := ?_) ?_ ?_
 rotate_left
 ·simp only [putAll, Act.put, List.setIfInBounds_toArray, List.set_cons_zero, List.set_cons_succ]
  rfl
 refine one_ (i := 8) (N := none) #[true, true, true, true, true, true, true, true, true] rfl rfl (one_of HT_.out (by kernel_rfl)) (by decide) (fun K hK => ?_)
 have hs15 : w12.cell? ⟨gb121, 0, none⟩ = some (.slice none 0 0) := (blk_cell BK121.out 0).trans rfl
 have hfs15 := blk_frozen BK121.out 0
 have hns15_0 := NB113_121.out
 have hns15_1 := NB114_121.out
 have hms15_0 := NB121_113.out
 have hms15_1 := NB121_114.out
 have hs16 : w12.cell? ⟨gb121, 1, none⟩ = some (.slice none 0 0) := (blk_cell BK121.out 1).trans rfl
 have hfs16 := blk_frozen BK121.out 1
 have hns16_0 := NB113_121.out
 have hns16_1 := NB114_121.out
 have hms16_0 := NB121_113.out
 have hms16_1 := NB121_114.out
 have hs17 : w12.cell? ⟨gb121, 2, none⟩ = some (.slice none 0 0) := (blk_cell BK121.out 2).trans rfl
 have hfs17 := blk_frozen BK121.out 2
 have hns17_0 := NB113_121.out
 have hns17_1 := NB114_121.out
 have hms17_0 := NB121_113.out
 have hms17_1 := NB121_114.out
 refine skip_ (w1 := ?_) (by rfl) rfl ?_ ?_
 rotate_left
 ·go_simp
  rfl
 refine hK.out _ _ ⟨((cell_far (p := ⟨gb121, _, none⟩) NB113_121.out _).trans (((cell_far (p := ⟨gb121, _, none⟩) NB113_121.out _).trans (((cell_far (p := ⟨gb121, _, none⟩) NB113_121.out _).trans (hHeld.1)))))), ((cell_far (p := ⟨gb121, _, none⟩) NB113_121.out _).trans (((cell_far (p := ⟨gb121, _, none⟩) NB113_121.out _).trans (((cell_far (p := ⟨gb121, _, none⟩) NB113_121.out _).trans (hHeld.2.1)))))), ((cell_far (p := ⟨gb121, _, none⟩) NB113_121.out _).trans (((cell_far (p := ⟨gb121, _, none⟩) NB113_121.out _).trans (((cell_far (p := ⟨gb121, _, none⟩) NB113_121.out _).trans (hHeld.2.2))))))⟩ (fun hHeld => ?_)
 clear hK K
 refine done_ (done_of HT_.out (by kernel_rfl)) ?_
 try go_wp2
 go_loopg [4] k (fun kq v4 w' => ∃ (x4_1 : Int) (x122001_1 : List (List Int)) (u122001 : Value), v4 = .int .i64 x4_1 ∧ Aside0 (tickinglaw07_own.l0 kq x4_1 l0_0 l0_1 l0_2 t115 x122001_1 t118 = some (r1, r2, r3)) ∧ Aside0 (kq ≤ k) ∧ Aside0 (Kd.R (Kd.int .i64) 3 w' w.heap.size (fun k_ => some k_ ≠ ((.slice Ao13 t118.length co13) : Value).ownBlock) (.slice Ao14 t115.length co14) t115) ∧ Aside0 (Kd.S (Kd.slice 3 (Kd.int .i64)) 22 w' w.heap.size (fun k_ => some k_ ≠ ((.slice Ao14 t115.length co14) : Value).ownBlock ∧ some k_ ≠ ((.slice Ao13 t118.length co13) : Value).ownBlock) u122001 x122001_1) ∧ Aside0 (Kd.R (Kd.int .i64) 3 w' w.heap.size (fun k_ => some k_ ≠ ((.slice Ao14 t115.length co14) : Value).ownBlock) (.slice Ao13 t118.length co13) t118) ∧ Aside0 (w'.heap[gb113]? = some (.cells #[(.slice A0_0 l0_0.length c0_0), (.slice A0_1 l0_1.length c0_1), (.slice A0_2 l0_2.length c0_2)] 25 (0, 0))) ∧ Aside0 (w'.heap[gb114]? = some (.cells #[(.slice none 0 0), (.slice none 0 0), (.slice none 0 0)] 25 (0, 0))) ∧ Aside0 (w'.heap[gb121]? = some (.cells #[(.slice Ao14 t115.length co14), u122001, (.slice Ao13 t118.length co13)] 25 (0, 0))) ∧ Aside0 (Below w.heap.size w w'))
 case atStart => exact ⟨(0), (([] : List (List Int))), (.slice none 0 0), (by first | rfl | (simp; done) | (simp [*]; done)), H', ⟨Nat.le_refl _⟩, ⟨by (with_reducible repeat (first | apply Kd.R_alloc | apply Kd.R_drewN | apply Kd.R_drew)); exact Kd.R_mono (Kd.R_far (p := ⟨gb121, 2, none⟩) (Kd.R_far (p := ⟨gb121, 1, none⟩) (Kd.R_far (p := ⟨gb121, 0, none⟩) (Kd.R_types HO117.out BK121.out (by decide)) (fun _ hk => hk.2) (.slice Ao14 t115.length co14)) (fun _ hk => hk.2) (.slice none 0 0)) (fun _ hk => hk.2) (.slice Ao13 t118.length co13)) (fun _ hk => hk.1)⟩, ⟨by first | exact Kd.S_nil _ _ _ _ _ | exact Kd.N_nil _ _ _ _ _ | exact Kd.V_nil _ _ _ _ _ | exact Kd.Q_nil _ _ _ _ _ | exact Kd.R_nil _ _ _ _ _⟩, ⟨by (with_reducible repeat (first | apply Kd.R_alloc | apply Kd.R_drewN | apply Kd.R_drew)); exact Kd.R_mono (Kd.R_far (p := ⟨gb121, 2, none⟩) (Kd.R_far (p := ⟨gb121, 1, none⟩) (Kd.R_far (p := ⟨gb121, 0, none⟩) (Kd.R_types HO120.out BK121.out (by decide)) (fun _ hk => hk.2) (.slice Ao14 t115.length co14)) (fun _ hk => hk.2) (.slice none 0 0)) (fun _ hk => hk.2) (.slice Ao13 t118.length co13)) (fun _ hk => hk.1)⟩, ⟨by (with_reducible repeat (first | refine blk_drewN ?_ _ | refine blk_drew ?_ | refine blk_alloc ?_ _)); refine blk_far ?_ NB113_121.out _; (with_reducible repeat (first | refine blk_drewN ?_ _ | refine blk_drew ?_ | refine blk_alloc ?_ _)); refine blk_far ?_ NB113_121.out _; (with_reducible repeat (first | refine blk_drewN ?_ _ | refine blk_drew ?_ | refine blk_alloc ?_ _)); refine blk_far ?_ NB113_121.out _; (with_reducible repeat (first | refine blk_drewN ?_ _ | refine blk_drew ?_ | refine blk_alloc ?_ _)); exact BK113.out⟩, ⟨by (with_reducible repeat (first | refine blk_drewN ?_ _ | refine blk_drew ?_ | refine blk_alloc ?_ _)); refine blk_far ?_ NB114_121.out _; (with_reducible repeat (first | refine blk_drewN ?_ _ | refine blk_drew ?_ | refine blk_alloc ?_ _)); refine blk_far ?_ NB114_121.out _; (with_reducible repeat (first | refine blk_drewN ?_ _ | refine blk_drew ?_ | refine blk_alloc ?_ _)); refine blk_far ?_ NB114_121.out _; (with_reducible repeat (first | refine blk_drewN ?_ _ | refine blk_drew ?_ | refine blk_alloc ?_ _)); exact BK114.out⟩, ⟨by (with_reducible repeat (first | refine blk_drewN ?_ _ | refine blk_drew ?_ | refine blk_alloc ?_ _)); refine blk_put (cs := #[.slice Ao14 t115.length co14, .slice none 0 0, .slice none 0 0]) ?_ 2 _ rfl; (with_reducible repeat (first | refine blk_drewN ?_ _ | refine blk_drew ?_ | refine blk_alloc ?_ _)); refine blk_put (cs := #[.slice Ao14 t115.length co14, .slice none 0 0, .slice none 0 0]) ?_ 1 _ rfl; (with_reducible repeat (first | refine blk_drewN ?_ _ | refine blk_drew ?_ | refine blk_alloc ?_ _)); refine blk_put (cs := #[.slice none 0 0, .slice none 0 0, .slice none 0 0]) ?_ 0 _ rfl; (with_reducible repeat (first | refine blk_drewN ?_ _ | refine blk_drew ?_ | refine blk_alloc ?_ _)); exact BK121.out⟩, ⟨by repeat (first | (with_reducible first | exact HB.out | apply below_alloc | apply pw_below_drewN | apply below_drew1 | refine below_set ?_ GE113.out | refine below_set ?_ GE114.out | refine below_set ?_ GE121.out) | exact HB.out)⟩⟩
 case round =>
  clear H'
  try clear c1
  try clear p2
  try clear c3
  try clear c13
  obtain ⟨x4_1, x122001_1, u122001, rfl, HA, HK1, HO_122000, HO_122001, HO_122002, BK113, BK114, BK121, HB⟩ := hrel
  cases gk with
  | zero => exact absurd HA.out (by simp [tickinglaw07_own.l0])
  | succ k1 =>
   have H := HA.out
   clear HA
   simp only [tickinglaw07_own.l0] at H
   by_cases c18 : x4_1 < (l0_1.length : Int)
   ·rw [if_pos c18] at H
    have c18b0 : decide (x4_1 < (l0_1.length : Int)) = true := decide_eq_true c18
    clear c18
    by_cases c19 : x4_1 < 14
    ·rw [if_pos c19] at H
     have c19b0 : decide (x4_1 < 14) = true := decide_eq_true c19
     clear c19
     by_cases c20 : 0 ≤ x4_1
     ·rw [if_pos c20] at H
      have c20b0 : decide (0 ≤ x4_1) = true := decide_eq_true c20
      clear c20
      replace H := Option.bind_eq_some_iff.mp H
      obtain ⟨t123, A210, H⟩ := H
      replace H : (if x122001_1.length < 5864062014805 then (tickinglaw07_own.l0 k1 (wrap64 (x4_1 + 1)) l0_0 l0_1 l0_2 t115 (x122001_1 ++ [t123]) t118) else (none)) = some (r1, r2, r3) := H
      have A21 := Aside0.mk A210
      clear A210
      by_cases c22 : x122001_1.length < 5864062014805
      ·rw [if_pos c22] at H
       have LMc22 := Aside0.mk c22
       clear c22
       obtain ⟨y126, hy126⟩ : ∃ y_ : List (List Int), y_ = (x122001_1 ++ [t123]) := ⟨_, rfl⟩
       replace H : (tickinglaw07_own.l0 k1 (wrap64 (x4_1 + 1)) l0_0 l0_1 l0_2 t115 y126 t118) = some (r1, r2, r3) := by first | (rw [hy126]; with_reducible exact H) | (have H2_ := (Option.bind_some _ _).symm.trans H; rw [hy126]; with_reducible exact H2_) | (have H2_ := (Option.bind_some _ _).symm.trans H; with_reducible exact H2_) | with_reducible exact H | (rw [hy126]; exact H) | exact H
       have Ny126 := Aside0.mk hy126
       clear hy126
       have H' := Aside0.mk H
       clear H
       have hnb23 := NB113_114.out
       have hnc23 := NB114_113.out
       have hnb24 := NB113_121.out
       have hnc24 := NB121_113.out
       have hcz25_0 : wr.cell? ⟨gb113, 0, none⟩ = some (.slice A0_0 l0_0.length c0_0) := (blk_cell BK113.out 0).trans rfl
       have hcz25_1 : wr.cell? ⟨gb113, 1, none⟩ = some (.slice A0_1 l0_1.length c0_1) := (blk_cell BK113.out 1).trans rfl
       have hcz25_2 : wr.cell? ⟨gb113, 2, none⟩ = some (.slice A0_2 l0_2.length c0_2) := (blk_cell BK113.out 2).trans rfl
       have hfz25_0 := blk_frozen BK113.out 0
       have hfz25_1 := blk_frozen BK113.out 1
       have hfz25_2 := blk_frozen BK113.out 2
       have hnb26 := NB121_114.out
       have hnc26 := NB114_121.out
       have hcz27_0 : wr.cell? ⟨gb121, 0, none⟩ = some (.slice Ao14 t115.length co14) := (blk_cell BK121.out 0).trans rfl
       have hcz27_1 : wr.cell? ⟨gb121, 1, none⟩ = some (u122001) := (blk_cell BK121.out 1).trans rfl
       have hcz27_2 : wr.cell? ⟨gb121, 2, none⟩ = some (.slice Ao13 t118.length co13) := (blk_cell BK121.out 2).trans rfl
       have hfz27_0 := blk_frozen BK121.out 0
       have hfz27_1 := blk_frozen BK121.out 1
       have hfz27_2 := blk_frozen BK121.out 2
       have p122 : 0 ≤ (x4_1 : Int) := of_decide_eq_true az
       have q122 : x4_1 < (l0_1.length : Int) := of_decide_eq_true az
       obtain ⟨ad122, A122_0, c122_0, e122, hx122_0, hl122_0, hi122_0⟩ := at_L1 HR0_1.out x4_1 p122 q122
       cases e122
       replace hx122_0 := (HB.out.cell (World.block_lt_of_cell? w _ hx122_0)).trans hx122_0
       have HR122_0 := Aside0.mk hi122_0
       have HC122_0 := Aside0.mk hl122_0
       clear hi122_0 hl122_0
       replace p122 := eq_true p122
       replace q122 := eq_true q122
       go_wp2_with (first | ((with_reducible refine gate_callee (f := 38) rfl ?_); refine goesL_ (some 32) rfl rfl Tryd.func38 (by kernel_rfl) rfl #[.slice A122_0 (rd_L1 l0_1 x4_1).length c122_0] rfl dz ?_; (with_reducible refine (tickinglaw07_list.calls _ _ (rd_L1 l0_1 x4_1) t123 _ ?side1 ?side2 A21.out).mono ?_); (case side1 => exact cz ((Kd.C_below HR122_0.out HB.out))); (case side2 => exact HC122_0.out); rintro e w28 ⟨v124, rfl, ho0, hb⟩; refine ⟨_, rfl, ?_⟩; have n0_ := Aside0.mk (Kd.R_elder' (rz HO_122000.out) (Kd.R_base ho0) hb); have n1_ := Aside0.mk (Kd.S_elder' (sz HO_122001.out) (Kd.R_base ho0) hb); have n2_ := Aside0.mk (Kd.R_elder' (rz HO_122002.out) (Kd.R_base ho0) hb); have n3_ := Aside0.mk (Kd.R_lower (Kd.R_new' (Kd.R_new' ho0 (Kd.R_lt (rz HO_122000.out))) (Kd.R_lt (rz HO_122002.out))) (below_size bz)); have n4_ := Aside0.mk (kb BK113.out hb); have n5_ := Aside0.mk (kb BK114.out hb); have n6_ := Aside0.mk (kb BK121.out hb); have n7_ := Aside0.mk (below_step bz hb); clear HO_122000; clear HO_122001; clear HO_122002; clear BK113; clear BK114; clear BK121; clear HB; have HO_122000 := n0_; have HO_122001 := n1_; have HO_122002 := n2_; have HO125 := n3_; have BK113 := n4_; have BK114 := n5_; have BK121 := n6_; have HB := n7_; clear n0_ n1_ n2_ n3_ n4_ n5_ n6_ n7_; (try clear hb); (try clear hb2); (try clear hk); (try clear hi); (try clear ho0); obtain ⟨Ao30, co30, eo30⟩ := Kd.R_slice HO125.out; subst eo30) | ((with_reducible refine gate_builtin (b := .append) (xs := #[.tmp 26, .tmp 33]) rfl ?_); at_builtin; refine Kd.S_append (Kd.slice 3 (Kd.int .i64)) (w0 := w) w.heap.size rfl (.tmp 26) (.tmp 33) 23 22 (.slice none 0 0) 24 rfl Tryd.underlying23 info22 rfl (by decide) (by omega) u122001 x122001_1 t123 [.slice Ao30 t123.length co30] (fun k_ => some k_ ≠ (.slice Ao14 t115.length co14 : Value).ownBlock ∧ some k_ ≠ (.slice Ao13 t118.length co13 : Value).ownBlock) (fun k_ => some k_ = (.slice Ao30 t123.length co30 : Value).ownBlock) rfl rfl ?aP (fun k_ hk_ => ((Kd.R_mono (ok' := fun k_ => ((fun k_ => some k_ ≠ (.slice Ao14 t115.length co14 : Value).ownBlock ∧ some k_ ≠ (.slice Ao13 t118.length co13 : Value).ownBlock)) k_ ∧ some k_ ≠ (u122001 : Value).ownBlock) (Kd.R_apart' (HO125.out) (Kd.S_typed HO_122001.out) (by decide)) (fun k_ hk => ⟨⟨hk.1.1.2, hk.1.2⟩, hk.2⟩))).1 k_ hk_.symm) ?aF ?aO ?aB ?aS ?aL ?_; (case aP => exact Kd.M_row (Kd.R_mono (Kd.R_tight rfl (Kd.R_mono (ok' := fun k_ => ((fun k_ => some k_ ≠ (.slice Ao14 t115.length co14 : Value).ownBlock ∧ some k_ ≠ (.slice Ao13 t118.length co13 : Value).ownBlock)) k_ ∧ some k_ ≠ (u122001 : Value).ownBlock) (Kd.R_apart' (HO125.out) (Kd.S_typed HO_122001.out) (by decide)) (fun k_ hk => ⟨⟨hk.1.1.2, hk.1.2⟩, hk.2⟩))) (fun _ h_ => h_))); (case aB => exact bz); (case aF => exact (fun k_ hk => ⟨Kd.fresh' (Kd.R_lt (rz HO_122000.out)) k_ hk, Kd.fresh' (Kd.R_lt (rz HO_122002.out)) k_ hk⟩)); (case aO => exact (by (with_reducible repeat (first | apply Kd.S_alloc | apply Kd.S_drewN | apply Kd.S_drew)); exact Kd.S_mono HO_122001.out (fun k_ hk => ⟨⟨hk.1.1, hk.1.2⟩, fun e_ => hk.2 e_⟩))); (case aS => exact (below_size bz)); (case aL => have := LMc22.out; omega); intro v127 w29 ho hb hg hat; rw [← Ny126.out] at ho; have n0_ := Aside0.mk (Kd.R_over' (rz HO_122000.out) (Kd.S_typed (sz HO_122001.out)) (by decide) hg); have n1_ := Aside0.mk (Kd.R_over' (rz HO_122002.out) (Kd.S_typed (sz HO_122001.out)) (by decide) hg); have n2_ := Aside0.mk (blk_grown (g := gb113) (o := .cells #[.slice A0_0 l0_0.length c0_0, .slice (some ad122) l0_1.length c0_1, .slice A0_2 l0_2.length c0_2] 25 (0, 0)) (kz BK113.out) hg (Kd.S_ne HO_122001.out BK113.out (by decide))); have n3_ := Aside0.mk (blk_grown (g := gb114) (o := .cells #[.slice none 0 0, .slice none 0 0, .slice none 0 0] 25 (0, 0)) (kz BK114.out) hg (Kd.S_ne HO_122001.out BK114.out (by decide))); have n4_ := Aside0.mk (blk_grown (g := gb121) (o := .cells #[.slice Ao14 t115.length co14, u122001, .slice Ao13 t118.length co13] 25 (0, 0)) (kz BK121.out) hg (Kd.S_ne HO_122001.out BK121.out (by decide))); have n5_ := Aside0.mk (hb); have n6_ := Aside0.mk (ho); clear HO_122000; clear HO_122002; clear BK113; clear BK114; clear BK121; clear HB; clear HO_122001; clear HO125; have HO_122000 := n0_; have HO_122002 := n1_; have BK113 := n2_; have BK114 := n3_; have BK121 := n4_; have HB := n5_; have HO128 := n6_; clear n0_ n1_ n2_ n3_ n4_ n5_ n6_; clear ho hb hg hat; obtain ⟨Ao31, co31, eo31⟩ := Kd.S_slice HO128.out; subst eo31; have hcz32_0 : w29.cell? ⟨gb121, 0, none⟩ = some (.slice Ao14 t115.length co14) := (blk_cell BK121.out 0).trans rfl; have hcz32_1 : w29.cell? ⟨gb121, 1, none⟩ = some (u122001) := (blk_cell BK121.out 1).trans rfl; have hcz32_2 : w29.cell? ⟨gb121, 2, none⟩ = some (.slice Ao13 t118.length co13) := (blk_cell BK121.out 2).trans rfl; have hfz32_0 := blk_frozen BK121.out 0; have hfz32_1 := blk_frozen BK121.out 1; have hfz32_2 := blk_frozen BK121.out 2))
       go_roundg k1
       case measure => have := HK1.out; omega
       case rel => exact ⟨(wrap64 (x4_1 + 1)), (y126), (.slice Ao31 y126.length co31), (by first | rfl | (simp; done) | (simp [*]; done)), H', ⟨by have := HK1.out; omega⟩, ⟨by (with_reducible repeat (first | apply Kd.R_alloc | apply Kd.R_drewN | apply Kd.R_drew)); exact Kd.R_mono (Kd.R_far (p := ⟨gb121, 1, none⟩) (Kd.R_types HO_122000.out BK121.out (by decide)) (fun _ hk => hk.2) (.slice Ao31 y126.length co31)) (fun _ hk => hk.1.1)⟩, ⟨by (with_reducible repeat (first | apply Kd.S_alloc | apply Kd.S_drewN | apply Kd.S_drew)); exact Kd.S_mono (Kd.S_far (p := ⟨gb121, 1, none⟩) (Kd.S_types HO128.out BK121.out (by decide)) (fun _ hk => hk.2) (.slice Ao31 y126.length co31)) (fun _ hk => ⟨hk.1.1, hk.1.2⟩)⟩, ⟨by (with_reducible repeat (first | apply Kd.R_alloc | apply Kd.R_drewN | apply Kd.R_drew)); exact Kd.R_mono (Kd.R_far (p := ⟨gb121, 1, none⟩) (Kd.R_types HO_122002.out BK121.out (by decide)) (fun _ hk => hk.2) (.slice Ao31 y126.length co31)) (fun _ hk => hk.1.1)⟩, ⟨by (with_reducible repeat (first | refine blk_drewN ?_ _ | refine blk_drew ?_ | refine blk_alloc ?_ _)); refine blk_far ?_ NB113_121.out _; (with_reducible repeat (first | refine blk_drewN ?_ _ | refine blk_drew ?_ | refine blk_alloc ?_ _)); exact BK113.out⟩, ⟨by (with_reducible repeat (first | refine blk_drewN ?_ _ | refine blk_drew ?_ | refine blk_alloc ?_ _)); refine blk_far ?_ NB114_121.out _; (with_reducible repeat (first | refine blk_drewN ?_ _ | refine blk_drew ?_ | refine blk_alloc ?_ _)); exact BK114.out⟩, ⟨by (with_reducible repeat (first | refine blk_drewN ?_ _ | refine blk_drew ?_ | refine blk_alloc ?_ _)); refine blk_put (cs := #[.slice Ao14 t115.length co14, u122001, .slice Ao13 t118.length co13]) ?_ 1 _ rfl; (with_reducible repeat (first | refine blk_drewN ?_ _ | refine blk_drew ?_ | refine blk_alloc ?_ _)); exact BK121.out⟩, ⟨by repeat (first | (with_reducible first | exact HB.out | apply below_alloc | apply pw_below_drewN | apply below_drew1 | refine below_set ?_ GE113.out | refine below_set ?_ GE114.out | refine below_set ?_ GE121.out) | exact HB.out)⟩⟩
      ·rw [if_neg c22] at H
       exact absurd H (by simp)
     ·rw [if_neg c20] at H
      exact absurd H (by simp)
    ·rw [if_neg c19] at H
     have c19b0 : decide (x4_1 < 14) = false := decide_eq_false c19
     clear c19
     simp only [Option.some.injEq, Prod.mk.injEq] at H
     obtain ⟨rfl, rfl, rfl⟩ := H
     have hnb33 := NB113_114.out
     have hnc33 := NB114_113.out
     have hnb34 := NB113_121.out
     have hnc34 := NB121_113.out
     have hcz35_0 : wr.cell? ⟨gb113, 0, none⟩ = some (.slice A0_0 l0_0.length c0_0) := (blk_cell BK113.out 0).trans rfl
     have hcz35_1 : wr.cell? ⟨gb113, 1, none⟩ = some (.slice A0_1 l0_1.length c0_1) := (blk_cell BK113.out 1).trans rfl
     have hcz35_2 : wr.cell? ⟨gb113, 2, none⟩ = some (.slice A0_2 l0_2.length c0_2) := (blk_cell BK113.out 2).trans rfl
     have hfz35_0 := blk_frozen BK113.out 0
     have hfz35_1 := blk_frozen BK113.out 1
     have hfz35_2 := blk_frozen BK113.out 2
     have hnb36 := NB121_114.out
     have hnc36 := NB114_121.out
     have hcz37_0 : wr.cell? ⟨gb121, 0, none⟩ = some (.slice Ao14 t115.length co14) := (blk_cell BK121.out 0).trans rfl
     have hcz37_1 : wr.cell? ⟨gb121, 1, none⟩ = some (u122001) := (blk_cell BK121.out 1).trans rfl
     have hcz37_2 : wr.cell? ⟨gb121, 2, none⟩ = some (.slice Ao13 t118.length co13) := (blk_cell BK121.out 2).trans rfl
     have hfz37_0 := blk_frozen BK121.out 0
     have hfz37_1 := blk_frozen BK121.out 1
     have hfz37_2 := blk_frozen BK121.out 2
     have hcz38_0 : wr.cell? ⟨gb114, 0, none⟩ = some (.slice none 0 0) := (blk_cell BK114.out 0).trans rfl
     have hcz38_1 : wr.cell? ⟨gb114, 1, none⟩ = some (.slice none 0 0) := (blk_cell BK114.out 1).trans rfl
     have hcz38_2 : wr.cell? ⟨gb114, 2, none⟩ = some (.slice none 0 0) := (blk_cell BK114.out 2).trans rfl
     have hfz38_0 := blk_frozen BK114.out 0
     have hfz38_1 := blk_frozen BK114.out 1
     have hfz38_2 := blk_frozen BK114.out 2
     obtain ⟨Ao39, co39, eo39⟩ := Kd.S_slice HO_122001.out
     subst eo39
     go_wp2
     refine bodyPost_ret (results_cell_row rfl _ _ gb114 25 #[.slice Ao14 t115.length co14, .slice Ao39 x122001_1.length co39, .slice Ao13 t118.length co13] (0, 0) _ rfl (by (with_reducible repeat (first | refine blk_drewN ?_ _ | refine blk_drew ?_ | refine blk_alloc ?_ _)); refine blk_put (cs := #[.slice Ao14 t115.length co14, .slice Ao39 x122001_1.length co39, .slice none 0 0]) ?_ 2 _ rfl; (with_reducible repeat (first | refine blk_drewN ?_ _ | refine blk_drew ?_ | refine blk_alloc ?_ _)); refine blk_put (cs := #[.slice Ao14 t115.length co14, .slice none 0 0, .slice none 0 0]) ?_ 1 _ rfl; (with_reducible repeat (first | refine blk_drewN ?_ _ | refine blk_drew ?_ | refine blk_alloc ?_ _)); refine blk_put (cs := #[.slice none 0 0, .slice none 0 0, .slice none 0 0]) ?_ 0 _ rfl; (with_reducible repeat (first | refine blk_drewN ?_ _ | refine blk_drew ?_ | refine blk_alloc ?_ _)); exact BK114.out) Tryd.underlying25 rfl (by kernel_rfl)) rfl ?_
     exact ⟨_, _, _, by first | rfl | (simp [errW_none, errW_some] <;> rfl) | (simp [*, errW_none, errW_some] <;> rfl), by (with_reducible repeat (first | apply Kd.R_alloc | apply Kd.R_drewN | apply Kd.R_drew)); exact Kd.R_mono (Kd.R_far (p := ⟨gb114, 2, none⟩) (Kd.R_far (p := ⟨gb114, 1, none⟩) (Kd.R_far (p := ⟨gb114, 0, none⟩) (Kd.R_types HO_122000.out BK114.out (by decide)) (fun _ hk => hk.2) (.slice Ao14 t115.length co14)) (fun _ hk => hk.2) (.slice Ao39 x122001_1.length co39)) (fun _ hk => hk.2) (.slice Ao13 t118.length co13)) (fun _ hk => hk.1), by (with_reducible repeat (first | apply Kd.S_alloc | apply Kd.S_drewN | apply Kd.S_drew)); exact Kd.S_mono (Kd.S_far (p := ⟨gb114, 2, none⟩) (Kd.S_far (p := ⟨gb114, 1, none⟩) (Kd.S_far (p := ⟨gb114, 0, none⟩) (Kd.S_types HO_122001.out BK114.out (by decide)) (fun _ hk => hk.2) (.slice Ao14 t115.length co14)) (fun _ hk => hk.2) (.slice Ao39 x122001_1.length co39)) (fun _ hk => hk.2) (.slice Ao13 t118.length co13)) (fun _ hk => ⟨hk.1.1, hk.1.2⟩), by (with_reducible repeat (first | apply Kd.R_alloc | apply Kd.R_drewN | apply Kd.R_drew)); exact Kd.R_mono (Kd.R_far (p := ⟨gb114, 2, none⟩) (Kd.R_far (p := ⟨gb114, 1, none⟩) (Kd.R_far (p := ⟨gb114, 0, none⟩) (Kd.R_types HO_122002.out BK114.out (by decide)) (fun _ hk => hk.2) (.slice Ao14 t115.length co14)) (fun _ hk => hk.2) (.slice Ao39 x122001_1.length co39)) (fun _ hk => hk.2) (.slice Ao13 t118.length co13)) (fun _ hk => hk.1), by repeat (first | (with_reducible first | exact HB.out | apply below_alloc | apply pw_below_drewN | apply below_drew1 | refine below_set ?_ GE113.out | refine below_set ?_ GE114.out | refine below_set ?_ GE121.out) | exact HB.out)⟩
   ·rw [if_neg c18] at H
    have c18b0 : decide (x4_1 < (l0_1.length : Int)) = false := decide_eq_false c18
    clear c18
    simp only [Option.some.injEq, Prod.mk.injEq] at H
    obtain ⟨rfl, rfl, rfl⟩ := H
    have hnb40 := NB113_114.out
    have hnc40 := NB114_113.out
    have hnb41 := NB113_121.out
    have hnc41 := NB121_113.out
    have hcz42_0 : wr.cell? ⟨gb113, 0, none⟩ = some (.slice A0_0 l0_0.length c0_0) := (blk_cell BK113.out 0).trans rfl
    have hcz42_1 : wr.cell? ⟨gb113, 1, none⟩ = some (.slice A0_1 l0_1.length c0_1) := (blk_cell BK113.out 1).trans rfl
    have hcz42_2 : wr.cell? ⟨gb113, 2, none⟩ = some (.slice A0_2 l0_2.length c0_2) := (blk_cell BK113.out 2).trans rfl
    have hfz42_0 := blk_frozen BK113.out 0
    have hfz42_1 := blk_frozen BK113.out 1
    have hfz42_2 := blk_frozen BK113.out 2
    have hnb43 := NB121_114.out
    have hnc43 := NB114_121.out
    have hcz44_0 : wr.cell? ⟨gb121, 0, none⟩ = some (.slice Ao14 t115.length co14) := (blk_cell BK121.out 0).trans rfl
    have hcz44_1 : wr.cell? ⟨gb121, 1, none⟩ = some (u122001) := (blk_cell BK121.out 1).trans rfl
    have hcz44_2 : wr.cell? ⟨gb121, 2, none⟩ = some (.slice Ao13 t118.length co13) := (blk_cell BK121.out 2).trans rfl
    have hfz44_0 := blk_frozen BK121.out 0
    have hfz44_1 := blk_frozen BK121.out 1
    have hfz44_2 := blk_frozen BK121.out 2
    have hcz45_0 : wr.cell? ⟨gb114, 0, none⟩ = some (.slice none 0 0) := (blk_cell BK114.out 0).trans rfl
    have hcz45_1 : wr.cell? ⟨gb114, 1, none⟩ = some (.slice none 0 0) := (blk_cell BK114.out 1).trans rfl
    have hcz45_2 : wr.cell? ⟨gb114, 2, none⟩ = some (.slice none 0 0) := (blk_cell BK114.out 2).trans rfl
    have hfz45_0 := blk_frozen BK114.out 0
    have hfz45_1 := blk_frozen BK114.out 1
    have hfz45_2 := blk_frozen BK114.out 2
    obtain ⟨Ao46, co46, eo46⟩ := Kd.S_slice HO_122001.out
    subst eo46
    go_wp2
    refine bodyPost_ret (results_cell_row rfl _ _ gb114 25 #[.slice Ao14 t115.length co14, .slice Ao46 x122001_1.length co46, .slice Ao13 t118.length co13] (0, 0) _ rfl (by (with_reducible repeat (first | refine blk_drewN ?_ _ | refine blk_drew ?_ | refine blk_alloc ?_ _)); refine blk_put (cs := #[.slice Ao14 t115.length co14, .slice Ao46 x122001_1.length co46, .slice none 0 0]) ?_ 2 _ rfl; (with_reducible repeat (first | refine blk_drewN ?_ _ | refine blk_drew ?_ | refine blk_alloc ?_ _)); refine blk_put (cs := #[.slice Ao14 t115.length co14, .slice none 0 0, .slice none 0 0]) ?_ 1 _ rfl; (with_reducible repeat (first | refine blk_drewN ?_ _ | refine blk_drew ?_ | refine blk_alloc ?_ _)); refine blk_put (cs := #[.slice none 0 0, .slice none 0 0, .slice none 0 0]) ?_ 0 _ rfl; (with_reducible repeat (first | refine blk_drewN ?_ _ | refine blk_drew ?_ | refine blk_alloc ?_ _)); exact BK114.out) Tryd.underlying25 rfl (by kernel_rfl)) rfl ?_
    exact ⟨_, _, _, by first | rfl | (simp [errW_none, errW_some] <;> rfl) | (simp [*, errW_none, errW_some] <;> rfl), by (with_reducible repeat (first | apply Kd.R_alloc | apply Kd.R_drewN | apply Kd.R_drew)); exact Kd.R_mono (Kd.R_far (p := ⟨gb114, 2, none⟩) (Kd.R_far (p := ⟨gb114, 1, none⟩) (Kd.R_far (p := ⟨gb114, 0, none⟩) (Kd.R_types HO_122000.out BK114.out (by decide)) (fun _ hk => hk.2) (.slice Ao14 t115.length co14)) (fun _ hk => hk.2) (.slice Ao46 x122001_1.length co46)) (fun _ hk => hk.2) (.slice Ao13 t118.length co13)) (fun _ hk => hk.1), by (with_reducible repeat (first | apply Kd.S_alloc | apply Kd.S_drewN | apply Kd.S_drew)); exact Kd.S_mono (Kd.S_far (p := ⟨gb114, 2, none⟩) (Kd.S_far (p := ⟨gb114, 1, none⟩) (Kd.S_far (p := ⟨gb114, 0, none⟩) (Kd.S_types HO_122001.out BK114.out (by decide)) (fun _ hk => hk.2) (.slice Ao14 t115.length co14)) (fun _ hk => hk.2) (.slice Ao46 x122001_1.length co46)) (fun _ hk => hk.2) (.slice Ao13 t118.length co13)) (fun _ hk => ⟨hk.1.1, hk.1.2⟩), by (with_reducible repeat (first | apply Kd.R_alloc | apply Kd.R_drewN | apply Kd.R_drew)); exact Kd.R_mono (Kd.R_far (p := ⟨gb114, 2, none⟩) (Kd.R_far (p := ⟨gb114, 1, none⟩) (Kd.R_far (p := ⟨gb114, 0, none⟩) (Kd.R_types HO_122002.out BK114.out (by decide)) (fun _ hk => hk.2) (.slice Ao14 t115.length co14)) (fun _ hk => hk.2) (.slice Ao46 x122001_1.length co46)) (fun _ hk => hk.2) (.slice Ao13 t118.length co13)) (fun _ hk => hk.1), by repeat (first | (with_reducible first | exact HB.out | apply below_alloc | apply pw_below_drewN | apply below_drew1 | refine below_set ?_ GE113.out | refine below_set ?_ GE114.out | refine below_set ?_ GE121.out) | exact HB.out)⟩

end Go.Proofs.YtekmiepdodaidaaDoor.X
end

section
/- Layer 7, plain: own, the reference's Case, ints, awake. -/
set_option linter.unusedVariables false
namespace Go.Proofs.YtekmiepdodaidaaDoor.X
open Go.RowKit Go.Proofs.YtekmiepdodaidaaDoorW.PrintWords Go.Proofs.YtekmiepdodaidaaDoorW.PrintLast Go.Proofs.YtekmiepdodaidaaDoorW.PrintMore

theorem w1 (i : Nat) (h : i < 1000000) : wrap64 ((i : Int) + 1) = ((i + 1 : Nat) : Int) := by unfold wrap64; omega
theorem rd_at (l : List Int) (i : Nat) (h : i < l.length) : rd l (i : Int) = l[i] := by simp [rd, List.getD_eq_getElem?_getD, List.getElem?_eq_getElem h]
theorem ints_l0 (x y : List Int) (hl : x.length = y.length) (hx : x.length < 100000) (m : Nat) : ∀ i, i + m = x.length → Ev (fun k => tickinglaw07_ints.l0 k x y (i : Int)) (decide (x.drop i = y.drop i)) := by
 induction m with
 | zero =>
  intro i hi
  obtain rfl : i = x.length := by omega
  refine Ev.step (f := fun _ => some _) (fun k => ?_) (Ev.now _)
  simp only [tickinglaw07_ints.l0]
  rw [if_neg (by omega), List.drop_length, hl, List.drop_length]; simp
 | succ m ih =>
  intro i hi
  have hix : i < x.length := by omega
  have hiy : i < y.length := by omega
  have dx : x.drop i = x[i] :: x.drop (i + 1) := List.drop_eq_getElem_cons hix
  have dy : y.drop i = y[i] :: y.drop (i + 1) := List.drop_eq_getElem_cons hiy
  by_cases he : x[i] = y[i]
  ·have : decide (x.drop i = y.drop i) = decide (x.drop (i + 1) = y.drop (i + 1)) := by rw [dx, dy, he]; exact decide_eq_decide.2 ⟨fun h => (List.cons.inj h).2, fun h => by rw [h]⟩
   rw [this]
   refine Ev.step (fun k => ?_) (ih (i + 1) (by omega))
   show tickinglaw07_ints.l0 (k + 1) x y (i : Int) = _
   simp only [tickinglaw07_ints.l0]
   rw [if_pos (by omega), if_pos (by omega), if_pos (by omega), rd_at x i hix, rd_at y i hiy, if_pos he, w1 i (by omega)]
  ·have : decide (x.drop i = y.drop i) = false := by rw [dx, dy]; exact decide_eq_false (fun h => he (List.cons.inj h).1)
   rw [this]
   refine Ev.step (f := fun _ => some _) (fun k => ?_) (Ev.now _)
   simp only [tickinglaw07_ints.l0]
   rw [if_pos (by omega), if_pos (by omega), if_pos (by omega), rd_at x i hix, rd_at y i hiy, if_neg he]
theorem ints_ev (x y : List Int) (hx : x.length < 100000) : Ev (fun k => tickinglaw07_ints.f k x y) (decide (x = y)) := by
 unfold tickinglaw07_ints.f
 by_cases h : x.length = y.length
 ·refine Ev.congr (fun k => if_pos (by omega)) ?_
  have := ints_l0 x y h hx x.length 0 (by omega)
  simpa using this
 ·refine Ev.congr (f := fun _ => some _) (fun k => if_neg (by omega)) ?_
  have : decide (x = y) = false := by simp; intro e; exact h (by rw [e])
  rw [this]; exact Ev.now _
def aw : List Int := [1, 1, 2]
def at_ : List (List Int) := [[1, 0, 0], [0, 1, 0]]
def ac : List Int := [1, 1]
set_option maxRecDepth 100000 in
theorem aw_best : (optRes (mfMean aw at_ ac) aw at_ ac).2 = (7, 0) := by decide +kernel
set_option maxRecDepth 100000 in
theorem aw_worst : (optRes (mfWorst aw at_ ac) aw at_ ac).2 = (2, 0) := by decide +kernel
set_option maxRecDepth 100000 in
theorem aw_cover : covRes aw at_ ac = ([0, 1], 0) := by decide +kernel
theorem alike_ev (a : List Int) (b : List (List Int)) (c : List Int) : Ev (fun k => tests_Alike.f k a b c) (if caseB a b c = true then (alikeL (onesOf b) a.length, 0) else ([], 2)) := by
 unfold tests_Alike.f
 refine Ev.bind (newTrial_all a b c) ?_
 unfold trialR
 by_cases h : caseB a b c = true
 ·rw [if_pos h, if_pos h]
  have h10 : a.length ≤ 10 := by unfold caseB at h; simp at h; omega
  simp only [if_true]
  unfold tests_trial_alike.f
  rw [if_pos h10]
  exact Ev.now _
 ·rw [if_neg h, if_neg h]
  exact Ev.now _
set_option maxRecDepth 100000 in
theorem aw_alike : (if caseB [1, 1] [] [] = true then (alikeL (onesOf []) [(1 : Int), 1].length, (0 : Int)) else ([], 2)) = ([(⟨0, 1⟩ : S53)], (0 : Int)) := by kernel_rfl
theorem j0_ev (v : Bool) : Ev (fun k => tickinglaw07_awake.j0 k v) (!v) := by
 refine Ev.step (f := fun _ => some _) (fun k => ?_) (Ev.now _)
 cases v <;> rfl
/-- The program is awake. -/
theorem awake_ev : Ev (fun k => tickinglaw07_awake.f k) true := by
 unfold tickinglaw07_awake.f
 simp only [Option.bind_some]
 obtain ⟨p, hp⟩ : ∃ p, tests_Best.f [1, 1, 2] [[1, 0, 0], [0, 1, 0]] [1, 1] = some (p, 7, 0) := ⟨_, by unfold tests_Best.f; rw [← aw_best]; rfl⟩
 obtain ⟨q, hq⟩ : ∃ q, tests_Worst.f [1, 1, 2] [[1, 0, 0], [0, 1, 0]] [1, 1] = some (q, 2, 0) := ⟨_, by unfold tests_Worst.f; rw [← aw_worst]; rfl⟩
 have hc : tests_Cover.f [1, 1, 2] [[1, 0, 0], [0, 1, 0]] [1, 1] = some ([0, 1], 0) := by unfold tests_Cover.f; rw [← aw_cover]; rfl
 rw [hp, hq, hc]
 simp only [Option.bind_some]
 have ha := alike_ev [1, 1] [] []
 rw [aw_alike] at ha
 refine Ev.bind ha ?_
 have hi := ints_ev [0, 1] [0, 1] (by decide)
 have e : (decide ([(0 : Int), 1] = [0, 1])) = true := by decide
 rw [e] at hi
 simp only [List.length_cons, List.length_nil]
 refine Ev.congr (f := fun k => (tickinglaw07_ints.f k [0, 1] [0, 1]).bind fun t => tickinglaw07_awake.j0 k (!t)) (fun k => ?_) ?_
 ·rfl
 ·exact Ev.bind hi (j0_ev false)
end Go.Proofs.YtekmiepdodaidaaDoor.X
end

section
/- Layer 7, plain: weights and parts of sets; the measures. -/
set_option linter.unusedVariables false
namespace Go.Proofs.YtekmiepdodaidaaDoor.X
open Go.RowKit Go.Proofs.YtekmiepdodaidaaDoorW.PrintWords Go.Proofs.YtekmiepdodaidaaDoorW.PrintLast Go.Proofs.YtekmiepdodaidaaDoorW.PrintMore

/-- The weight of a set. -/
def wOf : List Int → Nat → Int
 | [], _ => 0
 | x :: xs, s => (if s % 2 = 1 then x else 0) + wOf xs (s / 2)
theorem wOf_bounds : ∀ (l : List Int) (s : Nat), (∀ x ∈ l, 1 ≤ x ∧ x ≤ 1000) → 0 ≤ wOf l s ∧ wOf l s ≤ 1000 * (l.length : Int)
 | [], _, _ => ⟨Int.le_refl _, by simp [wOf]⟩
 | x :: xs, s, h => by
  have ih := wOf_bounds xs (s / 2) (fun y hy => h y (by simp [hy]))
  have hx := h x (by simp)
  simp only [wOf, List.length_cons]
  split <;> omega
theorem div_next (s i : Nat) : s / 2 ^ (i + 1) = s / 2 ^ i / 2 := by rw [Nat.pow_succ, Nat.div_div_eq_div_mul]
theorem wOf_step (a : List Int) (i : Nat) (hi : i < a.length) (s : Nat) : wOf (a.drop i) (s / 2 ^ i) = (if s / 2 ^ i % 2 = 1 then a[i] else 0) + wOf (a.drop (i + 1)) (s / 2 ^ (i + 1)) := by
 rw [List.drop_eq_getElem_cons hi, div_next]; rfl
section
variable {a : List Int} {b : List (List Int)} {c : List Int}
/-- The program's weight. -/
theorem tweight_l0 (ha : a.length ≤ 10) (hw : ∀ x ∈ a, 1 ≤ x ∧ x ≤ 1000) (s : Nat) (hs : s < 1024) (m : Nat) : ∀ (i k : Nat) (acc : Int), i + m = a.length → m < k → 0 ≤ acc → acc ≤ 1000 * i → tests_trial_weight.l0 k (s : Int) acc a (a.length : Int) (i : Int) = some (acc + wOf (a.drop i) (s / 2 ^ i)) := by
 induction m with
 | zero =>
  intro i k acc hi hk h0 h1
  obtain rfl : i = a.length := by omega
  obtain ⟨k, rfl⟩ : ∃ k', k = k' + 1 := ⟨k - 1, by omega⟩
  simp only [tests_trial_weight.l0]
  rw [if_neg (by omega), List.drop_length]
  simp [wOf]
 | succ m ih =>
  intro i k acc hi hk h0 h1
  obtain ⟨k, rfl⟩ : ∃ k', k = k' + 1 := ⟨k - 1, by omega⟩
  have hia : i < a.length := by omega
  have hx := hw a[i] (List.getElem_mem hia)
  have hb : (Go.bits .and .u64 (shr .u64 (s : Int) (i : Int)) 1 == 1) = decide (s / 2 ^ i % 2 = 1) := by
   have := hasB_nat s i hs
   rw [Nat.testBit_eq_decide_div_mod_eq] at this
   exact this
  simp only [tests_trial_weight.l0]
  rw [if_pos (by omega), if_pos (by omega), if_pos (by omega)]
  unfold tests_faults_has.f
  rw [if_pos (by omega), hb, w1 i (by omega), wOf_step a i hia, rd_at a i hia]
  simp only [Option.bind_some]
  by_cases ho : s / 2 ^ i % 2 = 1
  ·rw [if_pos (by simpa using ho), if_pos ho, show wrap64 (acc + a[i]) = acc + a[i] from by unfold wrap64; omega]
   rw [ih (i + 1) k (acc + a[i]) (by omega) (by omega) (by omega) (by omega), Int.add_assoc]
  ·rw [if_neg (by simpa using ho), if_neg ho, ih (i + 1) k acc (by omega) (by omega) (by omega) (by omega), Int.zero_add]
theorem tweight_n (ha : a.length ≤ 10) (hw : ∀ x ∈ a, 1 ≤ x ∧ x ≤ 1000) (s : Nat) (hs : s < 1024) (k : Nat) (hk : a.length < k) (ones : List Int) (al : Int) : tests_trial_weight.f k a b c ones al (s : Int) = some (wOf a s) := by
 have := tweight_l0 ha hw s hs a.length 0 k 0 (by omega) hk (by omega) (by omega)
 simpa [tests_trial_weight.f] using this
/-- A cost. -/
theorem cost_at (h : CaseIs a b c) (t : Nat) (ht : t < b.length) : 1 ≤ rd c (t : Int) ∧ rd c (t : Int) ≤ 100 := by
 have hc := h.cb
 rw [rd_at c t (by omega)]
 exact h.wc _ (List.getElem_mem (by omega))
theorem mul_box (x y : Int) (hx : 1 ≤ x) (hx2 : x ≤ 100) (hy : 0 ≤ y) (hy2 : y ≤ 10000) : 0 ≤ x * y ∧ x * y ≤ 1000000 := by
 refine ⟨Int.mul_nonneg (by omega) hy, ?_⟩
 have := Int.mul_le_mul hx2 hy2 hy (by omega)
 omega
theorem mfMean_eq (h : CaseIs a b c) (t : Nat) (ht : t < b.length) (s : Nat) (hs : s < 1024) (z o : Int) (hz : 0 ≤ z ∧ z ≤ 1099511627776) (ho : 0 ≤ o ∧ o ≤ 1099511627776) : mfMean a b c (t : Int) (s : Int) z o = rd c (t : Int) * wOf a s + z + o := by
 have hc := h.cb
 have hk := cost_at h t ht
 have hw := wOf_bounds a s h.wa
 have ha := h.a10
 have hm := mul_box _ _ hk.1 hk.2 hw.1 (by omega)
 unfold mfMean tests_mean.f
 rw [if_pos (by omega), if_pos (by omega), tweight_n h.a10 h.wa s hs 12 (by omega)]
 simp only [Option.bind_some, Option.getD_some]
 unfold wrap64; omega
theorem mfWorst_eq (h : CaseIs a b c) (t : Nat) (ht : t < b.length) (s : Int) (z o : Int) (hz : 0 ≤ z ∧ z ≤ 1099511627776) (ho : 0 ≤ o ∧ o ≤ 1099511627776) : mfWorst a b c (t : Int) s z o = rd c (t : Int) + mx z o := by
 have hc := h.cb
 have hk := cost_at h t ht
 unfold mfWorst tests_worst.f
 rw [if_pos (by omega), if_pos (by omega)]
 simp only [Option.getD_some]
 unfold wrap64 mx
 split <;> omega
end
section
variable {a : List Int} {b : List (List Int)} {c : List Int}
/-- A row of a case. -/
theorem row_at (h : CaseIs a b c) (t : Nat) (ht : t < b.length) : b[t].length = a.length ∧ ∀ x ∈ b[t], x = 0 ∨ x = 1 := by
 have := List.all_eq_true.1 h.rows b[t] (List.getElem_mem ht)
 unfold rowOkB at this
 simp only [Bool.and_eq_true, beq_iff_eq] at this
 refine ⟨this.1, fun x hx => ?_⟩
 have := (all_inB _ _ _).1 this.2 x hx
 omega
end
end Go.Proofs.YtekmiepdodaidaaDoor.X
end

section
/- Layer 7, plain: the reference's Alike and Best. -/
set_option linter.unusedVariables false
namespace Go.Proofs.YtekmiepdodaidaaDoor.X
open Go.RowKit Go.Proofs.YtekmiepdodaidaaDoorW.PrintWords Go.Proofs.YtekmiepdodaidaaDoorW.PrintLast Go.Proofs.YtekmiepdodaidaaDoorW.PrintMore

section
variable {a : List Int} {b : List (List Int)} {c : List Int}
theorem row_lt (h : CaseIs a b c) (t : Nat) (ht : t < b.length) : rowV b[t] < 1024 := by
 obtain ⟨h1, h2⟩ := row_at h t ht
 have := rowV_lt b[t] h2
 rw [h1] at this
 exact Nat.lt_of_lt_of_le this (Nat.le_trans (Nat.pow_le_pow_right (by omega) h.a10) (by decide))
/-- Two faults are alike in a test exactly if their results are equal. -/
theorem same_row (h : CaseIs a b c) (t : Nat) (ht : t < b.length) (x y : Nat) (hx : x < a.length) (hy : y < a.length) : sameB (x : Int) (y : Int) (rowV b[t] : Int) = (rd b[t] (x : Int) == rd b[t] (y : Int)) := by
 obtain ⟨h1, h2⟩ := row_at h t ht
 have hl := row_lt h t ht
 have ha := h.a10
 unfold sameB
 rw [hasB_nat _ _ hl, hasB_nat _ _ hl, rowV_bit _ h2, rowV_bit _ h2]
 have ex : b[t].getD x 0 = b[t][x] := by simp [List.getD_eq_getElem?_getD, List.getElem?_eq_getElem (show x < b[t].length by omega)]
 have ey : b[t].getD y 0 = b[t][y] := by simp [List.getD_eq_getElem?_getD, List.getElem?_eq_getElem (show y < b[t].length by omega)]
 rw [ex, ey, rd_at _ x (by omega), rd_at _ y (by omega)]
 have := h2 b[t][x] (List.getElem_mem _)
 have := h2 b[t][y] (List.getElem_mem _)
 rcases h2 b[t][x] (List.getElem_mem _) with e1 | e1 <;> rcases h2 b[t][y] (List.getElem_mem _) with e2 | e2 <;> rw [e1, e2] <;> decide
end
end Go.Proofs.YtekmiepdodaidaaDoor.X
end

section
/- Layer 7, plain: the reference's Best. -/
set_option linter.unusedVariables false
namespace Go.Proofs.YtekmiepdodaidaaDoor.X
open Go.RowKit Go.Proofs.YtekmiepdodaidaaDoorW.PrintWords Go.Proofs.YtekmiepdodaidaaDoorW.PrintLast Go.Proofs.YtekmiepdodaidaaDoorW.PrintMore

/-- A measure that keeps within bounds. -/
def MfOk (n : Nat) (mf : Int → Int → Int → Int → Int) : Prop := ∀ (t : Nat) (s : Nat) (z o : Int), t < n → s < 1024 → 0 ≤ z → z ≤ 1099511627776 → 0 ≤ o → o ≤ 1099511627776 → 0 ≤ mf (t : Int) (s : Int) z o ∧ mf (t : Int) (s : Int) z o ≤ 1000000 + z + o
theorem pickB_val {c : Int → Int → Int} {s : Int} {P : Int → Prop} : ∀ (l : List Int) (k : Nat) (b : Int × Int), P b.2 → (∀ j x, l[j]? = some x → splitB s x = true → P (c ((k + j : Nat) : Int) x)) → P (pickB c s k l b).2
 | [], k, b, hb, _ => hb
 | x :: xs, k, b, hb, h => by
  unfold pickB
  have h0 := h 0 x rfl
  have ht : ∀ b', P b'.2 → P (pickB c s ((k : Int) + 1) xs b').2 := fun b' hb' => by
   have := pickB_val (c := c) (s := s) (P := P) xs (k + 1) b' hb' (fun j y hj hs => by
    have := h (j + 1) y (by simpa using hj) hs
    rwa [show k + 1 + j = k + (j + 1) by omega])
   simpa using this
  refine ht _ ?_
  by_cases hx : splitB s x = true
  ·rw [if_pos hx]
   split
   ·simpa using h0 hx
   ·exact hb
  ·rw [if_neg hx]; exact hb
section
variable {mf : Int → Int → Int → Int → Int} {ones : List Int}
theorem cst_bounds (ho : ∀ x ∈ ones, SetB x) (hm : MfOk ones.length mf) : ∀ (d : Nat) (s : Int), SetB s → 1 ≤ s → s.toNat ≤ d → 0 ≤ cstB (chs mf ones) s ∧ cstB (chs mf ones) s ≤ 1000000 * (s - 1) := by
 intro d
 induction d with
 | zero => intro s hs h1 h2; omega
 | succ d ih =>
  intro s hs h1 h2
  unfold cstB
  by_cases hp : pcount s = 1
  ·rw [if_pos hp]; omega
  ·rw [if_neg hp, chs_eq mf ones ho s hs]
   unfold chsStep
   refine pickB_val (P := fun z => 0 ≤ z ∧ z ≤ 1000000 * (s - 1)) ones 0 (-1, 0) ?_ ?_
   ·show (0 : Int) ≤ 0 ∧ (0 : Int) ≤ 1000000 * (s - 1)
    omega
   ·intro j x hj hsp
    have hx : x ∈ ones := List.mem_of_getElem? hj
    obtain ⟨⟨a1, a2⟩, b1, b2⟩ := split_parts hs (ho x hx) hsp
    have hadd := bSub_add hs (ho x hx)
    have hs' := hs
    unfold SetB at hs'
    have e1 := ih (bSub s x) (by unfold SetB; omega) b1 (by omega)
    have e2 := ih (bAnd s x) (by unfold SetB; omega) a1 (by omega)
    have hjl : j < ones.length := by
     rcases Nat.lt_or_ge j ones.length with h | h
     ·exact h
     ·rw [List.getElem?_eq_none h] at hj; cases hj
    have := hm j s.toNat (cstB (chs mf ones) (bSub s x)) (cstB (chs mf ones) (bAnd s x)) hjl (by omega) e1.1 (by omega) e2.1 (by omega)
    rw [show ((s.toNat : Nat) : Int) = s from by omega] at this
    show 0 ≤ mf ((0 + j : Nat) : Int) s _ _ ∧ _
    rw [Nat.zero_add]
    omega
theorem cst_box (ho : ∀ x ∈ ones, SetB x) (hm : MfOk ones.length mf) (s : Int) (hs : SetB s) (h1 : 1 ≤ s) : 0 ≤ cstB (chs mf ones) s ∧ cstB (chs mf ones) s ≤ 1024000000 := by
 have := cst_bounds ho hm s.toNat s hs h1 (Nat.le_refl _)
 unfold SetB at hs
 omega
end
section
variable {a : List Int} {b : List (List Int)} {c : List Int}
theorem mean_ok (h : CaseIs a b c) : MfOk (onesOf b).length (mfMean a b c) := by
 intro t s z o ht hs hz hz2 ho ho2
 rw [onesOf_len] at ht
 rw [mfMean_eq h t ht s hs z o ⟨hz, hz2⟩ ⟨ho, ho2⟩]
 have hk := cost_at h t ht
 have hw := wOf_bounds a s h.wa
 have ha := h.a10
 have := mul_box _ _ hk.1 hk.2 hw.1 (by omega)
 omega
theorem worst_ok (h : CaseIs a b c) : MfOk (onesOf b).length (mfWorst a b c) := by
 intro t s z o ht hs hz hz2 ho ho2
 rw [onesOf_len] at ht
 rw [mfWorst_eq h t ht s z o ⟨hz, hz2⟩ ⟨ho, ho2⟩]
 have hk := cost_at h t ht
 unfold mx
 split <;> omega
def far : Int := 1099511627776
def cN (mf : Int → Int → Int → Int → Int) (b : List (List Int)) (s : Int) : Int := cstB (chs mf (onesOf b)) s
end
end Go.Proofs.YtekmiepdodaidaaDoor.X
end

section
/- Layer 7, plain: plans: which lists are plans, the way of a fault, what a plan costs; the reference's Plan, Way, Correct. -/
set_option linter.unusedVariables false
namespace Go.Proofs.YtekmiepdodaidaaDoor.X
open Go.RowKit Go.Proofs.YtekmiepdodaidaaDoorW.PrintWords Go.Proofs.YtekmiepdodaidaaDoorW.PrintLast Go.Proofs.YtekmiepdodaidaaDoorW.PrintMore

def allB (P : Nat → Bool) : Nat → Nat → Bool
 | _, 0 => true
 | j, m + 1 => P j && allB P (j + 1) m
theorem allB_iff (P : Nat → Bool) : ∀ (m j : Nat), allB P j m = true ↔ ∀ i, j ≤ i → i < j + m → P i = true
 | 0, j => by simp [allB]; intro i h1 h2; omega
 | m + 1, j => by
  rw [allB, Bool.and_eq_true, allB_iff P m (j + 1)]
  constructor
  ·rintro ⟨h1, h2⟩ i h3 h4
   by_cases h : i = j
   ·rw [h]; exact h1
   ·exact h2 i (by omega) (by omega)
  ·intro h
   exact ⟨h j (Nat.le_refl _) (by omega), fun i h1 h2 => h i (by omega) (by omega)⟩
/-- Is this a node at place i of a plan of len nodes? -/
def nodeB (n nt len : Nat) (i : Nat) (x : S57) : Bool :=
 if x.f0 = -1 then decide (0 ≤ x.f1) && decide (x.f1 < (n : Int)) && decide (x.f2 = 0) && decide (x.f3 = 0)
 else decide (0 ≤ x.f0) && decide (x.f0 < (nt : Int)) && decide (x.f1 = 0) && decide ((i : Int) < x.f2) && decide (x.f2 < (len : Int)) && decide ((i : Int) < x.f3) && decide (x.f3 < (len : Int))
/-- How often a place is a node's Zero or One. -/
def kidK (x : S57) (j : Nat) : Int := if x.f0 = -1 then 0 else (if x.f2 = (j : Int) then 1 else 0) + (if x.f3 = (j : Int) then 1 else 0)
def cntK : List S57 → Nat → Int
 | [], _ => 0
 | x :: xs, j => kidK x j + cntK xs j
def planB (n nt : Nat) (plan : List S57) : Bool :=
 decide (1 ≤ plan.length) && decide (plan.length ≤ 1000) && allB (fun i => nodeB n nt plan.length i (rd_T57 plan i)) 0 plan.length && allB (fun j => cntK plan j == 1) 1 (plan.length - 1)
theorem rdT_at (l : List S57) (i : Nat) (h : i < l.length) : rd_T57 l (i : Int) = l[i] := by simp [rd_T57, List.getD_eq_getElem?_getD, List.getElem?_eq_getElem h]
section
variable {a : List Int} {b : List (List Int)} {c : List Int}
end
end Go.Proofs.YtekmiepdodaidaaDoor.X
end

section
/- Layer 7, plain: the way of a fault through a plan, what it costs; the reference's Correct. -/
set_option linter.unusedVariables false
namespace Go.Proofs.YtekmiepdodaidaaDoor.X
open Go.RowKit Go.Proofs.YtekmiepdodaidaaDoorW.PrintWords Go.Proofs.YtekmiepdodaidaaDoorW.PrintLast Go.Proofs.YtekmiepdodaidaaDoorW.PrintMore

/-- The tests on the way of a fault from place p on, and the fault of the leaf. -/
def wayN (b : List (List Int)) (plan : List S57) (f : Int) : Nat → Int → List Int × Int
 | 0, _ => ([], -1)
 | d + 1, p => if (rd_T57 plan p).f0 < 0 then ([], (rd_T57 plan p).f1) else
   let r := wayN b plan f d (if rd (rd_L1 b (rd_T57 plan p).f0) f = 1 then (rd_T57 plan p).f3 else (rd_T57 plan p).f2)
   ((rd_T57 plan p).f0 :: r.1, r.2)
def wayP (b : List (List Int)) (plan : List S57) (f : Int) : List Int × Int := wayN b plan f plan.length 0
def costL (c : List Int) : List Int → Int
 | [] => 0
 | t :: ts => rd c t + costL c ts
def sumR (g : Nat → Int) : Nat → Int
 | 0 => 0
 | n + 1 => sumR g n + g n
def maxR (g : Nat → Int) : Nat → Int
 | 0 => 0
 | n + 1 => mx (maxR g n) (g n)
def wayC (b : List (List Int)) (c : List Int) (plan : List S57) (f : Nat) : Int := costL c (wayP b plan f).1
def leafB (b : List (List Int)) (plan : List S57) (n : Nat) : Bool := allB (fun f => (wayP b plan f).2 == (f : Int)) 0 n
def corrR (a : List Int) (b : List (List Int)) (c : List Int) (plan : List S57) : Int × Int × Bool :=
 if (planB a.length b.length plan && leafB b plan a.length) = true then (sumR (fun f => rd a (f : Int) * wayC b c plan f) a.length, maxR (fun f => wayC b c plan f) a.length, true) else (0, 0, false)
/-- A plan's node. -/
structure PlanIs (n nt : Nat) (plan : List S57) : Prop where
 l1 : 1 ≤ plan.length
 l1000 : plan.length ≤ 1000
 node : ∀ i : Nat, i < plan.length → nodeB n nt plan.length i (rd_T57 plan i) = true
theorem plan_is {n nt : Nat} {plan : List S57} (h : planB n nt plan = true) : PlanIs n nt plan := by
 unfold planB at h
 simp only [Bool.and_eq_true, decide_eq_true_eq] at h
 obtain ⟨⟨⟨h1, h2⟩, h3⟩, h4⟩ := h
 exact ⟨h1, h2, fun i hi => (allB_iff _ _ _).1 h3 i (by omega) (by omega)⟩
theorem node_leaf {n nt len i : Nat} {x : S57} (h : nodeB n nt len i x = true) (h0 : x.f0 < 0) : x.f0 = -1 ∧ 0 ≤ x.f1 ∧ x.f1 < (n : Int) ∧ x.f2 = 0 ∧ x.f3 = 0 := by
 unfold nodeB at h
 by_cases c : x.f0 = -1
 ·rw [if_pos c] at h
  simp only [Bool.and_eq_true, decide_eq_true_eq] at h
  omega
 ·rw [if_neg c] at h
  simp only [Bool.and_eq_true, decide_eq_true_eq] at h
  omega
theorem node_inner {n nt len i : Nat} {x : S57} (h : nodeB n nt len i x = true) (h0 : ¬ x.f0 < 0) : 0 ≤ x.f0 ∧ x.f0 < (nt : Int) ∧ x.f1 = 0 ∧ (i : Int) < x.f2 ∧ x.f2 < (len : Int) ∧ (i : Int) < x.f3 ∧ x.f3 < (len : Int) := by
 unfold nodeB at h
 rw [if_neg (by omega)] at h
 simp only [Bool.and_eq_true, decide_eq_true_eq] at h
 omega
section
variable {n nt : Nat} {plan : List S57} (H : PlanIs n nt plan) (b : List (List Int)) (c : List Int)
include H
end
theorem costL_bounds {c : List Int} {nt : Nat} (hc : ∀ t : Nat, t < nt → 1 ≤ rd c (t : Int) ∧ rd c (t : Int) ≤ 100) : ∀ (l : List Int), (∀ t ∈ l, 0 ≤ t ∧ t < (nt : Int)) → 0 ≤ costL c l ∧ costL c l ≤ 100 * (l.length : Int)
 | [], _ => by simp [costL]
 | t :: ts, h => by
  have ht := h t (by simp)
  have := hc t.toNat (by omega)
  rw [show ((t.toNat : Nat) : Int) = t from by omega] at this
  have ih := costL_bounds hc ts (fun u hu => h u (by simp [hu]))
  simp only [costL, List.length_cons]
  omega
section
variable {a : List Int} {b : List (List Int)} {c : List Int}
end
end Go.Proofs.YtekmiepdodaidaaDoor.X
end

section
/- Layer 7, plain: the plan of a choice of tests is a correct plan; its mean and its worst. -/
set_option linter.unusedVariables false
namespace Go.Proofs.YtekmiepdodaidaaDoor.X
open Go.RowKit Go.Proofs.YtekmiepdodaidaaDoorW.PrintWords Go.Proofs.YtekmiepdodaidaaDoorW.PrintLast Go.Proofs.YtekmiepdodaidaaDoorW.PrintMore

def memB (s : Int) (f : Nat) : Bool := s.toNat.testBit f
theorem mem_and {s x : Int} (hs : SetB s) (hx : SetB x) (f : Nat) : memB (bAnd s x) f = (memB s f && memB x f) := by
 unfold memB
 rw [bAnd_nat hs hx, Int.toNat_natCast, Nat.testBit_and]
theorem mem_sub {s x : Int} (hs : SetB s) (hx : SetB x) (f : Nat) (hf : f < 64) : memB (bSub s x) f = (memB s f && !memB x f) := by
 obtain ⟨v, rfl⟩ : ∃ v : Nat, s = v := ⟨s.toNat, by unfold SetB at hs; omega⟩
 obtain ⟨y, rfl⟩ : ∃ y : Nat, x = y := ⟨x.toNat, by unfold SetB at hx; omega⟩
 unfold SetB at hs hx
 unfold memB
 rw [bSub_nat (by omega) (by omega), Int.toNat_natCast, Int.toNat_natCast, Int.toNat_natCast, Nat.testBit_and, not_bit (by omega) hf]
theorem filter_two (p q : Nat → Bool) : ∀ l : List Nat, (l.filter p).length = (l.filter fun i => p i && q i).length + (l.filter fun i => p i && !q i).length
 | [] => rfl
 | x :: xs => by
  have ih := filter_two p q xs
  simp only [List.filter_cons]
  cases p x <;> cases q x <;> simp <;> omega
theorem cnt_add {s x : Int} (hs : SetB s) (hx : SetB x) : cntB (bAnd s x).toNat + cntB (bSub s x).toNat = cntB s.toNat := by
 have h := filter_two (fun i => memB s i) (fun i => memB x i) (List.range 10)
 unfold cntB
 have e1 : (List.range 10).filter (fun i => (bAnd s x).toNat.testBit i) = (List.range 10).filter (fun i => memB s i && memB x i) := List.filter_congr (fun i _ => mem_and hs hx i)
 have e2 : (List.range 10).filter (fun i => (bSub s x).toNat.testBit i) = (List.range 10).filter (fun i => memB s i && !memB x i) := List.filter_congr (fun i hi => mem_sub hs hx i (by have := List.mem_range.1 hi; omega))
 rw [e1, e2]
 exact h.symm
theorem pcount_set {s : Int} (hs : SetB s) : pcount s = (cntB s.toNat : Nat) := by
 unfold SetB at hs
 have := pcount_nat s.toNat (by omega)
 rwa [show ((s.toNat : Nat) : Int) = s from by omega] at this
theorem one_bit : ∀ v, v < 1024 → cntB v = 1 → Lib.ctz 64 v < 10 ∧ v = 2 ^ Lib.ctz 64 v := by decide +kernel
theorem cnt_pos : ∀ v, v < 1024 → v ≠ 0 → 1 ≤ cntB v ∧ cntB v ≤ 10 := by decide +kernel
theorem some_bit : ∀ v, v < 1024 → v ≠ 0 → ∃ i, i < 10 ∧ v.testBit i = true := by decide +kernel
/-- A set of one fault. -/
theorem one_is {n : Nat} {s : Int} (hs : SetB s) (hp : pcount s = 1) (hn : s < (2 ^ n : Nat)) : ∃ f : Nat, tzB s = (f : Int) ∧ f < n ∧ f < 10 ∧ ∀ g, memB s g = decide (f = g) := by
 rw [pcount_set hs] at hp
 unfold SetB at hs
 obtain ⟨h1, h2⟩ := one_bit s.toNat (by omega) (by omega)
 refine ⟨Lib.ctz 64 s.toNat, rfl, ?_, h1, fun g => ?_⟩
 ·rcases Nat.lt_or_ge (Lib.ctz 64 s.toNat) n with h | h
  ·exact h
  ·have := Nat.pow_le_pow_right (show 0 < 2 by decide) h
   omega
 ·unfold memB
  generalize Lib.ctz 64 s.toNat = i at *
  rw [h2, Nat.testBit_two_pow]
structure TreeOk (n nt : Nat) (tf : Int → Int) (ones : List Int) (R : Int → Prop) : Prop where
 runs : Runs tf ones R
 lt : ∀ s, R s → s < (2 ^ n : Nat)
 n10 : n ≤ 10
 len : ones.length = nt
section
variable {n nt : Nat} {tf : Int → Int} {ones : List Int} {R : Int → Prop} (H : TreeOk n nt tf ones R)
include H
theorem tree_len (d : Nat) : ∀ (s : Int) (p : Nat), R s → s.toNat ≤ d → 1 ≤ (treeB tf ones s p).length ∧ (treeB tf ones s p).length + 1 = 2 * cntB s.toNat := by
 induction d with
 | zero => intro s p hR h; have hs := (H.runs.set s hR).2; exfalso; omega
 | succ d ih =>
  intro s p hR h
  have hs := H.runs.set s hR
  by_cases h1 : pcount s = 1
  ·have e := pcount_set hs.1
   rw [treeB_one s p h1]; simp only [List.length_cons, List.length_nil]; omega
  ·obtain ⟨t0, t1, t2, t3, t4, t5⟩ := H.runs.test s hR h1
   obtain ⟨⟨a1, a2⟩, b1, b2⟩ := split_parts (H.runs.set s hR).1 t2 t3
   have hadd := cnt_add (H.runs.set s hR).1 t2
   have e1 := ih _ (p + 1) t4 (by omega)
   have e2 := ih _ (p + 1 + (treeB tf ones (bSub s (rd ones (tf s))) (p + 1)).length) t5 (by omega)
   rw [treeB_two H.runs s p hR h1, List.length_cons, List.length_append]
   generalize (treeB tf ones (bAnd s (rd ones (tf s))) (p + 1 + (treeB tf ones (bSub s (rd ones (tf s))) (p + 1)).length)).length = m2 at *
   generalize (treeB tf ones (bSub s (rd ones (tf s))) (p + 1)).length = m1 at *
   generalize cntB (bAnd s (rd ones (tf s))).toNat = u1 at *
   generalize cntB (bSub s (rd ones (tf s))).toNat = u2 at *
   generalize cntB s.toNat = u3 at *
   clear ih hs t2 t3 t4 t5 h1
   omega
theorem tree_pos (s : Int) (p : Nat) (hR : R s) : 1 ≤ (treeB tf ones s p).length ∧ (treeB tf ones s p).length ≤ 19 := by
 have h := tree_len H s.toNat s p hR (Nat.le_refl _)
 have hs := H.runs.set s hR
 have h2 := cnt_pos s.toNat (by have := hs.1; unfold SetB at this; omega) (by omega)
 omega
theorem run_parts (s : Int) (hR : R s) (h1 : pcount s ≠ 1) : 0 ≤ tf s ∧ tf s < (nt : Int) ∧ SetB (rd ones (tf s)) ∧ R (bSub s (rd ones (tf s))) ∧ R (bAnd s (rd ones (tf s))) ∧ (bSub s (rd ones (tf s))).toNat < s.toNat ∧ (bAnd s (rd ones (tf s))).toNat < s.toNat := by
 obtain ⟨t0, t1, t2, t3, t4, t5⟩ := H.runs.test s hR h1
 obtain ⟨⟨a1, a2⟩, b1, b2⟩ := split_parts (H.runs.set s hR).1 t2 t3
 have hl := H.len
 exact ⟨t0, by omega, t2, t4, t5, by omega, by omega⟩
omit H in
theorem leaf_node (len i f : Nat) (hf : f < n) : nodeB n nt len i ⟨-1, (f : Int), 0, 0⟩ = true := by
 unfold nodeB
 rw [if_pos rfl]
 simp; omega
omit H in
theorem inner_node (len i z o : Nat) (t : Int) (h0 : 0 ≤ t) (h1 : t < (nt : Int)) (hz : i < z ∧ z < len) (ho : i < o ∧ o < len) : nodeB n nt len i ⟨t, 0, (z : Int), (o : Int)⟩ = true := by
 unfold nodeB
 rw [if_neg (show ¬ (t = -1) by omega)]
 simp only [Bool.and_eq_true, decide_eq_true_eq]
 exact ⟨⟨⟨⟨⟨⟨h0, h1⟩, trivial⟩, by omega⟩, by omega⟩, by omega⟩, by omega⟩
omit H in
theorem node_join {P : Nat → S57 → Prop} {x0 : S57} {Z O : List S57} (h0 : P 0 x0) (hZ : ∀ i x, Z[i]? = some x → P (1 + i) x) (hO : ∀ i x, O[i]? = some x → P (1 + Z.length + i) x) : ∀ i x, (x0 :: (Z ++ O))[i]? = some x → P i x := by
 intro i x hx
 cases i with
 | zero =>
  obtain rfl : x0 = x := by simpa using hx
  exact h0
 | succ i =>
  rw [List.getElem?_cons_succ] at hx
  rcases Nat.lt_or_ge i Z.length with hi | hi
  ·rw [List.getElem?_append_left hi] at hx
   have := hZ i x hx
   rwa [Nat.add_comm 1 i] at this
  ·rw [List.getElem?_append_right hi] at hx
   have := hO (i - Z.length) x hx
   rwa [show 1 + Z.length + (i - Z.length) = i + 1 by omega] at this
omit H in
theorem node_fit (p m1 m2 len : Nat) (h1 : 1 ≤ m1) (h2 : 1 ≤ m2) (h : p + (m1 + m2 + 1) ≤ len) : (p + 1 + m1 ≤ len ∧ p + 1 + m1 + m2 ≤ len) ∧ (p + 0 < p + 1 ∧ p + 1 < len) ∧ (p + 0 < p + 1 + m1 ∧ p + 1 + m1 < len) := by omega
theorem tree_node (len : Nat) (d : Nat) : ∀ (s : Int) (p : Nat), R s → s.toNat ≤ d → p + (treeB tf ones s p).length ≤ len → ∀ (i : Nat) (x : S57), (treeB tf ones s p)[i]? = some x → nodeB n nt len (p + i) x = true := by
 induction d with
 | zero => intro s p hR h; have hs := (H.runs.set s hR).2; exfalso; omega
 | succ d ih =>
  intro s p hR h
  have hs := H.runs.set s hR
  by_cases h1 : pcount s = 1
  ·obtain ⟨f, e1, e2, _⟩ := one_is hs.1 h1 (H.lt s hR)
   rw [treeB_one s p h1, e1]
   intro _ i x hx
   cases i with
   | zero =>
    obtain rfl : (⟨-1, (f : Int), 0, 0⟩ : S57) = x := by simpa using hx
    exact leaf_node len _ f e2
   | succ i => simp at hx
  ·obtain ⟨t0, t1, t2, t4, t5, k1, k2⟩ := run_parts H s hR h1
   have e1 := tree_pos H _ (p + 1) t4
   have e2 := tree_pos H _ (p + 1 + (treeB tf ones (bSub s (rd ones (tf s))) (p + 1)).length) t5
   have i1 := ih _ (p + 1) t4 (Nat.le_of_lt_succ (Nat.lt_of_lt_of_le k1 h))
   have i2 := ih _ (p + 1 + (treeB tf ones (bSub s (rd ones (tf s))) (p + 1)).length) t5 (Nat.le_of_lt_succ (Nat.lt_of_lt_of_le k2 h))
   rw [treeB_two H.runs s p hR h1, List.length_cons, List.length_append]
   clear hs ih h h1 k1 k2 t4 t5 t2 H hR
   generalize hZ : treeB tf ones (bSub s (rd ones (tf s))) (p + 1) = Z at *
   generalize hO : treeB tf ones (bAnd s (rd ones (tf s))) (p + 1 + Z.length) = O at *
   clear hZ hO
   intro hlen
   obtain ⟨⟨q1, q2⟩, q3, q4⟩ := node_fit p Z.length O.length len e1.1 e2.1 hlen
   refine node_join (inner_node len (p + 0) (p + 1) (p + 1 + Z.length) (tf s) t0 t1 q3 q4) (fun i x hx => ?_) (fun i x hx => ?_)
   ·have := i1 q1 i x hx
    rwa [Nat.add_assoc] at this
   ·have := i2 q2 i x hx
    rwa [show p + 1 + Z.length + i = p + (1 + Z.length + i) by omega] at this
omit H in
theorem kid_sum (p m1 m2 j : Nat) (h1 : 1 ≤ m1) (h2 : 1 ≤ m2) : ((if ((p + 1 : Nat) : Int) = (j : Int) then 1 else 0) + (if ((p + 1 + m1 : Nat) : Int) = (j : Int) then (1 : Int) else 0)) + ((if p + 1 < j ∧ j < p + 1 + m1 then 1 else 0) + (if p + 1 + m1 < j ∧ j < p + 1 + m1 + m2 then 1 else 0)) = if p < j ∧ j < p + (m1 + m2 + 1) then 1 else 0 := by
 have q1 : (((p + 1 : Nat) : Int) = (j : Int)) ↔ p + 1 = j := by omega
 have q2 : (((p + 1 + m1 : Nat) : Int) = (j : Int)) ↔ p + 1 + m1 = j := by omega
 simp only [q1, q2]
 clear q1 q2
 repeat' split
 all_goals omega
omit H in
theorem cntK_append (l m : List S57) (j : Nat) : cntK (l ++ m) j = cntK l j + cntK m j := by
 induction l with
 | nil => simp [cntK]
 | cons x xs ih => simp only [List.cons_append, cntK, ih]; omega
omit H in
theorem cntK_node (x : S57) (Z O : List S57) (j : Nat) : cntK (x :: (Z ++ O)) j = kidK x j + (cntK Z j + cntK O j) := by
 rw [← cntK_append]; rfl
omit H in
theorem kidK_node (t z o : Int) (j : Nat) (h : t ≠ -1) : kidK ⟨t, 0, z, o⟩ j = (if z = (j : Int) then 1 else 0) + (if o = (j : Int) then 1 else 0) := if_neg h
theorem tree_kids (d : Nat) : ∀ (s : Int) (p : Nat), R s → s.toNat ≤ d → ∀ j, cntK (treeB tf ones s p) j = if p < j ∧ j < p + (treeB tf ones s p).length then 1 else 0 := by
 induction d with
 | zero => intro s p hR h; have hs := (H.runs.set s hR).2; exfalso; omega
 | succ d ih =>
  intro s p hR h j
  have hs := H.runs.set s hR
  by_cases h1 : pcount s = 1
  ·rw [treeB_one s p h1]
   simp only [cntK, kidK, List.length_cons, List.length_nil, if_true]
   rw [if_neg (by omega)]; rfl
  ·obtain ⟨t0, t1, t2, t4, t5, k1, k2⟩ := run_parts H s hR h1
   have e1 := tree_pos H _ (p + 1) t4
   have e2 := tree_pos H _ (p + 1 + (treeB tf ones (bSub s (rd ones (tf s))) (p + 1)).length) t5
   have i1 := ih _ (p + 1) t4 (Nat.le_of_lt_succ (Nat.lt_of_lt_of_le k1 h)) j
   have i2 := ih _ (p + 1 + (treeB tf ones (bSub s (rd ones (tf s))) (p + 1)).length) t5 (Nat.le_of_lt_succ (Nat.lt_of_lt_of_le k2 h)) j
   have hne : tf s ≠ -1 := fun e => by rw [e] at t0; exact absurd t0 (by decide)
   clear hs ih h
   rw [treeB_two H.runs s p hR h1, cntK_node, i1, i2, kidK_node _ _ _ _ hne, List.length_cons, List.length_append]
   generalize (treeB tf ones (bAnd s (rd ones (tf s))) (p + 1 + (treeB tf ones (bSub s (rd ones (tf s))) (p + 1)).length)).length = m2 at *
   generalize (treeB tf ones (bSub s (rd ones (tf s))) (p + 1)).length = m1 at *
   exact kid_sum p m1 m2 j e1.1 e2.1
theorem tree_plan (s : Int) (hR : R s) : planB n nt (treeB tf ones s 0) = true := by
 have hp := tree_pos H s 0 hR
 have hk := tree_kids H s.toNat s 0 hR (Nat.le_refl _)
 have hn := tree_node H (treeB tf ones s 0).length s.toNat s 0 hR (Nat.le_refl _) (by omega)
 unfold planB
 simp only [Bool.and_eq_true, decide_eq_true_eq]
 refine ⟨⟨⟨hp.1, by omega⟩, (allB_iff _ _ _).2 (fun i _ hi => ?_)⟩, (allB_iff _ _ _).2 (fun j h1 h2 => ?_)⟩
 ·have hi' : i < (treeB tf ones s 0).length := by omega
  have := hn i _ (List.getElem?_eq_getElem hi')
  rw [rdT_at _ i hi']
  rwa [Nat.zero_add] at this
 ·rw [hk j, if_pos (by omega)]; rfl
end
end Go.Proofs.YtekmiepdodaidaaDoor.X
end
