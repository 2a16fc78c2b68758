/- Texts behind ThreadIndexes, part 23: contracts of the program's functions and the plain words for them. -/
import Derived.Test.YtagdbadljcongaaTpar
import Derived.Test.YtagdbadljcongaaTpas
import Derived.Test.YtagdbadljcongaaTpav
section
namespace Go.Proofs.Ytagdbadljcongaa.X
open Go.RowKit Go.Proofs.YtagdbadljcongaaW.PrintWords Go.Proofs.YtagdbadljcongaaW.PrintLast Go.Proofs.YtagdbadljcongaaW.PrintMore
attribute [local go_sem] max2_int min2_int max_two min_two max_three min_three max_four min_four   -- for this text's walks alone
set_option linter.unusedVariables false
set_option linter.unusedSimpArgs false

mutual
def tickingref03_Counts.l0 : Nat → ByteArray → List Int → Int → Option (List Int)
 | 0, _, _, _ => none
 | k + 1, x0, x3, x4 => if x4 ≥ 0 then (if 0 ≤ x4 then (if x4 < (x3.length : Int) then (tickingref03_Counts.l1 k x0 (x3.set (x4 : Int).toNat 1) x4 97) else (none)) else (none)) else (some x3)
def tickingref03_Counts.l1 : Nat → ByteArray → List Int → Int → Int → Option (List Int)
 | 0, _, _, _, _ => none
 | k + 1, x0, x3, x4, x5 => if x5 ≤ 100 then ((tickingref03_Next.f k x0 x4 x5).bind fun t161 => (if t161 ≥ 0 then (if 0 ≤ x4 then (if x4 < (x3.length : Int) then (if 0 ≤ t161 then (if t161 < (x3.length : Int) then (tickingref03_Counts.l1 k x0 (x3.set (x4 : Int).toNat (wrap64 ((rd x3 x4) + (rd x3 t161)))) x4 ((x5 + 1) % 256)) else (none)) else (none)) else (none)) else (none)) else (tickingref03_Counts.l1 k x0 x3 x4 ((x5 + 1) % 256)))) else (tickingref03_Counts.l0 k x0 x3 (wrap64 (x4 - 1)))
end
def tickingref03_Counts.f (k : Nat) (a0 : ByteArray) : Option (List Int) := if 0 ≤ (wrap64 ((a0.size : Int) + 1)) then (if (wrap64 ((a0.size : Int) + 1) : Int).toNat ≤ 35184372088832 then (tickingref03_Counts.l0 k a0 (List.replicate (wrap64 ((a0.size : Int) + 1) : Int).toNat 0) (a0.size : Int)) else (none)) else (none)
def tickingref03_Counts.T11 : Bool × List (List Nat × List Nat) := (true, [([], []), ([], []), ([], []), ([], []), ([2, 3], [2, 3]), ([4], [4]), ([], []), ([], []), ([6, 7], [6, 7]), ([8], [8]), ([5, 9], [5, 9]), ([0, 1, 0, 1, 2, 3, 4, 5, 6, 7, 8, 9, 10], [0, 1]), ([11, 10, 0, 1, 2, 3, 4, 5, 6, 7, 8, 9, 10], [10, 11])])
def tickingref03_Counts.B11 : List Nat := [0, 0, 0, 0, 12, 28, 0, 0, 192, 448, 1020, 2047, 4095]
theorem tickingref03_Counts.tab11 : rtab .any (opsOf Try.f37 11) = tickingref03_Counts.T11 := by kernel_rfl
theorem tickingref03_Counts.bits11 : waitsOk tickingref03_Counts.T11.2 tickingref03_Counts.B11 = true := by kernel_rfl
set_option maxHeartbeats 8000000 in
set_option maxRecDepth 100000 in
theorem tickingref03_Counts.calls (k : Nat) (a0 : ByteArray) (r : List Int) (w : World) (h : tickingref03_Counts.f k a0 = some r) :
  Calls Try.prog 37 #[.string a0] w fun e w' => ∃ v0_ : Value, e = .returned (v0_) ∧ Kd.R (Kd.int .i64) 3 w' w.heap.size (fun _ => True) v0_ r ∧ Below w.heap.size w w' := by
 have HB := Aside0.mk (Below.refl w.heap.size w)
 have H : (if 0 ≤ (wrap64 ((a0.size : Int) + 1)) then (if (wrap64 ((a0.size : Int) + 1) : Int).toNat ≤ 35184372088832 then (tickingref03_Counts.l0 k a0 (List.replicate (wrap64 ((a0.size : Int) + 1) : Int).toNat 0) (a0.size : Int)) else (none)) else (none)) = some r := h
 clear h
 obtain ⟨ji2, hji2⟩ : ∃ j_ : Int, (wrap64 ((a0.size : Int) + 1)) = j_ := ⟨_, rfl⟩
 replace H : (if 0 ≤ (ji2) then (if (ji2 : Int).toNat ≤ 35184372088832 then (tickingref03_Counts.l0 k a0 (List.replicate (ji2 : Int).toNat 0) (a0.size : Int)) else (none)) else (none)) = some r := by first | (rw [hji2] at H; exact H) | (simp only [hji2] at H ⊢; exact H)
 have hji2w : (IntKind.i64.wrap ((a0.size : Int) + 1)) = ji2 := (i64_w _).trans hji2
 by_cases c3 : 0 ≤ (ji2)
 ·rw [if_pos c3] at H
  have c3b0 := eq_true c3
  have c3b1 : decide (0 ≤ (ji2)) = true := decide_eq_true c3
  clear c3
  by_cases c4 : (ji2 : Int).toNat ≤ 35184372088832
  ·rw [if_pos c4] at H
   have c4b0 := eq_true c4
   have c4b1 : decide ((ji2 : Int).toNat ≤ 35184372088832) = true := decide_eq_true c4
   clear c4
   obtain ⟨y157, hy157⟩ : ∃ y_ : List Int, y_ = (List.replicate (ji2 : Int).toNat 0) := ⟨_, rfl⟩
   replace H : (tickingref03_Counts.l0 k a0 y157 (a0.size : Int)) = some r := by first | (rw [hy157]; with_reducible exact H) | (have H2_ := (Option.bind_some _ _).symm.trans H; rw [hy157]; with_reducible exact H2_) | (have H2_ := (Option.bind_some _ _).symm.trans H; with_reducible exact H2_) | with_reducible exact H | (rw [hy157]; exact H) | exact H
   have Ny157 := Aside0.mk hy157
   clear hy157
   have H' := Aside0.mk H
   clear H
   go_enter Try.func37, Try.ntmps37
   go_wp2_with (first | ((with_reducible refine gate_dst (N := 10) rfl ?_); refine Kd.R_make (Kd.int .i64) _ 3 rfl (N := 10) rfl 23 _ _ rfl ji2 rfl rfl Try.underlying23 (.int .i64 0) 8 info3 rfl (by decide) (by omega) 0 (ok := fun _ => True) (okp := fun _ => True) rfl (fun _ hk => hk) trivial (of_decide_eq_true az) (Nat.le_trans (Nat.mul_le_mul_right _ (of_decide_eq_true az : ji2.toNat ≤ 35184372088832)) (by omega)) (Below.refl _ _) (Nat.le_refl _) ?_; intro v158 w5 ho6 hb hg_ hnew_; clear hg_ hnew_; (first | rw [← Ny157.out] at ho6 | (simp only [Int.reduceToNat] at ho6; rw [← Ny157.out] at ho6)); have n0_ := Aside0.mk (Kd.R_lower ho6 (below_size bz)); have n1_ := Aside0.mk (below_step bz hb); clear HB; have HO159 := n0_; have HB := n1_; clear n0_ n1_; clear hb ho6))
   go_loopg [4] k (fun kq v4 w' => ∃ (x3_1 : List Int) (x4_1 : Int), v4 = .int .i64 x4_1 ∧ Aside0 (tickingref03_Counts.l0 kq a0 x3_1 x4_1 = some r) ∧ Aside0 (kq ≤ k) ∧ Aside0 (Kd.R (Kd.int .i64) 3 w' w.heap.size (fun _ => True) v158 x3_1) ∧ Aside0 (Below w.heap.size w w'))
   case atStart => exact ⟨(y157), ((a0.size : Int)), (by first | rfl | (simp; done) | (simp [*]; done)), H', ⟨Nat.le_refl _⟩, ⟨by (with_reducible repeat (first | apply Kd.R_alloc | apply Kd.R_drewN | apply Kd.R_drew)); exact HO159.out⟩, ⟨by repeat (first | (with_reducible first | exact HB.out | apply below_alloc | apply pw_below_drewN | apply below_drew1) | exact HB.out)⟩⟩
   case round =>
    clear H'
    try clear p2
    try clear c3
    try clear c3b0
    try clear c3b1
    try clear c4
    try clear c4b0
    try clear c4b1
    try clear p6
    obtain ⟨x3_1, x4_1, rfl, HA, HK1, HO_3, HB⟩ := hrel
    cases gk with
    | zero => exact absurd HA.out (by simp [tickingref03_Counts.l0])
    | succ k1 =>
     have H := HA.out
     clear HA
     simp only [tickingref03_Counts.l0] at H
     by_cases c7 : x4_1 ≥ 0
     ·rw [if_pos c7] at H
      have c7b0 : decide (0 ≤ x4_1) = true := decide_eq_true c7
      clear c7
      by_cases c8 : 0 ≤ x4_1
      ·rw [if_pos c8] at H
       have c8b0 : decide (0 ≤ x4_1) = true := decide_eq_true c8
       clear c8
       by_cases c9 : x4_1 < (x3_1.length : Int)
       ·rw [if_pos c9] at H
        have c9b0 : decide (x4_1 < (x3_1.length : Int)) = true := decide_eq_true c9
        clear c9
        obtain ⟨y160, hy160⟩ : ∃ y_ : List Int, y_ = (x3_1.set (x4_1 : Int).toNat 1) := ⟨_, rfl⟩
        replace H : (tickingref03_Counts.l1 k1 a0 y160 x4_1 97) = some r := by first | (rw [hy160]; with_reducible exact H) | (have H2_ := (Option.bind_some _ _).symm.trans H; rw [hy160]; with_reducible exact H2_) | (have H2_ := (Option.bind_some _ _).symm.trans H; with_reducible exact H2_) | with_reducible exact H | (rw [hy160]; exact H) | exact H
        have Ny160 := Aside0.mk hy160
        clear hy160
        have H' := Aside0.mk H
        clear H
        have p10 : 0 ≤ (x4_1 : Int) := of_decide_eq_true az
        have q10 : (x4_1 : Int) < ((x3_1.length : Int) : Int) := of_decide_eq_true az
        obtain ⟨go10, co10, eo10, gb10, gl10, cl10, HG10⟩ := Kd.R_form HO_3.out (by omega)
        (first | cases eo10 | (injection eo10 with ea_ en_ ec_; (first | subst ea_ | (injection ea_ with ea_; subst ea_)); subst ec_; clear en_))
        have GB10 := Aside0.mk gb10
        have GG10 := Aside0.mk HG10
        clear gb10 gl10 HG10
        obtain ⟨hx10_0, hf10_0⟩ := Kd.R_celln 0 HO_3.out (x4_1 : Int) p10 q10
        replace p10 := eq_true p10
        replace q10 := eq_true q10
        have HP11 := Kd.R_putg HO_3.out (x4_1 : Int) 1
        go_wp2_with (first | ((with_reducible refine gate_store (t := 3) (p := 19) rfl ?_); refine store_event (t := 3) (p := 19) (v := ?vo_w12) (w1 := (wr.setCell ⟨go10, (x4_1 : Int).toNat, none⟩ (.int .i64 1))) ?hg ?ho ?hn ?hr ?_; (case ho => rfl); (case hg => rfl); (case hn => rfl); (case hr => first | (go_simp; done) | (go_simp; rfl)); intro w12 hw; have hg : wr.grownBy w12 (some go10) := (by rw [hw]; exact HP11.2); have hp_ : Kd.R (Kd.int .i64) 3 w12 w.heap.size (fun _ => True) (.slice (some ⟨go10, 0, none⟩) x3_1.length co10) y160 := (by rw [hw, Ny160.out]; exact HP11.1); clear HP11; have n0_ := Aside0.mk (hp_); have n1_ := Aside0.mk ((by rw [hw]; exact below_set (HB.out) GB10.out : Below w.heap.size w w12)); clear HO_3; clear HB; have HO_3 := n0_; have HB := n1_; clear n0_ n1_; clear hg hw hp_))
        go_loopg [5] k1 (fun kq v5 w' => ∃ (x3_2 : List Int) (x5_2 : Int), v5 = .int .u8 x5_2 ∧ Aside0 (tickingref03_Counts.l1 kq a0 x3_2 x4_1 x5_2 = some r) ∧ Aside0 (kq ≤ k1) ∧ Aside0 (Kd.R (Kd.int .i64) 3 w' w.heap.size (fun _ => True) (.slice (some ⟨go10, 0, none⟩) x3_1.length co10) x3_2) ∧ Aside0 (Below w.heap.size w w'))
        case atStart => exact ⟨(y160), (97), (by first | rfl | (simp; done) | (simp [*]; done)), H', ⟨Nat.le_refl _⟩, ⟨by (with_reducible repeat (first | apply Kd.R_alloc | apply Kd.R_drewN | apply Kd.R_drew)); exact HO_3.out⟩, ⟨by repeat (first | (with_reducible first | exact HB.out | apply below_alloc | apply pw_below_drewN | apply below_drew1) | exact HB.out)⟩⟩
        case round =>
         clear H'
         try clear p1
         try clear q1
         try clear hx1
         try clear hf1
         try clear p2
         try clear c3
         try clear c3b0
         try clear c3b1
         try clear c4
         try clear c4b0
         try clear c4b1
         try clear p6
         try clear c7
         try clear c7b0
         try clear c8
         try clear c8b0
         try clear c9
         try clear c9b0
         try clear p10
         try clear q10
         try clear hx10
         try clear hf10
         try clear hx10_0
         try clear p10
         try clear p2
         try clear p6
         try clear q10
         obtain ⟨x3_2, x5_2, rfl, HA, HK2, HO_3, HB⟩ := hrel
         have hl3_2 := (Kd.R_reads' HO_3.out).1
         rw [hl3_2] at HO_3
         (try simp only [hl3_2])
         cases gk with
         | zero => exact absurd HA.out (by simp [tickingref03_Counts.l1])
         | succ k2 =>
          have H := HA.out
          clear HA
          simp only [tickingref03_Counts.l1] at H
          by_cases c13 : x5_2 ≤ 100
          ·rw [if_pos c13] at H
           have c13b0 : decide (x5_2 ≤ 100) = true := decide_eq_true c13
           clear c13
           replace H := Option.bind_eq_some_iff.mp H
           obtain ⟨t161, A140, H⟩ := H
           replace H : (if t161 ≥ 0 then (if 0 ≤ x4_1 then (if x4_1 < (x3_2.length : Int) then (if 0 ≤ t161 then (if t161 < (x3_2.length : Int) then (tickingref03_Counts.l1 k2 a0 (x3_2.set (x4_1 : Int).toNat (wrap64 ((rd x3_2 x4_1) + (rd x3_2 t161)))) x4_1 ((x5_2 + 1) % 256)) else (none)) else (none)) else (none)) else (none)) else (tickingref03_Counts.l1 k2 a0 x3_2 x4_1 ((x5_2 + 1) % 256))) = some r := H
           have A14 := Aside0.mk A140
           clear A140
           by_cases c15 : t161 ≥ 0
           ·rw [if_pos c15] at H
            have c15b0 : decide (0 ≤ t161) = true := decide_eq_true c15
            clear c15
            by_cases c16 : 0 ≤ x4_1
            ·rw [if_pos c16] at H
             have c16b0 : decide (0 ≤ x4_1) = true := decide_eq_true c16
             clear c16
             by_cases c17 : x4_1 < (x3_2.length : Int)
             ·rw [if_pos c17] at H
              have c17b0 : decide (x4_1 < (x3_2.length : Int)) = true := decide_eq_true c17
              clear c17
              by_cases c18 : 0 ≤ t161
              ·rw [if_pos c18] at H
               have c18b0 : decide (0 ≤ t161) = true := decide_eq_true c18
               clear c18
               by_cases c19 : t161 < (x3_2.length : Int)
               ·rw [if_pos c19] at H
                have c19b0 : decide (t161 < (x3_2.length : Int)) = true := decide_eq_true c19
                clear c19
                obtain ⟨y164, hy164⟩ : ∃ y_ : List Int, y_ = (x3_2.set (x4_1 : Int).toNat (wrap64 ((rd x3_2 x4_1) + (rd x3_2 t161)))) := ⟨_, rfl⟩
                replace H : (tickingref03_Counts.l1 k2 a0 y164 x4_1 ((x5_2 + 1) % 256)) = some r := by first | (rw [hy164]; with_reducible exact H) | (have H2_ := (Option.bind_some _ _).symm.trans H; rw [hy164]; with_reducible exact H2_) | (have H2_ := (Option.bind_some _ _).symm.trans H; with_reducible exact H2_) | with_reducible exact H | (rw [hy164]; exact H) | exact H
                have Ny164 := Aside0.mk hy164
                clear hy164
                have H' := Aside0.mk H
                clear H
                try go_wp2_with (first | ((with_reducible refine gate_callee (f := 55) rfl ?_); refine goesL_ (some 27) rfl rfl Try.func55 (by kernel_rfl) rfl #[.string a0, .int .i64 x4_1, .int .u8 x5_2] rfl dz ?_; (with_reducible refine (tickingref03_Next.calls k2 a0 x4_1 x5_2 t161 _ A14.out).mono ?_); rintro e w' ⟨rfl, ⟨nd, rfl⟩⟩; refine ⟨_, rfl, ?_⟩; (try (rw [drewN_self wr]; generalize hq_ : World.drewN wr _ = wr; have n0_ : Aside0 (Kd.R (Kd.int .i64) 3 wr w.heap.size (fun _ => True) (.slice (some ⟨go10, 0, none⟩) x3_2.length co10) x3_2) := ⟨by rw [← hq_]; exact (rz HO_3.out)⟩; have n1_ : Aside0 (Below w.heap.size w wr) := ⟨by rw [← hq_]; exact bz⟩; clear HO_3 HB hq_; have HO_3 := n0_; have HB := n1_; clear n0_ n1_))))
                have n0_ := Aside0.mk (Kd.R_drew HO_3.out)
                have n1_ := Aside0.mk (below_drew1 HB.out)
                clear HO_3
                clear HB
                have HO_3 := n0_
                have HB := n1_
                clear n0_ n1_
                have p162 : 0 ≤ (x4_1 : Int) := of_decide_eq_true az
                have q162 : x4_1 < (x3_2.length : Int) := of_decide_eq_true az
                obtain ⟨ad162, e162, hx162_0⟩ := Kd.at_int (Kd.R_reads' HO_3.out).2.2 x4_1 p162 q162
                obtain rfl : (⟨go10, 0, none⟩ : Addr) = ad162 := (by injection e162)
                (first | simp only [add_plain] at hx162_0 | simp only [add_at] at hx162_0 | simp only [Addr.add, Nat.zero_add] at hx162_0 | skip)
                replace p162 := eq_true p162
                replace q162 := eq_true q162
                have p163 : 0 ≤ (t161 : Int) := of_decide_eq_true az
                have q163 : t161 < (x3_2.length : Int) := of_decide_eq_true az
                obtain ⟨ad163, e163, hx163_0⟩ := Kd.at_int (Kd.R_reads' HO_3.out).2.2 t161 p163 q163
                obtain rfl : (⟨go10, 0, none⟩ : Addr) = ad163 := (by injection e163)
                (first | simp only [add_plain] at hx163_0 | simp only [add_at] at hx163_0 | simp only [Addr.add, Nat.zero_add] at hx163_0 | skip)
                replace p163 := eq_true p163
                replace q163 := eq_true q163
                have p20 : 0 ≤ (x4_1 : Int) := of_decide_eq_true az
                have q20 : (x4_1 : Int) < ((x3_2.length : Int) : Int) := of_decide_eq_true az
                obtain ⟨hx20_0, hf20_0⟩ := Kd.R_celln 0 HO_3.out (x4_1 : Int) p20 q20
                replace p20 := eq_true p20
                replace q20 := eq_true q20
                have HP22 := Kd.R_putn HO_3.out (x4_1 : Int) (wrap64 ((rd x3_2 x4_1) + (rd x3_2 t161)))
                rw [← Ny164.out] at HP22
                have HQ22 := Aside0.mk HP22
                clear HP22
                refine start_ (n := 13) (S := fun w' => w'.cell? ⟨go10, (x4_1).toNat, none⟩ = some (.int .i64 (rd x3_2 x4_1)) ∧ w'.cell? ⟨go10, (t161).toNat, none⟩ = some (.int .i64 (rd x3_2 t161))) (ds := [12]) #[false, false, false, false, false, false, false, false, false, false, false, false, false] (by kernel_rfl) rfl rfl ⟨hx162_0, hx163_0⟩ (fun hHeld => ?_); refine with_tabW tickingref03_Counts.tab11 tickingref03_Counts.bits11 (fun HT_ HW_ => ?_)
                generalize wr.drew = w21 at HO_3 HB HQ22 hf20_0 hx162_0 hx163_0 hx20_0 hHeld ⊢
                refine pure_ (i := 0) (N := some 30) (v := ?_) (a' := ?_) #[true, false, false, false, false, false, false, false, false, false, false, false, false] rfl rfl (any_of HT_.out (by kernel_rfl)) (fun _ _ _ h => h) (Or.inl ⟨by rfl, ?_⟩) ?_ ?_
                rotate_left
                ·intro w'
                 go_simp
                 with_reducible rfl
                rotate_left
                ·simp only [Act.put, List.setIfInBounds_toArray, List.set_cons_zero, List.set_cons_succ, i64_w, i32_w]
                 rfl
                refine pure_ (i := 1) (N := some 31) (v := ?_) (a' := ?_) #[true, true, false, false, false, false, false, false, false, false, false, false, false] rfl rfl (any_of HT_.out (by kernel_rfl)) (fun _ _ _ h => h) (Or.inl ⟨by rfl, ?_⟩) ?_ ?_
                rotate_left
                ·intro w'
                 go_simp
                 with_reducible rfl
                rotate_left
                ·simp only [Act.put, List.setIfInBounds_toArray, List.set_cons_zero, List.set_cons_succ, i64_w, i32_w]
                 rfl
                refine pure_ (i := 2) (N := some 32) (v := ?_) (a' := ?_) #[true, true, true, false, false, false, false, false, false, false, false, false, false] rfl rfl (any_of HT_.out (by kernel_rfl)) (fun _ _ _ h => h) (Or.inl ⟨by rfl, ?_⟩) ?_ ?_
                rotate_left
                ·intro w'
                 go_simp
                 with_reducible rfl
                rotate_left
                ·simp only [Act.put, List.setIfInBounds_toArray, List.set_cons_zero, List.set_cons_succ, i64_w, i32_w]
                 rfl
                refine pure_ (i := 3) (N := some 33) (v := ?_) (a' := ?_) #[true, true, true, true, false, false, false, false, false, false, false, false, false] rfl rfl (any_of HT_.out (by kernel_rfl)) (fun _ _ _ h => h) (Or.inl ⟨by rfl, ?_⟩) ?_ ?_
                rotate_left
                ·intro w'
                 go_simp
                 with_reducible rfl
                rotate_left
                ·simp only [Act.put, List.setIfInBounds_toArray, List.set_cons_zero, List.set_cons_succ, i64_w, i32_w]
                 rfl
                refine pure_ (i := 4) (N := some 34) (v := ?_) (a' := ?_) #[true, true, true, true, true, false, false, false, false, false, false, false, false] rfl rfl (any_of HT_.out (by kernel_rfl)) (fun _ _ _ h => h) (Or.inl ⟨by rfl, ?_⟩) ?_ ?_
                rotate_left
                ·intro w'
                 go_simp
                 with_reducible rfl
                rotate_left
                ·simp only [Act.put, List.setIfInBounds_toArray, List.set_cons_zero, List.set_cons_succ, i64_w, i32_w]
                 rfl
                refine pure_ (i := 6) (N := some 36) (v := ?_) (a' := ?_) #[true, true, true, true, true, false, true, false, false, false, false, false, false] rfl rfl (any_of HT_.out (by kernel_rfl)) (fun _ _ _ h => h) (Or.inl ⟨by rfl, ?_⟩) ?_ ?_
                rotate_left
                ·intro w'
                 go_simp
                 with_reducible rfl
                rotate_left
                ·simp only [Act.put, List.setIfInBounds_toArray, List.set_cons_zero, List.set_cons_succ, i64_w, i32_w]
                 rfl
                refine pure_ (i := 7) (N := some 37) (v := ?_) (a' := ?_) #[true, true, true, true, true, false, true, true, false, false, false, false, false] rfl rfl (any_of HT_.out (by kernel_rfl)) (fun _ _ _ h => h) (Or.inl ⟨by rfl, ?_⟩) ?_ ?_
                rotate_left
                ·intro w'
                 go_simp
                 with_reducible rfl
                rotate_left
                ·simp only [Act.put, List.setIfInBounds_toArray, List.set_cons_zero, List.set_cons_succ, i64_w, i32_w]
                 rfl
                refine pure_ (i := 8) (N := some 38) (v := ?_) (a' := ?_) #[true, true, true, true, true, false, true, true, true, false, false, false, false] rfl rfl (any_of HT_.out (by kernel_rfl)) (fun _ _ _ h => h) (Or.inl ⟨by rfl, ?_⟩) ?_ ?_
                rotate_left
                ·intro w'
                 go_simp
                 with_reducible rfl
                rotate_left
                ·simp only [Act.put, List.setIfInBounds_toArray, List.set_cons_zero, List.set_cons_succ, i64_w, i32_w]
                 rfl
                refine take_ (i := 5) (N := some 35) (v := ?_) (a' := ?_) #[true, true, true, true, true, true, true, true, true, false, false, false, false] rfl rfl (take_ofW HT_.out HW_.out (by kernel_rfl)) (fun _ _ _ h => h) (Or.inl ⟨by rfl, ?_⟩) hHeld ?_ ?_
                rotate_left
                ·rintro w' ⟨s0, s1⟩
                 go_simp
                 with_reducible rfl
                rotate_left
                ·simp only [Act.put, List.setIfInBounds_toArray, List.set_cons_zero, List.set_cons_succ, i64_w, i32_w]
                 rfl
                refine take_ (i := 9) (N := some 39) (v := ?_) (a' := ?_) #[true, true, true, true, true, true, true, true, true, true, false, false, false] rfl rfl (take_ofW HT_.out HW_.out (by kernel_rfl)) (fun _ _ _ h => h) (Or.inl ⟨by rfl, ?_⟩) hHeld ?_ ?_
                rotate_left
                ·rintro w' ⟨s0, s1⟩
                 go_simp
                 with_reducible rfl
                rotate_left
                ·simp only [Act.put, List.setIfInBounds_toArray, List.set_cons_zero, List.set_cons_succ, i64_w, i32_w]
                 rfl
                refine pure_ (i := 10) (N := some 40) (v := ?_) (a' := ?_) #[true, true, true, true, true, true, true, true, true, true, true, false, false] rfl rfl (any_of HT_.out (by kernel_rfl)) (fun _ _ _ h => h) (Or.inl ⟨by rfl, ?_⟩) ?_ ?_
                rotate_left
                ·intro w'
                 go_simp
                 with_reducible rfl
                rotate_left
                ·simp only [Act.put, List.setIfInBounds_toArray, List.set_cons_zero, List.set_cons_succ, i64_w, i32_w]
                 rfl
                refine pure_ (i := 11) (N := some 41) (v := ?_) (a' := ?_) #[true, true, true, true, true, true, true, true, true, true, true, true, false] rfl rfl (any_of HT_.out (by kernel_rfl)) (fun _ _ _ h => h) (Or.inl ⟨by rfl, ?_⟩) ?_ ?_
                rotate_left
                ·intro w'
                 go_simp
                 with_reducible rfl
                rotate_left
                ·simp only [Act.put, List.setIfInBounds_toArray, List.set_cons_zero, List.set_cons_succ, i64_w, i32_w]
                 rfl
                refine last_ (i := 12) (N := none) #[true, true, true, true, true, true, true, true, true, true, true, true, true] rfl rfl (one_of HT_.out (by kernel_rfl)) (by decide) (fun K hK => ?_)
                refine skip_ (w1 := ?_) (by rfl) rfl ?_ ?_
                rotate_left
                ·go_simp
                 rfl
                refine hK.out _ _ ?_
                clear hK K
                refine done_ (done_of HT_.out (by kernel_rfl)) ?_
                try go_wp2
                (try simp only [← hl3_2])
                go_roundg k2
                case measure => have := HK1.out; have := HK2.out; omega
                case rel => exact ⟨(y164), ((x5_2 + 1) % 256), (by first | rfl | (simp; done) | (simp [*]; done)), H', ⟨by have := HK1.out; have := HK2.out; omega⟩, ⟨by (try simp only [hl3_2]); (with_reducible repeat (first | apply Kd.R_alloc | apply Kd.R_drewN | apply Kd.R_drew)); exact HQ22.out⟩, ⟨by repeat (first | (with_reducible first | exact HB.out | apply below_alloc | apply pw_below_drewN | apply below_drew1 | refine below_set ?_ GB10.out) | exact HB.out)⟩⟩
               ·rw [if_neg c19] at H
                exact absurd H (by simp)
              ·rw [if_neg c18] at H
               exact absurd H (by simp)
             ·rw [if_neg c17] at H
              exact absurd H (by simp)
            ·rw [if_neg c16] at H
             exact absurd H (by simp)
           ·rw [if_neg c15] at H
            have c15b0 : decide (0 ≤ t161) = false := decide_eq_false c15
            clear c15
            have H' := Aside0.mk H
            clear H
            go_wp2_with (first | ((with_reducible refine gate_callee (f := 55) rfl ?_); refine goesL_ (some 27) rfl rfl Try.func55 (by kernel_rfl) rfl #[.string a0, .int .i64 x4_1, .int .u8 x5_2] rfl dz ?_; (with_reducible refine (tickingref03_Next.calls k2 a0 x4_1 x5_2 t161 _ A14.out).mono ?_); rintro e w' ⟨rfl, ⟨nd, rfl⟩⟩; refine ⟨_, rfl, ?_⟩))
            (try simp only [← hl3_2])
            go_roundg k2
            case measure => have := HK1.out; have := HK2.out; omega
            case rel => exact ⟨(x3_2), ((x5_2 + 1) % 256), (by first | rfl | (simp; done) | (simp [*]; done)), H', ⟨by have := HK1.out; have := HK2.out; omega⟩, ⟨by (try simp only [hl3_2]); (with_reducible repeat (first | apply Kd.R_alloc | apply Kd.R_drewN | apply Kd.R_drew)); exact HO_3.out⟩, ⟨by repeat (first | (with_reducible first | exact HB.out | apply below_alloc | apply pw_below_drewN | apply below_drew1) | exact HB.out)⟩⟩
          ·rw [if_neg c13] at H
           have c13b0 : decide (x5_2 ≤ 100) = false := decide_eq_false c13
           clear c13
           have H' := Aside0.mk H
           clear H
           go_wp2
           (try simp only [← hl3_2])
           go_roundg k2
           case measure => have := HK1.out; have := HK2.out; omega
           case rel => exact ⟨(x3_2), (wrap64 (x4_1 - 1)), (by first | rfl | (simp; done) | (simp [*]; done)), H', ⟨by have := HK1.out; have := HK2.out; omega⟩, ⟨by (try simp only [hl3_2]); (with_reducible repeat (first | apply Kd.R_alloc | apply Kd.R_drewN | apply Kd.R_drew)); exact HO_3.out⟩, ⟨by repeat (first | (with_reducible first | exact HB.out | apply below_alloc | apply pw_below_drewN | apply below_drew1) | exact HB.out)⟩⟩
       ·rw [if_neg c9] at H
        exact absurd H (by simp)
      ·rw [if_neg c8] at H
       exact absurd H (by simp)
     ·rw [if_neg c7] at H
      have c7b0 : decide (0 ≤ x4_1) = false := decide_eq_false c7
      clear c7
      obtain rfl := Option.some.inj H
      go_wp2
      go_ret
      exact ⟨_, by first | rfl | (simp [errW_none, errW_some] <;> rfl) | (simp only [← hji2]; first | rfl | (simp [errW_none, errW_some] <;> rfl)) | (simp [*, errW_none, errW_some] <;> rfl), by (with_reducible repeat (first | apply Kd.R_alloc | apply Kd.R_drewN | apply Kd.R_drew)); exact HO_3.out, by repeat (first | (with_reducible first | exact HB.out | apply below_alloc | apply pw_below_drewN | apply below_drew1) | exact HB.out)⟩
  ·rw [if_neg c4] at H
   exact absurd H (by simp)
 ·rw [if_neg c3] at H
  exact absurd H (by simp)

end Go.Proofs.Ytagdbadljcongaa.X
end

section
namespace Go.Proofs.Ytagdbadljcongaa.X
open Go.RowKit Go.Proofs.YtagdbadljcongaaW.PrintWords Go.Proofs.YtagdbadljcongaaW.PrintLast Go.Proofs.YtagdbadljcongaaW.PrintMore
attribute [local go_sem] max2_int min2_int max_two min_two max_three min_three max_four min_four   -- for this text's walks alone
set_option linter.unusedVariables false
set_option linter.unusedSimpArgs false

mutual
def tickingref03_Index.l0 : Nat → ByteArray → ByteArray → List Int → Int → Int → Int → Option (Int)
 | 0, _, _, _, _, _, _ => none
 | k + 1, x0, x1, x5, x6, x7, x8 => if x8 < (x1.size : Int) then (tickingref03_Index.l1 k x0 x1 x5 (wrap64 (x6 + 1)) x7 x8 97) else (some x6)
def tickingref03_Index.l1 : Nat → ByteArray → ByteArray → List Int → Int → Int → Int → Int → Option (Int)
 | 0, _, _, _, _, _, _, _ => none
 | k + 1, x0, x1, x5, x6, x7, x8, x9 => if 0 ≤ x8 then (if x8 < (x1.size : Int) then (if x9 < (bt x1 x8) then ((tickingref03_Next.f k x0 x7 x9).bind fun t168 => (if t168 ≥ 0 then (if 0 ≤ t168 then (if t168 < (x5.length : Int) then (tickingref03_Index.l1 k x0 x1 x5 (wrap64 (x6 + (rd x5 t168))) x7 x8 ((x9 + 1) % 256)) else (none)) else (none)) else (tickingref03_Index.l1 k x0 x1 x5 x6 x7 x8 ((x9 + 1) % 256)))) else ((tickingref03_Next.f k x0 x7 (bt x1 x8)).bind fun t170 => (tickingref03_Index.l0 k x0 x1 x5 x6 t170 (wrap64 (x8 + 1))))) else (none)) else (none)
end
def tickingref03_Index.f (k : Nat) (a0 : ByteArray) (a1 : ByteArray) : Option (Int) := (tickingref03_Counts.f k a0).bind fun t165 => (tickingref03_Index.l0 k a0 a1 t165 0 0 0)
set_option maxHeartbeats 8000000 in
set_option maxRecDepth 100000 in
theorem tickingref03_Index.calls (k : Nat) (a0 : ByteArray) (a1 : ByteArray) (r : Int) (w : World) (h : tickingref03_Index.f k a0 a1 = some r) :
  Calls Try.prog 35 #[.string a0, .string a1] w fun e w' => e = .returned (.int .i64 r) ∧ Below w.heap.size w w' := by
 have HB := Aside0.mk (Below.refl w.heap.size w)
 have H : ((tickingref03_Counts.f k a0).bind fun t165 => (tickingref03_Index.l0 k a0 a1 t165 0 0 0)) = some r := h
 clear h
 replace H := Option.bind_eq_some_iff.mp H
 obtain ⟨t165, A30, H⟩ := H
 replace H : (tickingref03_Index.l0 k a0 a1 t165 0 0 0) = some r := H
 have A3 := Aside0.mk A30
 clear A30
 have H' := Aside0.mk H
 clear H
 go_enter Try.func35, Try.ntmps35
 go_wp2_with (first | ((with_reducible refine gate_callee (f := 37) rfl ?_); refine goesL_ (some 12) rfl rfl Try.func37 (by kernel_rfl) rfl #[.string a0] rfl dz ?_; (with_reducible refine (tickingref03_Counts.calls k a0 t165 _ A3.out).mono ?_); rintro e w4 ⟨v166, rfl, ho0, hb⟩; refine ⟨_, rfl, ?_⟩; have n0_ := Aside0.mk (Kd.R_lower ho0 (below_size bz)); have n1_ := Aside0.mk (below_step bz hb); clear HB; have HO167 := n0_; have HB := n1_; clear n0_ n1_; (try clear hb); (try clear hb2); (try clear hk); (try clear hi); (try clear ho0)))
 go_loopg [6, 7, 8] k (fun kq v6 v7 v8 w' => ∃ (x6_1 : Int) (x7_1 : Int) (x8_1 : Int), v6 = .int .i64 x6_1 ∧ v7 = .int .i64 x7_1 ∧ v8 = .int .i64 x8_1 ∧ Aside0 (tickingref03_Index.l0 kq a0 a1 t165 x6_1 x7_1 x8_1 = some r) ∧ Aside0 (kq ≤ k) ∧ Aside0 (Kd.R (Kd.int .i64) 3 w' w.heap.size (fun _ => True) v166 t165) ∧ Aside0 (Below w.heap.size w w'))
 case atStart => exact ⟨(0), (0), (0), (by first | rfl | (simp; done) | (simp [*]; done)), (by first | rfl | (simp; done) | (simp [*]; done)), (by first | rfl | (simp; done) | (simp [*]; done)), H', ⟨Nat.le_refl _⟩, ⟨by (with_reducible repeat (first | apply Kd.R_alloc | apply Kd.R_drewN | apply Kd.R_drew)); exact HO167.out⟩, ⟨by repeat (first | (with_reducible first | exact HB.out | apply below_alloc | apply pw_below_drewN | apply below_drew1) | exact HB.out)⟩⟩
 case round =>
  clear H'
  try clear p2
  try clear c3
  obtain ⟨x6_1, x7_1, x8_1, rfl, rfl, rfl, HA, HK1, HO_5, HB⟩ := hrel
  cases gk with
  | zero => exact absurd HA.out (by simp [tickingref03_Index.l0])
  | succ k1 =>
   have H := HA.out
   clear HA
   simp only [tickingref03_Index.l0] at H
   by_cases c5 : x8_1 < (a1.size : Int)
   ·rw [if_pos c5] at H
    have c5b0 : decide (x8_1 < (a1.size : Int)) = true := decide_eq_true c5
    clear c5
    have H' := Aside0.mk H
    clear H
    go_wp2
    go_loopg [6, 9] k1 (fun kq v6 v9 w' => ∃ (x6_2 : Int) (x9_2 : Int), v6 = .int .i64 x6_2 ∧ v9 = .int .u8 x9_2 ∧ Aside0 (tickingref03_Index.l1 kq a0 a1 t165 x6_2 x7_1 x8_1 x9_2 = some r) ∧ Aside0 (kq ≤ k1) ∧ Aside0 (Kd.R (Kd.int .i64) 3 w' w.heap.size (fun _ => True) v166 t165) ∧ Aside0 (Below w.heap.size w w'))
    case atStart => exact ⟨(wrap64 (x6_1 + 1)), (97), (by first | rfl | (simp; done) | (simp [*]; done)), (by first | rfl | (simp; done) | (simp [*]; done)), H', ⟨Nat.le_refl _⟩, ⟨by (with_reducible repeat (first | apply Kd.R_alloc | apply Kd.R_drewN | apply Kd.R_drew)); exact HO_5.out⟩, ⟨by repeat (first | (with_reducible first | exact HB.out | apply below_alloc | apply pw_below_drewN | apply below_drew1) | exact HB.out)⟩⟩
    case round =>
     clear H'
     try clear p2
     try clear c3
     try clear c5
     try clear c5b0
     try clear p2
     obtain ⟨x6_2, x9_2, rfl, rfl, HA, HK2, HO_5, HB⟩ := hrel
     cases gk with
     | zero => exact absurd HA.out (by simp [tickingref03_Index.l1])
     | succ k2 =>
      have H := HA.out
      clear HA
      simp only [tickingref03_Index.l1] at H
      by_cases c6 : 0 ≤ x8_1
      ·rw [if_pos c6] at H
       have c6b0 : decide (0 ≤ x8_1) = true := decide_eq_true c6
       clear c6
       by_cases c7 : x8_1 < (a1.size : Int)
       ·rw [if_pos c7] at H
        have c7b0 : decide (x8_1 < (a1.size : Int)) = true := decide_eq_true c7
        clear c7
        by_cases c9 : x9_2 < (bt a1 x8_1)
        ·rw [if_pos c9] at H
         have c9b0 : decide (x9_2 < (bt a1 x8_1)) = true := decide_eq_true c9
         clear c9
         replace H := Option.bind_eq_some_iff.mp H
         obtain ⟨t168, A100, H⟩ := H
         replace H : (if t168 ≥ 0 then (if 0 ≤ t168 then (if t168 < (t165.length : Int) then (tickingref03_Index.l1 k2 a0 a1 t165 (wrap64 (x6_2 + (rd t165 t168))) x7_1 x8_1 ((x9_2 + 1) % 256)) else (none)) else (none)) else (tickingref03_Index.l1 k2 a0 a1 t165 x6_2 x7_1 x8_1 ((x9_2 + 1) % 256))) = some r := H
         have A10 := Aside0.mk A100
         clear A100
         by_cases c11 : t168 ≥ 0
         ·rw [if_pos c11] at H
          have c11b0 : decide (0 ≤ t168) = true := decide_eq_true c11
          clear c11
          by_cases c12 : 0 ≤ t168
          ·rw [if_pos c12] at H
           have c12b0 : decide (0 ≤ t168) = true := decide_eq_true c12
           clear c12
           by_cases c13 : t168 < (t165.length : Int)
           ·rw [if_pos c13] at H
            have c13b0 : decide (t168 < (t165.length : Int)) = true := decide_eq_true c13
            clear c13
            have H' := Aside0.mk H
            clear H
            have p8 : 0 ≤ (x8_1 : Int) := of_decide_eq_true az
            have q8 : x8_1 < (a1.size : Int) := of_decide_eq_true az
            have hx8 := bt_at a1 x8_1
            replace p8 := eq_true p8
            replace q8 := eq_true q8
            go_wp2_with (first | ((with_reducible refine gate_callee (f := 55) rfl ?_); refine goesL_ (some 31) rfl rfl Try.func55 (by kernel_rfl) rfl #[.string a0, .int .i64 x7_1, .int .u8 x9_2] rfl dz ?_; (with_reducible refine (tickingref03_Next.calls k2 a0 x7_1 x9_2 t168 _ A10.out).mono ?_); rintro e w' ⟨rfl, ⟨nd, rfl⟩⟩; refine ⟨_, rfl, ?_⟩; obtain ⟨Ao14, co14, eo14⟩ := Kd.R_slice HO_5.out; subst eo14; have p169 : 0 ≤ (t168 : Int) := of_decide_eq_true az; have q169 : t168 < (t165.length : Int) := of_decide_eq_true az; obtain ⟨ad169, e169, hx169_0⟩ := Kd.at_int (Kd.R_reads' HO_5.out).2.2 t168 p169 q169; cases e169; replace p169 := eq_true p169; replace q169 := eq_true q169))
            go_roundg k2
            case measure => have := HK1.out; have := HK2.out; omega
            case rel => exact ⟨(wrap64 (x6_2 + (rd t165 t168))), ((x9_2 + 1) % 256), (by first | rfl | (simp; done) | (simp [*]; done)), (by first | rfl | (simp; done) | (simp [*]; done)), H', ⟨by have := HK1.out; have := HK2.out; omega⟩, ⟨by (with_reducible repeat (first | apply Kd.R_alloc | apply Kd.R_drewN | apply Kd.R_drew)); exact HO_5.out⟩, ⟨by repeat (first | (with_reducible first | exact HB.out | apply below_alloc | apply pw_below_drewN | apply below_drew1) | exact HB.out)⟩⟩
           ·rw [if_neg c13] at H
            exact absurd H (by simp)
          ·rw [if_neg c12] at H
           exact absurd H (by simp)
         ·rw [if_neg c11] at H
          have c11b0 : decide (0 ≤ t168) = false := decide_eq_false c11
          clear c11
          have H' := Aside0.mk H
          clear H
          have p8 : 0 ≤ (x8_1 : Int) := of_decide_eq_true az
          have q8 : x8_1 < (a1.size : Int) := of_decide_eq_true az
          have hx8 := bt_at a1 x8_1
          replace p8 := eq_true p8
          replace q8 := eq_true q8
          go_wp2_with (first | ((with_reducible refine gate_callee (f := 55) rfl ?_); refine goesL_ (some 31) rfl rfl Try.func55 (by kernel_rfl) rfl #[.string a0, .int .i64 x7_1, .int .u8 x9_2] rfl dz ?_; (with_reducible refine (tickingref03_Next.calls k2 a0 x7_1 x9_2 t168 _ A10.out).mono ?_); rintro e w' ⟨rfl, ⟨nd, rfl⟩⟩; refine ⟨_, rfl, ?_⟩))
          go_roundg k2
          case measure => have := HK1.out; have := HK2.out; omega
          case rel => exact ⟨(x6_2), ((x9_2 + 1) % 256), (by first | rfl | (simp; done) | (simp [*]; done)), (by first | rfl | (simp; done) | (simp [*]; done)), H', ⟨by have := HK1.out; have := HK2.out; omega⟩, ⟨by (with_reducible repeat (first | apply Kd.R_alloc | apply Kd.R_drewN | apply Kd.R_drew)); exact HO_5.out⟩, ⟨by repeat (first | (with_reducible first | exact HB.out | apply below_alloc | apply pw_below_drewN | apply below_drew1) | exact HB.out)⟩⟩
        ·rw [if_neg c9] at H
         have c9b0 : decide (x9_2 < (bt a1 x8_1)) = false := decide_eq_false c9
         clear c9
         replace H := Option.bind_eq_some_iff.mp H
         obtain ⟨t170, A160, H⟩ := H
         replace H : (tickingref03_Index.l0 k2 a0 a1 t165 x6_2 t170 (wrap64 (x8_1 + 1))) = some r := H
         have A16 := Aside0.mk A160
         clear A160
         have H' := Aside0.mk H
         clear H
         have p8 : 0 ≤ (x8_1 : Int) := of_decide_eq_true az
         have q8 : x8_1 < (a1.size : Int) := of_decide_eq_true az
         have hx8 := bt_at a1 x8_1
         replace p8 := eq_true p8
         replace q8 := eq_true q8
         have p15 : 0 ≤ (x8_1 : Int) := of_decide_eq_true az
         have q15 : x8_1 < (a1.size : Int) := of_decide_eq_true az
         have hx15 := bt_at a1 x8_1
         replace p15 := eq_true p15
         replace q15 := eq_true q15
         go_wp2_with (first | ((with_reducible refine gate_callee (f := 55) rfl ?_); refine goesL_ (some 45) rfl rfl Try.func55 (by kernel_rfl) rfl #[.string a0, .int .i64 x7_1, .int .u8 (bt a1 x8_1)] rfl dz ?_; (with_reducible refine (tickingref03_Next.calls k2 a0 x7_1 (bt a1 x8_1) t170 _ A16.out).mono ?_); rintro e w' ⟨rfl, ⟨nd, rfl⟩⟩; refine ⟨_, rfl, ?_⟩))
         go_roundg k2
         case measure => have := HK1.out; have := HK2.out; omega
         case rel => exact ⟨(x6_2), (t170), (wrap64 (x8_1 + 1)), (by first | rfl | (simp; done) | (simp [*]; done)), (by first | rfl | (simp; done) | (simp [*]; done)), (by first | rfl | (simp; done) | (simp [*]; done)), H', ⟨by have := HK1.out; have := HK2.out; omega⟩, ⟨by (with_reducible repeat (first | apply Kd.R_alloc | apply Kd.R_drewN | apply Kd.R_drew)); exact HO_5.out⟩, ⟨by repeat (first | (with_reducible first | exact HB.out | apply below_alloc | apply pw_below_drewN | apply below_drew1) | exact HB.out)⟩⟩
       ·rw [if_neg c7] at H
        exact absurd H (by simp)
      ·rw [if_neg c6] at H
       exact absurd H (by simp)
   ·rw [if_neg c5] at H
    have c5b0 : decide (x8_1 < (a1.size : Int)) = false := decide_eq_false c5
    clear c5
    obtain rfl := Option.some.inj H
    go_wp2
    go_ret
    exact ⟨by first | rfl | (simp [errW_none, errW_some] <;> rfl) | (simp [*, errW_none, errW_some] <;> rfl), by repeat (first | (with_reducible first | exact HB.out | apply below_alloc | apply pw_below_drewN | apply below_drew1) | exact HB.out)⟩

end Go.Proofs.Ytagdbadljcongaa.X
end

section
/- What the reference computes: Counts, Index. -/
set_option linter.unusedVariables false
set_option linter.unusedSimpArgs false
namespace Go.Proofs.Ytagdbadljcongaa.X
open Go Go.RowKit Go.Proofs.YtagdbadljcongaaW.PrintWords Go.Proofs.YtagdbadljcongaaW.PrintLast Go.Proofs.YtagdbadljcongaaW.PrintMore
theorem rd_set (L : List Int) (i : Nat) (v : Int) (h : i < L.length) (j : Nat) : rd (L.set i v) (j : Int) = if j = i then v else rd L (j : Int) := by
  unfold rd
  simp only [Int.toNat_natCast, List.getD_eq_getElem?_getD, List.getElem?_set]
  by_cases e : i = j
  · subst e; simp [h]
  · rw [if_neg e, if_neg (Ne.symm e)]
/-- The counts are right from place m on. -/
structure CtL (s : ByteArray) (m : Nat) (L : List Int) : Prop where
  len : L.length = s.size + 1
  at_ : ∀ j : Nat, m ≤ j → j ≤ s.size → rd L (j : Int) = (cs ((bl s).drop j) : Int)
theorem counts_l1 (s : ByteArray) (hs : s.size ≤ 60) (i : Nat) (hi : i ≤ s.size) (B : Nat) (hB : s.size < B) (H : ∀ k, B ≤ k → ∀ L, CtL s i L → ∃ L', tickingref03_Counts.l0 k s L ((i : Int) - 1) = some L' ∧ CtL s 0 L') :
    ∀ t c K L, c + t = 4 → B + t + 1 ≤ K → CtL s (i + 1) L → rd L (i : Int) = (psum ((bl s).drop i) c : Int) → ∃ L', tickingref03_Counts.l1 K s L (i : Int) ((97 + c : Nat) : Int) = some L' ∧ CtL s 0 L'
  | t, c, 0, L, hc, hK, hL, hr => absurd hK (by omega)
  | 0, c, K + 1, L, hc, hK, hL, hr => by
    obtain rfl : c = 4 := by omega
    unfold tickingref03_Counts.l1
    rw [if_neg (by omega), show wrap64 ((i : Int) - 1) = (i : Int) - 1 from IntWalk.wrap64_in _ (by omega)]
    refine H K (by omega) L ⟨hL.len, fun j h1 h2 => ?_⟩
    by_cases e : j = i
    · subst e; rw [hr, cs_eq]
    · exact hL.at_ j (by omega) h2
  | t + 1, c, K + 1, L, hc, hK, hL, hr => by
    unfold tickingref03_Counts.l1
    rw [if_pos (by omega), next_f s (by omega) (97 + c) i K hi (by omega)]
    have hq := nx_le (bl s) i (97 + c) (by rw [bl_length]; exact hi)
    have ht := term_at (bl s) i (97 + c) (by rw [bl_length]; exact hi)
    have hp := psum_succ ((bl s).drop i) c
    have hm := psum_mono ((bl s).drop i) (show c + 1 ≤ 4 by omega)
    have h60 := cs_60 (l := (bl s).drop i) (by rw [List.length_drop, bl_length]; omega)
    rw [cs_eq] at h60
    rw [bl_length] at hq ht
    have hmod : (((97 + c : Nat) : Int) + 1) % 256 = ((97 + (c + 1) : Nat) : Int) := by omega
    generalize hqq : nx (bl s) i (97 + c) = q at hq ht
    show ∃ L', (if nxI (bl s) i (97 + c) ≥ 0 then _ else _) = some L' ∧ _
    unfold nxI
    rw [hqq, bl_length]
    by_cases h1 : q < s.size
    · rw [if_pos h1] at ht
      rw [if_pos h1, if_pos (by omega), if_pos (by omega), if_pos (by rw [hL.len]; omega), if_pos (by omega), if_pos (by rw [hL.len]; omega), hmod]
      rw [hr, hL.at_ (q + 1) (by omega) (by omega), IntWalk.wrap64_in _ (by omega), Int.toNat_natCast]
      refine counts_l1 s hs i hi B hB H t (c + 1) K _ (by omega) (by omega) ⟨by rw [List.length_set]; exact hL.len, fun j h1 h2 => ?_⟩ ?_
      · rw [rd_set _ _ _ (by rw [hL.len]; omega), if_neg (by omega)]; exact hL.at_ j h1 h2
      · rw [rd_set _ _ _ (by rw [hL.len]; omega), if_pos rfl]; omega
    · rw [if_neg h1] at ht
      rw [if_neg h1, if_neg (by omega), hmod]
      exact counts_l1 s hs i hi B hB H t (c + 1) K _ (by omega) (by omega) hL (by rw [hr]; omega)
theorem counts_l0 (s : ByteArray) (hs : s.size ≤ 60) : ∀ m K L, m ≤ s.size + 1 → 6 * m + s.size + 2 ≤ K → CtL s m L → ∃ L', tickingref03_Counts.l0 K s L ((m : Int) - 1) = some L' ∧ CtL s 0 L'
  | m, 0, L, hm, hK, hL => absurd hK (by omega)
  | 0, K + 1, L, hm, hK, hL => by
    unfold tickingref03_Counts.l0
    rw [if_neg (by omega)]
    exact ⟨L, rfl, hL⟩
  | i + 1, K + 1, L, hm, hK, hL => by
    unfold tickingref03_Counts.l0
    rw [show (((i + 1 : Nat) : Int) - 1) = (i : Int) by omega, if_pos (by omega), if_pos (by omega), if_pos (by rw [hL.len]; omega), Int.toNat_natCast]
    refine counts_l1 s hs i (by omega) (6 * i + s.size + 2) (by omega) (fun k hk L h => counts_l0 s hs i k L (by omega) hk h) 4 0 K _ (by omega) (by omega) ⟨by rw [List.length_set]; exact hL.len, fun j h1 h2 => ?_⟩ ?_
    · rw [rd_set _ _ _ (by rw [hL.len]; omega), if_neg (by omega)]; exact hL.at_ j h1 h2
    · rw [rd_set _ _ _ (by rw [hL.len]; omega), if_pos rfl]; rfl
theorem counts_ev (s : ByteArray) (hs : s.size ≤ 60) (K : Nat) (hK : 7 * s.size + 8 ≤ K) : ∃ L, tickingref03_Counts.f K s = some L ∧ CtL s 0 L := by
  unfold tickingref03_Counts.f
  rw [wr1 (by omega), if_pos (by omega), if_pos (by omega), Int.toNat_natCast]
  have h := counts_l0 s hs (s.size + 1) K (List.replicate (s.size + 1) 0) (by omega) (by omega) ⟨by simp, fun j h1 h2 => by omega⟩
  rw [show (((s.size + 1 : Nat) : Int) - 1) = (s.size : Int) by omega] at h
  exact h
end Go.Proofs.Ytagdbadljcongaa.X
end

section
/- What the reference computes: Index. -/
set_option linter.unusedVariables false
set_option linter.unusedSimpArgs false
namespace Go.Proofs.Ytagdbadljcongaa.X
open Go Go.RowKit Go.Proofs.YtagdbadljcongaaW.PrintWords Go.Proofs.YtagdbadljcongaaW.PrintLast Go.Proofs.YtagdbadljcongaaW.PrintMore
theorem rindex_l1 (s u : ByteArray) (hs : s.size ≤ 60) (L : List Int) (hL : CtL s 0 L) (i : Nat) (hi : i ≤ s.size) (j : Nat) (hj : j < u.size) (hu : u.size ≤ 60) (dd : Nat) (hd4 : dd < 4) (hd : (bl u)[j]'(by rw [bl_length]; exact hj) = 97 + dd) (a : Nat) (ha : a + cs ((bl s).drop i) ≤ 1152921504606846976)
    (B : Nat) (hB : s.size < B) (R : Int) (H : ∀ k, B ≤ k → tickingref03_Index.l0 k s u L ((a + 1 + less ((bl s).drop i) dd : Nat) : Int) (nxI (bl s) i (97 + dd)) ((j + 1 : Nat) : Int) = some R) :
    ∀ t e K, e + t = dd → B + t + 1 ≤ K → tickingref03_Index.l1 K s u L ((a + 1 + less ((bl s).drop i) e : Nat) : Int) (i : Int) (j : Int) ((97 + e : Nat) : Int) = some R
  | t, e, 0, he, hK => absurd hK (by omega)
  | 0, e, K + 1, he, hK => by
    obtain rfl : e = dd := by omega
    unfold tickingref03_Index.l1
    rw [if_pos (by omega), if_pos (by omega), bt_bl2 u j hj, hd, if_neg (by omega), next_f s (by omega) (97 + e) i K hi (by omega)]
    show tickingref03_Index.l0 K s u L _ _ (wrap64 ((j : Int) + 1)) = _
    rw [wr1 (by omega)]
    exact H K (by omega)
  | t + 1, e, K + 1, he, hK => by
    unfold tickingref03_Index.l1
    rw [if_pos (by omega), if_pos (by omega), bt_bl2 u j hj, hd, if_pos (by omega), next_f s (by omega) (97 + e) i K hi (by omega)]
    have hq := nx_le (bl s) i (97 + e) (by rw [bl_length]; exact hi)
    have ht := term_at (bl s) i (97 + e) (by rw [bl_length]; exact hi)
    have hp := less_succ ((bl s).drop i) e
    have hm := less_mono ((bl s).drop i) (show e + 1 ≤ 4 by omega)
    have h60 := cs_less ((bl s).drop i)
    rw [bl_length] at hq ht
    have hmod : (((97 + e : Nat) : Int) + 1) % 256 = ((97 + (e + 1) : Nat) : Int) := by omega
    generalize hqq : nx (bl s) i (97 + e) = q at hq ht
    show (if nxI (bl s) i (97 + e) ≥ 0 then _ else _) = some R
    unfold nxI
    rw [hqq, bl_length]
    by_cases h1 : q < s.size
    · rw [if_pos h1] at ht
      rw [if_pos h1, if_pos (by omega), if_pos (by omega), if_pos (by rw [hL.len]; omega), hmod]
      rw [hL.at_ (q + 1) (by omega) (by omega), IntWalk.wrap64_in _ (by omega)]
      have := rindex_l1 s u hs L hL i hi j hj hu dd hd4 hd a ha B hB R H t (e + 1) K (by omega) (by omega)
      rw [show (((a + 1 + less ((bl s).drop i) e : Nat) : Int) + (cs ((bl s).drop (q + 1)) : Int)) = ((a + 1 + less ((bl s).drop i) (e + 1) : Nat) : Int) by omega]
      exact this
    · rw [if_neg h1] at ht
      rw [if_neg h1, if_neg (by omega), hmod]
      have := rindex_l1 s u hs L hL i hi j hj hu dd hd4 hd a ha B hB R H t (e + 1) K (by omega) (by omega)
      rw [show less ((bl s).drop i) (e + 1) = less ((bl s).drop i) e by omega] at this
      exact this
theorem rindex_l0 (s u : ByteArray) (hs : s.size ≤ 60) (hu : isW (bl u) = true) (L : List Int) (hL : CtL s 0 L) : ∀ d j i a r K, j + d = u.size → i ≤ s.size → a + cs ((bl s).drop i) ≤ 1152921504606846976 → idx (bl s) i ((bl u).drop j) = some r → 6 * d + s.size + 2 ≤ K →
    tickingref03_Index.l0 K s u L (a : Int) (i : Int) (j : Int) = some ((a + r : Nat) : Int)
  | d, j, i, a, r, 0, h, hi, ha, hr, hK => absurd hK (by omega)
  | 0, j, i, a, r, K + 1, h, hi, ha, hr, hK => by
    unfold tickingref03_Index.l0
    rw [List.drop_eq_nil_of_le (by rw [bl_length]; omega)] at hr
    injection hr with hr
    subst hr
    rw [if_neg (by omega)]
    rfl
  | d + 1, j, i, a, r, K + 1, h, hi, ha, hr, hK => by
    have hj : j < u.size := by omega
    have hu60 : u.size ≤ 60 := by rw [← bl_length]; exact ((isW_iff _).1 hu).1
    unfold tickingref03_Index.l0
    rw [if_pos (by omega)]
    have hb := ((isW_iff _).1 hu).2 _ (List.getElem_mem (show j < (bl u).length by rw [bl_length]; exact hj))
    obtain ⟨dd, hd⟩ : ∃ dd, (bl u)[j]'(by rw [bl_length]; exact hj) = 97 + dd := ⟨(bl u)[j]'(by rw [bl_length]; exact hj) - 97, by omega⟩
    have hd4 : dd < 4 := by omega
    rw [List.drop_eq_getElem_cons (by rw [bl_length]; exact hj), hd] at hr
    have hq := nx_le (bl s) i (97 + dd) (by rw [bl_length]; exact hi)
    have ht := term_at (bl s) i (97 + dd) (by rw [bl_length]; exact hi)
    have hp := less_succ ((bl s).drop i) dd
    have hm := less_mono ((bl s).drop i) (show dd + 1 ≤ 4 by omega)
    have h60 := cs_less ((bl s).drop i)
    unfold idx at hr
    by_cases h1 : nx (bl s) i (97 + dd) < (bl s).length
    · rw [if_pos h1] at hr ht
      obtain ⟨r2, hr2, hre⟩ := Option.map_eq_some_iff.1 hr
      rw [show 97 + dd - 97 = dd by omega] at hre
      rw [show wrap64 ((a : Int) + 1) = ((a + 1 + less ((bl s).drop i) 0 : Nat) : Int) by rw [IntWalk.wrap64_in _ (by have := less_mono ((bl s).drop i) (Nat.zero_le 4); omega)]; simp [less]]
      rw [bl_length] at h1 hq
      refine rindex_l1 s u hs L hL i hi j hj hu60 dd hd4 hd a ha (6 * d + s.size + 2) (by omega) _ (fun k hk => ?_) dd 0 K (by omega) (by omega)
      have e : nxI (bl s) i (97 + dd) = ((nx (bl s) i (97 + dd) + 1 : Nat) : Int) := by unfold nxI; rw [if_pos (by rw [bl_length]; exact h1)]
      rw [e, rindex_l0 s u hs hu L hL d (j + 1) (nx (bl s) i (97 + dd) + 1) _ r2 k (by omega) (by omega) (by omega) hr2 hk]
      congr 2
      omega
    · rw [if_neg h1] at hr
      cases hr
theorem rindex_any (s u : ByteArray) (w : World) (hs : s.size ≤ 60) (hu : isW (bl u) = true) (r : Nat) (hr : idx (bl s) 0 (bl u) = some r) : Calls Try.prog 35 #[.string s, .string u] w fun e w' => e = .returned (.int .i64 (r : Int)) ∧ Below w.heap.size w w' := by
  have hu60 : u.size ≤ 60 := by rw [← bl_length]; exact ((isW_iff _).1 hu).1
  obtain ⟨L, hf, hL⟩ := counts_ev s hs (1000 + 7 * s.size) (by omega)
  have h := rindex_l0 s u hs hu L hL u.size 0 0 0 r (1000 + 7 * s.size) (by omega) (by omega) (by have := cs_60 (l := (bl s).drop 0) (by rw [List.length_drop, bl_length]; omega); omega) (by rw [List.drop_zero]; exact hr) (by omega)
  refine tickingref03_Index.calls (1000 + 7 * s.size) s u _ w ?_
  unfold tickingref03_Index.f
  rw [hf]
  rw [Nat.zero_add] at h
  exact h
/-- Within and Index find the same words. -/
theorem wth_idx (l : List Nat) : ∀ (u : List Nat) (i : Nat), (wth l i u).isSome = (idx l i u).isSome
  | [], i => rfl
  | c :: u, i => by
    unfold wth idx
    split
    · rw [Option.isSome_map, Option.isSome_map]; exact wth_idx l u _
    · rfl
end Go.Proofs.Ytagdbadljcongaa.X
end

section
namespace Go.Proofs.Ytagdbadljcongaa.X
open Go.RowKit Go.Proofs.YtagdbadljcongaaW.PrintWords Go.Proofs.YtagdbadljcongaaW.PrintLast Go.Proofs.YtagdbadljcongaaW.PrintMore
attribute [local go_sem] max2_int min2_int max_two min_two max_three min_three max_four min_four   -- for this text's walks alone
set_option linter.unusedVariables false
set_option linter.unusedSimpArgs false

def tickinglaw03_short.f (a0 : ByteArray) : Option (ByteArray) := if 0 ≤ (mn (a0.size : Int) 61) then (if (mn (a0.size : Int) 61) ≤ (a0.size : Int) then (some (a0.extract 0 ((mn (a0.size : Int) 61) : Int).toNat)) else (none)) else (none)
set_option maxHeartbeats 8000000 in
set_option maxRecDepth 100000 in
theorem tickinglaw03_short.calls (a0 : ByteArray) (r : ByteArray) (w : World) (h : tickinglaw03_short.f a0 = some r) :
  Calls Try.prog 17 #[.string a0] w fun e w' => e = .returned (.string r) ∧ Below w.heap.size w w' := by
 have HB := Aside0.mk (Below.refl w.heap.size w)
 have H : (if 0 ≤ (mn (a0.size : Int) 61) then (if (mn (a0.size : Int) 61) ≤ (a0.size : Int) then (some (a0.extract 0 ((mn (a0.size : Int) 61) : Int).toNat)) else (none)) else (none)) = some r := h
 clear h
 obtain ⟨ji2, hji2⟩ : ∃ j_ : Int, (mn (a0.size : Int) 61) = j_ := ⟨_, rfl⟩
 replace H : (if 0 ≤ (ji2) then (if (ji2) ≤ (a0.size : Int) then (some (a0.extract 0 ((ji2) : Int).toNat)) else (none)) else (none)) = some r := by first | (rw [hji2] at H; exact H) | (simp only [hji2] at H ⊢; exact H)
 (try (have hji2h : ji2 ≤ 61 := by (rw [← hji2]; unfold mn; (repeat' split) <;> omega)))
 (try (have hji2g : ji2 ≤ 64 := by omega))
 (try (have hji2l : 0 ≤ ji2 := by (rw [← hji2]; unfold mn; (repeat' split) <;> omega)))
 (try (have hji2m : 0 ≤ ji2 := by omega))
 have hji2_ : (if 61 < (a0.size : Int) then 61 else (a0.size : Int)) = ji2 := hji2
 by_cases c3 : 0 ≤ (ji2)
 ·rw [if_pos c3] at H
  have c3b0 := eq_true c3
  have c3b1 : decide (0 ≤ (ji2)) = true := decide_eq_true c3
  clear c3
  by_cases c4 : (ji2) ≤ (a0.size : Int)
  ·rw [if_pos c4] at H
   have c4b0 := eq_true c4
   have c4b1 : decide ((ji2) ≤ (a0.size : Int)) = true := decide_eq_true c4
   clear c4
   obtain rfl := Option.some.inj H
   go_enter Try.func17, Try.ntmps17
   go_wp2
   go_ret
   exact ⟨by first | rfl | (simp [errW_none, errW_some] <;> rfl) | (simp only [← hji2]; first | rfl | (simp [errW_none, errW_some] <;> rfl)) | (simp [*, errW_none, errW_some] <;> rfl), by repeat (first | (with_reducible first | exact HB.out | apply below_alloc | apply pw_below_drewN | apply below_drew1) | exact HB.out)⟩
  ·rw [if_neg c4] at H
   exact absurd H (by simp)
 ·rw [if_neg c3] at H
  exact absurd H (by simp)

end Go.Proofs.Ytagdbadljcongaa.X
end

section
/- The law ThreadIndexes, walked. -/
set_option linter.unusedVariables false
set_option linter.unusedSimpArgs false
namespace Go.Proofs.Ytagdbadljcongaa.X
open Go Go.RowKit Go.Proofs Go.Proofs.YtagdbadljcongaaW.PrintWords Go.Proofs.YtagdbadljcongaaW.PrintLast Go.Proofs.YtagdbadljcongaaW.PrintMore
theorem short_any (a : ByteArray) (w : World) : Calls Try.prog 17 #[.string a] w fun e w' => ∃ s, e = .returned (.string s) ∧ Aside0 (s.size ≤ 61) ∧ Below w.heap.size w w' := by
  have h0 : 0 ≤ mn (a.size : Int) 61 := by unfold mn; split <;> omega
  have h1 : mn (a.size : Int) 61 ≤ (a.size : Int) := by unfold mn; split <;> omega
  have h2 : mn (a.size : Int) 61 ≤ 61 := by unfold mn; split <;> omega
  refine (tickinglaw03_short.calls a (a.extract 0 (mn (a.size : Int) 61).toNat) w ?_).mono ?_
  · unfold tickinglaw03_short.f
    rw [if_pos h0, if_pos h1]
  · rintro e w' ⟨rfl, hb⟩
    exact ⟨_, rfl, ⟨by rw [ByteArray.size_extract]; omega⟩, hb⟩
theorem index_none (s u : ByteArray) (w : World) (hs : isW (bl s) = true) (hu : isW (bl u) = true) (hr : idx (bl s) 0 (bl u) = none) : Calls Try.prog 33 #[.string s, .string u] w fun e w' => e = .returned (.tuple #[.int .i64 0, .int .i64 6]) ∧ Below w.heap.size w w' :=
  (index_ok s u w hs hu none hr).mono fun e w' h => h
theorem index_some (s u : ByteArray) (w : World) (hs : isW (bl s) = true) (hu : isW (bl u) = true) (n : Nat) (hr : idx (bl s) 0 (bl u) = some n) : Calls Try.prog 33 #[.string s, .string u] w fun e w' => e = .returned (.tuple #[.int .i64 (n : Int), .int .i64 0]) ∧ Below w.heap.size w w' :=
  (index_ok s u w hs hu (some n) hr).mono fun e w' h => h
set_option maxHeartbeats 8000000 in
set_option maxRecDepth 1000000 in
theorem ThreadIndexes_calls (a0 a1 : ByteArray) (w : World) : Calls Try.prog 7 #[.string a0, .string a1] w fun e w' => e = .returned (.bool true) ∧ Below w.heap.size w w' := by
  go_enter Try.func7, Try.ntmps7
  go_upto_region 2 with (first | (go_at_call 17; (with_reducible refine (short_any a0 w).mono ?_); rintro e w1 ⟨x, rfl, HX, hb⟩; have HB1 := Aside0.mk hb; clear hb) | (go_at_call 17; (with_reducible refine (short_any a1 _).mono ?_); rintro e w2 ⟨y, rfl, HY, hb⟩; have HB2 := Aside0.mk (below_step HB1.out hb); clear hb))
  obtain ⟨a, ha⟩ : ∃ a, isW (bl x) = a := ⟨_, rfl⟩
  obtain ⟨c, hc⟩ : ∃ c, isW (bl y) = c := ⟨_, rfl⟩
  have HA := Aside0.mk ha
  have HC := Aside0.mk hc
  clear ha hc
  cases a <;> cases c
  case true.true =>
    obtain ⟨r, hr⟩ : ∃ r, idx (bl x) 0 (bl y) = r := ⟨_, rfl⟩
    obtain ⟨r', hr'⟩ : ∃ r, wth (bl x) 0 (bl y) = r := ⟨_, rfl⟩
    have hrr : r'.isSome = r.isSome := by rw [← hr, ← hr']; exact wth_idx _ _ _
    have HR := Aside0.mk hr
    have HR' := Aside0.mk hr'
    have HX60 := Aside0.mk (show x.size ≤ 60 by rw [← bl_length]; exact ((isW_iff _).1 HA.out).1)
    clear hr hr'
    cases r with
    | none =>
      obtain rfl : r' = none := by cases r' <;> simp at hrr ⊢
      go_wp2_with (first | (go_at_call 33; (with_reducible refine (index_none x y _ HA.out HC.out HR.out).mono ?_); rintro e w3 ⟨rfl, hb⟩; have HB3 := Aside0.mk (below_step HB2.out hb); clear hb) | (go_at_call 20; (with_reducible refine (word_any x true _ (by have := HX.out; omega) HA.out).mono ?_); rintro e w4 ⟨rfl, hd⟩; have HB4 := Aside0.mk (below_step HB3.out hd.below); clear hd) | (go_at_call 20; (with_reducible refine (word_any y true _ (by have := HY.out; omega) HC.out).mono ?_); rintro e w5 ⟨rfl, hd⟩; have HB5 := Aside0.mk (below_step HB4.out hd.below); clear hd) | (go_at_call 34; (with_reducible refine (rwithin_any y x _ (by have := HY.out; omega) (by have := HX.out; omega) none HR'.out).mono ?_); rintro e w6 ⟨v, rfl, _, hb⟩; have HB6 := Aside0.mk (below_step HB5.out hb); clear hb) | (go_at_call 22; (with_reducible refine (awake_ok _).mono ?_); rintro e w7 ⟨rfl, hb⟩; have HB7 := Aside0.mk (below_step HB6.out hb); clear hb))
      go_ret
      exact ⟨rfl, HB7.out⟩
    | some n =>
      obtain ⟨xs, rfl⟩ : ∃ xs, r' = some xs := by cases r' <;> simp at hrr ⊢
      go_wp2_with (first | (go_at_call 33; (with_reducible refine (index_some x y _ HA.out HC.out n HR.out).mono ?_); rintro e w3 ⟨rfl, hb⟩; have HB3 := Aside0.mk (below_step HB2.out hb); clear hb) | (go_at_call 20; (with_reducible refine (word_any x true _ (by have := HX.out; omega) HA.out).mono ?_); rintro e w4 ⟨rfl, hd⟩; have HB4 := Aside0.mk (below_step HB3.out hd.below); clear hd) | (go_at_call 20; (with_reducible refine (word_any y true _ (by have := HY.out; omega) HC.out).mono ?_); rintro e w5 ⟨rfl, hd⟩; have HB5 := Aside0.mk (below_step HB4.out hd.below); clear hd) | (go_at_call 34; (with_reducible refine (rwithin_any y x _ (by have := HY.out; omega) (by have := HX.out; omega) (some xs) HR'.out).mono ?_); rintro e w6 ⟨v, rfl, _, hb⟩; have HB6 := Aside0.mk (below_step HB5.out hb); clear hb) | (go_at_call 35; (with_reducible refine (rindex_any x y _ HX60.out HC.out n HR.out).mono ?_); rintro e w8 ⟨rfl, hb⟩; have HB8 := Aside0.mk (below_step HB6.out hb); clear hb) | (go_at_call 22; (with_reducible refine (awake_ok _).mono ?_); rintro e w7 ⟨rfl, hb⟩; have HB7 := Aside0.mk (below_step HB8.out hb); clear hb))
      go_ret
      exact ⟨rfl, HB7.out⟩
  case true.false =>
    have HBAD := Aside0.mk (show ¬ (isW (bl x) = true ∧ isW (bl y) = true) from fun h => by rw [HC.out] at h; cases h.2)
    go_wp2_with (first | (go_at_call 33; (with_reducible refine (index_bad x y _ HBAD.out).mono ?_); rintro e w3 ⟨rfl, hb⟩; have HB3 := Aside0.mk (below_step HB2.out hb); clear hb) | (go_at_call 20; (with_reducible refine (word_any x true _ (by have := HX.out; omega) HA.out).mono ?_); rintro e w4 ⟨rfl, hd⟩; have HB4 := Aside0.mk (below_step HB3.out hd.below); clear hd) | (go_at_call 20; (with_reducible refine (word_any y false _ (by have := HY.out; omega) HC.out).mono ?_); rintro e w5 ⟨rfl, hd⟩; have HB5 := Aside0.mk (below_step HB4.out hd.below); clear hd) | (go_at_call 22; (with_reducible refine (awake_ok _).mono ?_); rintro e w7 ⟨rfl, hb⟩; have HB7 := Aside0.mk (below_step HB5.out hb); clear hb))
    go_ret
    exact ⟨rfl, HB7.out⟩
  all_goals
    have HBAD := Aside0.mk (show ¬ (isW (bl x) = true ∧ isW (bl y) = true) from fun h => by rw [HA.out] at h; cases h.1)
    go_wp2_with (first | (go_at_call 33; (with_reducible refine (index_bad x y _ HBAD.out).mono ?_); rintro e w3 ⟨rfl, hb⟩; have HB3 := Aside0.mk (below_step HB2.out hb); clear hb) | (go_at_call 20; (with_reducible refine (word_any x false _ (by have := HX.out; omega) HA.out).mono ?_); rintro e w4 ⟨rfl, hd⟩; have HB4 := Aside0.mk (below_step HB3.out hd.below); clear hd) | (go_at_call 22; (with_reducible refine (awake_ok _).mono ?_); rintro e w7 ⟨rfl, hb⟩; have HB7 := Aside0.mk (below_step HB4.out hb); clear hb))
    go_ret
    exact ⟨rfl, HB7.out⟩
end Go.Proofs.Ytagdbadljcongaa.X
end
