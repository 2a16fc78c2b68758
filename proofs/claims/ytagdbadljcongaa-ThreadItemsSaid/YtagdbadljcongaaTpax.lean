/- Texts behind ThreadItems, part 24: contracts of the program's functions and the plain words for them. -/
import Derived.Test.YtagdbadljcongaaTpar
import Derived.Test.YtagdbadljcongaaTpas
import Derived.Test.YtagdbadljcongaaTpat
import Derived.Test.YtagdbadljcongaaTpaw
section
namespace Go.Proofs.Ytagdbadljcongaa.X
open Go.RowKit Go.Proofs.YtagdbadljcongaaW.PrintWords Go.Proofs.YtagdbadljcongaaW.PrintLast Go.Proofs.YtagdbadljcongaaW.PrintMore
attribute [local go_sem] max2_int min2_int max_two min_two max_three min_three max_four min_four   -- for this text's walks alone
set_option linter.unusedVariables false
set_option linter.unusedSimpArgs false

mutual
def tickingref03_Counts.l0 : Nat → ByteArray → List Int → Int → Option (List Int)
 | 0, _, _, _ => none
 | k + 1, x0, x3, x4 => if x4 ≥ 0 then (if 0 ≤ x4 then (if x4 < (x3.length : Int) then (tickingref03_Counts.l1 k x0 (x3.set (x4 : Int).toNat 1) x4 97) else (none)) else (none)) else (some x3)
def tickingref03_Counts.l1 : Nat → ByteArray → List Int → Int → Int → Option (List Int)
 | 0, _, _, _, _ => none
 | k + 1, x0, x3, x4, x5 => if x5 ≤ 100 then ((tickingref03_Next.f k x0 x4 x5).bind fun t161 => (if t161 ≥ 0 then (if 0 ≤ x4 then (if x4 < (x3.length : Int) then (if 0 ≤ t161 then (if t161 < (x3.length : Int) then (tickingref03_Counts.l1 k x0 (x3.set (x4 : Int).toNat (wrap64 ((rd x3 x4) + (rd x3 t161)))) x4 ((x5 + 1) % 256)) else (none)) else (none)) else (none)) else (none)) else (tickingref03_Counts.l1 k x0 x3 x4 ((x5 + 1) % 256)))) else (tickingref03_Counts.l0 k x0 x3 (wrap64 (x4 - 1)))
end
def tickingref03_Counts.f (k : Nat) (a0 : ByteArray) : Option (List Int) := if 0 ≤ (wrap64 ((a0.size : Int) + 1)) then (if (wrap64 ((a0.size : Int) + 1) : Int).toNat ≤ 35184372088832 then (tickingref03_Counts.l0 k a0 (List.replicate (wrap64 ((a0.size : Int) + 1) : Int).toNat 0) (a0.size : Int)) else (none)) else (none)
def tickingref03_Counts.T11 : Bool × List (List Nat × List Nat) := (true, [([], []), ([], []), ([], []), ([], []), ([2, 3], [2, 3]), ([4], [4]), ([], []), ([], []), ([6, 7], [6, 7]), ([8], [8]), ([5, 9], [5, 9]), ([0, 1, 0, 1, 2, 3, 4, 5, 6, 7, 8, 9, 10], [0, 1]), ([11, 10, 0, 1, 2, 3, 4, 5, 6, 7, 8, 9, 10], [10, 11])])
def tickingref03_Counts.B11 : List Nat := [0, 0, 0, 0, 12, 28, 0, 0, 192, 448, 1020, 2047, 4095]
theorem tickingref03_Counts.tab11 : rtab .any (opsOf Try.f37 11) = tickingref03_Counts.T11 := by kernel_rfl
theorem tickingref03_Counts.bits11 : waitsOk tickingref03_Counts.T11.2 tickingref03_Counts.B11 = true := by kernel_rfl
set_option maxHeartbeats 8000000 in
set_option maxRecDepth 100000 in
theorem tickingref03_Counts.calls (k : Nat) (a0 : ByteArray) (r : List Int) (w : World) (h : tickingref03_Counts.f k a0 = some r) :
  Calls Try.prog 37 #[.string a0] w fun e w' => ∃ v0_ : Value, e = .returned (v0_) ∧ Kd.R (Kd.int .i64) 3 w' w.heap.size (fun _ => True) v0_ r ∧ Below w.heap.size w w' := by
 have HB := Aside0.mk (Below.refl w.heap.size w)
 have H : (if 0 ≤ (wrap64 ((a0.size : Int) + 1)) then (if (wrap64 ((a0.size : Int) + 1) : Int).toNat ≤ 35184372088832 then (tickingref03_Counts.l0 k a0 (List.replicate (wrap64 ((a0.size : Int) + 1) : Int).toNat 0) (a0.size : Int)) else (none)) else (none)) = some r := h
 clear h
 obtain ⟨ji2, hji2⟩ : ∃ j_ : Int, (wrap64 ((a0.size : Int) + 1)) = j_ := ⟨_, rfl⟩
 replace H : (if 0 ≤ (ji2) then (if (ji2 : Int).toNat ≤ 35184372088832 then (tickingref03_Counts.l0 k a0 (List.replicate (ji2 : Int).toNat 0) (a0.size : Int)) else (none)) else (none)) = some r := by first | (rw [hji2] at H; exact H) | (simp only [hji2] at H ⊢; exact H)
 have hji2w : (IntKind.i64.wrap ((a0.size : Int) + 1)) = ji2 := (i64_w _).trans hji2
 by_cases c3 : 0 ≤ (ji2)
 ·rw [if_pos c3] at H
  have c3b0 := eq_true c3
  have c3b1 : decide (0 ≤ (ji2)) = true := decide_eq_true c3
  clear c3
  by_cases c4 : (ji2 : Int).toNat ≤ 35184372088832
  ·rw [if_pos c4] at H
   have c4b0 := eq_true c4
   have c4b1 : decide ((ji2 : Int).toNat ≤ 35184372088832) = true := decide_eq_true c4
   clear c4
   obtain ⟨y157, hy157⟩ : ∃ y_ : List Int, y_ = (List.replicate (ji2 : Int).toNat 0) := ⟨_, rfl⟩
   replace H : (tickingref03_Counts.l0 k a0 y157 (a0.size : Int)) = some r := by first | (rw [hy157]; with_reducible exact H) | (have H2_ := (Option.bind_some _ _).symm.trans H; rw [hy157]; with_reducible exact H2_) | (have H2_ := (Option.bind_some _ _).symm.trans H; with_reducible exact H2_) | with_reducible exact H | (rw [hy157]; exact H) | exact H
   have Ny157 := Aside0.mk hy157
   clear hy157
   have H' := Aside0.mk H
   clear H
   go_enter Try.func37, Try.ntmps37
   go_wp2_with (first | ((with_reducible refine gate_dst (N := 10) rfl ?_); refine Kd.R_make (Kd.int .i64) _ 3 rfl (N := 10) rfl 23 _ _ rfl ji2 rfl rfl Try.underlying23 (.int .i64 0) 8 info3 rfl (by decide) (by omega) 0 (ok := fun _ => True) (okp := fun _ => True) rfl (fun _ hk => hk) trivial (of_decide_eq_true az) (Nat.le_trans (Nat.mul_le_mul_right _ (of_decide_eq_true az : ji2.toNat ≤ 35184372088832)) (by omega)) (Below.refl _ _) (Nat.le_refl _) ?_; intro v158 w5 ho6 hb hg_ hnew_; clear hg_ hnew_; (first | rw [← Ny157.out] at ho6 | (simp only [Int.reduceToNat] at ho6; rw [← Ny157.out] at ho6)); have n0_ := Aside0.mk (Kd.R_lower ho6 (below_size bz)); have n1_ := Aside0.mk (below_step bz hb); clear HB; have HO159 := n0_; have HB := n1_; clear n0_ n1_; clear hb ho6))
   go_loopg [4] k (fun kq v4 w' => ∃ (x3_1 : List Int) (x4_1 : Int), v4 = .int .i64 x4_1 ∧ Aside0 (tickingref03_Counts.l0 kq a0 x3_1 x4_1 = some r) ∧ Aside0 (kq ≤ k) ∧ Aside0 (Kd.R (Kd.int .i64) 3 w' w.heap.size (fun _ => True) v158 x3_1) ∧ Aside0 (Below w.heap.size w w'))
   case atStart => exact ⟨(y157), ((a0.size : Int)), (by first | rfl | (simp; done) | (simp [*]; done)), H', ⟨Nat.le_refl _⟩, ⟨by (with_reducible repeat (first | apply Kd.R_alloc | apply Kd.R_drewN | apply Kd.R_drew)); exact HO159.out⟩, ⟨by repeat (first | (with_reducible first | exact HB.out | apply below_alloc | apply pw_below_drewN | apply below_drew1) | exact HB.out)⟩⟩
   case round =>
    clear H'
    try clear p2
    try clear c3
    try clear c3b0
    try clear c3b1
    try clear c4
    try clear c4b0
    try clear c4b1
    try clear p6
    obtain ⟨x3_1, x4_1, rfl, HA, HK1, HO_3, HB⟩ := hrel
    cases gk with
    | zero => exact absurd HA.out (by simp [tickingref03_Counts.l0])
    | succ k1 =>
     have H := HA.out
     clear HA
     simp only [tickingref03_Counts.l0] at H
     by_cases c7 : x4_1 ≥ 0
     ·rw [if_pos c7] at H
      have c7b0 : decide (0 ≤ x4_1) = true := decide_eq_true c7
      clear c7
      by_cases c8 : 0 ≤ x4_1
      ·rw [if_pos c8] at H
       have c8b0 : decide (0 ≤ x4_1) = true := decide_eq_true c8
       clear c8
       by_cases c9 : x4_1 < (x3_1.length : Int)
       ·rw [if_pos c9] at H
        have c9b0 : decide (x4_1 < (x3_1.length : Int)) = true := decide_eq_true c9
        clear c9
        obtain ⟨y160, hy160⟩ : ∃ y_ : List Int, y_ = (x3_1.set (x4_1 : Int).toNat 1) := ⟨_, rfl⟩
        replace H : (tickingref03_Counts.l1 k1 a0 y160 x4_1 97) = some r := by first | (rw [hy160]; with_reducible exact H) | (have H2_ := (Option.bind_some _ _).symm.trans H; rw [hy160]; with_reducible exact H2_) | (have H2_ := (Option.bind_some _ _).symm.trans H; with_reducible exact H2_) | with_reducible exact H | (rw [hy160]; exact H) | exact H
        have Ny160 := Aside0.mk hy160
        clear hy160
        have H' := Aside0.mk H
        clear H
        have p10 : 0 ≤ (x4_1 : Int) := of_decide_eq_true az
        have q10 : (x4_1 : Int) < ((x3_1.length : Int) : Int) := of_decide_eq_true az
        obtain ⟨go10, co10, eo10, gb10, gl10, cl10, HG10⟩ := Kd.R_form HO_3.out (by omega)
        (first | cases eo10 | (injection eo10 with ea_ en_ ec_; (first | subst ea_ | (injection ea_ with ea_; subst ea_)); subst ec_; clear en_))
        have GB10 := Aside0.mk gb10
        have GG10 := Aside0.mk HG10
        clear gb10 gl10 HG10
        obtain ⟨hx10_0, hf10_0⟩ := Kd.R_celln 0 HO_3.out (x4_1 : Int) p10 q10
        replace p10 := eq_true p10
        replace q10 := eq_true q10
        have HP11 := Kd.R_putg HO_3.out (x4_1 : Int) 1
        go_wp2_with (first | ((with_reducible refine gate_store (t := 3) (p := 19) rfl ?_); refine store_event (t := 3) (p := 19) (v := ?vo_w12) (w1 := (wr.setCell ⟨go10, (x4_1 : Int).toNat, none⟩ (.int .i64 1))) ?hg ?ho ?hn ?hr ?_; (case ho => rfl); (case hg => rfl); (case hn => rfl); (case hr => first | (go_simp; done) | (go_simp; rfl)); intro w12 hw; have hg : wr.grownBy w12 (some go10) := (by rw [hw]; exact HP11.2); have hp_ : Kd.R (Kd.int .i64) 3 w12 w.heap.size (fun _ => True) (.slice (some ⟨go10, 0, none⟩) x3_1.length co10) y160 := (by rw [hw, Ny160.out]; exact HP11.1); clear HP11; have n0_ := Aside0.mk (hp_); have n1_ := Aside0.mk ((by rw [hw]; exact below_set (HB.out) GB10.out : Below w.heap.size w w12)); clear HO_3; clear HB; have HO_3 := n0_; have HB := n1_; clear n0_ n1_; clear hg hw hp_))
        go_loopg [5] k1 (fun kq v5 w' => ∃ (x3_2 : List Int) (x5_2 : Int), v5 = .int .u8 x5_2 ∧ Aside0 (tickingref03_Counts.l1 kq a0 x3_2 x4_1 x5_2 = some r) ∧ Aside0 (kq ≤ k1) ∧ Aside0 (Kd.R (Kd.int .i64) 3 w' w.heap.size (fun _ => True) (.slice (some ⟨go10, 0, none⟩) x3_1.length co10) x3_2) ∧ Aside0 (Below w.heap.size w w'))
        case atStart => exact ⟨(y160), (97), (by first | rfl | (simp; done) | (simp [*]; done)), H', ⟨Nat.le_refl _⟩, ⟨by (with_reducible repeat (first | apply Kd.R_alloc | apply Kd.R_drewN | apply Kd.R_drew)); exact HO_3.out⟩, ⟨by repeat (first | (with_reducible first | exact HB.out | apply below_alloc | apply pw_below_drewN | apply below_drew1) | exact HB.out)⟩⟩
        case round =>
         clear H'
         try clear p1
         try clear q1
         try clear hx1
         try clear hf1
         try clear p2
         try clear c3
         try clear c3b0
         try clear c3b1
         try clear c4
         try clear c4b0
         try clear c4b1
         try clear p6
         try clear c7
         try clear c7b0
         try clear c8
         try clear c8b0
         try clear c9
         try clear c9b0
         try clear p10
         try clear q10
         try clear hx10
         try clear hf10
         try clear hx10_0
         try clear p10
         try clear p2
         try clear p6
         try clear q10
         obtain ⟨x3_2, x5_2, rfl, HA, HK2, HO_3, HB⟩ := hrel
         have hl3_2 := (Kd.R_reads' HO_3.out).1
         rw [hl3_2] at HO_3
         (try simp only [hl3_2])
         cases gk with
         | zero => exact absurd HA.out (by simp [tickingref03_Counts.l1])
         | succ k2 =>
          have H := HA.out
          clear HA
          simp only [tickingref03_Counts.l1] at H
          by_cases c13 : x5_2 ≤ 100
          ·rw [if_pos c13] at H
           have c13b0 : decide (x5_2 ≤ 100) = true := decide_eq_true c13
           clear c13
           replace H := Option.bind_eq_some_iff.mp H
           obtain ⟨t161, A140, H⟩ := H
           replace H : (if t161 ≥ 0 then (if 0 ≤ x4_1 then (if x4_1 < (x3_2.length : Int) then (if 0 ≤ t161 then (if t161 < (x3_2.length : Int) then (tickingref03_Counts.l1 k2 a0 (x3_2.set (x4_1 : Int).toNat (wrap64 ((rd x3_2 x4_1) + (rd x3_2 t161)))) x4_1 ((x5_2 + 1) % 256)) else (none)) else (none)) else (none)) else (none)) else (tickingref03_Counts.l1 k2 a0 x3_2 x4_1 ((x5_2 + 1) % 256))) = some r := H
           have A14 := Aside0.mk A140
           clear A140
           by_cases c15 : t161 ≥ 0
           ·rw [if_pos c15] at H
            have c15b0 : decide (0 ≤ t161) = true := decide_eq_true c15
            clear c15
            by_cases c16 : 0 ≤ x4_1
            ·rw [if_pos c16] at H
             have c16b0 : decide (0 ≤ x4_1) = true := decide_eq_true c16
             clear c16
             by_cases c17 : x4_1 < (x3_2.length : Int)
             ·rw [if_pos c17] at H
              have c17b0 : decide (x4_1 < (x3_2.length : Int)) = true := decide_eq_true c17
              clear c17
              by_cases c18 : 0 ≤ t161
              ·rw [if_pos c18] at H
               have c18b0 : decide (0 ≤ t161) = true := decide_eq_true c18
               clear c18
               by_cases c19 : t161 < (x3_2.length : Int)
               ·rw [if_pos c19] at H
                have c19b0 : decide (t161 < (x3_2.length : Int)) = true := decide_eq_true c19
                clear c19
                obtain ⟨y164, hy164⟩ : ∃ y_ : List Int, y_ = (x3_2.set (x4_1 : Int).toNat (wrap64 ((rd x3_2 x4_1) + (rd x3_2 t161)))) := ⟨_, rfl⟩
                replace H : (tickingref03_Counts.l1 k2 a0 y164 x4_1 ((x5_2 + 1) % 256)) = some r := by first | (rw [hy164]; with_reducible exact H) | (have H2_ := (Option.bind_some _ _).symm.trans H; rw [hy164]; with_reducible exact H2_) | (have H2_ := (Option.bind_some _ _).symm.trans H; with_reducible exact H2_) | with_reducible exact H | (rw [hy164]; exact H) | exact H
                have Ny164 := Aside0.mk hy164
                clear hy164
                have H' := Aside0.mk H
                clear H
                try go_wp2_with (first | ((with_reducible refine gate_callee (f := 55) rfl ?_); refine goesL_ (some 27) rfl rfl Try.func55 (by kernel_rfl) rfl #[.string a0, .int .i64 x4_1, .int .u8 x5_2] rfl dz ?_; (with_reducible refine (tickingref03_Next.calls k2 a0 x4_1 x5_2 t161 _ A14.out).mono ?_); rintro e w' ⟨rfl, ⟨nd, rfl⟩⟩; refine ⟨_, rfl, ?_⟩; (try (rw [drewN_self wr]; generalize hq_ : World.drewN wr _ = wr; have n0_ : Aside0 (Kd.R (Kd.int .i64) 3 wr w.heap.size (fun _ => True) (.slice (some ⟨go10, 0, none⟩) x3_2.length co10) x3_2) := ⟨by rw [← hq_]; exact (rz HO_3.out)⟩; have n1_ : Aside0 (Below w.heap.size w wr) := ⟨by rw [← hq_]; exact bz⟩; clear HO_3 HB hq_; have HO_3 := n0_; have HB := n1_; clear n0_ n1_))))
                have n0_ := Aside0.mk (Kd.R_drew HO_3.out)
                have n1_ := Aside0.mk (below_drew1 HB.out)
                clear HO_3
                clear HB
                have HO_3 := n0_
                have HB := n1_
                clear n0_ n1_
                have p162 : 0 ≤ (x4_1 : Int) := of_decide_eq_true az
                have q162 : x4_1 < (x3_2.length : Int) := of_decide_eq_true az
                obtain ⟨ad162, e162, hx162_0⟩ := Kd.at_int (Kd.R_reads' HO_3.out).2.2 x4_1 p162 q162
                obtain rfl : (⟨go10, 0, none⟩ : Addr) = ad162 := (by injection e162)
                (first | simp only [add_plain] at hx162_0 | simp only [add_at] at hx162_0 | simp only [Addr.add, Nat.zero_add] at hx162_0 | skip)
                replace p162 := eq_true p162
                replace q162 := eq_true q162
                have p163 : 0 ≤ (t161 : Int) := of_decide_eq_true az
                have q163 : t161 < (x3_2.length : Int) := of_decide_eq_true az
                obtain ⟨ad163, e163, hx163_0⟩ := Kd.at_int (Kd.R_reads' HO_3.out).2.2 t161 p163 q163
                obtain rfl : (⟨go10, 0, none⟩ : Addr) = ad163 := (by injection e163)
                (first | simp only [add_plain] at hx163_0 | simp only [add_at] at hx163_0 | simp only [Addr.add, Nat.zero_add] at hx163_0 | skip)
                replace p163 := eq_true p163
                replace q163 := eq_true q163
                have p20 : 0 ≤ (x4_1 : Int) := of_decide_eq_true az
                have q20 : (x4_1 : Int) < ((x3_2.length : Int) : Int) := of_decide_eq_true az
                obtain ⟨hx20_0, hf20_0⟩ := Kd.R_celln 0 HO_3.out (x4_1 : Int) p20 q20
                replace p20 := eq_true p20
                replace q20 := eq_true q20
                have HP22 := Kd.R_putn HO_3.out (x4_1 : Int) (wrap64 ((rd x3_2 x4_1) + (rd x3_2 t161)))
                rw [← Ny164.out] at HP22
                have HQ22 := Aside0.mk HP22
                clear HP22
                refine start_ (n := 13) (S := fun w' => w'.cell? ⟨go10, (x4_1).toNat, none⟩ = some (.int .i64 (rd x3_2 x4_1)) ∧ w'.cell? ⟨go10, (t161).toNat, none⟩ = some (.int .i64 (rd x3_2 t161))) (ds := [12]) #[false, false, false, false, false, false, false, false, false, false, false, false, false] (by kernel_rfl) rfl rfl ⟨hx162_0, hx163_0⟩ (fun hHeld => ?_); refine with_tabW tickingref03_Counts.tab11 tickingref03_Counts.bits11 (fun HT_ HW_ => ?_)
                generalize wr.drew = w21 at HO_3 HB HQ22 hf20_0 hx162_0 hx163_0 hx20_0 hHeld ⊢
                refine pure_ (i := 0) (N := some 30) (v := ?_) (a' := ?_) #[true, false, false, false, false, false, false, false, false, false, false, false, false] rfl rfl (any_of HT_.out (by kernel_rfl)) (fun _ _ _ h => h) (Or.inl ⟨by rfl, ?_⟩) ?_ ?_
                rotate_left
                ·intro w'
                 go_simp
                 with_reducible rfl
                rotate_left
                ·simp only [Act.put, List.setIfInBounds_toArray, List.set_cons_zero, List.set_cons_succ, i64_w, i32_w]
                 rfl
                refine pure_ (i := 1) (N := some 31) (v := ?_) (a' := ?_) #[true, true, false, false, false, false, false, false, false, false, false, false, false] rfl rfl (any_of HT_.out (by kernel_rfl)) (fun _ _ _ h => h) (Or.inl ⟨by rfl, ?_⟩) ?_ ?_
                rotate_left
                ·intro w'
                 go_simp
                 with_reducible rfl
                rotate_left
                ·simp only [Act.put, List.setIfInBounds_toArray, List.set_cons_zero, List.set_cons_succ, i64_w, i32_w]
                 rfl
                refine pure_ (i := 2) (N := some 32) (v := ?_) (a' := ?_) #[true, true, true, false, false, false, false, false, false, false, false, false, false] rfl rfl (any_of HT_.out (by kernel_rfl)) (fun _ _ _ h => h) (Or.inl ⟨by rfl, ?_⟩) ?_ ?_
                rotate_left
                ·intro w'
                 go_simp
                 with_reducible rfl
                rotate_left
                ·simp only [Act.put, List.setIfInBounds_toArray, List.set_cons_zero, List.set_cons_succ, i64_w, i32_w]
                 rfl
                refine pure_ (i := 3) (N := some 33) (v := ?_) (a' := ?_) #[true, true, true, true, false, false, false, false, false, false, false, false, false] rfl rfl (any_of HT_.out (by kernel_rfl)) (fun _ _ _ h => h) (Or.inl ⟨by rfl, ?_⟩) ?_ ?_
                rotate_left
                ·intro w'
                 go_simp
                 with_reducible rfl
                rotate_left
                ·simp only [Act.put, List.setIfInBounds_toArray, List.set_cons_zero, List.set_cons_succ, i64_w, i32_w]
                 rfl
                refine pure_ (i := 4) (N := some 34) (v := ?_) (a' := ?_) #[true, true, true, true, true, false, false, false, false, false, false, false, false] rfl rfl (any_of HT_.out (by kernel_rfl)) (fun _ _ _ h => h) (Or.inl ⟨by rfl, ?_⟩) ?_ ?_
                rotate_left
                ·intro w'
                 go_simp
                 with_reducible rfl
                rotate_left
                ·simp only [Act.put, List.setIfInBounds_toArray, List.set_cons_zero, List.set_cons_succ, i64_w, i32_w]
                 rfl
                refine pure_ (i := 6) (N := some 36) (v := ?_) (a' := ?_) #[true, true, true, true, true, false, true, false, false, false, false, false, false] rfl rfl (any_of HT_.out (by kernel_rfl)) (fun _ _ _ h => h) (Or.inl ⟨by rfl, ?_⟩) ?_ ?_
                rotate_left
                ·intro w'
                 go_simp
                 with_reducible rfl
                rotate_left
                ·simp only [Act.put, List.setIfInBounds_toArray, List.set_cons_zero, List.set_cons_succ, i64_w, i32_w]
                 rfl
                refine pure_ (i := 7) (N := some 37) (v := ?_) (a' := ?_) #[true, true, true, true, true, false, true, true, false, false, false, false, false] rfl rfl (any_of HT_.out (by kernel_rfl)) (fun _ _ _ h => h) (Or.inl ⟨by rfl, ?_⟩) ?_ ?_
                rotate_left
                ·intro w'
                 go_simp
                 with_reducible rfl
                rotate_left
                ·simp only [Act.put, List.setIfInBounds_toArray, List.set_cons_zero, List.set_cons_succ, i64_w, i32_w]
                 rfl
                refine pure_ (i := 8) (N := some 38) (v := ?_) (a' := ?_) #[true, true, true, true, true, false, true, true, true, false, false, false, false] rfl rfl (any_of HT_.out (by kernel_rfl)) (fun _ _ _ h => h) (Or.inl ⟨by rfl, ?_⟩) ?_ ?_
                rotate_left
                ·intro w'
                 go_simp
                 with_reducible rfl
                rotate_left
                ·simp only [Act.put, List.setIfInBounds_toArray, List.set_cons_zero, List.set_cons_succ, i64_w, i32_w]
                 rfl
                refine take_ (i := 5) (N := some 35) (v := ?_) (a' := ?_) #[true, true, true, true, true, true, true, true, true, false, false, false, false] rfl rfl (take_ofW HT_.out HW_.out (by kernel_rfl)) (fun _ _ _ h => h) (Or.inl ⟨by rfl, ?_⟩) hHeld ?_ ?_
                rotate_left
                ·rintro w' ⟨s0, s1⟩
                 go_simp
                 with_reducible rfl
                rotate_left
                ·simp only [Act.put, List.setIfInBounds_toArray, List.set_cons_zero, List.set_cons_succ, i64_w, i32_w]
                 rfl
                refine take_ (i := 9) (N := some 39) (v := ?_) (a' := ?_) #[true, true, true, true, true, true, true, true, true, true, false, false, false] rfl rfl (take_ofW HT_.out HW_.out (by kernel_rfl)) (fun _ _ _ h => h) (Or.inl ⟨by rfl, ?_⟩) hHeld ?_ ?_
                rotate_left
                ·rintro w' ⟨s0, s1⟩
                 go_simp
                 with_reducible rfl
                rotate_left
                ·simp only [Act.put, List.setIfInBounds_toArray, List.set_cons_zero, List.set_cons_succ, i64_w, i32_w]
                 rfl
                refine pure_ (i := 10) (N := some 40) (v := ?_) (a' := ?_) #[true, true, true, true, true, true, true, true, true, true, true, false, false] rfl rfl (any_of HT_.out (by kernel_rfl)) (fun _ _ _ h => h) (Or.inl ⟨by rfl, ?_⟩) ?_ ?_
                rotate_left
                ·intro w'
                 go_simp
                 with_reducible rfl
                rotate_left
                ·simp only [Act.put, List.setIfInBounds_toArray, List.set_cons_zero, List.set_cons_succ, i64_w, i32_w]
                 rfl
                refine pure_ (i := 11) (N := some 41) (v := ?_) (a' := ?_) #[true, true, true, true, true, true, true, true, true, true, true, true, false] rfl rfl (any_of HT_.out (by kernel_rfl)) (fun _ _ _ h => h) (Or.inl ⟨by rfl, ?_⟩) ?_ ?_
                rotate_left
                ·intro w'
                 go_simp
                 with_reducible rfl
                rotate_left
                ·simp only [Act.put, List.setIfInBounds_toArray, List.set_cons_zero, List.set_cons_succ, i64_w, i32_w]
                 rfl
                refine last_ (i := 12) (N := none) #[true, true, true, true, true, true, true, true, true, true, true, true, true] rfl rfl (one_of HT_.out (by kernel_rfl)) (by decide) (fun K hK => ?_)
                refine skip_ (w1 := ?_) (by rfl) rfl ?_ ?_
                rotate_left
                ·go_simp
                 rfl
                refine hK.out _ _ ?_
                clear hK K
                refine done_ (done_of HT_.out (by kernel_rfl)) ?_
                try go_wp2
                (try simp only [← hl3_2])
                go_roundg k2
                case measure => have := HK1.out; have := HK2.out; omega
                case rel => exact ⟨(y164), ((x5_2 + 1) % 256), (by first | rfl | (simp; done) | (simp [*]; done)), H', ⟨by have := HK1.out; have := HK2.out; omega⟩, ⟨by (try simp only [hl3_2]); (with_reducible repeat (first | apply Kd.R_alloc | apply Kd.R_drewN | apply Kd.R_drew)); exact HQ22.out⟩, ⟨by repeat (first | (with_reducible first | exact HB.out | apply below_alloc | apply pw_below_drewN | apply below_drew1 | refine below_set ?_ GB10.out) | exact HB.out)⟩⟩
               ·rw [if_neg c19] at H
                exact absurd H (by simp)
              ·rw [if_neg c18] at H
               exact absurd H (by simp)
             ·rw [if_neg c17] at H
              exact absurd H (by simp)
            ·rw [if_neg c16] at H
             exact absurd H (by simp)
           ·rw [if_neg c15] at H
            have c15b0 : decide (0 ≤ t161) = false := decide_eq_false c15
            clear c15
            have H' := Aside0.mk H
            clear H
            go_wp2_with (first | ((with_reducible refine gate_callee (f := 55) rfl ?_); refine goesL_ (some 27) rfl rfl Try.func55 (by kernel_rfl) rfl #[.string a0, .int .i64 x4_1, .int .u8 x5_2] rfl dz ?_; (with_reducible refine (tickingref03_Next.calls k2 a0 x4_1 x5_2 t161 _ A14.out).mono ?_); rintro e w' ⟨rfl, ⟨nd, rfl⟩⟩; refine ⟨_, rfl, ?_⟩))
            (try simp only [← hl3_2])
            go_roundg k2
            case measure => have := HK1.out; have := HK2.out; omega
            case rel => exact ⟨(x3_2), ((x5_2 + 1) % 256), (by first | rfl | (simp; done) | (simp [*]; done)), H', ⟨by have := HK1.out; have := HK2.out; omega⟩, ⟨by (try simp only [hl3_2]); (with_reducible repeat (first | apply Kd.R_alloc | apply Kd.R_drewN | apply Kd.R_drew)); exact HO_3.out⟩, ⟨by repeat (first | (with_reducible first | exact HB.out | apply below_alloc | apply pw_below_drewN | apply below_drew1) | exact HB.out)⟩⟩
          ·rw [if_neg c13] at H
           have c13b0 : decide (x5_2 ≤ 100) = false := decide_eq_false c13
           clear c13
           have H' := Aside0.mk H
           clear H
           go_wp2
           (try simp only [← hl3_2])
           go_roundg k2
           case measure => have := HK1.out; have := HK2.out; omega
           case rel => exact ⟨(x3_2), (wrap64 (x4_1 - 1)), (by first | rfl | (simp; done) | (simp [*]; done)), H', ⟨by have := HK1.out; have := HK2.out; omega⟩, ⟨by (try simp only [hl3_2]); (with_reducible repeat (first | apply Kd.R_alloc | apply Kd.R_drewN | apply Kd.R_drew)); exact HO_3.out⟩, ⟨by repeat (first | (with_reducible first | exact HB.out | apply below_alloc | apply pw_below_drewN | apply below_drew1) | exact HB.out)⟩⟩
       ·rw [if_neg c9] at H
        exact absurd H (by simp)
      ·rw [if_neg c8] at H
       exact absurd H (by simp)
     ·rw [if_neg c7] at H
      have c7b0 : decide (0 ≤ x4_1) = false := decide_eq_false c7
      clear c7
      obtain rfl := Option.some.inj H
      go_wp2
      go_ret
      exact ⟨_, by first | rfl | (simp [errW_none, errW_some] <;> rfl) | (simp only [← hji2]; first | rfl | (simp [errW_none, errW_some] <;> rfl)) | (simp [*, errW_none, errW_some] <;> rfl), by (with_reducible repeat (first | apply Kd.R_alloc | apply Kd.R_drewN | apply Kd.R_drew)); exact HO_3.out, by repeat (first | (with_reducible first | exact HB.out | apply below_alloc | apply pw_below_drewN | apply below_drew1) | exact HB.out)⟩
  ·rw [if_neg c4] at H
   exact absurd H (by simp)
 ·rw [if_neg c3] at H
  exact absurd H (by simp)

end Go.Proofs.Ytagdbadljcongaa.X
end

section
/- What the reference computes: Counts, Index. -/
set_option linter.unusedVariables false
set_option linter.unusedSimpArgs false
namespace Go.Proofs.Ytagdbadljcongaa.X
open Go Go.RowKit Go.Proofs.YtagdbadljcongaaW.PrintWords Go.Proofs.YtagdbadljcongaaW.PrintLast Go.Proofs.YtagdbadljcongaaW.PrintMore
theorem rd_set (L : List Int) (i : Nat) (v : Int) (h : i < L.length) (j : Nat) : rd (L.set i v) (j : Int) = if j = i then v else rd L (j : Int) := by
  unfold rd
  simp only [Int.toNat_natCast, List.getD_eq_getElem?_getD, List.getElem?_set]
  by_cases e : i = j
  · subst e; simp [h]
  · rw [if_neg e, if_neg (Ne.symm e)]
/-- The counts are right from place m on. -/
structure CtL (s : ByteArray) (m : Nat) (L : List Int) : Prop where
  len : L.length = s.size + 1
  at_ : ∀ j : Nat, m ≤ j → j ≤ s.size → rd L (j : Int) = (cs ((bl s).drop j) : Int)
theorem counts_l1 (s : ByteArray) (hs : s.size ≤ 60) (i : Nat) (hi : i ≤ s.size) (B : Nat) (hB : s.size < B) (H : ∀ k, B ≤ k → ∀ L, CtL s i L → ∃ L', tickingref03_Counts.l0 k s L ((i : Int) - 1) = some L' ∧ CtL s 0 L') :
    ∀ t c K L, c + t = 4 → B + t + 1 ≤ K → CtL s (i + 1) L → rd L (i : Int) = (psum ((bl s).drop i) c : Int) → ∃ L', tickingref03_Counts.l1 K s L (i : Int) ((97 + c : Nat) : Int) = some L' ∧ CtL s 0 L'
  | t, c, 0, L, hc, hK, hL, hr => absurd hK (by omega)
  | 0, c, K + 1, L, hc, hK, hL, hr => by
    obtain rfl : c = 4 := by omega
    unfold tickingref03_Counts.l1
    rw [if_neg (by omega), show wrap64 ((i : Int) - 1) = (i : Int) - 1 from IntWalk.wrap64_in _ (by omega)]
    refine H K (by omega) L ⟨hL.len, fun j h1 h2 => ?_⟩
    by_cases e : j = i
    · subst e; rw [hr, cs_eq]
    · exact hL.at_ j (by omega) h2
  | t + 1, c, K + 1, L, hc, hK, hL, hr => by
    unfold tickingref03_Counts.l1
    rw [if_pos (by omega), next_f s (by omega) (97 + c) i K hi (by omega)]
    have hq := nx_le (bl s) i (97 + c) (by rw [bl_length]; exact hi)
    have ht := term_at (bl s) i (97 + c) (by rw [bl_length]; exact hi)
    have hp := psum_succ ((bl s).drop i) c
    have hm := psum_mono ((bl s).drop i) (show c + 1 ≤ 4 by omega)
    have h60 := cs_60 (l := (bl s).drop i) (by rw [List.length_drop, bl_length]; omega)
    rw [cs_eq] at h60
    rw [bl_length] at hq ht
    have hmod : (((97 + c : Nat) : Int) + 1) % 256 = ((97 + (c + 1) : Nat) : Int) := by omega
    generalize hqq : nx (bl s) i (97 + c) = q at hq ht
    show ∃ L', (if nxI (bl s) i (97 + c) ≥ 0 then _ else _) = some L' ∧ _
    unfold nxI
    rw [hqq, bl_length]
    by_cases h1 : q < s.size
    · rw [if_pos h1] at ht
      rw [if_pos h1, if_pos (by omega), if_pos (by omega), if_pos (by rw [hL.len]; omega), if_pos (by omega), if_pos (by rw [hL.len]; omega), hmod]
      rw [hr, hL.at_ (q + 1) (by omega) (by omega), IntWalk.wrap64_in _ (by omega), Int.toNat_natCast]
      refine counts_l1 s hs i hi B hB H t (c + 1) K _ (by omega) (by omega) ⟨by rw [List.length_set]; exact hL.len, fun j h1 h2 => ?_⟩ ?_
      · rw [rd_set _ _ _ (by rw [hL.len]; omega), if_neg (by omega)]; exact hL.at_ j h1 h2
      · rw [rd_set _ _ _ (by rw [hL.len]; omega), if_pos rfl]; omega
    · rw [if_neg h1] at ht
      rw [if_neg h1, if_neg (by omega), hmod]
      exact counts_l1 s hs i hi B hB H t (c + 1) K _ (by omega) (by omega) hL (by rw [hr]; omega)
theorem counts_l0 (s : ByteArray) (hs : s.size ≤ 60) : ∀ m K L, m ≤ s.size + 1 → 6 * m + s.size + 2 ≤ K → CtL s m L → ∃ L', tickingref03_Counts.l0 K s L ((m : Int) - 1) = some L' ∧ CtL s 0 L'
  | m, 0, L, hm, hK, hL => absurd hK (by omega)
  | 0, K + 1, L, hm, hK, hL => by
    unfold tickingref03_Counts.l0
    rw [if_neg (by omega)]
    exact ⟨L, rfl, hL⟩
  | i + 1, K + 1, L, hm, hK, hL => by
    unfold tickingref03_Counts.l0
    rw [show (((i + 1 : Nat) : Int) - 1) = (i : Int) by omega, if_pos (by omega), if_pos (by omega), if_pos (by rw [hL.len]; omega), Int.toNat_natCast]
    refine counts_l1 s hs i (by omega) (6 * i + s.size + 2) (by omega) (fun k hk L h => counts_l0 s hs i k L (by omega) hk h) 4 0 K _ (by omega) (by omega) ⟨by rw [List.length_set]; exact hL.len, fun j h1 h2 => ?_⟩ ?_
    · rw [rd_set _ _ _ (by rw [hL.len]; omega), if_neg (by omega)]; exact hL.at_ j h1 h2
    · rw [rd_set _ _ _ (by rw [hL.len]; omega), if_pos rfl]; rfl
theorem counts_ev (s : ByteArray) (hs : s.size ≤ 60) (K : Nat) (hK : 7 * s.size + 8 ≤ K) : ∃ L, tickingref03_Counts.f K s = some L ∧ CtL s 0 L := by
  unfold tickingref03_Counts.f
  rw [wr1 (by omega), if_pos (by omega), if_pos (by omega), Int.toNat_natCast]
  have h := counts_l0 s hs (s.size + 1) K (List.replicate (s.size + 1) 0) (by omega) (by omega) ⟨by simp, fun j h1 h2 => by omega⟩
  rw [show (((s.size + 1 : Nat) : Int) - 1) = (s.size : Int) by omega] at h
  exact h
end Go.Proofs.Ytagdbadljcongaa.X
end

section
namespace Go.Proofs.Ytagdbadljcongaa.X
open Go.RowKit Go.Proofs.YtagdbadljcongaaW.PrintWords Go.Proofs.YtagdbadljcongaaW.PrintLast Go.Proofs.YtagdbadljcongaaW.PrintMore
attribute [local go_sem] max2_int min2_int max_two min_two max_three min_three max_four min_four   -- for this text's walks alone
set_option linter.unusedVariables false
set_option linter.unusedSimpArgs false

def tickinglaw03_short.f (a0 : ByteArray) : Option (ByteArray) := if 0 ≤ (mn (a0.size : Int) 61) then (if (mn (a0.size : Int) 61) ≤ (a0.size : Int) then (some (a0.extract 0 ((mn (a0.size : Int) 61) : Int).toNat)) else (none)) else (none)
set_option maxHeartbeats 8000000 in
set_option maxRecDepth 100000 in
theorem tickinglaw03_short.calls (a0 : ByteArray) (r : ByteArray) (w : World) (h : tickinglaw03_short.f a0 = some r) :
  Calls Try.prog 17 #[.string a0] w fun e w' => e = .returned (.string r) ∧ Below w.heap.size w w' := by
 have HB := Aside0.mk (Below.refl w.heap.size w)
 have H : (if 0 ≤ (mn (a0.size : Int) 61) then (if (mn (a0.size : Int) 61) ≤ (a0.size : Int) then (some (a0.extract 0 ((mn (a0.size : Int) 61) : Int).toNat)) else (none)) else (none)) = some r := h
 clear h
 obtain ⟨ji2, hji2⟩ : ∃ j_ : Int, (mn (a0.size : Int) 61) = j_ := ⟨_, rfl⟩
 replace H : (if 0 ≤ (ji2) then (if (ji2) ≤ (a0.size : Int) then (some (a0.extract 0 ((ji2) : Int).toNat)) else (none)) else (none)) = some r := by first | (rw [hji2] at H; exact H) | (simp only [hji2] at H ⊢; exact H)
 (try (have hji2h : ji2 ≤ 61 := by (rw [← hji2]; unfold mn; (repeat' split) <;> omega)))
 (try (have hji2g : ji2 ≤ 64 := by omega))
 (try (have hji2l : 0 ≤ ji2 := by (rw [← hji2]; unfold mn; (repeat' split) <;> omega)))
 (try (have hji2m : 0 ≤ ji2 := by omega))
 have hji2_ : (if 61 < (a0.size : Int) then 61 else (a0.size : Int)) = ji2 := hji2
 by_cases c3 : 0 ≤ (ji2)
 ·rw [if_pos c3] at H
  have c3b0 := eq_true c3
  have c3b1 : decide (0 ≤ (ji2)) = true := decide_eq_true c3
  clear c3
  by_cases c4 : (ji2) ≤ (a0.size : Int)
  ·rw [if_pos c4] at H
   have c4b0 := eq_true c4
   have c4b1 : decide ((ji2) ≤ (a0.size : Int)) = true := decide_eq_true c4
   clear c4
   obtain rfl := Option.some.inj H
   go_enter Try.func17, Try.ntmps17
   go_wp2
   go_ret
   exact ⟨by first | rfl | (simp [errW_none, errW_some] <;> rfl) | (simp only [← hji2]; first | rfl | (simp [errW_none, errW_some] <;> rfl)) | (simp [*, errW_none, errW_some] <;> rfl), by repeat (first | (with_reducible first | exact HB.out | apply below_alloc | apply pw_below_drewN | apply below_drew1) | exact HB.out)⟩
  ·rw [if_neg c4] at H
   exact absurd H (by simp)
 ·rw [if_neg c3] at H
  exact absurd H (by simp)

end Go.Proofs.Ytagdbadljcongaa.X
end

section
/- The law ThreadIndexes, walked. -/
set_option linter.unusedVariables false
set_option linter.unusedSimpArgs false
namespace Go.Proofs.Ytagdbadljcongaa.X
open Go Go.RowKit Go.Proofs Go.Proofs.YtagdbadljcongaaW.PrintWords Go.Proofs.YtagdbadljcongaaW.PrintLast Go.Proofs.YtagdbadljcongaaW.PrintMore
theorem short_any (a : ByteArray) (w : World) : Calls Try.prog 17 #[.string a] w fun e w' => ∃ s, e = .returned (.string s) ∧ Aside0 (s.size ≤ 61) ∧ Below w.heap.size w w' := by
  have h0 : 0 ≤ mn (a.size : Int) 61 := by unfold mn; split <;> omega
  have h1 : mn (a.size : Int) 61 ≤ (a.size : Int) := by unfold mn; split <;> omega
  have h2 : mn (a.size : Int) 61 ≤ 61 := by unfold mn; split <;> omega
  refine (tickinglaw03_short.calls a (a.extract 0 (mn (a.size : Int) 61).toNat) w ?_).mono ?_
  · unfold tickinglaw03_short.f
    rw [if_pos h0, if_pos h1]
  · rintro e w' ⟨rfl, hb⟩
    exact ⟨_, rfl, ⟨by rw [ByteArray.size_extract]; omega⟩, hb⟩
end Go.Proofs.Ytagdbadljcongaa.X
end

section
namespace Go.Proofs.Ytagdbadljcongaa.X
open Go.RowKit Go.Proofs.YtagdbadljcongaaW.PrintWords Go.Proofs.YtagdbadljcongaaW.PrintLast Go.Proofs.YtagdbadljcongaaW.PrintMore
attribute [local go_sem] max2_int min2_int max_two min_two max_three min_three max_four min_four   -- for this text's walks alone
set_option linter.unusedVariables false
set_option linter.unusedSimpArgs false

mutual
def tickingref03_Item.l0 : Nat → ByteArray → Int → List Int → ByteArray → Int → Option (ByteArray)
 | 0, _, _, _, _, _ => none
 | k + 1, x0, x1, x5, x6, x7 => if x1 > 0 then (tickingref03_Item.l1 k x0 (wrap64 (x1 - 1)) x5 x6 x7 97) else (some x6)
def tickingref03_Item.l1 : Nat → ByteArray → Int → List Int → ByteArray → Int → Int → Option (ByteArray)
 | 0, _, _, _, _, _, _ => none
 | k + 1, x0, x1, x5, x6, x7, x8 => if x8 ≤ 100 then ((tickingref03_Next.f k x0 x7 x8).bind fun t181 => (if t181 < 0 then (tickingref03_Item.l1 k x0 x1 x5 x6 x7 ((x8 + 1) % 256)) else (if 0 ≤ t181 then (if t181 < (x5.length : Int) then (if x1 < (rd x5 t181) then ((some (([x8] : List Int) : List Int)).bind fun y183 => (if x6.size + (strOfNums y183).size ≤ 9223372036854775807 then (tickingref03_Item.l0 k x0 x1 x5 (x6 ++ (strOfNums y183)) t181) else (none))) else (tickingref03_Item.l1 k x0 (wrap64 (x1 - (rd x5 t181))) x5 x6 x7 ((x8 + 1) % 256))) else (none)) else (none)))) else (tickingref03_Item.l0 k x0 x1 x5 x6 x7)
end
def tickingref03_Item.f (k : Nat) (a0 : ByteArray) (a1 : Int) : Option (ByteArray) := (tickingref03_Counts.f k a0).bind fun t178 => (tickingref03_Item.l0 k a0 a1 t178 (⟨#[]⟩ : ByteArray) 0)
set_option maxHeartbeats 8000000 in
set_option maxRecDepth 100000 in
theorem tickingref03_Item.calls (k : Nat) (a0 : ByteArray) (a1 : Int) (r : ByteArray) (w : World) (h : tickingref03_Item.f k a0 a1 = some r) :
  Calls Try.prog 38 #[.string a0, .int .i64 a1] w fun e w' => e = .returned (.string r) ∧ Below w.heap.size w w' := by
 have HB := Aside0.mk (Below.refl w.heap.size w)
 have H : ((tickingref03_Counts.f k a0).bind fun t178 => (tickingref03_Item.l0 k a0 a1 t178 (⟨#[]⟩ : ByteArray) 0)) = some r := h
 clear h
 replace H := Option.bind_eq_some_iff.mp H
 obtain ⟨t178, A30, H⟩ := H
 replace H : (tickingref03_Item.l0 k a0 a1 t178 (⟨#[]⟩ : ByteArray) 0) = some r := H
 have A3 := Aside0.mk A30
 clear A30
 have H' := Aside0.mk H
 clear H
 go_enter Try.func38, Try.ntmps38
 go_wp2_with (first | ((with_reducible refine gate_callee (f := 37) rfl ?_); refine goesL_ (some 11) rfl rfl Try.func37 (by kernel_rfl) rfl #[.string a0] rfl dz ?_; (with_reducible refine (tickingref03_Counts.calls k a0 t178 _ A3.out).mono ?_); rintro e w4 ⟨v179, rfl, ho0, hb⟩; refine ⟨_, rfl, ?_⟩; have n0_ := Aside0.mk (Kd.R_lower ho0 (below_size bz)); have n1_ := Aside0.mk (below_step bz hb); clear HB; have HO180 := n0_; have HB := n1_; clear n0_ n1_; (try clear hb); (try clear hb2); (try clear hk); (try clear hi); (try clear ho0)))
 go_loopg [1, 6, 7] k (fun kq v1 v6 v7 w' => ∃ (x1_1 : Int) (x6_1 : ByteArray) (x7_1 : Int), v1 = .int .i64 x1_1 ∧ v6 = .string x6_1 ∧ v7 = .int .i64 x7_1 ∧ Aside0 (tickingref03_Item.l0 kq a0 x1_1 t178 x6_1 x7_1 = some r) ∧ Aside0 (kq ≤ k) ∧ Aside0 (Kd.R (Kd.int .i64) 3 w' w.heap.size (fun _ => True) v179 t178) ∧ Aside0 (Below w.heap.size w w'))
 case atStart => exact ⟨(a1), ((⟨#[]⟩ : ByteArray)), (0), (by first | rfl | (simp; done) | (simp [*]; done)), (by first | rfl | (simp; done) | (simp [*]; done)), (by first | rfl | (simp; done) | (simp [*]; done)), H', ⟨Nat.le_refl _⟩, ⟨by (with_reducible repeat (first | apply Kd.R_alloc | apply Kd.R_drewN | apply Kd.R_drew)); exact HO180.out⟩, ⟨by repeat (first | (with_reducible first | exact HB.out | apply below_alloc | apply pw_below_drewN | apply below_drew1) | exact HB.out)⟩⟩
 case round =>
  clear H'
  try clear p2
  try clear c3
  obtain ⟨x1_1, x6_1, x7_1, rfl, rfl, rfl, HA, HK1, HO_5, HB⟩ := hrel
  cases gk with
  | zero => exact absurd HA.out (by simp [tickingref03_Item.l0])
  | succ k1 =>
   have H := HA.out
   clear HA
   simp only [tickingref03_Item.l0] at H
   by_cases c5 : x1_1 > 0
   ·rw [if_pos c5] at H
    have c5b0 : decide (0 < x1_1) = true := decide_eq_true c5
    clear c5
    have H' := Aside0.mk H
    clear H
    go_wp2
    go_loopg [1, 6, 7, 8] k1 (fun kq v1 v6 v7 v8 w' => ∃ (x1_2 : Int) (x6_2 : ByteArray) (x7_2 : Int) (x8_2 : Int), v1 = .int .i64 x1_2 ∧ v6 = .string x6_2 ∧ v7 = .int .i64 x7_2 ∧ v8 = .int .u8 x8_2 ∧ Aside0 (tickingref03_Item.l1 kq a0 x1_2 t178 x6_2 x7_2 x8_2 = some r) ∧ Aside0 (kq ≤ k1) ∧ Aside0 (Kd.R (Kd.int .i64) 3 w' w.heap.size (fun _ => True) v179 t178) ∧ Aside0 (Below w.heap.size w w'))
    case atStart => exact ⟨(wrap64 (x1_1 - 1)), (x6_1), (x7_1), (97), (by first | rfl | (simp; done) | (simp [*]; done)), (by first | rfl | (simp; done) | (simp [*]; done)), (by first | rfl | (simp; done) | (simp [*]; done)), (by first | rfl | (simp; done) | (simp [*]; done)), H', ⟨Nat.le_refl _⟩, ⟨by (with_reducible repeat (first | apply Kd.R_alloc | apply Kd.R_drewN | apply Kd.R_drew)); exact HO_5.out⟩, ⟨by repeat (first | (with_reducible first | exact HB.out | apply below_alloc | apply pw_below_drewN | apply below_drew1) | exact HB.out)⟩⟩
    case round =>
     clear H'
     try clear p2
     try clear c3
     try clear c5
     try clear c5b0
     try clear p2
     obtain ⟨x1_2, x6_2, x7_2, x8_2, rfl, rfl, rfl, rfl, HA, HK2, HO_5, HB⟩ := hrel
     cases gk with
     | zero => exact absurd HA.out (by simp [tickingref03_Item.l1])
     | succ k2 =>
      have H := HA.out
      clear HA
      simp only [tickingref03_Item.l1] at H
      by_cases c6 : x8_2 ≤ 100
      ·rw [if_pos c6] at H
       have c6b0 : decide (x8_2 ≤ 100) = true := decide_eq_true c6
       clear c6
       replace H := Option.bind_eq_some_iff.mp H
       obtain ⟨t181, A70, H⟩ := H
       replace H : (if t181 < 0 then (tickingref03_Item.l1 k2 a0 x1_2 t178 x6_2 x7_2 ((x8_2 + 1) % 256)) else (if 0 ≤ t181 then (if t181 < (t178.length : Int) then (if x1_2 < (rd t178 t181) then ((some (([x8_2] : List Int) : List Int)).bind fun y183 => (if x6_2.size + (strOfNums y183).size ≤ 9223372036854775807 then (tickingref03_Item.l0 k2 a0 x1_2 t178 (x6_2 ++ (strOfNums y183)) t181) else (none))) else (tickingref03_Item.l1 k2 a0 (wrap64 (x1_2 - (rd t178 t181))) t178 x6_2 x7_2 ((x8_2 + 1) % 256))) else (none)) else (none))) = some r := H
       have A7 := Aside0.mk A70
       clear A70
       by_cases c8 : t181 < 0
       ·rw [if_pos c8] at H
        have c8b0 : decide (t181 < 0) = true := decide_eq_true c8
        clear c8
        have H' := Aside0.mk H
        clear H
        go_wp2_with (first | ((with_reducible refine gate_callee (f := 55) rfl ?_); refine goesL_ (some 23) rfl rfl Try.func55 (by kernel_rfl) rfl #[.string a0, .int .i64 x7_2, .int .u8 x8_2] rfl dz ?_; (with_reducible refine (tickingref03_Next.calls k2 a0 x7_2 x8_2 t181 _ A7.out).mono ?_); rintro e w' ⟨rfl, ⟨nd, rfl⟩⟩; refine ⟨_, rfl, ?_⟩))
        go_roundg k2
        case measure => have := HK1.out; have := HK2.out; omega
        case rel => exact ⟨(x1_2), (x6_2), (x7_2), ((x8_2 + 1) % 256), (by first | rfl | (simp; done) | (simp [*]; done)), (by first | rfl | (simp; done) | (simp [*]; done)), (by first | rfl | (simp; done) | (simp [*]; done)), (by first | rfl | (simp; done) | (simp [*]; done)), H', ⟨by have := HK1.out; have := HK2.out; omega⟩, ⟨by (with_reducible repeat (first | apply Kd.R_alloc | apply Kd.R_drewN | apply Kd.R_drew)); exact HO_5.out⟩, ⟨by repeat (first | (with_reducible first | exact HB.out | apply below_alloc | apply pw_below_drewN | apply below_drew1) | exact HB.out)⟩⟩
       ·rw [if_neg c8] at H
        have c8b0 : decide (t181 < 0) = false := decide_eq_false c8
        clear c8
        by_cases c9 : 0 ≤ t181
        ·rw [if_pos c9] at H
         have c9b0 : decide (0 ≤ t181) = true := decide_eq_true c9
         clear c9
         by_cases c10 : t181 < (t178.length : Int)
         ·rw [if_pos c10] at H
          have c10b0 : decide (t181 < (t178.length : Int)) = true := decide_eq_true c10
          clear c10
          by_cases c11 : x1_2 < (rd t178 t181)
          ·rw [if_pos c11] at H
           have c11b0 : decide (x1_2 < (rd t178 t181)) = true := decide_eq_true c11
           clear c11
           obtain ⟨y183, hy183⟩ : ∃ y_ : List Int, y_ = (([x8_2] : List Int)) := ⟨_, rfl⟩
           replace H : (if x6_2.size + (strOfNums y183).size ≤ 9223372036854775807 then (tickingref03_Item.l0 k2 a0 x1_2 t178 (x6_2 ++ (strOfNums y183)) t181) else (none)) = some r := by first | (rw [hy183]; with_reducible exact H) | (have H2_ := (Option.bind_some _ _).symm.trans H; rw [hy183]; with_reducible exact H2_) | (have H2_ := (Option.bind_some _ _).symm.trans H; with_reducible exact H2_) | with_reducible exact H | (rw [hy183]; exact H) | exact H
           have Ny183 := Aside0.mk hy183
           clear hy183
           by_cases c12 : x6_2.size + (strOfNums y183).size ≤ 9223372036854775807
           ·rw [if_pos c12] at H
            have c12b0 := eq_true c12
            have c12b1 : decide (x6_2.size + (strOfNums y183).size ≤ 9223372036854775807) = true := decide_eq_true c12
            try have c12b2 : (9223372036854775807 < x6_2.size + (strOfNums y183).size) = False := eq_false (Nat.not_lt.2 c12)
            have H' := Aside0.mk H
            clear H
            go_wp2_with (first | ((with_reducible refine gate_callee (f := 55) rfl ?_); refine goesL_ (some 23) rfl rfl Try.func55 (by kernel_rfl) rfl #[.string a0, .int .i64 x7_2, .int .u8 x8_2] rfl dz ?_; (with_reducible refine (tickingref03_Next.calls k2 a0 x7_2 x8_2 t181 _ A7.out).mono ?_); rintro e w' ⟨rfl, ⟨nd, rfl⟩⟩; refine ⟨_, rfl, ?_⟩; obtain ⟨Ao13, co13, eo13⟩ := Kd.R_slice HO_5.out; subst eo13; have p182 : 0 ≤ (t181 : Int) := of_decide_eq_true az; have q182 : t181 < (t178.length : Int) := of_decide_eq_true az; obtain ⟨ad182, e182, hx182_0⟩ := Kd.at_int (Kd.R_reads' HO_5.out).2.2 t181 p182 q182; cases e182; replace p182 := eq_true p182; replace q182 := eq_true q182) | ((with_reducible refine gate_dst (N := 34) rfl ?_); refine Kd.R_lit (Kd.int .u8) _ 5 ?hg (N := 34) ?hd (xs := ([x8_2] : List Int)) (inner := [.int .u8 x8_2]) (ok := fun _ => True) (okp := fun _ => True) ?hr ?hp (fun _ hk => hk) trivial (Below.refl _ _) (Nat.le_refl _) (by simp) ?_; (case hd => rfl); (case hg => rfl); (case hr => first | (go_simp; done) | (go_simp; rfl)); (case hp => exact (Reps.one (show Kd.M (Kd.int .u8) _ _ _ x8_2 [.int .u8 x8_2] from rfl) (Reps.none _ _))); intro v184 w14 ho15 hb hg_ hnew_; clear hg_ hnew_; (first | rw [← Ny183.out] at ho15 | (simp only [Int.reduceToNat] at ho15; rw [← Ny183.out] at ho15)); have n0_ := Aside0.mk (Kd.R_below (rz HO_5.out) hb); have n1_ := Aside0.mk (Kd.R_lower ho15 (below_size bz)); have n2_ := Aside0.mk (below_step bz hb); clear HO_5; clear HB; have HO_5 := n0_; have HO185 := n1_; have HB := n2_; clear n0_ n1_ n2_; clear hb ho15; have hcv16 := own_string (P := Try.prog) Try.underlying36 Try.underlying5 Try.underlying9 (Kd.own_of_R HO185.out)))
            go_roundg k2
            case measure => have := HK1.out; have := HK2.out; omega
            case rel => exact ⟨(x1_2), (x6_2 ++ (strOfNums y183)), (t181), (by first | rfl | (simp; done) | (simp [*]; done)), (by first | rfl | (simp; done) | (simp [*]; done)), (by first | rfl | (simp; done) | (simp [*]; done)), H', ⟨by have := HK1.out; have := HK2.out; omega⟩, ⟨by (with_reducible repeat (first | apply Kd.R_alloc | apply Kd.R_drewN | apply Kd.R_drew)); exact HO_5.out⟩, ⟨by repeat (first | (with_reducible first | exact HB.out | apply below_alloc | apply pw_below_drewN | apply below_drew1) | exact HB.out)⟩⟩
           ·rw [if_neg c12] at H
            exact absurd H (by simp)
          ·rw [if_neg c11] at H
           have c11b0 : decide (x1_2 < (rd t178 t181)) = false := decide_eq_false c11
           clear c11
           have H' := Aside0.mk H
           clear H
           go_wp2_with (first | ((with_reducible refine gate_callee (f := 55) rfl ?_); refine goesL_ (some 23) rfl rfl Try.func55 (by kernel_rfl) rfl #[.string a0, .int .i64 x7_2, .int .u8 x8_2] rfl dz ?_; (with_reducible refine (tickingref03_Next.calls k2 a0 x7_2 x8_2 t181 _ A7.out).mono ?_); rintro e w' ⟨rfl, ⟨nd, rfl⟩⟩; refine ⟨_, rfl, ?_⟩; obtain ⟨Ao17, co17, eo17⟩ := Kd.R_slice HO_5.out; subst eo17; have p182 : 0 ≤ (t181 : Int) := of_decide_eq_true az; have q182 : t181 < (t178.length : Int) := of_decide_eq_true az; obtain ⟨ad182, e182, hx182_0⟩ := Kd.at_int (Kd.R_reads' HO_5.out).2.2 t181 p182 q182; cases e182; replace p182 := eq_true p182; replace q182 := eq_true q182; have p186 : 0 ≤ (t181 : Int) := of_decide_eq_true az; have q186 : t181 < (t178.length : Int) := of_decide_eq_true az; obtain ⟨ad186, e186, hx186_0⟩ := Kd.at_int (Kd.R_reads' HO_5.out).2.2 t181 p186 q186; obtain rfl : ad182 = ad186 := (by injection e186); replace p186 := eq_true p186; replace q186 := eq_true q186))
           go_roundg k2
           case measure => have := HK1.out; have := HK2.out; omega
           case rel => exact ⟨(wrap64 (x1_2 - (rd t178 t181))), (x6_2), (x7_2), ((x8_2 + 1) % 256), (by first | rfl | (simp; done) | (simp [*]; done)), (by first | rfl | (simp; done) | (simp [*]; done)), (by first | rfl | (simp; done) | (simp [*]; done)), (by first | rfl | (simp; done) | (simp [*]; done)), H', ⟨by have := HK1.out; have := HK2.out; omega⟩, ⟨by (with_reducible repeat (first | apply Kd.R_alloc | apply Kd.R_drewN | apply Kd.R_drew)); exact HO_5.out⟩, ⟨by repeat (first | (with_reducible first | exact HB.out | apply below_alloc | apply pw_below_drewN | apply below_drew1) | exact HB.out)⟩⟩
         ·rw [if_neg c10] at H
          exact absurd H (by simp)
        ·rw [if_neg c9] at H
         exact absurd H (by simp)
      ·rw [if_neg c6] at H
       have c6b0 : decide (x8_2 ≤ 100) = false := decide_eq_false c6
       clear c6
       have H' := Aside0.mk H
       clear H
       go_wp2
       go_roundg k2
       case measure => have := HK1.out; have := HK2.out; omega
       case rel => exact ⟨(x1_2), (x6_2), (x7_2), (by first | rfl | (simp; done) | (simp [*]; done)), (by first | rfl | (simp; done) | (simp [*]; done)), (by first | rfl | (simp; done) | (simp [*]; done)), H', ⟨by have := HK1.out; have := HK2.out; omega⟩, ⟨by (with_reducible repeat (first | apply Kd.R_alloc | apply Kd.R_drewN | apply Kd.R_drew)); exact HO_5.out⟩, ⟨by repeat (first | (with_reducible first | exact HB.out | apply below_alloc | apply pw_below_drewN | apply below_drew1) | exact HB.out)⟩⟩
   ·rw [if_neg c5] at H
    have c5b0 : decide (0 < x1_1) = false := decide_eq_false c5
    clear c5
    obtain rfl := Option.some.inj H
    go_wp2
    go_ret
    exact ⟨by first | rfl | (simp [errW_none, errW_some] <;> rfl) | (simp [*, errW_none, errW_some] <;> rfl), by repeat (first | (with_reducible first | exact HB.out | apply below_alloc | apply pw_below_drewN | apply below_drew1) | exact HB.out)⟩

end Go.Proofs.Ytagdbadljcongaa.X
end

section
/- What the reference computes: Item. -/
set_option linter.unusedVariables false
set_option linter.unusedSimpArgs false
namespace Go.Proofs.Ytagdbadljcongaa.X
open Go Go.RowKit Go.Proofs.YtagdbadljcongaaW.PrintWords Go.Proofs.YtagdbadljcongaaW.PrintLast Go.Proofs.YtagdbadljcongaaW.PrintMore
theorem strOf_ltr {c : Nat} (h : c < 4) : strOfNums [((97 + c : Nat) : Int)] = ltr c := by
  have : c = 0 ∨ c = 1 ∨ c = 2 ∨ c = 3 := by omega
  rcases this with rfl | rfl | rfl | rfl <;> rfl
theorem ritem_l1 (s : ByteArray) (hs : s.size ≤ 60) (L : List Int) (hL : CtL s 0 L) (i : Nat) (hi : i ≤ s.size) (o : ByteArray) (ho : o.size ≤ i) (n cc : Nat) (hc4 : cc < 4) (h1 : less ((bl s).drop i) cc ≤ n) (h2 : n < less ((bl s).drop i) (cc + 1)) (hn : n ≤ 1152921504606846976)
    (B : Nat) (hB : s.size < B) (R : List Nat) (H : ∀ k, B ≤ k → nx (bl s) i (97 + cc) < s.size → ∃ o', tickingref03_Item.l0 k s ((n - less ((bl s).drop i) cc : Nat) : Int) L (o ++ ltr cc) ((nx (bl s) i (97 + cc) + 1 : Nat) : Int) = some o' ∧ bl o' = R) :
    ∀ t e K, e + t = cc → B + t + 1 ≤ K → ∃ o', tickingref03_Item.l1 K s ((n - less ((bl s).drop i) e : Nat) : Int) L o (i : Int) ((97 + e : Nat) : Int) = some o' ∧ bl o' = R
  | t, e, 0, he, hK => absurd hK (by omega)
  | t, e, K + 1, he, hK => by
    unfold tickingref03_Item.l1
    rw [if_pos (by omega), next_f s (by omega) (97 + e) i K hi (by omega)]
    have hq := nx_le (bl s) i (97 + e) (by rw [bl_length]; exact hi)
    have ht := term_at (bl s) i (97 + e) (by rw [bl_length]; exact hi)
    have hp := less_succ ((bl s).drop i) e
    rw [bl_length] at hq ht
    have hmod : (((97 + e : Nat) : Int) + 1) % 256 = ((97 + (e + 1) : Nat) : Int) := by omega
    show ∃ o', (if nxI (bl s) i (97 + e) < 0 then _ else _) = some o' ∧ _
    unfold nxI
    rw [bl_length]
    cases t with
    | zero =>
      obtain rfl : e = cc := by omega
      have hqs : nx (bl s) i (97 + e) < s.size := by
        refine Classical.byContradiction fun h => ?_
        rw [if_neg h] at ht
        omega
      rw [if_pos hqs] at ht
      rw [if_pos hqs, if_neg (by omega), if_pos (by omega), if_pos (by rw [hL.len]; omega), hL.at_ (nx (bl s) i (97 + e) + 1) (by omega) (by omega), if_pos (by omega)]
      show ∃ o', (if o.size + (strOfNums [((97 + e : Nat) : Int)]).size ≤ 9223372036854775807 then tickingref03_Item.l0 K s _ L (o ++ strOfNums [((97 + e : Nat) : Int)]) _ else none) = some o' ∧ _
      rw [strOf_ltr hc4, if_pos (by show o.size + 1 ≤ _; omega)]
      exact H K (by omega) hqs
    | succ t =>
      have hm := less_mono ((bl s).drop i) (show e + 1 ≤ cc by omega)
      have ih := ritem_l1 s hs L hL i hi o ho n cc hc4 h1 h2 hn B hB R H t (e + 1) K (by omega) (by omega)
      by_cases hqs : nx (bl s) i (97 + e) < s.size
      · rw [if_pos hqs] at ht
        rw [if_pos hqs, if_neg (by omega), if_pos (by omega), if_pos (by rw [hL.len]; omega), hL.at_ (nx (bl s) i (97 + e) + 1) (by omega) (by omega), if_neg (by omega), hmod, IntWalk.wrap64_in _ (by omega)]
        rw [show (((n - less ((bl s).drop i) e : Nat) : Int) - (cs ((bl s).drop (nx (bl s) i (97 + e) + 1)) : Int)) = ((n - less ((bl s).drop i) (e + 1) : Nat) : Int) by omega]
        exact ih
      · rw [if_neg hqs] at ht
        rw [if_neg hqs, if_pos (by omega), hmod]
        rw [show less ((bl s).drop i) e = less ((bl s).drop i) (e + 1) by omega]
        exact ih
theorem ritem_l0 (s : ByteArray) (hs : s.size ≤ 60) (L : List Int) (hL : CtL s 0 L) : ∀ d i n o K, i + d = s.size → n < cs ((bl s).drop i) → o.size ≤ i → 6 * d + s.size + 2 ≤ K → ∃ o', tickingref03_Item.l0 K s (n : Int) L o (i : Int) = some o' ∧ bl o' = bl o ++ itemL ((bl s).drop i) n
  | d, i, n, o, 0, h, hn, ho, hK => absurd hK (by omega)
  | d, i, 0, o, K + 1, h, hn, ho, hK => by
    unfold tickingref03_Item.l0
    rw [if_neg (by omega), itemL_zero, List.append_nil]
    exact ⟨o, rfl, rfl⟩
  | 0, i, n + 1, o, K + 1, h, hn, ho, hK => by
    rw [List.drop_eq_nil_of_le (by rw [bl_length]; omega), cs_nil] at hn
    omega
  | d + 1, i, n + 1, o, K + 1, h, hn, ho, hK => by
    have h60 := cs_60 (l := (bl s).drop i) (by rw [List.length_drop, bl_length]; omega)
    obtain ⟨hc4, h1, h2⟩ := pick_ok hn
    unfold tickingref03_Item.l0
    rw [if_pos (by omega), show wrap64 (((n + 1 : Nat) : Int) - 1) = ((n - less ((bl s).drop i) 0 : Nat) : Int) by rw [IntWalk.wrap64_in _ (by omega)]; simp [less]]
    have hi : i ≤ s.size := by omega
    have hq := nx_le (bl s) i (97 + pickC ((bl s).drop i) n) (by rw [bl_length]; exact hi)
    rw [bl_length] at hq
    have hit := itemL_at (l := bl s) (i := i) (by rw [bl_length]; exact hi) rfl hc4 h1 h2 hn
    have ht := term_at (bl s) i (97 + pickC ((bl s).drop i) n) (by rw [bl_length]; exact hi)
    have hp := less_succ ((bl s).drop i) (pickC ((bl s).drop i) n)
    rw [bl_length] at ht
    rw [hit]
    generalize pickC ((bl s).drop i) n = cc at *
    refine ritem_l1 s hs L hL i hi o ho n cc hc4 h1 h2 (by omega) (6 * d + s.size + 2) (by omega) _ (fun k hk hqs => ?_) cc 0 K (by omega) (by omega)
    rw [if_pos hqs] at ht
    obtain ⟨dd, hdd⟩ : ∃ dd, (nx (bl s) i (97 + cc) + 1) + dd = s.size := ⟨s.size - (nx (bl s) i (97 + cc) + 1), by omega⟩
    obtain ⟨o', e1, e2⟩ := ritem_l0 s hs L hL dd (nx (bl s) i (97 + cc) + 1) (n - less ((bl s).drop i) cc) (o ++ ltr cc) k hdd (by omega) (by rw [size_ltr]; omega) (by omega)
    exact ⟨o', e1, by rw [e2, bl_ltr o hc4]; simp⟩
termination_by d => d
theorem ritem_any (s : ByteArray) (w : World) (hs : s.size ≤ 60) (k : Nat) (hk : k < cs (bl s)) (o : ByteArray) (ho : bl o = itemL (bl s) k) : Calls Try.prog 38 #[.string s, .int .i64 (k : Int)] w fun e w' => e = .returned (.string o) ∧ Below w.heap.size w w' := by
  obtain ⟨L, hf, hL⟩ := counts_ev s hs (1000 + 7 * s.size) (by omega)
  obtain ⟨o', h1, h2⟩ := ritem_l0 s hs L hL s.size 0 k ⟨#[]⟩ (1000 + 7 * s.size) (by omega) (by rw [List.drop_zero]; exact hk) (by simp [ByteArray.size]) (by omega)
  rw [List.drop_zero] at h2
  have : o' = o := by
    have h3 : bl o' = bl o := by rw [h2, ho]; simp [bl]
    unfold bl at h3
    exact Go.WideShapes.bytes_inj ((List.map_inj_right (fun x y e => UInt8.toNat_inj.1 e)).1 h3)
  subst this
  refine tickingref03_Item.calls (1000 + 7 * s.size) s _ _ w ?_
  unfold tickingref03_Item.f
  rw [hf]
  exact h1
theorem rcounts_any (s : ByteArray) (w : World) (hs : s.size ≤ 60) : Calls Try.prog 37 #[.string s] w fun e w' => ∃ A c, e = .returned (.slice A (s.size + 1) c) ∧ Aside0 (Kd.C (Kd.int .i64) w' A (s.size + 1) ((List.range (s.size + 1)).map fun j => (cs ((bl s).drop j) : Int))) ∧ Below w.heap.size w w' := by
  obtain ⟨L, hf, hL⟩ := counts_ev s hs (1000 + 7 * s.size) (by omega)
  have e : L = (List.range (s.size + 1)).map fun j => (cs ((bl s).drop j) : Int) := by
    refine List.ext_getElem (by simp [hL.len]) fun j h1 h2 => ?_
    have := hL.at_ j (by omega) (by have := hL.len; omega)
    unfold rd at this
    simp [List.getD_eq_getElem?_getD, h1] at this
    simp [this]
  subst e
  refine (tickingref03_Counts.calls _ s _ w hf).mono ?_
  rintro e w' ⟨v, rfl, hr, hb⟩
  obtain ⟨A, c, rfl⟩ := Kd.R_slice hr
  obtain ⟨_, _, h3⟩ := Kd.R_reads' hr
  simp only [List.length_map, List.length_range] at h3 hb ⊢
  exact ⟨A, c, rfl, ⟨h3⟩, hb⟩
theorem rcounts_0 (s : ByteArray) (w : World) (hs : s.size ≤ 60) : Calls Try.prog 37 #[.string s] w fun e w' => ∃ g c, e = .returned (.slice (some ⟨g, 0, none⟩) (s.size + 1) c) ∧ Aside0 (w'.cell? ⟨g, 0, none⟩ = some (.int .i64 (cs (bl s) : Int))) ∧ Below w.heap.size w w' := by
  obtain ⟨L, hf, hL⟩ := counts_ev s hs (1000 + 7 * s.size) (by omega)
  refine (tickingref03_Counts.calls _ s _ w hf).mono ?_
  rintro e w' ⟨v, rfl, hr, hb⟩
  obtain ⟨g, cap, rfl, _⟩ := Kd.R_form hr (by rw [hL.len]; omega)
  obtain ⟨_, _, h3⟩ := Kd.R_reads' hr
  obtain ⟨ad, e, h4⟩ := Kd.at_int h3 0 (by omega) (by rw [hL.len]; omega)
  injection e with e
  subst e
  have h5 := hL.at_ 0 (by omega) (by omega)
  rw [List.drop_zero] at h5
  rw [show rd L 0 = (cs (bl s) : Int) from h5] at h4
  refine ⟨g, cap, by rw [hL.len], ⟨?_⟩, hb⟩
  rw [show (⟨g, 0, none⟩ : Addr).add (0 : Int).toNat = ⟨g, 0, none⟩ from add_plain g 0] at h4
  exact h4
end Go.Proofs.Ytagdbadljcongaa.X
end

section
/- The law ThreadItems, walked. -/
set_option linter.unusedVariables false
set_option linter.unusedSimpArgs false
namespace Go.Proofs.Ytagdbadljcongaa.X
open Go Go.RowKit Go.Proofs Go.Proofs.YtagdbadljcongaaW.PrintWords Go.Proofs.YtagdbadljcongaaW.PrintLast Go.Proofs.YtagdbadljcongaaW.PrintMore
set_option maxHeartbeats 8000000 in
set_option maxRecDepth 1000000 in
theorem ThreadItems_calls (a0 : ByteArray) (k : Int) (w : World) : Calls Try.prog 10 #[.string a0, .int .i64 k] w fun e w' => e = .returned (.bool true) ∧ Below w.heap.size w w' := by
  go_enter Try.func10, Try.ntmps10
  go_upto_region 2 with (go_at_call 17; (with_reducible refine (short_any a0 w).mono ?_); rintro e w1 ⟨x, rfl, HX, hb⟩; have HB1 := Aside0.mk hb; clear hb)
  obtain ⟨a, ha⟩ : ∃ a, isW (bl x) = a := ⟨_, rfl⟩
  have HA := Aside0.mk ha
  clear ha
  cases a
  case false =>
    go_wp2_with (first | (go_at_call 27; (with_reducible refine (count_n x _ HA.out).mono ?_); rintro e w2 ⟨rfl, hb⟩; have HB2 := Aside0.mk (below_step HB1.out hb); clear hb) | (go_at_call 36; (with_reducible refine (item_no x k _ HA.out).mono ?_); rintro e w3 ⟨rfl, hb⟩; have HB3 := Aside0.mk (below_step HB2.out hb); clear hb) | (go_at_call 20; (with_reducible refine (word_any x false _ (by have := HX.out; omega) HA.out).mono ?_); rintro e w4 ⟨rfl, hd⟩; have HB4 := Aside0.mk (below_step HB3.out hd.below); clear hd) | (go_at_call 22; (with_reducible refine (awake_ok _).mono ?_); rintro e w7 ⟨rfl, hb⟩; have HB7 := Aside0.mk (below_step HB4.out hb); clear hb))
    go_ret
    exact ⟨rfl, HB7.out⟩
  case true =>
    have HX60 := Aside0.mk (show x.size ≤ 60 by rw [← bl_length]; exact ((isW_iff _).1 HA.out).1)
    obtain ⟨z, hz⟩ : ∃ z : Int, (cs (bl x) : Int) = z := ⟨_, rfl⟩
    have HZ := Aside0.mk hz
    have CY := Aside0.mk (fun W => show Calls Try.prog 27 #[.string x] W fun e w' => e = .returned (.tuple #[.int .i64 z, .int .i64 0]) ∧ Below W.heap.size W w' by rw [← hz]; exact count_y x W HA.out)
    have RC := Aside0.mk (fun W => show Calls Try.prog 37 #[.string x] W fun e w' => ∃ g c, e = .returned (.slice (some ⟨g, 0, none⟩) (x.size + 1) c) ∧ Aside0 (w'.cell? ⟨g, 0, none⟩ = some (.int .i64 z)) ∧ Below W.heap.size W w' by rw [← hz]; exact rcounts_0 x W HX60.out)
    have hx1 : (0 : Int) < (x.size : Int) + 1 := by omega
    clear hz
    by_cases hk : 0 ≤ k ∧ k < z
    · obtain ⟨hk0, hkz⟩ := hk
      obtain ⟨n, rfl⟩ := Int.eq_ofNat_of_zero_le hk0
      have HN := Aside0.mk (show n < cs (bl x) by have := HZ.out; omega)
      have RI := Aside0.mk (fun (o : ByteArray) (ho : bl o = itemL (bl x) n) W => ritem_any x W HX60.out n HN.out o ho)
      have hn0 : ¬ ((n : Int) < 0) := by omega
      have hnz : ¬ (z ≤ (n : Int)) := by omega
      clear hk0
      go_wp2_with (first | (go_at_call 27; (with_reducible refine (CY.out _).mono ?_); rintro e w2 ⟨rfl, hb⟩; have HB2 := Aside0.mk (below_step HB1.out hb); clear hb) | (go_at_call 36; (with_reducible refine (item_ok x n _ HA.out HN.out _ rfl).mono ?_); rintro e w3 ⟨o, ho, rfl, hb⟩; have HO := Aside0.mk ho; have HB3 := Aside0.mk (below_step HB2.out hb); clear hb ho) | (go_at_call 20; (with_reducible refine (word_any x true _ (by have := HX.out; omega) HA.out).mono ?_); rintro e w4 ⟨rfl, hd⟩; have HB4 := Aside0.mk (below_step HB3.out hd.below); clear hd) | (go_at_call 37; (with_reducible refine (RC.out _).mono ?_); rintro e w5 ⟨g, c, rfl, HG, hb⟩; have HB5 := Aside0.mk (below_step HB4.out hb); have g1 := HG.out; clear hb) | (go_at_call 38; (with_reducible refine (RI.out o HO.out _).mono ?_); rintro e w6 ⟨rfl, hb⟩; have HB6 := Aside0.mk (below_step HB5.out hb); clear hb) | (go_at_call 22; (with_reducible refine (awake_ok _).mono ?_); rintro e w7 ⟨rfl, hb⟩; have HB7 := Aside0.mk (below_step HB6.out hb); clear hb))
      go_ret
      exact ⟨rfl, HB7.out⟩
    · have HK := Aside0.mk (show ¬ (0 ≤ k ∧ k < (cs (bl x) : Int)) by rw [HZ.out]; exact hk)
      by_cases hk0 : k < 0
      · clear hk
        go_wp2_with (first | (go_at_call 27; (with_reducible refine (CY.out _).mono ?_); rintro e w2 ⟨rfl, hb⟩; have HB2 := Aside0.mk (below_step HB1.out hb); clear hb) | (go_at_call 36; (with_reducible refine (item_out x k _ HA.out HK.out).mono ?_); rintro e w3 ⟨rfl, hb⟩; have HB3 := Aside0.mk (below_step HB2.out hb); clear hb) | (go_at_call 20; (with_reducible refine (word_any x true _ (by have := HX.out; omega) HA.out).mono ?_); rintro e w4 ⟨rfl, hd⟩; have HB4 := Aside0.mk (below_step HB3.out hd.below); clear hd) | (go_at_call 37; (with_reducible refine (RC.out _).mono ?_); rintro e w5 ⟨g, c, rfl, HG, hb⟩; have HB5 := Aside0.mk (below_step HB4.out hb); have g1 := HG.out; clear hb) | (go_at_call 22; (with_reducible refine (awake_ok _).mono ?_); rintro e w7 ⟨rfl, hb⟩; have HB7 := Aside0.mk (below_step HB5.out hb); clear hb))
        go_ret
        exact ⟨rfl, HB7.out⟩
      · have hkz : z ≤ k := by omega
        clear hk
        go_wp2_with (first | (go_at_call 27; (with_reducible refine (CY.out _).mono ?_); rintro e w2 ⟨rfl, hb⟩; have HB2 := Aside0.mk (below_step HB1.out hb); clear hb) | (go_at_call 36; (with_reducible refine (item_out x k _ HA.out HK.out).mono ?_); rintro e w3 ⟨rfl, hb⟩; have HB3 := Aside0.mk (below_step HB2.out hb); clear hb) | (go_at_call 20; (with_reducible refine (word_any x true _ (by have := HX.out; omega) HA.out).mono ?_); rintro e w4 ⟨rfl, hd⟩; have HB4 := Aside0.mk (below_step HB3.out hd.below); clear hd) | (go_at_call 37; (with_reducible refine (RC.out _).mono ?_); rintro e w5 ⟨g, c, rfl, HG, hb⟩; have HB5 := Aside0.mk (below_step HB4.out hb); have g1 := HG.out; clear hb) | (go_at_call 22; (with_reducible refine (awake_ok _).mono ?_); rintro e w7 ⟨rfl, hb⟩; have HB7 := Aside0.mk (below_step HB5.out hb); clear hb))
        go_ret
        exact ⟨rfl, HB7.out⟩
end Go.Proofs.Ytagdbadljcongaa.X
end
