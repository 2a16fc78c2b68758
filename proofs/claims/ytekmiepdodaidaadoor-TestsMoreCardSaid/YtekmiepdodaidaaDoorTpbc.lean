/- Texts behind TestsMore, part 29: contracts of the program's functions and the plain words for them. -/
import Derived.Test.YtekmiepdodaidaaDoorTpas
import Derived.Test.YtekmiepdodaidaaDoorTpba
import Derived.Test.YtekmiepdodaidaaDoorTpbb
section
namespace Go.Proofs.YtekmiepdodaidaaDoor.X
open Go.RowKit Go.Proofs.YtekmiepdodaidaaDoorW.PrintWords Go.Proofs.YtekmiepdodaidaaDoorW.PrintLast Go.Proofs.YtekmiepdodaidaaDoorW.PrintMore
attribute [local go_sem] max2_int min2_int max_two min_two max_three min_three max_four min_four   -- for this text's walks alone
set_option linter.unusedVariables false
set_option linter.unusedSimpArgs false

def tickinglaw07_without.f (l0 : List Int) (a1 : Int) : Option (List Int) := if 0 ≤ a1 then (if a1 ≤ (l0.length : Int) then (if ([] : List Int).length + (l0.take (a1 : Int).toNat).length < 17592186044416 then ((some (([] : List Int) ++ (l0.take (a1 : Int).toNat) : List Int)).bind fun y651 => (if 0 ≤ (wrap64 (a1 + 1)) then (if (wrap64 (a1 + 1)) ≤ (l0.length : Int) then (if y651.length + (l0.drop ((wrap64 (a1 + 1)) : Int).toNat).length < 17592186044416 then (some (y651 ++ (l0.drop ((wrap64 (a1 + 1)) : Int).toNat))) else (none)) else (none)) else (none))) else (none)) else (none)) else (none)
set_option maxHeartbeats 8000000 in
set_option maxRecDepth 100000 in
theorem tickinglaw07_without.calls (A0 : Option Addr) (c0 : Nat) (l0 : List Int) (a1 : Int) (r : List Int) (w : World) (hr0 : Kd.C (Kd.int .i64) w A0 l0.length l0) (hc0 : l0.length ≤ c0) (h : tickinglaw07_without.f l0 a1 = some r) :
  Calls Tryd.prog 37 #[.slice A0 l0.length c0, .int .i64 a1] w fun e w' => ∃ v0_ : Value, e = .returned (v0_) ∧ Kd.R (Kd.int .i64) 3 w' w.heap.size (fun _ => True) v0_ r ∧ Below w.heap.size w w' := by
 have HR0 := Aside0.mk hr0
 have HC0 := Aside0.mk hc0
 clear hr0 hc0
 have HB := Aside0.mk (Below.refl w.heap.size w)
 have H : (if 0 ≤ a1 then (if a1 ≤ (l0.length : Int) then (if ([] : List Int).length + (l0.take (a1 : Int).toNat).length < 17592186044416 then ((some (([] : List Int) ++ (l0.take (a1 : Int).toNat) : List Int)).bind fun y651 => (if 0 ≤ (wrap64 (a1 + 1)) then (if (wrap64 (a1 + 1)) ≤ (l0.length : Int) then (if y651.length + (l0.drop ((wrap64 (a1 + 1)) : Int).toNat).length < 17592186044416 then (some (y651 ++ (l0.drop ((wrap64 (a1 + 1)) : Int).toNat))) else (none)) else (none)) else (none))) else (none)) else (none)) else (none)) = some r := h
 clear h
 by_cases c3 : 0 ≤ a1
 ·rw [if_pos c3] at H
  have c3b0 := eq_true c3
  have c3b1 : decide (0 ≤ a1) = true := decide_eq_true c3
  clear c3
  by_cases c4 : a1 ≤ (l0.length : Int)
  ·rw [if_pos c4] at H
   have c4b0 := eq_true c4
   have c4b1 : decide (a1 ≤ (l0.length : Int)) = true := decide_eq_true c4
   clear c4
   by_cases c5 : ([] : List Int).length + (l0.take (a1 : Int).toNat).length < 17592186044416
   ·rw [if_pos c5] at H
    have LMc5 := Aside0.mk c5
    clear c5
    obtain ⟨y651, hy651⟩ : ∃ y_ : List Int, y_ = (([] : List Int) ++ (l0.take (a1 : Int).toNat)) := ⟨_, rfl⟩
    replace H : (if 0 ≤ (wrap64 (a1 + 1)) then (if (wrap64 (a1 + 1)) ≤ (l0.length : Int) then (if y651.length + (l0.drop ((wrap64 (a1 + 1)) : Int).toNat).length < 17592186044416 then (some (y651 ++ (l0.drop ((wrap64 (a1 + 1)) : Int).toNat))) else (none)) else (none)) else (none)) = some r := by first | (rw [hy651]; with_reducible exact H) | (have H2_ := (Option.bind_some _ _).symm.trans H; rw [hy651]; with_reducible exact H2_) | (have H2_ := (Option.bind_some _ _).symm.trans H; with_reducible exact H2_) | with_reducible exact H | (rw [hy651]; exact H) | exact H
    have Ny651 := Aside0.mk hy651
    clear hy651
    obtain ⟨ji6, hji6⟩ : ∃ j_ : Int, (wrap64 (a1 + 1)) = j_ := ⟨_, rfl⟩
    replace H : (if 0 ≤ (ji6) then (if (ji6) ≤ (l0.length : Int) then (if y651.length + (l0.drop ((ji6) : Int).toNat).length < 17592186044416 then (some (y651 ++ (l0.drop ((ji6) : Int).toNat))) else (none)) else (none)) else (none)) = some r := by first | (rw [hji6] at H; exact H) | (simp only [hji6] at H ⊢; exact H)
    have hji6w : (IntKind.i64.wrap (a1 + 1)) = ji6 := (i64_w _).trans hji6
    by_cases c7 : 0 ≤ (ji6)
    ·rw [if_pos c7] at H
     have c7b0 := eq_true c7
     have c7b1 : decide (0 ≤ (ji6)) = true := decide_eq_true c7
     clear c7
     by_cases c8 : (ji6) ≤ (l0.length : Int)
     ·rw [if_pos c8] at H
      have c8b0 := eq_true c8
      have c8b1 : decide ((ji6) ≤ (l0.length : Int)) = true := decide_eq_true c8
      clear c8
      by_cases c9 : y651.length + (l0.drop ((ji6) : Int).toNat).length < 17592186044416
      ·rw [if_pos c9] at H
       have LMc9 := Aside0.mk c9
       clear c9
       obtain ⟨y655, hy655⟩ : ∃ y_ : List Int, y_ = (y651 ++ (l0.drop ((ji6) : Int).toNat)) := ⟨_, rfl⟩
       replace H : (some y655) = some r := by first | (rw [hy655]; with_reducible exact H) | (have H2_ := (Option.bind_some _ _).symm.trans H; rw [hy655]; with_reducible exact H2_) | (have H2_ := (Option.bind_some _ _).symm.trans H; with_reducible exact H2_) | with_reducible exact H | (rw [hy655]; exact H) | exact H
       have Ny655 := Aside0.mk hy655
       clear hy655
       obtain rfl := Option.some.inj H
       obtain ⟨i010, hi010, _, hsz10, _⟩ := info_parts info3
       obtain ⟨hcut10, hA10, hC10⟩ := print_take_of (P := Tryd.prog) (Value.int .i64) 0 22 3 .i64 Tryd.underlying22 hi010 hsz10 A0 c0 l0 a1 (of_decide_eq_true az) (of_decide_eq_true az) HC0.out
       have HR650 := Aside0.mk (Kd.C_of_reads (h1 := fun _ => rfl) (hA10 _ (Kd.reads_of_C HR0.out)))
       have HC650 := Aside0.mk hC10
       clear hA10 hC10 hi010 hsz10
       go_enter Tryd.func37, Tryd.ntmps37
       go_wp2_with (first | ((with_reducible refine gate_builtin (b := .append) (xs := #[.tmp 6, .tmp 9]) rfl ?_); at_builtin; refine Kd.R_append_rows (Kd.int .i64) (w0 := w) w.heap.size rfl (.tmp 6) (.tmp 9) 22 3 (.int .i64 0) 8 rfl Tryd.underlying22 info3 rfl (by decide) (by omega) (.slice none 0 0) ([] : List Int) (l0.take (a1 : Int).toNat) _ _ _ (fun _ => True) (fun _ => False) rfl rfl ?aO ?aR (fun _ _ h => h) (fun _ h => h.elim) ?aF ?aB ?aS ?aL ?_; (case aR => first | (have h9_ := HR650.out; rw [show (l0.take (a1 : Int).toNat).length = a1.toNat from (by rw [List.length_take]; have h_ : (a1 : Int) ≤ (l0.length : Int) := of_decide_eq_true az; omega)] at h9_; (repeat (first | exact h9_ | (with_reducible refine Kd.C_alloc ?_ _) | (with_reducible refine Kd.C_drewN ?_ _) | (with_reducible refine Kd.C_drew ?_))); done) | (rw [← show (l0.take (a1 : Int).toNat).length = a1.toNat from (by rw [List.length_take]; have h_ : (a1 : Int) ≤ (l0.length : Int) := of_decide_eq_true az; omega)]; repeat (first | exact HR650.out | (with_reducible refine Kd.C_alloc ?_ _) | (with_reducible refine Kd.C_drewN ?_ _) | (with_reducible refine Kd.C_drew ?_)); done) | (repeat (first | exact HR650.out | (with_reducible refine Kd.C_alloc ?_ _) | (with_reducible refine Kd.C_drewN ?_ _) | (with_reducible refine Kd.C_drew ?_)))); (case aB => exact bz); (case aF => exact (fun _ _ => trivial)); (case aO => exact ((Kd.R_nil _ _ _ _ (fun _ => True)))); (case aS => exact (below_size bz)); (case aL => have := LMc5.out; have hlx_ := (show (l0.take (a1 : Int).toNat).length = a1.toNat from (by rw [List.length_take]; have h_ : (a1 : Int) ≤ (l0.length : Int) := of_decide_eq_true az; omega)); omega); intro v652 w11 ho hb hg hat; rw [← Ny651.out] at ho; have n0_ := Aside0.mk (hb); have n1_ := Aside0.mk (ho); clear HB; have HB := n0_; have HO653 := n1_; clear n0_ n1_; clear ho hb hg hat; obtain ⟨i012, hi012, _, hsz12, _⟩ := info_parts info3; obtain ⟨A12, hcut12, hA12, hC12⟩ := print_drop_of (P := Tryd.prog) (Value.int .i64) 0 22 3 .i64 Tryd.underlying22 hi012 hsz12 A0 c0 l0 (ji6) (of_decide_eq_true az) (of_decide_eq_true az) HC0.out; have HR654 := Aside0.mk (Kd.C_of_reads (h1 := fun _ => rfl) (hA12 _ (Kd.reads_of_C HR0.out))); have HC654 := Aside0.mk hC12; clear hA12 hC12 hi012 hsz12) | ((with_reducible refine gate_builtin (b := .append) (xs := #[.tmp 11, .tmp 15]) rfl ?_); at_builtin; refine Kd.R_append_rows (Kd.int .i64) (w0 := w) w.heap.size rfl (.tmp 11) (.tmp 15) 22 3 (.int .i64 0) 8 rfl Tryd.underlying22 info3 rfl (by decide) (by omega) v652 y651 (l0.drop ((ji6) : Int).toNat) _ _ _ (fun _ => True) (fun _ => False) rfl rfl ?aO ?aR (fun _ _ h => h) (fun _ h => h.elim) ?aF ?aB ?aS ?aL ?_; (case aR => first | (have h9_ := HR654.out; rw [show (l0.drop ((ji6) : Int).toNat).length = (l0.length - (ji6).toNat) from List.length_drop] at h9_; (repeat (first | exact h9_ | (with_reducible refine Kd.C_alloc ?_ _) | (with_reducible refine Kd.C_drewN ?_ _) | (with_reducible refine Kd.C_drew ?_))); done) | (rw [← show (l0.drop ((ji6) : Int).toNat).length = (l0.length - (ji6).toNat) from List.length_drop]; repeat (first | exact (Kd.C_below HR654.out HB.out) | (with_reducible refine Kd.C_alloc ?_ _) | (with_reducible refine Kd.C_drewN ?_ _) | (with_reducible refine Kd.C_drew ?_)); done) | (repeat (first | exact (Kd.C_below HR654.out HB.out) | (with_reducible refine Kd.C_alloc ?_ _) | (with_reducible refine Kd.C_drewN ?_ _) | (with_reducible refine Kd.C_drew ?_)))); (case aB => exact bz); (case aF => exact (fun _ _ => trivial)); (case aO => exact (rz HO653.out)); (case aS => exact (below_size bz)); (case aL => have := LMc9.out; have hlx_ := (show (l0.drop ((ji6) : Int).toNat).length = (l0.length - (ji6).toNat) from List.length_drop); omega); intro v656 w13 ho hb hg hat; rw [← Ny655.out] at ho; have n0_ := Aside0.mk (hb); have n1_ := Aside0.mk (ho); clear HB; clear HO653; have HB := n0_; have HO657 := n1_; clear n0_ n1_; clear ho hb hg hat))
       go_ret
       exact ⟨_, by first | rfl | (simp [errW_none, errW_some] <;> rfl) | (simp only [← hji6]; first | rfl | (simp [errW_none, errW_some] <;> rfl)) | (simp [*, errW_none, errW_some] <;> rfl), by (with_reducible repeat (first | apply Kd.R_alloc | apply Kd.R_drewN | apply Kd.R_drew)); exact HO657.out, by repeat (first | (with_reducible first | exact HB.out | apply below_alloc | apply pw_below_drewN | apply below_drew1) | exact HB.out)⟩
      ·rw [if_neg c9] at H
       exact absurd H (by simp)
     ·rw [if_neg c8] at H
      exact absurd H (by simp)
    ·rw [if_neg c7] at H
     exact absurd H (by simp)
   ·rw [if_neg c5] at H
    exact absurd H (by simp)
  ·rw [if_neg c4] at H
   exact absurd H (by simp)
 ·rw [if_neg c3] at H
  exact absurd H (by simp)

end Go.Proofs.YtekmiepdodaidaaDoor.X
end

section
/- Layer 7, plain: a test more, dearer tests, a fault less. -/
set_option linter.unusedVariables false
namespace Go.Proofs.YtekmiepdodaidaaDoor.X
open Go.RowKit Go.Proofs.YtekmiepdodaidaaDoorW.PrintWords Go.Proofs.YtekmiepdodaidaaDoorW.PrintLast Go.Proofs.YtekmiepdodaidaaDoorW.PrintMore

/-- A tree whose leaves are renamed. -/
def DT.map (ρ : Nat → Nat) : DT → DT
 | .leaf g => .leaf (ρ g)
 | .node t z o => .node t (z.map ρ) (o.map ρ)
theorem DT.map_ok (ρ : Nat → Nat) {n m : Nat} (h : n ≤ m) : ∀ T : DT, T.ok n → (T.map ρ).ok m
 | .leaf _, _ => trivial
 | .node t z o, ⟨h1, h2, h3⟩ => ⟨by omega, DT.map_ok ρ h z h2, DT.map_ok ρ h o h3⟩
theorem mul_split (k x y : Int) : k * x + k * y = k * (x + y) := (Int.mul_add k x y).symm
theorem DT.map_eq (ρ : Nat → Nat) {ones ones' c c' : List Int} {nt : Nat} {k : Int} {i f : Nat} (hm : ∀ t : Nat, t < nt → memB (rd ones' (t : Int)) i = memB (rd ones (t : Int)) f) (hc : ∀ t : Nat, t < nt → rd c' (t : Int) = k * rd c (t : Int)) : ∀ T : DT, T.ok nt → (T.map ρ).ends ones' i = ρ (T.ends ones f) ∧ (T.map ρ).cost ones' c' i = k * T.cost ones c f
 | .leaf g, _ => ⟨rfl, (Int.mul_zero k).symm⟩
 | .node t z o, h => by
  obtain ⟨h1, h2, h3⟩ := h
  obtain ⟨z1, z2⟩ := DT.map_eq ρ hm hc z h2
  obtain ⟨o1, o2⟩ := DT.map_eq ρ hm hc o h3
  show (DT.node t (z.map ρ) (o.map ρ)).ends ones' i = _ ∧ (DT.node t (z.map ρ) (o.map ρ)).cost ones' c' i = _
  rw [DT.ends_node, DT.cost_node, DT.ends_node, DT.cost_node, hm t h1, hc t h1]
  by_cases hb : memB (rd ones (t : Int)) f = true
  ·rw [if_pos hb, if_pos hb, if_pos hb, if_pos hb]
   exact ⟨o1, by rw [o2]; exact mul_split _ _ _⟩
  ·rw [if_neg hb, if_neg hb, if_neg hb, if_neg hb]
   exact ⟨z1, by rw [z2]; exact mul_split _ _ _⟩
theorem mean_all (a c ones : List Int) (T : DT) : meanT a c ones (allOf a) T = sumR (fun f => rd a (f : Int) * T.cost ones c f) a.length := by
 unfold meanT
 refine sumR_congr _ (fun f hf => ?_)
 rw [all_mem, if_pos (decide_eq_true hf)]
/-- The faults of a smaller case, as faults of a greater. -/
structure SubCase (a : List Int) (b : List (List Int)) (c : List Int) (a' : List Int) (b' : List (List Int)) (c' : List Int) (φ ρ : Nat → Nat) (k : Int) : Prop where
 D : Differ a b c
 is : CaseIs a' b' c'
 lt : ∀ i, i < a'.length → φ i < a.length
 up : ∀ i j, i < j → φ i < φ j
 inv : ∀ i, i < a'.length → ρ (φ i) = i
 bl : b.length ≤ b'.length
 row : ∀ t : Nat, t < b.length → ∀ i : Nat, i < a'.length → rd (rd_L1 b' (t : Int)) (i : Int) = rd (rd_L1 b (t : Int)) (φ i : Int)
 cost : ∀ t : Nat, t < b.length → rd c' (t : Int) = k * rd c (t : Int)
section
variable {a : List Int} {b : List (List Int)} {c : List Int} {a' : List Int} {b' : List (List Int)} {c' : List Int} {φ ρ : Nat → Nat} {k : Int}
theorem rd_L1_el {b : List (List Int)} {t : Nat} (ht : t < b.length) : rd_L1 b (t : Int) = b[t] := by simp [rd_L1, List.getD_eq_getElem?_getD, List.getElem?_eq_getElem ht]
theorem SubCase.mem (S : SubCase a b c a' b' c' φ ρ k) (t : Nat) (ht : t < b.length) (i : Nat) (hi : i < a'.length) : memB (rd (onesOf b') (t : Int)) i = memB (rd (onesOf b) (t : Int)) (φ i) := by
 have h1 := row_mem S.is t i (Nat.lt_of_lt_of_le ht S.bl) hi
 have h2 := row_mem S.D.is t (φ i) ht (S.lt i hi)
 rw [S.row t ht i hi] at h1
 exact Bool.eq_iff_iff.2 (h1.symm.trans h2)
theorem SubCase.differ (S : SubCase a b c a' b' c' φ ρ k) : Differ a' b' c' := by
 refine ⟨S.is, (alikeL_iff _ _).2 fun j hj i hi => ?_⟩
 obtain ⟨x, hx, hs⟩ := alikeL_none S.D.al (S.up i j hi) (S.lt j hj)
 obtain ⟨t, ht, rfl⟩ := List.mem_iff_getElem.1 hx
 have htb : t < b.length := by rw [onesOf_len] at ht; exact ht
 have htb' := Nat.lt_of_lt_of_le htb S.bl
 refine ⟨_, List.mem_map.2 ⟨_, List.getElem_mem htb', rfl⟩, ?_⟩
 rw [same_row S.is t htb' i j (by omega) hj]
 have e : (onesOf b)[t] = (rowV b[t] : Int) := by simp [onesOf]
 rw [e, same_row S.D.is t htb (φ i) (φ j) (S.lt i (by omega)) (S.lt j hj)] at hs
 have r1 := S.row t htb i (by omega)
 have r2 := S.row t htb j hj
 rw [rd_L1_el htb', rd_L1_el htb] at r1 r2
 rw [r1, r2]; exact hs
theorem SubCase.tree (S : SubCase a b c a' b' c' φ ρ k) (T : DT) (hT : T.ok b.length) (he : ∀ f, f < a.length → T.ends (onesOf b) f = f) : (T.map ρ).ok b'.length ∧ (∀ i, i < a'.length → (T.map ρ).ends (onesOf b') i = i) ∧ ∀ i, i < a'.length → (T.map ρ).cost (onesOf b') c' i = k * T.cost (onesOf b) c (φ i) := by
 refine ⟨DT.map_ok ρ S.bl T hT, fun i hi => ?_, fun i hi => ?_⟩
 ·rw [(DT.map_eq ρ (fun t ht => S.mem t ht i hi) S.cost T hT).1, he _ (S.lt i hi), S.inv i hi]
 ·exact (DT.map_eq ρ (fun t ht => S.mem t ht i hi) S.cost T hT).2
theorem SubCase.mean (S : SubCase a b c a' b' c' φ ρ k) : ∃ T : DT, T.ok b.length ∧ sumR (fun f => rd a (f : Int) * T.cost (onesOf b) c f) a.length = cN (mfMean a b c) b (allOf a) ∧ cN (mfMean a' b' c') b' (allOf a') ≤ sumR (fun i => rd a' (i : Int) * (k * T.cost (onesOf b) c (φ i))) a'.length := by
 obtain ⟨⟨T, h1, h2, h3⟩, _⟩ := best_dt S.D
 obtain ⟨g1, g2, g3⟩ := S.tree T h1 h2
 have hl := low_mean S.differ (T.map ρ) (allOf a') (all_in S.differ) g1 (fun f hf _ => g2 f hf)
 rw [mean_all] at h3 hl
 refine ⟨T, h1, h3, Int.le_trans hl (Int.le_of_eq (sumR_congr _ (fun i hi => ?_)))⟩
 rw [g3 i hi]
theorem SubCase.worst (S : SubCase a b c a' b' c' φ ρ k) (hk : 0 ≤ k) : cN (mfWorst a' b' c') b' (allOf a') ≤ k * cN (mfWorst a b c) b (allOf a) := by
 obtain ⟨_, T, h1, h2, h3⟩ := best_dt S.D
 obtain ⟨g1, g2, g3⟩ := S.tree T h1 h2
 have hn := maxR_nonneg (fun f => T.cost (onesOf b) c f) a.length
 rw [h3] at hn
 refine low_worst S.differ (T.map ρ) (allOf a') _ (all_in S.differ) g1 (Int.mul_nonneg hk hn) (fun f hf _ => ⟨g2 f hf, ?_⟩)
 rw [g3 f hf, ← h3]
 exact Int.mul_le_mul_of_nonneg_left (le_maxR (fun f => T.cost (onesOf b) c f) a.length (φ f) (S.lt f hf)) hk
theorem rd_snoc {l : List Int} {x : Int} {t : Nat} (ht : t < l.length) : rd (l ++ [x]) (t : Int) = rd l (t : Int) := by simp [rd, List.getD_eq_getElem?_getD, List.getElem?_append_left ht]
theorem rd_L1_snoc {l : List (List Int)} {x : List Int} {t : Nat} (ht : t < l.length) : rd_L1 (l ++ [x]) (t : Int) = rd_L1 l (t : Int) := by simp [rd_L1, List.getD_eq_getElem?_getD, List.getElem?_append_left ht]
theorem more_sub (D : Differ a b c) (hb : b.length ≤ 11) {r : List Int} (hr : rowOkB a.length r = true) {x : Int} (hx : 1 ≤ x ∧ x ≤ 100) : SubCase a b c a (b ++ [r]) (c ++ [x]) id id 1 := by
 refine ⟨D, ⟨D.is.a1, D.is.a10, by simp; omega, by simp [D.is.cb], D.is.wa, fun y hy => ?_, ?_⟩, fun i hi => hi, fun i j h => h, fun i _ => rfl, by simp, fun t ht i _ => ?_, fun t ht => ?_⟩
 ·rcases List.mem_append.1 hy with h | h
  ·exact D.is.wc y h
  ·rw [List.mem_singleton.1 h]; exact hx
 ·rw [List.all_append, D.is.rows]; simp [hr]
 ·rw [rd_L1_snoc ht]; rfl
 ·rw [rd_snoc (by rw [D.is.cb]; exact ht), Int.one_mul]
theorem more_low (S : SubCase a b c a b' c' id id 1) : cN (mfMean a b' c') b' (allOf a) ≤ cN (mfMean a b c) b (allOf a) ∧ cN (mfWorst a b' c') b' (allOf a) ≤ cN (mfWorst a b c) b (allOf a) := by
 obtain ⟨T, h1, h2, h3⟩ := S.mean
 have h4 := S.worst (by decide)
 rw [Int.one_mul] at h4
 refine ⟨?_, h4⟩
 rw [← h2]
 refine Int.le_trans h3 (Int.le_of_eq (sumR_congr _ (fun i _ => ?_)))
 rw [Int.one_mul]; rfl
theorem times_sub (D : Differ a b c) {k : Int} (hk : 1 ≤ k) (hl : ∀ x ∈ c, k * x ≤ 100) : SubCase a b c a b (c.map (k * ·)) id id k := by
 refine ⟨D, ⟨D.is.a1, D.is.a10, D.is.b12, by rw [List.length_map]; exact D.is.cb, D.is.wa, fun y hy => ?_, D.is.rows⟩, fun i hi => hi, fun i j h => h, fun i _ => rfl, Nat.le_refl _, fun t ht i _ => rfl, fun t ht => ?_⟩
 ·obtain ⟨x, hx, rfl⟩ := List.mem_map.1 hy
  have h1 := (D.is.wc x hx).1
  have h2 : 1 * x ≤ k * x := Int.mul_le_mul_of_nonneg_right hk (by omega)
  exact ⟨by omega, hl x hx⟩
 ·have htc : t < c.length := by rw [D.is.cb]; exact ht
  simp [rd, List.getD_eq_getElem?_getD, List.getElem?_eq_getElem htc]
theorem DT.cost_times {ones c c' : List Int} {nt : Nat} {k : Int} {f : Nat} (hc : ∀ t : Nat, t < nt → rd c' (t : Int) = k * rd c (t : Int)) : ∀ T : DT, T.ok nt → T.cost ones c' f = k * T.cost ones c f
 | .leaf _, _ => (Int.mul_zero k).symm
 | .node t z o, h => by
  obtain ⟨h1, h2, h3⟩ := h
  rw [DT.cost_node, DT.cost_node, hc t h1]
  by_cases hb : memB (rd ones (t : Int)) f = true
  ·rw [if_pos hb, if_pos hb, DT.cost_times hc o h3]; exact mul_split _ _ _
  ·rw [if_neg hb, if_neg hb, DT.cost_times hc z h2]; exact mul_split _ _ _
theorem sum_times (a ones c : List Int) (k : Int) (T : DT) (φ : Nat → Nat) (n : Nat) : sumR (fun i => rd a (i : Int) * (k * T.cost ones c (φ i))) n = k * sumR (fun i => rd a (i : Int) * T.cost ones c (φ i)) n := by
 rw [← sumR_mul]
 exact sumR_congr _ (fun i _ => by rw [← Int.mul_assoc, Int.mul_comm (rd a (i : Int)) k, Int.mul_assoc])
theorem times_eq (S : SubCase a b c a b c' id id k) (hk : 1 ≤ k) : cN (mfMean a b c') b (allOf a) = k * cN (mfMean a b c) b (allOf a) ∧ cN (mfWorst a b c') b (allOf a) = k * cN (mfWorst a b c) b (allOf a) := by
 have hk0 : 0 ≤ k := by omega
 obtain ⟨T, h1, h2, h3⟩ := S.mean
 obtain ⟨⟨T1, g1, g2, g3⟩, T2, f1, f2, f3⟩ := best_dt S.differ
 constructor
 ·refine Int.le_antisymm ?_ ?_
  ·rw [sum_times] at h3
   rw [← h2]; exact h3
  ·rw [← g3, mean_all]
   have e : sumR (fun f => rd a (f : Int) * T1.cost (onesOf b) c' f) a.length = k * sumR (fun f => rd a (f : Int) * T1.cost (onesOf b) c f) a.length := by
    have e2 : k * sumR (fun f => rd a (f : Int) * T1.cost (onesOf b) c f) a.length = sumR (fun i => rd a (i : Int) * (k * T1.cost (onesOf b) c (id i))) a.length := (sum_times a (onesOf b) c k T1 id a.length).symm
    rw [e2]
    exact sumR_congr _ (fun i _ => by rw [DT.cost_times S.cost T1 g1]; rfl)
   rw [e, ← mean_all]
   exact Int.mul_le_mul_of_nonneg_left (low_mean S.D T1 (allOf a) (all_in S.D) g1 (fun f hf _ => g2 f hf)) hk0
 ·refine Int.le_antisymm (S.worst hk0) ?_
  rw [← f3]
  have hm := maxR_nonneg (fun f => T2.cost (onesOf b) c f) a.length
  have hlow := low_worst S.D T2 (allOf a) _ (all_in S.D) f1 hm (fun f hf _ => ⟨f2 f hf, le_maxR (fun f => T2.cost (onesOf b) c f) a.length f hf⟩)
  refine Int.le_trans (Int.mul_le_mul_of_nonneg_left hlow hk0) ?_
  rcases maxR_at (fun f => T2.cost (onesOf b) c f) a.length with h | ⟨i, hi, h⟩
  ·rw [h, Int.mul_zero]; exact maxR_nonneg _ _
  ·rw [← h]
   have e : k * T2.cost (onesOf b) c i = T2.cost (onesOf b) c' i := (DT.cost_times S.cost T2 f1).symm
   show k * T2.cost (onesOf b) c i ≤ _
   rw [e]
   exact le_maxR (fun f => T2.cost (onesOf b) c' f) a.length i hi
def upF (f i : Nat) : Nat := if i < f then i else i + 1
def dnF (f i : Nat) : Nat := if i < f then i else i - 1
theorem rd_less (l : List Int) (f i : Nat) : rd (l.eraseIdx f) (i : Int) = rd l (upF f i : Int) := by
 unfold rd upF
 rw [Int.toNat_natCast, Int.toNat_natCast, List.getD_eq_getElem?_getD, List.getD_eq_getElem?_getD, List.getElem?_eraseIdx]
 split <;> rfl
theorem sumR_skip {g : Nat → Int} (f : Nat) : ∀ n, f ≤ n → (∀ i, i < n + 1 → 0 ≤ g i) → sumR (fun i => g (upF f i)) n ≤ sumR g (n + 1)
 | 0, _, h => by have := h 0 (by omega); simp only [sumR]; omega
 | n + 1, hf, h => by
  by_cases hn : f ≤ n
  ·have ih := sumR_skip f n hn (fun i hi => h i (by omega))
   have e : upF f n = n + 1 := by unfold upF; rw [if_neg (by omega)]
   show sumR (fun i => g (upF f i)) n + g (upF f n) ≤ sumR g (n + 1) + g (n + 1)
   rw [e]; omega
  ·have e : sumR (fun i => g (upF f i)) (n + 1) = sumR g (n + 1) := sumR_congr _ (fun i hi => by unfold upF; rw [if_pos (by omega)])
   rw [e]
   have := h (n + 1) (by omega)
   show sumR g (n + 1) ≤ sumR g (n + 1) + g (n + 1)
   omega
theorem less_sub (D : Differ a b c) {f : Nat} (hf : f < a.length) (hn : 2 ≤ a.length) : SubCase a b c (a.eraseIdx f) (b.map (·.eraseIdx f)) c (upF f) (dnF f) 1 := by
 have hl : (a.eraseIdx f).length = a.length - 1 := List.length_eraseIdx_of_lt hf
 have ha := D.is.a10
 refine ⟨D, ⟨by omega, by omega, by rw [List.length_map]; exact D.is.b12, by rw [List.length_map]; exact D.is.cb, fun x hx => D.is.wa x (List.mem_of_mem_eraseIdx hx), D.is.wc, ?_⟩, fun i hi => ?_, fun i j h => ?_, fun i hi => ?_, by rw [List.length_map]; exact Nat.le_refl _, fun t ht i hi => ?_, fun t ht => (Int.one_mul _).symm⟩
 ·rw [List.all_eq_true]
  intro r hr
  obtain ⟨r0, hr0, rfl⟩ := List.mem_map.1 hr
  have h := List.all_eq_true.1 D.is.rows r0 hr0
  unfold rowOkB at h ⊢
  rw [Bool.and_eq_true, beq_iff_eq, all_inB] at h ⊢
  exact ⟨by rw [hl, List.length_eraseIdx_of_lt (by omega), h.1], fun x hx => h.2 x (List.mem_of_mem_eraseIdx hx)⟩
 ·unfold upF; split <;> omega
 ·unfold upF; split <;> split <;> omega
 ·unfold upF dnF
  by_cases h : i < f
  ·rw [if_pos h, if_pos h]
  ·rw [if_neg h, if_neg (by omega)]; omega
 ·rw [← rd_less]
  congr 1
  rw [rd_L1_el ht, rd_L1_el (by rw [List.length_map]; exact ht), List.getElem_map]
theorem less_low (D : Differ a b c) {f : Nat} (hf : f < a.length) (S : SubCase a b c (a.eraseIdx f) b' c (upF f) (dnF f) 1) : cN (mfMean (a.eraseIdx f) b' c) b' (allOf (a.eraseIdx f)) ≤ cN (mfMean a b c) b (allOf a) ∧ cN (mfWorst (a.eraseIdx f) b' c) b' (allOf (a.eraseIdx f)) ≤ cN (mfWorst a b c) b (allOf a) := by
 obtain ⟨T, h1, h2, h3⟩ := S.mean
 have h4 := S.worst (by decide)
 rw [Int.one_mul] at h4
 refine ⟨?_, h4⟩
 rw [← h2]
 have hl : (a.eraseIdx f).length = a.length - 1 := List.length_eraseIdx_of_lt hf
 have hcost : ∀ t : Nat, t < b.length → 1 ≤ rd c (t : Int) := fun t ht => (cost_at D.is t ht).1
 have hsk := sumR_skip (g := fun i => rd a (i : Int) * T.cost (onesOf b) c i) f (a.length - 1) (by omega) (fun i hi => Int.mul_nonneg (by have := w_in D i (by omega); omega) (DT.cost_nonneg hcost T i h1))
 rw [show a.length - 1 + 1 = a.length by omega] at hsk
 refine Int.le_trans h3 (Int.le_trans (Int.le_of_eq ?_) hsk)
 rw [hl]
 refine sumR_congr _ (fun i _ => ?_)
 show rd (a.eraseIdx f) (i : Int) * (1 * _) = rd a (upF f i : Int) * _
 rw [Int.one_mul, rd_less]
/-- A single fault costs nothing. -/
theorem one_none (h : a.length = 1) (mf : Int → Int → Int → Int → Int) : cN mf b (allOf a) = 0 := by
 have e : allOf a = 1 := by unfold allOf; rw [h]; rfl
 have hp : pcount (allOf a) = 1 := by rw [e]; decide +kernel
 unfold cN cstB; rw [if_pos hp]
theorem val_box (D : Differ a b c) : (0 ≤ cN (mfMean a b c) b (allOf a) ∧ cN (mfMean a b c) b (allOf a) ≤ 1024000000) ∧ (0 ≤ cN (mfWorst a b c) b (allOf a) ∧ cN (mfWorst a b c) b (allOf a) ≤ 1024000000) :=
 ⟨cst_box D.set (mean_ok D.is) _ (all_in D).1 (all_in D).2.1, cst_box D.set (worst_ok D.is) _ (all_in D).1 (all_in D).2.1⟩
end
theorem without_eq {l : List Int} {f : Nat} (hf : f < l.length) (hl : l.length ≤ 100) : tickinglaw07_without.f l (f : Int) = some (l.eraseIdx f) := by
 unfold tickinglaw07_without.f
 have hw : wrap64 ((f : Int) + 1) = ((f + 1 : Nat) : Int) := by unfold wrap64; omega
 rw [hw, Int.toNat_natCast, Int.toNat_natCast, if_pos (by omega), if_pos (by omega), if_pos (by simp; omega)]
 simp only [Option.bind_some]
 rw [if_pos (by omega), if_pos (by omega), if_pos (by simp; omega), List.nil_append, List.eraseIdx_eq_take_drop_succ]
end Go.Proofs.YtekmiepdodaidaaDoor.X
end

section
/- Layer 7: for TestsMore: costs written over, rows appended to a list of one's own, own's copy, without. -/
set_option linter.unusedVariables false
set_option linter.unusedSimpArgs false
namespace Go.Proofs.YtekmiepdodaidaaDoor.X
open Go.RowKit Go.Proofs.YtekmiepdodaidaaDoorW.PrintWords Go.Proofs.YtekmiepdodaidaaDoorW.PrintLast Go.Proofs.YtekmiepdodaidaaDoorW.PrintMore

/-- The first i numbers are done. -/
def mapTo (f : Int → Int) (l : List Int) (i : Nat) : List Int := (l.take i).map f ++ l.drop i
theorem mapTo_zero (f : Int → Int) (l : List Int) : mapTo f l 0 = l := by simp [mapTo]
theorem mapTo_end (f : Int → Int) (l : List Int) : mapTo f l l.length = l.map f := by unfold mapTo; simp
theorem mapTo_set (f : Int → Int) {l : List Int} {i : Nat} (h : i < l.length) : (mapTo f l i).set i (f l[i]) = mapTo f l (i + 1) := by
 unfold mapTo
 have hl : ((l.take i).map f).length = i := by simp; omega
 rw [List.set_append_right _ _ (by rw [hl]; exact Nat.le_refl _), hl, Nat.sub_self, List.drop_eq_getElem_cons h, List.set_cons_zero, List.take_succ_eq_append_getElem h, List.map_append, List.append_assoc]
 rfl
theorem mapTo_rd (f : Int → Int) {l : List Int} {i : Nat} (h : i < l.length) : rdOf (0 : Int) (mapTo f l i) (i : Int) = l[i] := by
 unfold mapTo rdOf
 have hl : ((l.take i).map f).length = i := by simp; omega
 rw [Int.toNat_natCast, List.getD_eq_getElem?_getD, List.getElem?_append_right (by rw [hl]; exact Nat.le_refl _), hl, Nat.sub_self, List.getElem?_drop, Nat.add_zero, List.getElem?_eq_getElem h]
 rfl
/-- A case of the law's own, in a box, whose costs are being written. -/
structure CwAt (u : World) (B0 : Option Addr) (d0 : Nat) (a : List Int) (B1 : Option Addr) (d1 : Nat) (b : List (List Int)) (B2 : Option Addr) (d2 n : Nat) (l : List Int) (g : Nat) (w' : World) : Prop where
 bx : w'.heap[g]? = some (.cells #[.slice B0 a.length d0, .slice B1 b.length d1, .slice B2 n d2] 25 (0, 0))
 r0 : Kd.R (Kd.int .i64) 3 w' u.heap.size (fun k => some k ≠ (Value.slice B2 n d2).ownBlock) (.slice B0 a.length d0) a
 r1 : Kd.R (Kd.slice 3 (Kd.int .i64)) 22 w' u.heap.size (fun k => some k ≠ (Value.slice B2 n d2).ownBlock) (.slice B1 b.length d1) b
 r2 : Kd.R (Kd.int .i64) 3 w' u.heap.size (fun _ => True) (.slice B2 n d2) l
 bl : Below u.heap.size u w'
section
variable {u : World} {B0 : Option Addr} {d0 : Nat} {a : List Int} {B1 : Option Addr} {d1 : Nat} {b : List (List Int)} {B2 : Option Addr} {d2 n : Nat} {l : List Int} {g : Nat} {w' : World}
theorem CwAt.below {w2 : World} (h : CwAt u B0 d0 a B1 d1 b B2 d2 n l g w') (hb : Below w'.heap.size w' w2) : CwAt u B0 d0 a B1 d1 b B2 d2 n l g w2 := ⟨blk_below h.bx hb, Kd.R_below h.r0 hb, Kd.R_below h.r1 hb, Kd.R_below h.r2 hb, below_step h.bl hb⟩
theorem CwAt.put (h : CwAt u B0 d0 a B1 d1 b B2 d2 n l g w') (i : Nat) (hi : i < n) (x : Int) : ∃ q, B2 = some ⟨q, 0, none⟩ ∧ w'.cell? ⟨q, i, none⟩ = some (.int .i64 (rdOf 0 l (i : Int))) ∧ w'.frozen? ⟨q, i, none⟩ = false ∧ CwAt u B0 d0 a B1 d1 b B2 d2 n (l.set i x) g (w'.setCell ⟨q, i, none⟩ (.int .i64 x)) := by
 have hn : n = l.length := (Kd.R_reads' h.r2).1
 obtain ⟨q, n3, e, hgb, _⟩ := Kd.R_form h.r2 (by omega)
 injection e with e1 e2 e3
 subst e1
 have hc := Kd.R_celln (enc := Value.int .i64) (h1 := fun _ => rfl) (0 : Int) h.r2 (i : Int) (by omega) (by omega)
 have hp := Kd.R_putg (enc := Value.int .i64) (h1 := fun _ => rfl) h.r2 (i : Int) x
 simp only [Int.toNat_natCast] at hc hp
 refine ⟨q, rfl, hc.1, hc.2, blk_far h.bx ?_ _, Kd.R_grown h.r0 hp.2 (fun k hk => hk), Kd.R_grown h.r1 hp.2 (fun k hk => hk), hp.1, h.bl.setCell hgb _⟩
 intro e
 exact Kd.R_ne h.r2 h.bx (by decide) (by rw [e]; rfl)
theorem CwAt.put2 (h : CwAt u B0 d0 a B1 d1 b B2 d2 n l g w') (i : Nat) (hi : i < n) (x : Int) : ∃ q, B2 = some ⟨q, 0, none⟩ ∧ w'.cell? ⟨q, i, none⟩ = some (.int .i64 (rdOf 0 l (i : Int))) ∧ w'.frozen? ⟨q, i, none⟩ = false ∧ ∀ w2, Below w'.heap.size w' w2 → CwAt u B0 d0 a B1 d1 b B2 d2 n (l.set i x) g (w2.setCell ⟨q, i, none⟩ (.int .i64 x)) := by
 obtain ⟨q, e, hc, hf, _⟩ := h.put i hi x
 refine ⟨q, e, hc, hf, fun w2 hb => ?_⟩
 obtain ⟨q2, e2, _, _, hn⟩ := (h.below hb).put i hi x
 rw [e] at e2
 injection e2 with e2
 injection e2 with e2 _ _
 subst e2
 exact hn
theorem CwAt.cells (h : CwAt u B0 d0 a B1 d1 b B2 d2 n l g w') : w'.cell? ⟨g, 0, none⟩ = some (.slice B0 a.length d0) ∧ w'.cell? ⟨g, 1, none⟩ = some (.slice B1 b.length d1) ∧ w'.cell? ⟨g, 2, none⟩ = some (.slice B2 n d2) := boxS7 h.bx
theorem CwAt.case {w : World} (h : CwAt u B0 d0 a B1 d1 b B2 d2 l.length l g w') (hu : Below w.heap.size w u) (hg : w.heap.size ≤ g) : LawW w B0 d0 a B1 d1 b B2 d2 l g w' :=
 ⟨h.bx, ⟨(Kd.R_reads' h.r0).2.2, (Kd.R_reads' h.r0).2.1, (Kd.R_reads' h.r1).2.2, (Kd.R_reads' h.r1).2.1, (Kd.R_reads' h.r2).2.2, (Kd.R_reads' h.r2).2.1⟩, below_step hu h.bl, hg⟩
end
/-- append of one row, as an arm. -/
theorem app_row {w W : World} {base base2 : Nat} {A : Option Addr} {c : Nat} {xs : List (List Int)} {Ar : Option Addr} {cr : Nat} {row : List Int} (hr : Kd.R (Kd.slice 3 (Kd.int .i64)) 22 W base (fun _ => True) (.slice A xs.length c) xs) (hrow : Kd.R (Kd.int .i64) 3 W base2 (fun _ => True) (.slice Ar row.length cr) row) (hb2 : base ≤ base2) (hB : Below base w W) (hbase : base ≤ W.heap.size) (hl : xs.length ≤ 1000000) (i j : Nat) (ops : Array Oper) (rest : List Oper) (o : Oper) (a : Act) (Q : Exit → Act → World → Prop)
  (hgd : o.guard = none) (ho : o.op = .call { callee := .builtin .append, args := #[.tmp i, .tmp j], argTypes := #[23, 23] }) (hs : a.eval (.tmp i) = .slice A xs.length c) (hx : a.eval (.tmp j) = .slice (some ⟨W.heap.size, 0, none⟩) 1 1)
  (h : ∀ A' c' w', Kd.R (Kd.slice 3 (Kd.int .i64)) 22 w' base (fun _ => True) (.slice A' (xs.length + 1) c') (xs ++ [row]) → Below base w w' → W.grownBy w' (Value.slice A xs.length c).ownBlock → wpList Tryd.prog ops Q rest (a.put o.dst (.slice A' (xs.length + 1) c')) w') :
  wpList Tryd.prog ops Q (o :: rest) a (W.alloc (.cells #[.slice Ar row.length cr] 22)) := by
 refine Kd.R_append (Kd.slice 3 (Kd.int .i64)) (w0 := w) base hgd (.tmp i) (.tmp j) 23 22 (.slice none 0 0) 24 ho Tryd.underlying23 info22w rfl Nat.one_pos (by omega) (.slice A xs.length c) xs row [.slice Ar row.length cr] (fun _ => True) (fun k => some k = (Value.slice Ar row.length cr).ownBlock) hs hx ⟨_, rfl, Kd.R_lower (Kd.R_tight rfl hrow) hb2⟩ (fun k hk => ⟨trivial, ?_⟩) (fun _ _ => trivial) hr hB hbase (by omega) ?_
 ·obtain ⟨cells, hc⟩ := Kd.R_typed hrow k hk.symm
  exact Kd.R_ne hr hc (by decide)
 ·intro v1 w1 ho hb hg _
  obtain ⟨A', c', rfl⟩ := Kd.R_slice ho
  have e : (xs ++ [row]).length = xs.length + 1 := by simp
  rw [e] at ho ⊢
  exact h A' c' w1 ho hb hg
/-- A case with a box, whose rows are being made. -/
structure LsAt (u : World) (g : Nat) (AL : Option Addr) (cl : Nat) (lw : List Int) (X2 v1 : Value) (xs : List (List Int)) (w' : World) : Prop where
 bx : w'.heap[g]? = some (.cells #[.slice AL lw.length cl, v1, X2] 25 (0, 0))
 r0 : Kd.R (Kd.int .i64) 3 w' u.heap.size (fun _ => True) (.slice AL lw.length cl) lw
 r1 : Kd.R (Kd.slice 3 (Kd.int .i64)) 22 w' u.heap.size (fun _ => True) v1 xs
 bl : Below u.heap.size u w'
 hg : u.heap.size ≤ g
section
variable {u w' w2 : World} {g : Nat} {AL : Option Addr} {cl : Nat} {lw : List Int} {X2 v1 : Value} {xs : List (List Int)}
theorem LsAt.below (h : LsAt u g AL cl lw X2 v1 xs w') (hb : Below w'.heap.size w' w2) : LsAt u g AL cl lw X2 v1 xs w2 := ⟨blk_below h.bx hb, Kd.R_below h.r0 hb, Kd.R_below h.r1 hb, below_step h.bl hb, h.hg⟩
theorem LsAt.cells (h : LsAt u g AL cl lw X2 v1 xs w') : w'.cell? ⟨g, 0, none⟩ = some (.slice AL lw.length cl) ∧ w'.cell? ⟨g, 1, none⟩ = some v1 ∧ w'.cell? ⟨g, 2, none⟩ = some X2 := boxS7 h.bx
/-- A row more, stored. -/
theorem LsAt.more {A1 : Option Addr} {n1 c1 : Nat} {v2 : Value} {ys : List (List Int)} (h : LsAt u g AL cl lw X2 (.slice A1 n1 c1) xs w') (hr : Kd.R (Kd.slice 3 (Kd.int .i64)) 22 w2 u.heap.size (fun _ => True) v2 ys) (hb : Below u.heap.size u w2) (hgr : w'.grownBy w2 (Value.slice A1 n1 c1).ownBlock) :
  w2.heap[g]? = some (.cells #[.slice AL lw.length cl, .slice A1 n1 c1, X2] 25 (0, 0)) ∧ LsAt u g AL cl lw X2 v2 ys (w2.setCell ⟨g, 1, none⟩ v2) := by
 have k := blk_grown h.bx hgr (Kd.R_ne h.r1 h.bx (by decide))
 have q0 := Kd.R_over' h.r0 (Kd.R_typed h.r1) (by decide) hgr
 exact ⟨k, (blk_set k 1 v2).trans rfl, Kd.R_set q0 k (by decide) 1 _, Kd.R_set hr k (by decide) 1 _, hb.setCell h.hg _, h.hg⟩
theorem LsAt.case {w : World} {A1 : Option Addr} {c1 : Nat} {A2 : Option Addr} {c2 : Nat} {c : List Int} (h : LsAt u g AL cl lw (.slice A2 c.length c2) (.slice A1 xs.length c1) xs w') (hc : Kd.C (Kd.int .i64) u A2 c.length c) (nc : c.length ≤ c2) (hu : Below w.heap.size w u) : LawW w AL cl lw A1 c1 xs A2 c2 c g w' :=
 ⟨h.bx, ⟨(Kd.R_reads' h.r0).2.2, (Kd.R_reads' h.r0).2.1, (Kd.R_reads' h.r1).2.2, (Kd.R_reads' h.r1).2.1, Kd.C_below hc h.bl, nc⟩, below_step hu h.bl, Nat.le_trans hu.size h.hg⟩
/-- The case as it is first stored. -/
theorem LsAt.first {W : World} (h0 : Kd.R (Kd.int .i64) 3 W u.heap.size (fun _ => True) (.slice AL lw.length cl) lw) (hx : W.heap[g]? = some (.cells #[.slice none 0 0, .slice none 0 0, .slice none 0 0] 25 (0, 0))) (hb : Below u.heap.size u W) (hg : u.heap.size ≤ g) :
  LsAt u g AL cl lw X2 (.slice none 0 0) [] (((W.setCell ⟨g, 0, none⟩ (.slice AL lw.length cl)).setCell ⟨g, 1, none⟩ (.slice none 0 0)).setCell ⟨g, 2, none⟩ X2) := by
 have g0 := blk_set hx 0 (.slice AL lw.length cl)
 have g1 := blk_set g0 1 (.slice none 0 0)
 exact ⟨(blk_set g1 2 X2).trans rfl, Kd.R_set (Kd.R_set (Kd.R_set h0 hx (by decide) 0 _) g0 (by decide) 1 _) g1 (by decide) 2 _, Kd.R_nil _ _ _ _ _, ((hb.setCell hg _).setCell hg _).setCell hg _, hg⟩
end
section
variable {A0 : Option Addr} {c0 : Nat} {a : List Int} {A1 : Option Addr} {c1 : Nat} {b : List (List Int)} {A2 : Option Addr} {c2 : Nat} {c : List Int} {w : World}
def OwnR (a : List Int) (b : List (List Int)) (c : List Int) (w : World) (e : Ending) (w' : World) : Prop :=
 ∃ B0 d0 B1 d1 B2 d2, e = .returned (.agg #[.slice B0 a.length d0, .slice B1 b.length d1, .slice B2 c.length d2]) ∧ Kd.R (Kd.int .i64) 3 w' w.heap.size (fun k => some k ≠ (Value.slice B2 c.length d2).ownBlock) (.slice B0 a.length d0) a ∧ Kd.R (Kd.slice 3 (Kd.int .i64)) 22 w' w.heap.size (fun k => some k ≠ (Value.slice B2 c.length d2).ownBlock) (.slice B1 b.length d1) b ∧ Kd.R (Kd.int .i64) 3 w' w.heap.size (fun _ => True) (.slice B2 c.length d2) c ∧ Below w.heap.size w w'
theorem own_r (h : CaseAt w A0 c0 a A1 c1 b A2 c2 c) (hi : CaseIs a b c) : Calls Tryd.prog 13 #[.agg #[.slice A0 a.length c0, .slice A1 b.length c1, .slice A2 c.length c2]] w (OwnR a b c w) := by
 obtain ⟨k, hk⟩ := (own_ev a b c).rounds
 have h1 := hi.a10
 have h2 := hi.b12
 have h3 := hi.cb
 rw [cut14_id (by omega), cutB_id (n := a.length) (by omega) (by omega) hi.rows, cut14_id (by omega)] at hk
 refine (tickinglaw07_own.calls k A0 c0 a A1 c1 b A2 c2 c a b c w h.r0 h.n0 h.r1 h.n1 h.r2 h.n2 hk).mono ?_
 rintro e w' ⟨v0, v1, v2, rfl, h0, h1, h2, hb⟩
 obtain ⟨B0, d0, rfl⟩ := Kd.R_slice h0
 obtain ⟨B1, d1, rfl⟩ := Kd.S_slice h1
 obtain ⟨B2, d2, rfl⟩ := Kd.R_slice h2
 exact ⟨B0, d0, B1, d1, B2, d2, rfl, h0, Kd.R_mono (Kd.S_R h1) (fun _ hk => hk.2), Kd.R_mono h2 (fun _ _ => trivial), hb⟩
theorem without_n (A : Option Addr) (n : Nat) (l : List Int) (f : Nat) (hf : f < l.length) (hl : l.length ≤ 100) (h : l.length ≤ n ∧ Kd.C (Kd.int .i64) w A l.length l) : Calls Tryd.prog 37 #[.slice A l.length n, .int .i64 f] w (OwPost (Kd.int .i64) 3 (l.eraseIdx f) (fun v => v) w) := by
 refine (tickinglaw07_without.calls A n l f _ w h.2 h.1 (without_eq hf hl)).mono ?_
 rintro e w' ⟨v, rfl, hv, hb⟩
 exact ow_post (f := fun v => v) hv hb
/-- A case made here. -/
structure WcF (base : Nat) (E0 : Option Addr) (e0 : Nat) (a : List Int) (E1 : Option Addr) (e1 : Nat) (b : List (List Int)) (E2 : Option Addr) (e2 : Nat) (c : List Int) (W : World) : Prop where
 r0 : Kd.R (Kd.int .i64) 3 W base (fun _ => True) (.slice E0 a.length e0) a
 r1 : Kd.R (Kd.slice 3 (Kd.int .i64)) 22 W base (fun _ => True) (.slice E1 b.length e1) b
 r2 : Kd.R (Kd.int .i64) 3 W base (fun _ => True) (.slice E2 c.length e2) c
theorem WcF.below {base : Nat} {E0 : Option Addr} {e0 : Nat} {a : List Int} {E1 : Option Addr} {e1 : Nat} {b : List (List Int)} {E2 : Option Addr} {e2 : Nat} {c : List Int} {W W2 : World} (h : WcF base E0 e0 a E1 e1 b E2 e2 c W) (hb : Below W.heap.size W W2) : WcF base E0 e0 a E1 e1 b E2 e2 c W2 := ⟨Kd.R_below h.r0 hb, Kd.R_below h.r1 hb, Kd.R_below h.r2 hb⟩
theorem WcF.set {base : Nat} {E0 : Option Addr} {e0 : Nat} {a : List Int} {E1 : Option Addr} {e1 : Nat} {b : List (List Int)} {E2 : Option Addr} {e2 : Nat} {c : List Int} {W : World} (h : WcF base E0 e0 a E1 e1 b E2 e2 c W) {g : Nat} {cells : Array Value} (hb : W.heap[g]? = some (.cells cells 25 (0, 0))) (j : Nat) (u : Value) : WcF base E0 e0 a E1 e1 b E2 e2 c (W.setCell ⟨g, j, none⟩ u) := ⟨Kd.R_set h.r0 hb (by decide) j u, Kd.R_set h.r1 hb (by decide) j u, Kd.R_set h.r2 hb (by decide) j u⟩
theorem WcF.case {base : Nat} {E0 : Option Addr} {e0 : Nat} {a : List Int} {E1 : Option Addr} {e1 : Nat} {b : List (List Int)} {E2 : Option Addr} {e2 : Nat} {c : List Int} {W : World} (h : WcF base E0 e0 a E1 e1 b E2 e2 c W) : CaseAt W E0 e0 a E1 e1 b E2 e2 c := ⟨(Kd.R_reads' h.r0).2.2, (Kd.R_reads' h.r0).2.1, (Kd.R_reads' h.r1).2.2, (Kd.R_reads' h.r1).2.1, (Kd.R_reads' h.r2).2.2, (Kd.R_reads' h.r2).2.1⟩
/-- A case stored whole into a box that was empty. -/
theorem WcF.store {w : World} {base g : Nat} {E0 : Option Addr} {e0 : Nat} {a : List Int} {E1 : Option Addr} {e1 : Nat} {b : List (List Int)} {E2 : Option Addr} {e2 : Nat} {c : List Int} {W : World} (h : WcF base E0 e0 a E1 e1 b E2 e2 c W) (hg : W.heap[g]? = some (.cells #[.slice none 0 0, .slice none 0 0, .slice none 0 0] 25 (0, 0))) (hw : Below w.heap.size w W) (hl : w.heap.size ≤ g) :
  LawW w E0 e0 a E1 e1 b E2 e2 c g (((W.setCell ⟨g, 0, none⟩ (.slice E0 a.length e0)).setCell ⟨g, 1, none⟩ (.slice E1 b.length e1)).setCell ⟨g, 2, none⟩ (.slice E2 c.length e2)) := by
 have g0 := blk_set hg 0 (.slice E0 a.length e0)
 have g1 := blk_set g0 1 (.slice E1 b.length e1)
 exact ⟨(blk_set g1 2 (.slice E2 c.length e2)).trans rfl, (((h.set hg 0 _).set g0 1 _).set g1 2 _).case, ((hw.setCell hl _).setCell hl _).setCell hl _, hl⟩
/-- A test more: with, at a copy of one's own. -/
theorem with_n {base b2 : Nat} {Ar : Option Addr} {cr : Nat} {row : List Int} {wo : World} (x : Int) (h0 : Kd.R (Kd.int .i64) 3 w b2 (fun k => some k ≠ (Value.slice A2 c.length c2).ownBlock) (.slice A0 a.length c0) a) (h1 : Kd.R (Kd.slice 3 (Kd.int .i64)) 22 w b2 (fun k => some k ≠ (Value.slice A2 c.length c2).ownBlock) (.slice A1 b.length c1) b) (h2 : Kd.R (Kd.int .i64) 3 w b2 (fun _ => True) (.slice A2 c.length c2) c)
  (hr : Kd.R (Kd.int .i64) 3 wo base (fun _ => True) (.slice Ar row.length cr) row) (hwo : wo.heap.size = b2) (hbo : Below wo.heap.size wo w) (hbb : base ≤ b2) (hl1 : b.length ≤ 1000) (hl2 : c.length ≤ 1000) :
  Calls Tryd.prog 36 #[.agg #[.slice A0 a.length c0, .slice A1 b.length c1, .slice A2 c.length c2], .slice Ar row.length cr, .int .i64 x] w fun e w3 => ∃ B1 d1 B2 d2, e = .returned (.agg #[.slice A0 a.length c0, .slice B1 (b ++ [row]).length d1, .slice B2 (c ++ [x]).length d2]) ∧ WcF base A0 c0 a B1 d1 (b ++ [row]) B2 d2 (c ++ [x]) w3 ∧ Below base w w3 ∧ ∀ (k : Nat) (cells : Array Value), w.heap[k]? = some (.cells cells 25 (0, 0)) → w3.heap[k]? = some (.cells cells 25 (0, 0)) := by
 have hbw : b2 ≤ w.heap.size := by rw [← hwo]; exact hbo.size
 have hlt : ∀ k, some k = (Value.slice Ar row.length cr).ownBlock → k < b2 := fun k hk => by rw [← hwo]; exact Kd.R_lt hr k hk.symm
 refine (with_core (Kd.slice 3 (Kd.int .i64)) rfl (by decide) w base A0 a.length c0 A1 c1 A2 c2 Ar row.length cr b row c x (fun _ => True) (fun _ => True) (fun k => some k = (Value.slice Ar row.length cr).ownBlock) (Kd.R_lower (Kd.R_mono h1 (fun k hk => ⟨trivial, hk⟩)) hbb) ⟨_, rfl, Kd.R_tight rfl (Kd.R_below hr hbo)⟩ ?_ (Kd.R_lower h2 hbb) (fun _ _ => trivial) (fun _ _ => trivial) (Nat.le_trans hbb hbw) (by omega) (by omega)).mono ?_
 ·intro k hk
  have := hlt k hk
  refine ⟨⟨trivial, fun e => ?_⟩, fun e => ?_⟩
  ·have := Kd.R_base h2 k e.symm; omega
  ·have := Kd.R_base h1 k e.symm; omega
 ·rintro e w3 ⟨v1, v2, rfl, hp⟩
  obtain ⟨B1, d1, rfl⟩ := Kd.R_slice hp.r1
  obtain ⟨B2, d2, rfl⟩ := Kd.R_slice hp.r2
  have q := Kd.R_step (w1 := w3) (Kd.R_tight rfl h0) (fun k hk hlt => hp.keep k hlt (fun e => by
   obtain ⟨cl, hcl⟩ := Kd.R_typed h0 k hk.symm
   exact Kd.R_ne h1 hcl (by decide) e) (fun e => h0.1 k hk.symm e))
  exact ⟨B1, d1, B2, d2, rfl, ⟨Kd.R_lower (Kd.R_mono q (fun _ _ => trivial)) hbb, Kd.R_mono hp.r1 (fun _ _ => trivial), hp.r2⟩, hp.below, fun k cells hk => (hp.keep k (blk_lt hk) (Kd.R_ne h1 hk (by decide)) (Kd.R_ne h2 hk (by decide))).trans hk⟩
end
/-- own's copy, above the world wr. -/
structure OwnF (wr : World) (E0 : Option Addr) (e0 : Nat) (a : List Int) (E1 : Option Addr) (e1 : Nat) (b : List (List Int)) (E2 : Option Addr) (e2 : Nat) (c : List Int) (W : World) : Prop where
 r0 : Kd.R (Kd.int .i64) 3 W wr.heap.size (fun k => some k ≠ (Value.slice E2 c.length e2).ownBlock) (.slice E0 a.length e0) a
 r1 : Kd.R (Kd.slice 3 (Kd.int .i64)) 22 W wr.heap.size (fun k => some k ≠ (Value.slice E2 c.length e2).ownBlock) (.slice E1 b.length e1) b
 r2 : Kd.R (Kd.int .i64) 3 W wr.heap.size (fun _ => True) (.slice E2 c.length e2) c
 bl : Below wr.heap.size wr W
theorem OwnF.below {wr : World} {E0 : Option Addr} {e0 : Nat} {a : List Int} {E1 : Option Addr} {e1 : Nat} {b : List (List Int)} {E2 : Option Addr} {e2 : Nat} {c : List Int} {W W2 : World} (h : OwnF wr E0 e0 a E1 e1 b E2 e2 c W) (hb : Below W.heap.size W W2) : OwnF wr E0 e0 a E1 e1 b E2 e2 c W2 := ⟨Kd.R_below h.r0 hb, Kd.R_below h.r1 hb, Kd.R_below h.r2 hb, below_step h.bl hb⟩
def OwnG (wr : World) (a : List Int) (b : List (List Int)) (c : List Int) (W : World) (e : Ending) (w' : World) : Prop :=
 ∃ E0 e0 E1 e1 E2 e2, e = .returned (.agg #[.slice E0 a.length e0, .slice E1 b.length e1, .slice E2 c.length e2]) ∧ OwnF wr E0 e0 a E1 e1 b E2 e2 c w' ∧ Below W.heap.size W w'
section
variable {A0 : Option Addr} {c0 : Nat} {a : List Int} {A1 : Option Addr} {c1 : Nat} {b : List (List Int)} {A2 : Option Addr} {c2 : Nat} {c : List Int} {wr W : World}
theorem own_f (h : CaseAt W A0 c0 a A1 c1 b A2 c2 c) (hi : CaseIs a b c) (hb : Below wr.heap.size wr W) : Calls Tryd.prog 13 #[.agg #[.slice A0 a.length c0, .slice A1 b.length c1, .slice A2 c.length c2]] W (OwnG wr a b c W) := by
 refine (own_r h hi).mono ?_
 rintro e w' ⟨E0, e0, E1, e1, E2, e2, rfl, o0, o1, o2, hbb⟩
 exact ⟨E0, e0, E1, e1, E2, e2, rfl, ⟨Kd.R_lower o0 hb.size, Kd.R_lower o1 hb.size, Kd.R_lower o2 hb.size, below_step hb hbb⟩, hbb⟩
def WithG (A0 : Option Addr) (c0 : Nat) (a : List Int) (b : List (List Int)) (c : List Int) (row : List Int) (x : Int) (base : Nat) (W : World) (e : Ending) (w' : World) : Prop :=
 ∃ B1 d1 B2 d2, e = .returned (.agg #[.slice A0 a.length c0, .slice B1 (b ++ [row]).length d1, .slice B2 (c ++ [x]).length d2]) ∧ WcF base A0 c0 a B1 d1 (b ++ [row]) B2 d2 (c ++ [x]) w' ∧ Below base W w' ∧ ∀ (k : Nat) (cells : Array Value), W.heap[k]? = some (.cells cells 25 (0, 0)) → w'.heap[k]? = some (.cells cells 25 (0, 0))
theorem with_f {base : Nat} {Ar : Option Addr} {cr : Nat} {row : List Int} (x : Int) (h : OwnF wr A0 c0 a A1 c1 b A2 c2 c W) (hr : Kd.R (Kd.int .i64) 3 wr base (fun _ => True) (.slice Ar row.length cr) row) (hbb : base ≤ wr.heap.size) (hl1 : b.length ≤ 1000) (hl2 : c.length ≤ 1000) :
  Calls Tryd.prog 36 #[.agg #[.slice A0 a.length c0, .slice A1 b.length c1, .slice A2 c.length c2], .slice Ar row.length cr, .int .i64 x] W (WithG A0 c0 a b c row x base W) := with_n (b2 := wr.heap.size) (wo := wr) x h.r0 h.r1 h.r2 hr rfl h.bl hbb hl1 hl2
end
end Go.Proofs.YtekmiepdodaidaaDoor.X
end
