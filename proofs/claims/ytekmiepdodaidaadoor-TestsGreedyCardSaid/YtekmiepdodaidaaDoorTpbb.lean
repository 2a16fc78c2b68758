/- Texts behind TestsGreedy, part 28: contracts of the program's functions and the plain words for them. -/
import Derived.Test.YtekmiepdodaidaaDoorTpas
import Derived.Test.YtekmiepdodaidaaDoorTpau
import Derived.Test.YtekmiepdodaidaaDoorTpaw
import Derived.Test.YtekmiepdodaidaaDoorTpax
import Derived.Test.YtekmiepdodaidaaDoorTpba
section
/- Layer 7, plain: weights and parts of sets; the measures. -/
set_option linter.unusedVariables false
namespace Go.Proofs.YtekmiepdodaidaaDoor.X
open Go.RowKit Go.Proofs.YtekmiepdodaidaaDoorW.PrintWords Go.Proofs.YtekmiepdodaidaaDoorW.PrintLast Go.Proofs.YtekmiepdodaidaaDoorW.PrintMore

/-- The weight of a set. -/
def wOf : List Int → Nat → Int
 | [], _ => 0
 | x :: xs, s => (if s % 2 = 1 then x else 0) + wOf xs (s / 2)
theorem wOf_bounds : ∀ (l : List Int) (s : Nat), (∀ x ∈ l, 1 ≤ x ∧ x ≤ 1000) → 0 ≤ wOf l s ∧ wOf l s ≤ 1000 * (l.length : Int)
 | [], _, _ => ⟨Int.le_refl _, by simp [wOf]⟩
 | x :: xs, s, h => by
  have ih := wOf_bounds xs (s / 2) (fun y hy => h y (by simp [hy]))
  have hx := h x (by simp)
  simp only [wOf, List.length_cons]
  split <;> omega
theorem shr_nat (v i : Nat) (hi : i ≤ 10) : shr .i64 (v : Int) (i : Int) = ((v / 2 ^ i : Nat) : Int) := by
 unfold shr
 have hm : min (i : Int).toNat IntKind.i64.bits = i := by simp [IntKind.bits]; omega
 rw [hm]
 simp
theorem odd_nat (q : Nat) : (Int.tmod (q : Int) 2 = 1) ↔ q % 2 = 1 := by
 rw [Int.tmod_eq_emod_of_nonneg (Int.natCast_nonneg _)]
 omega
theorem shl_nat (i : Nat) (hi : i ≤ 10) : shl .i64 1 (i : Int) = ((2 ^ i : Nat) : Int) := by
 have hp : 2 ^ i ≤ 2 ^ 10 := Nat.pow_le_pow_right (by omega) (by omega)
 unfold shl
 have hm : min (i : Int).toNat IntKind.i64.bits = i := by simp [IntKind.bits]; omega
 have hz : (1 * 2 ^ i : Int) = ((2 ^ i : Nat) : Int) := by simp
 have hq : 0 < 2 ^ i := Nat.two_pow_pos i
 rw [hm, hz, IntKind.wrap_i64]
 generalize 2 ^ i = q at *
 clear hm hz
 omega
theorem div_next (s i : Nat) : s / 2 ^ (i + 1) = s / 2 ^ i / 2 := by rw [Nat.pow_succ, Nat.div_div_eq_div_mul]
theorem wOf_step (a : List Int) (i : Nat) (hi : i < a.length) (s : Nat) : wOf (a.drop i) (s / 2 ^ i) = (if s / 2 ^ i % 2 = 1 then a[i] else 0) + wOf (a.drop (i + 1)) (s / 2 ^ (i + 1)) := by
 rw [List.drop_eq_getElem_cons hi, div_next]; rfl
section
variable {a : List Int} {b : List (List Int)} {c : List Int}
/-- The reference's weight. -/
theorem rweight_l0 (ha : a.length ≤ 10) (hw : ∀ x ∈ a, 1 ≤ x ∧ x ≤ 1000) (s : Nat) (m : Nat) : ∀ (i : Nat) (acc : Int), i + m = a.length → 0 ≤ acc → acc ≤ 1000 * i → Ev (fun k => tickingref07_weight.l0 k (s : Int) acc (i : Int) a b c) (acc + wOf (a.drop i) (s / 2 ^ i)) := by
 induction m with
 | zero =>
  intro i acc hi h0 h1
  obtain rfl : i = a.length := by omega
  refine Ev.step (f := fun _ => some _) (fun k => ?_) (Ev.now _)
  simp only [tickingref07_weight.l0]
  rw [if_neg (by omega), List.drop_length]
  simp [wOf]
 | succ m ih =>
  intro i acc hi h0 h1
  have hia : i < a.length := by omega
  have hx := hw a[i] (List.getElem_mem hia)
  rw [wOf_step a i hia]
  by_cases ho : s / 2 ^ i % 2 = 1
  ·have := ih (i + 1) (acc + a[i]) (by omega) (by omega) (by omega)
   rw [if_pos ho, ← Int.add_assoc]
   refine Ev.step (fun k => ?_) this
   show tickingref07_weight.l0 (k + 1) (s : Int) acc (i : Int) a b c = _
   simp only [tickingref07_weight.l0]
   rw [if_pos (by omega), if_pos (by omega), shr_nat s i (by omega), if_pos ((odd_nat _).2 ho), rd_at a i hia, w1 i (by omega)]
   congr 1
   unfold wrap64; omega
  ·have := ih (i + 1) acc (by omega) (by omega) (by omega)
   rw [if_neg ho, Int.zero_add]
   refine Ev.step (fun k => ?_) this
   show tickingref07_weight.l0 (k + 1) (s : Int) acc (i : Int) a b c = _
   simp only [tickingref07_weight.l0]
   rw [if_pos (by omega), if_pos (by omega), shr_nat s i (by omega), if_neg (fun h => ho ((odd_nat _).1 h)), w1 i (by omega)]
theorem rweight_ev (ha : a.length ≤ 10) (hw : ∀ x ∈ a, 1 ≤ x ∧ x ≤ 1000) (s : Nat) : Ev (fun k => tickingref07_weight.f k a b c (s : Int)) (wOf a s) := by
 have := rweight_l0 (b := b) (c := c) ha hw s a.length 0 0 (by omega) (by omega) (by omega)
 simpa [tickingref07_weight.f] using this
/-- The program's weight. -/
theorem tweight_l0 (ha : a.length ≤ 10) (hw : ∀ x ∈ a, 1 ≤ x ∧ x ≤ 1000) (s : Nat) (hs : s < 1024) (m : Nat) : ∀ (i k : Nat) (acc : Int), i + m = a.length → m < k → 0 ≤ acc → acc ≤ 1000 * i → tests_trial_weight.l0 k (s : Int) acc a (a.length : Int) (i : Int) = some (acc + wOf (a.drop i) (s / 2 ^ i)) := by
 induction m with
 | zero =>
  intro i k acc hi hk h0 h1
  obtain rfl : i = a.length := by omega
  obtain ⟨k, rfl⟩ : ∃ k', k = k' + 1 := ⟨k - 1, by omega⟩
  simp only [tests_trial_weight.l0]
  rw [if_neg (by omega), List.drop_length]
  simp [wOf]
 | succ m ih =>
  intro i k acc hi hk h0 h1
  obtain ⟨k, rfl⟩ : ∃ k', k = k' + 1 := ⟨k - 1, by omega⟩
  have hia : i < a.length := by omega
  have hx := hw a[i] (List.getElem_mem hia)
  have hb : (Go.bits .and .u64 (shr .u64 (s : Int) (i : Int)) 1 == 1) = decide (s / 2 ^ i % 2 = 1) := by
   have := hasB_nat s i hs
   rw [Nat.testBit_eq_decide_div_mod_eq] at this
   exact this
  simp only [tests_trial_weight.l0]
  rw [if_pos (by omega), if_pos (by omega), if_pos (by omega)]
  unfold tests_faults_has.f
  rw [if_pos (by omega), hb, w1 i (by omega), wOf_step a i hia, rd_at a i hia]
  simp only [Option.bind_some]
  by_cases ho : s / 2 ^ i % 2 = 1
  ·rw [if_pos (by simpa using ho), if_pos ho, show wrap64 (acc + a[i]) = acc + a[i] from by unfold wrap64; omega]
   rw [ih (i + 1) k (acc + a[i]) (by omega) (by omega) (by omega) (by omega), Int.add_assoc]
  ·rw [if_neg (by simpa using ho), if_neg ho, ih (i + 1) k acc (by omega) (by omega) (by omega) (by omega), Int.zero_add]
theorem tweight_n (ha : a.length ≤ 10) (hw : ∀ x ∈ a, 1 ≤ x ∧ x ≤ 1000) (s : Nat) (hs : s < 1024) (k : Nat) (hk : a.length < k) (ones : List Int) (al : Int) : tests_trial_weight.f k a b c ones al (s : Int) = some (wOf a s) := by
 have := tweight_l0 ha hw s hs a.length 0 k 0 (by omega) hk (by omega) (by omega)
 simpa [tests_trial_weight.f] using this
end
theorem and_half (x y : Nat) : x &&& y = (if x % 2 = 1 ∧ y % 2 = 1 then 1 else 0) + 2 * (x / 2 &&& y / 2) := by
 have e1 : (x &&& y) / 2 = x / 2 &&& y / 2 := Nat.and_div_two
 have m1 : (x &&& y) % 2 = 1 ↔ x % 2 = 1 ∧ y % 2 = 1 := Nat.and_mod_two_eq_one
 by_cases h : x % 2 = 1 ∧ y % 2 = 1
 ·rw [if_pos h]; have := m1.2 h; omega
 ·rw [if_neg h]; have : ¬ (x &&& y) % 2 = 1 := fun e => h (m1.1 e); omega
theorem rowV_drop (l : List Int) (hl : ∀ x ∈ l, x = 0 ∨ x = 1) (i : Nat) (hi : i < l.length) : rowV (l.drop i) % 2 = l[i].toNat ∧ rowV (l.drop i) / 2 = rowV (l.drop (i + 1)) := by
 have hx := hl _ (List.getElem_mem hi)
 rw [List.drop_eq_getElem_cons hi]
 simp only [rowV]
 omega
section
variable {a : List Int} {b : List (List Int)} {c : List Int}
theorem rones_l0 (n : Nat) (ha : a.length = n) (hn : n ≤ 10) (s t : Nat) (ht : t < b.length) (hl : b[t].length = n) (hb : ∀ x ∈ b[t], x = 0 ∨ x = 1) (m : Nat) : ∀ (i : Nat) (acc : Nat), i + m = n → acc < 2 ^ i →
  Ev (fun k => tickingref07_ones.l0 k (s : Int) (t : Int) (acc : Int) (i : Int) a b c) ((acc + 2 ^ i * (s / 2 ^ i &&& rowV (b[t].drop i)) : Nat) : Int) := by
 induction m with
 | zero =>
  intro i acc hi h0
  obtain rfl : i = n := by omega
  refine Ev.step (f := fun _ => some _) (fun k => ?_) (Ev.now _)
  simp only [tickingref07_ones.l0]
  rw [if_neg (by omega), ← hl, List.drop_length]
  simp [rowV]
 | succ m ih =>
  intro i acc hi h0
  have hib : i < b[t].length := by omega
  have hp : 2 ^ i ≤ 2 ^ 9 := Nat.pow_le_pow_right (by omega) (by omega)
  have hp1 : 2 ^ (i + 1) = 2 * 2 ^ i := by rw [Nat.pow_succ]; omega
  obtain ⟨e1, e2⟩ := rowV_drop b[t] hb i hib
  have hx := hb _ (List.getElem_mem hib)
  have hand := and_half (s / 2 ^ i) (rowV (b[t].drop i))
  rw [e1, e2, ← div_next] at hand
  rw [hand]
  by_cases ho : s / 2 ^ i % 2 = 1
  ·by_cases hr : b[t][i] = 1
   ·have := ih (i + 1) (acc + 2 ^ i) (by omega) (by omega)
    rw [if_pos ⟨ho, by omega⟩, show acc + 2 ^ i * (1 + 2 * (s / 2 ^ (i + 1) &&& rowV (b[t].drop (i + 1)))) = acc + 2 ^ i + 2 ^ (i + 1) * (s / 2 ^ (i + 1) &&& rowV (b[t].drop (i + 1))) from by rw [Nat.mul_add, Nat.mul_one, ← Nat.mul_assoc, Nat.mul_comm (2 ^ i) 2, ← hp1]; omega]
    refine Ev.step (fun k => ?_) this
    show tickingref07_ones.l0 (k + 1) (s : Int) (t : Int) (acc : Int) (i : Int) a b c = _
    simp only [tickingref07_ones.l0]
    rw [if_pos (by omega), if_pos (by omega), shr_nat s i (by omega), if_pos ((odd_nat _).2 ho), if_pos (by omega), if_pos (by omega), rd_L1_at b t ht, if_pos (by omega), rd_at _ i hib, if_pos hr, w1 i (by omega), shl_nat i (by omega)]
    congr 1
    unfold wrap64; omega
   ·have := ih (i + 1) acc (by omega) (by omega)
    rw [if_neg (by omega), show acc + 2 ^ i * (0 + 2 * (s / 2 ^ (i + 1) &&& rowV (b[t].drop (i + 1)))) = acc + 2 ^ (i + 1) * (s / 2 ^ (i + 1) &&& rowV (b[t].drop (i + 1))) from by rw [Nat.zero_add, ← Nat.mul_assoc, Nat.mul_comm (2 ^ i) 2, ← hp1]]
    refine Ev.step (fun k => ?_) this
    show tickingref07_ones.l0 (k + 1) (s : Int) (t : Int) (acc : Int) (i : Int) a b c = _
    simp only [tickingref07_ones.l0]
    rw [if_pos (by omega), if_pos (by omega), shr_nat s i (by omega), if_pos ((odd_nat _).2 ho), if_pos (by omega), if_pos (by omega), rd_L1_at b t ht, if_pos (by omega), rd_at _ i hib, if_neg hr, w1 i (by omega)]
  ·have := ih (i + 1) acc (by omega) (by omega)
   rw [if_neg (by omega), show acc + 2 ^ i * (0 + 2 * (s / 2 ^ (i + 1) &&& rowV (b[t].drop (i + 1)))) = acc + 2 ^ (i + 1) * (s / 2 ^ (i + 1) &&& rowV (b[t].drop (i + 1))) from by rw [Nat.zero_add, ← Nat.mul_assoc, Nat.mul_comm (2 ^ i) 2, ← hp1]]
   refine Ev.step (fun k => ?_) this
   show tickingref07_ones.l0 (k + 1) (s : Int) (t : Int) (acc : Int) (i : Int) a b c = _
   simp only [tickingref07_ones.l0]
   rw [if_pos (by omega), if_pos (by omega), shr_nat s i (by omega), if_neg (fun h => ho ((odd_nat _).1 h)), w1 i (by omega)]
/-- A row of a case. -/
theorem row_at (h : CaseIs a b c) (t : Nat) (ht : t < b.length) : b[t].length = a.length ∧ ∀ x ∈ b[t], x = 0 ∨ x = 1 := by
 have := List.all_eq_true.1 h.rows b[t] (List.getElem_mem ht)
 unfold rowOkB at this
 simp only [Bool.and_eq_true, beq_iff_eq] at this
 refine ⟨this.1, fun x hx => ?_⟩
 have := (all_inB _ _ _).1 this.2 x hx
 omega
theorem rones_ev (h : CaseIs a b c) (s t : Nat) (ht : t < b.length) : Ev (fun k => tickingref07_ones.f k a b c (s : Int) (t : Int)) ((s &&& rowV b[t] : Nat) : Int) := by
 obtain ⟨r1, r2⟩ := row_at h t ht
 have := rones_l0 (c := c) a.length rfl h.a10 s t ht r1 r2 a.length 0 0 (by omega) (by decide)
 simpa [tickingref07_ones.f] using this
end
end Go.Proofs.YtekmiepdodaidaaDoor.X
end

section
namespace Go.Proofs.YtekmiepdodaidaaDoor.X
open Go.RowKit Go.Proofs.YtekmiepdodaidaaDoorW.PrintWords Go.Proofs.YtekmiepdodaidaaDoorW.PrintLast Go.Proofs.YtekmiepdodaidaaDoorW.PrintMore
attribute [local go_sem] max2_int min2_int max_two min_two max_three min_three max_four min_four   -- for this text's walks alone
set_option linter.unusedVariables false
set_option linter.unusedSimpArgs false

mutual
def tickingref07_Alike.l0 : Nat → List (S53) → Int → List Int → List (List Int) → List Int → Option ((List (S53)))
 | 0, _, _, _, _, _ => none
 | k + 1, x3, x4, x102000, x102001, x102002 => if x4 < (x102000.length : Int) then (tickingref07_Alike.l1 k x3 x4 (wrap64 (x4 + 1)) x102000 x102001 x102002) else (some x3)
def tickingref07_Alike.l1 : Nat → List (S53) → Int → Int → List Int → List (List Int) → List Int → Option ((List (S53)))
 | 0, _, _, _, _, _, _ => none
 | k + 1, x3, x4, x5, x102000, x102001, x102002 => if x5 < (x102000.length : Int) then (tickingref07_Alike.l2 k x3 x4 x5 true 0 x102000 x102001 x102002) else (tickingref07_Alike.l0 k x3 (wrap64 (x4 + 1)) x102000 x102001 x102002)
def tickingref07_Alike.l2 : Nat → List (S53) → Int → Int → Bool → Int → List Int → List (List Int) → List Int → Option ((List (S53)))
 | 0, _, _, _, _, _, _, _, _ => none
 | k + 1, x3, x4, x5, x6, x7, x102000, x102001, x102002 => if x7 < (x102001.length : Int) then (if x6 = true then (if 0 ≤ x7 then (if 0 ≤ x4 then (if x4 < ((rd_L1 x102001 x7).length : Int) then (if 0 ≤ x5 then (if x5 < ((rd_L1 x102001 x7).length : Int) then (tickingref07_Alike.l2 k x3 x4 x5 ((rd (rd_L1 x102001 x7) x4) == (rd (rd_L1 x102001 x7) x5)) (wrap64 (x7 + 1)) x102000 x102001 x102002) else (none)) else (none)) else (none)) else (none)) else (none)) else (tickingref07_Alike.l2 k x3 x4 x5 false (wrap64 (x7 + 1)) x102000 x102001 x102002)) else (if x6 = true then (if x3.length < 8796093022208 then (tickingref07_Alike.l1 k (x3 ++ [(⟨x4, x5⟩ : S53)]) x4 (wrap64 (x5 + 1)) x102000 x102001 x102002) else (none)) else (tickingref07_Alike.l1 k x3 x4 (wrap64 (x5 + 1)) x102000 x102001 x102002))
end
def tickingref07_Alike.f (k : Nat) (l0_0 : List Int) (l0_1 : List (List Int)) (l0_2 : List Int) : Option ((List (S53))) := tickingref07_Alike.l0 k ([] : List (S53)) 0 l0_0 l0_1 l0_2
set_option maxHeartbeats 8000000 in
set_option maxRecDepth 100000 in
theorem tickingref07_Alike.calls (k : Nat) (A0_0 : Option Addr) (c0_0 : Nat) (l0_0 : List Int) (A0_1 : Option Addr) (c0_1 : Nat) (l0_1 : List (List Int)) (A0_2 : Option Addr) (c0_2 : Nat) (l0_2 : List Int) (r : List (S53)) (w : World) (hr0_0 : Kd.C (Kd.int .i64) w A0_0 l0_0.length l0_0) (hc0_0 : l0_0.length ≤ c0_0) (hr0_1 : Kd.C (Kd.slice 3 (Kd.int .i64)) w A0_1 l0_1.length l0_1) (hc0_1 : l0_1.length ≤ c0_1) (hr0_2 : Kd.C (Kd.int .i64) w A0_2 l0_2.length l0_2) (hc0_2 : l0_2.length ≤ c0_2) (h : tickingref07_Alike.f k l0_0 l0_1 l0_2 = some r) :
  Calls Tryd.prog 18 #[.agg #[.slice A0_0 l0_0.length c0_0, .slice A0_1 l0_1.length c0_1, .slice A0_2 l0_2.length c0_2]] w fun e w' => ∃ v0_ : Value, e = .returned (v0_) ∧ Kd.R k53 53 w' w.heap.size (fun _ => True) v0_ r ∧ Below w.heap.size w w' := by
 have hu25 := Tryd.underlying25
 have hu53 := Tryd.underlying53
 have HR0_0 := Aside0.mk hr0_0
 have HC0_0 := Aside0.mk hc0_0
 clear hr0_0 hc0_0
 have HR0_1 := Aside0.mk hr0_1
 have HC0_1 := Aside0.mk hc0_1
 clear hr0_1 hc0_1
 have HR0_2 := Aside0.mk hr0_2
 have HC0_2 := Aside0.mk hc0_2
 clear hr0_2 hc0_2
 have HB := Aside0.mk (Below.refl w.heap.size w)
 have H : (tickingref07_Alike.l0 k ([] : List (S53)) 0 l0_0 l0_1 l0_2) = some r := h
 clear h
 have H' := Aside0.mk H
 clear H
 go_enter Tryd.func18, Tryd.ntmps18
 go_wp2_with (first | ((with_reducible refine gate_dst (N := 1) rfl ?_); refine box_event ?hg (N := 1) ?hd (cs := #[.slice A0_0 l0_0.length c0_0, .slice A0_1 l0_1.length c0_1, .slice A0_2 l0_2.length c0_2]) (t := 25) ?hr ?_; (case hd => rfl); (case hg => rfl); (case hr => first | (go_simp; done) | (go_simp; rfl)); intro gb101 hg w2 hbox hb; have n0_ := Aside0.mk (below_step bz hb); have n1_ := Aside0.mk (hbox); have n2_ := Aside0.mk ((by rw [hg]; exact (below_size bz) : w.heap.size ≤ gb101)); have n3_ := Aside0.mk ((by rw [hg]; exact (below_size bz) : w.heap.size ≤ gb101)); clear HB; have HB := n0_; have BK101 := n1_; have GW101 := n2_; have GE101 := n3_; clear n0_ n1_ n2_ n3_; clear hb hbox hg))
 repeat (go_quiet (first | ((with_reducible refine gate_dst (N := 1) rfl ?_); refine box_event ?hg (N := 1) ?hd (cs := #[.slice A0_0 l0_0.length c0_0, .slice A0_1 l0_1.length c0_1, .slice A0_2 l0_2.length c0_2]) (t := 25) ?hr ?_; (case hd => rfl); (case hg => rfl); (case hr => first | (go_simp; done) | (go_simp; rfl)); intro gb101 hg w2 hbox hb; have n0_ := Aside0.mk (below_step bz hb); have n1_ := Aside0.mk (hbox); have n2_ := Aside0.mk ((by rw [hg]; exact (below_size bz) : w.heap.size ≤ gb101)); have n3_ := Aside0.mk ((by rw [hg]; exact (below_size bz) : w.heap.size ≤ gb101)); clear HB; have HB := n0_; have BK101 := n1_; have GW101 := n2_; have GE101 := n3_; clear n0_ n1_ n2_ n3_; clear hb hbox hg)); try go_wp2_with (first | ((with_reducible refine gate_dst (N := 1) rfl ?_); refine box_event ?hg (N := 1) ?hd (cs := #[.slice A0_0 l0_0.length c0_0, .slice A0_1 l0_1.length c0_1, .slice A0_2 l0_2.length c0_2]) (t := 25) ?hr ?_; (case hd => rfl); (case hg => rfl); (case hr => first | (go_simp; done) | (go_simp; rfl)); intro gb101 hg w2 hbox hb; have n0_ := Aside0.mk (below_step bz hb); have n1_ := Aside0.mk (hbox); have n2_ := Aside0.mk ((by rw [hg]; exact (below_size bz) : w.heap.size ≤ gb101)); have n3_ := Aside0.mk ((by rw [hg]; exact (below_size bz) : w.heap.size ≤ gb101)); clear HB; have HB := n0_; have BK101 := n1_; have GW101 := n2_; have GE101 := n3_; clear n0_ n1_ n2_ n3_; clear hb hbox hg)))
 go_loopg [3, 4] k (fun kq v3 v4 w' => ∃ (x3_1 : List (S53)) (x4_1 : Int), v4 = .int .i64 x4_1 ∧ Aside0 (tickingref07_Alike.l0 kq x3_1 x4_1 l0_0 l0_1 l0_2 = some r) ∧ Aside0 (kq ≤ k) ∧ Aside0 (Kd.R k53 53 w' w.heap.size (fun _ => True) v3 x3_1) ∧ Aside0 (w'.heap[gb101]? = some (.cells #[(.slice A0_0 l0_0.length c0_0), (.slice A0_1 l0_1.length c0_1), (.slice A0_2 l0_2.length c0_2)] 25 (0, 0))) ∧ Aside0 (Below w.heap.size w w'))
 case atStart => exact ⟨(([] : List (S53))), (0), (by first | rfl | (simp; done) | (simp [*]; done)), H', ⟨Nat.le_refl _⟩, ⟨by first | exact Kd.R_nil _ _ _ _ _ | exact Kd.N_nil _ _ _ _ _ | exact Kd.V_nil _ _ _ _ _ | exact Kd.Q_nil _ _ _ _ _ | exact Kd.S_nil _ _ _ _ _⟩, ⟨by (with_reducible repeat (first | refine blk_drewN ?_ _ | refine blk_drew ?_ | refine blk_alloc ?_ _)); exact BK101.out⟩, ⟨by repeat (first | (with_reducible first | exact HB.out | apply below_alloc | apply pw_below_drewN | apply below_drew1 | refine below_set ?_ GE101.out) | exact HB.out)⟩⟩
 case round =>
  clear H'
  try clear c1
  try clear p2
  obtain ⟨x3_1, x4_1, rfl, HA, HK1, HO_3, BK101, HB⟩ := hrel
  cases gk with
  | zero => exact absurd HA.out (by simp [tickingref07_Alike.l0])
  | succ k1 =>
   have H := HA.out
   clear HA
   simp only [tickingref07_Alike.l0] at H
   by_cases c3 : x4_1 < (l0_0.length : Int)
   ·rw [if_pos c3] at H
    have c3b0 : decide (x4_1 < (l0_0.length : Int)) = true := decide_eq_true c3
    clear c3
    have H' := Aside0.mk H
    clear H
    have hcz4_0 : wr.cell? ⟨gb101, 0, none⟩ = some (.slice A0_0 l0_0.length c0_0) := (blk_cell BK101.out 0).trans rfl
    have hcz4_1 : wr.cell? ⟨gb101, 1, none⟩ = some (.slice A0_1 l0_1.length c0_1) := (blk_cell BK101.out 1).trans rfl
    have hcz4_2 : wr.cell? ⟨gb101, 2, none⟩ = some (.slice A0_2 l0_2.length c0_2) := (blk_cell BK101.out 2).trans rfl
    have hfz4_0 := blk_frozen BK101.out 0
    have hfz4_1 := blk_frozen BK101.out 1
    have hfz4_2 := blk_frozen BK101.out 2
    go_wp2
    repeat (go_quiet (fail); try go_wp2)
    go_loopg [3, 5] k1 (fun kq v3 v5 w' => ∃ (x3_2 : List (S53)) (x5_2 : Int), v5 = .int .i64 x5_2 ∧ Aside0 (tickingref07_Alike.l1 kq x3_2 x4_1 x5_2 l0_0 l0_1 l0_2 = some r) ∧ Aside0 (kq ≤ k1) ∧ Aside0 (Kd.R k53 53 w' w.heap.size (fun _ => True) v3 x3_2) ∧ Aside0 (w'.heap[gb101]? = some (.cells #[(.slice A0_0 l0_0.length c0_0), (.slice A0_1 l0_1.length c0_1), (.slice A0_2 l0_2.length c0_2)] 25 (0, 0))) ∧ Aside0 (Below w.heap.size w w'))
    case atStart => exact ⟨(x3_1), (wrap64 (x4_1 + 1)), (by first | rfl | (simp; done) | (simp [*]; done)), H', ⟨Nat.le_refl _⟩, ⟨by (with_reducible repeat (first | apply Kd.R_alloc | apply Kd.R_drewN | apply Kd.R_drew)); exact HO_3.out⟩, ⟨by (with_reducible repeat (first | refine blk_drewN ?_ _ | refine blk_drew ?_ | refine blk_alloc ?_ _)); exact BK101.out⟩, ⟨by repeat (first | (with_reducible first | exact HB.out | apply below_alloc | apply pw_below_drewN | apply below_drew1 | refine below_set ?_ GE101.out) | exact HB.out)⟩⟩
    case round =>
     clear H'
     try clear c1
     try clear p2
     try clear c3
     try clear c3b0
     try clear hcz4_0
     try clear hcz4_1
     try clear hcz4_2
     try clear hfz4_0
     try clear hfz4_1
     try clear hfz4_2
     try clear p2
     obtain ⟨x3_2, x5_2, rfl, HA, HK2, HO_3, BK101, HB⟩ := hrel
     cases gk with
     | zero => exact absurd HA.out (by simp [tickingref07_Alike.l1])
     | succ k2 =>
      have H := HA.out
      clear HA
      simp only [tickingref07_Alike.l1] at H
      by_cases c5 : x5_2 < (l0_0.length : Int)
      ·rw [if_pos c5] at H
       have c5b0 : decide (x5_2 < (l0_0.length : Int)) = true := decide_eq_true c5
       clear c5
       have H' := Aside0.mk H
       clear H
       have hcz6_0 : wr.cell? ⟨gb101, 0, none⟩ = some (.slice A0_0 l0_0.length c0_0) := (blk_cell BK101.out 0).trans rfl
       have hcz6_1 : wr.cell? ⟨gb101, 1, none⟩ = some (.slice A0_1 l0_1.length c0_1) := (blk_cell BK101.out 1).trans rfl
       have hcz6_2 : wr.cell? ⟨gb101, 2, none⟩ = some (.slice A0_2 l0_2.length c0_2) := (blk_cell BK101.out 2).trans rfl
       have hfz6_0 := blk_frozen BK101.out 0
       have hfz6_1 := blk_frozen BK101.out 1
       have hfz6_2 := blk_frozen BK101.out 2
       go_wp2
       repeat (go_quiet (fail); try go_wp2)
       go_loopg [6, 7] k2 (fun kq v6 v7 w' => ∃ (x6_3 : Bool) (x7_3 : Int), v6 = .bool x6_3 ∧ v7 = .int .i64 x7_3 ∧ Aside0 (tickingref07_Alike.l2 kq x3_2 x4_1 x5_2 x6_3 x7_3 l0_0 l0_1 l0_2 = some r) ∧ Aside0 (kq ≤ k2) ∧ Aside0 (Kd.R k53 53 w' w.heap.size (fun _ => True) u3 x3_2) ∧ Aside0 (w'.heap[gb101]? = some (.cells #[(.slice A0_0 l0_0.length c0_0), (.slice A0_1 l0_1.length c0_1), (.slice A0_2 l0_2.length c0_2)] 25 (0, 0))) ∧ Aside0 (Below w.heap.size w w'))
       case atStart => exact ⟨(true), (0), (by first | rfl | (simp; done) | (simp [*]; done)), (by first | rfl | (simp; done) | (simp [*]; done)), H', ⟨Nat.le_refl _⟩, ⟨by (with_reducible repeat (first | apply Kd.R_alloc | apply Kd.R_drewN | apply Kd.R_drew)); exact HO_3.out⟩, ⟨by (with_reducible repeat (first | refine blk_drewN ?_ _ | refine blk_drew ?_ | refine blk_alloc ?_ _)); exact BK101.out⟩, ⟨by repeat (first | (with_reducible first | exact HB.out | apply below_alloc | apply pw_below_drewN | apply below_drew1 | refine below_set ?_ GE101.out) | exact HB.out)⟩⟩
       case round =>
        clear H'
        try clear c1
        try clear p2
        try clear c3
        try clear c3b0
        try clear c5
        try clear c5b0
        try clear p6
        try clear hcz4_0
        try clear hcz4_1
        try clear hcz4_2
        try clear hcz6_0
        try clear hcz6_1
        try clear hcz6_2
        try clear hfz4_0
        try clear hfz4_1
        try clear hfz4_2
        try clear hfz6_0
        try clear hfz6_1
        try clear hfz6_2
        try clear p2
        obtain ⟨x6_3, x7_3, rfl, rfl, HA, HK3, HO_3, BK101, HB⟩ := hrel
        cases gk with
        | zero => exact absurd HA.out (by simp [tickingref07_Alike.l2])
        | succ k3 =>
         have H := HA.out
         clear HA
         simp only [tickingref07_Alike.l2] at H
         by_cases c7 : x7_3 < (l0_1.length : Int)
         ·rw [if_pos c7] at H
          have c7b0 : decide (x7_3 < (l0_1.length : Int)) = true := decide_eq_true c7
          clear c7
          by_cases c8 : x6_3 = true
          ·subst c8
           have H1 : (if 0 ≤ x7_3 then (if 0 ≤ x4_1 then (if x4_1 < ((rd_L1 l0_1 x7_3).length : Int) then (if 0 ≤ x5_2 then (if x5_2 < ((rd_L1 l0_1 x7_3).length : Int) then (tickingref07_Alike.l2 k3 x3_2 x4_1 x5_2 ((rd (rd_L1 l0_1 x7_3) x4_1) == (rd (rd_L1 l0_1 x7_3) x5_2)) (wrap64 (x7_3 + 1)) l0_0 l0_1 l0_2) else (none)) else (none)) else (none)) else (none)) else (none)) = some r := by rw [if_pos rfl] at H; exact H
           clear H
           have H := H1
           clear H1
           by_cases c9 : 0 ≤ x7_3
           ·rw [if_pos c9] at H
            have c9b0 : decide (0 ≤ x7_3) = true := decide_eq_true c9
            clear c9
            by_cases c10 : 0 ≤ x4_1
            ·rw [if_pos c10] at H
             have c10b0 : decide (0 ≤ x4_1) = true := decide_eq_true c10
             clear c10
             by_cases c11 : x4_1 < ((rd_L1 l0_1 x7_3).length : Int)
             ·rw [if_pos c11] at H
              have c11b0 : decide (x4_1 < ((rd_L1 l0_1 x7_3).length : Int)) = true := decide_eq_true c11
              clear c11
              by_cases c12 : 0 ≤ x5_2
              ·rw [if_pos c12] at H
               have c12b0 : decide (0 ≤ x5_2) = true := decide_eq_true c12
               clear c12
               by_cases c13 : x5_2 < ((rd_L1 l0_1 x7_3).length : Int)
               ·rw [if_pos c13] at H
                have c13b0 : decide (x5_2 < ((rd_L1 l0_1 x7_3).length : Int)) = true := decide_eq_true c13
                clear c13
                have H' := Aside0.mk H
                clear H
                have hcz14_0 : wr.cell? ⟨gb101, 0, none⟩ = some (.slice A0_0 l0_0.length c0_0) := (blk_cell BK101.out 0).trans rfl
                have hcz14_1 : wr.cell? ⟨gb101, 1, none⟩ = some (.slice A0_1 l0_1.length c0_1) := (blk_cell BK101.out 1).trans rfl
                have hcz14_2 : wr.cell? ⟨gb101, 2, none⟩ = some (.slice A0_2 l0_2.length c0_2) := (blk_cell BK101.out 2).trans rfl
                have hfz14_0 := blk_frozen BK101.out 0
                have hfz14_1 := blk_frozen BK101.out 1
                have hfz14_2 := blk_frozen BK101.out 2
                have p102 : 0 ≤ (x7_3 : Int) := of_decide_eq_true az
                have q102 : x7_3 < (l0_1.length : Int) := of_decide_eq_true az
                obtain ⟨ad102, A102_0, c102_0, e102, hx102_0, hl102_0, hi102_0⟩ := at_L1 HR0_1.out x7_3 p102 q102
                cases e102
                replace hx102_0 := (HB.out.cell (World.block_lt_of_cell? w _ hx102_0)).trans hx102_0
                have HR102_0 := Aside0.mk hi102_0
                have HC102_0 := Aside0.mk hl102_0
                clear hi102_0 hl102_0
                replace p102 := eq_true p102
                replace q102 := eq_true q102
                have p103 : 0 ≤ (x4_1 : Int) := of_decide_eq_true az
                have q103 : x4_1 < ((rd_L1 l0_1 x7_3).length : Int) := of_decide_eq_true az
                obtain ⟨ad103, e103, hx103_0⟩ := Kd.at_int HR102_0.out x4_1 p103 q103
                cases e103
                replace hx103_0 := (HB.out.cell (World.block_lt_of_cell? w _ hx103_0)).trans hx103_0
                replace p103 := eq_true p103
                replace q103 := eq_true q103
                have p104 : 0 ≤ (x7_3 : Int) := of_decide_eq_true az
                have q104 : x7_3 < (l0_1.length : Int) := of_decide_eq_true az
                obtain ⟨ad104, A104_0, c104_0, e104, hx104_0, hl104_0, hi104_0⟩ := at_L1 HR0_1.out x7_3 p104 q104
                obtain rfl : ad102 = ad104 := (by injection e104)
                replace hx104_0 := (HB.out.cell (World.block_lt_of_cell? w _ hx104_0)).trans hx104_0
                have HR104_0 := Aside0.mk hi104_0
                have HC104_0 := Aside0.mk hl104_0
                clear hi104_0 hl104_0
                replace p104 := eq_true p104
                replace q104 := eq_true q104
                have ea_ := Option.some.inj (hx102_0.symm.trans hx104_0)
                injection ea_ with ea_ en_ ec_
                subst ea_
                subst ec_
                clear en_
                have p105 : 0 ≤ (x5_2 : Int) := of_decide_eq_true az
                have q105 : x5_2 < ((rd_L1 l0_1 x7_3).length : Int) := of_decide_eq_true az
                obtain ⟨ad105, e105, hx105_0⟩ := Kd.at_int HR104_0.out x5_2 p105 q105
                cases e105
                replace hx105_0 := (HB.out.cell (World.block_lt_of_cell? w _ hx105_0)).trans hx105_0
                replace p105 := eq_true p105
                replace q105 := eq_true q105
                go_wp2
                repeat (go_quiet (fail); try go_wp2)
                go_roundg k3
                case measure => have := HK1.out; have := HK2.out; have := HK3.out; omega
                case rel => exact ⟨(((rd (rd_L1 l0_1 x7_3) x4_1) == (rd (rd_L1 l0_1 x7_3) x5_2))), (wrap64 (x7_3 + 1)), (by first | rfl | (simp; done) | (simp [*]; done)), (by first | rfl | (simp; done) | (simp [*]; done)), H', ⟨by have := HK1.out; have := HK2.out; have := HK3.out; omega⟩, ⟨by (with_reducible repeat (first | apply Kd.R_alloc | apply Kd.R_drewN | apply Kd.R_drew)); exact HO_3.out⟩, ⟨by (with_reducible repeat (first | refine blk_drewN ?_ _ | refine blk_drew ?_ | refine blk_alloc ?_ _)); exact BK101.out⟩, ⟨by repeat (first | (with_reducible first | exact HB.out | apply below_alloc | apply pw_below_drewN | apply below_drew1 | refine below_set ?_ GE101.out) | exact HB.out)⟩⟩
               ·rw [if_neg c13] at H
                exact absurd H (by simp)
              ·rw [if_neg c12] at H
               exact absurd H (by simp)
             ·rw [if_neg c11] at H
              exact absurd H (by simp)
            ·rw [if_neg c10] at H
             exact absurd H (by simp)
           ·rw [if_neg c9] at H
            exact absurd H (by simp)
          ·replace c8 := Bool.eq_false_iff.mpr c8
           subst c8
           have H1 : (tickingref07_Alike.l2 k3 x3_2 x4_1 x5_2 false (wrap64 (x7_3 + 1)) l0_0 l0_1 l0_2) = some r := by rw [if_neg (show ¬ (false = true) by decide)] at H; exact H
           clear H
           have H := H1
           clear H1
           have H' := Aside0.mk H
           clear H
           have hcz15_0 : wr.cell? ⟨gb101, 0, none⟩ = some (.slice A0_0 l0_0.length c0_0) := (blk_cell BK101.out 0).trans rfl
           have hcz15_1 : wr.cell? ⟨gb101, 1, none⟩ = some (.slice A0_1 l0_1.length c0_1) := (blk_cell BK101.out 1).trans rfl
           have hcz15_2 : wr.cell? ⟨gb101, 2, none⟩ = some (.slice A0_2 l0_2.length c0_2) := (blk_cell BK101.out 2).trans rfl
           have hfz15_0 := blk_frozen BK101.out 0
           have hfz15_1 := blk_frozen BK101.out 1
           have hfz15_2 := blk_frozen BK101.out 2
           go_wp2
           repeat (go_quiet (fail); try go_wp2)
           go_roundg k3
           case measure => have := HK1.out; have := HK2.out; have := HK3.out; omega
           case rel => exact ⟨(false), (wrap64 (x7_3 + 1)), (by first | rfl | (simp; done) | (simp [*]; done)), (by first | rfl | (simp; done) | (simp [*]; done)), H', ⟨by have := HK1.out; have := HK2.out; have := HK3.out; omega⟩, ⟨by (with_reducible repeat (first | apply Kd.R_alloc | apply Kd.R_drewN | apply Kd.R_drew)); exact HO_3.out⟩, ⟨by (with_reducible repeat (first | refine blk_drewN ?_ _ | refine blk_drew ?_ | refine blk_alloc ?_ _)); exact BK101.out⟩, ⟨by repeat (first | (with_reducible first | exact HB.out | apply below_alloc | apply pw_below_drewN | apply below_drew1 | refine below_set ?_ GE101.out) | exact HB.out)⟩⟩
         ·rw [if_neg c7] at H
          have c7b0 : decide (x7_3 < (l0_1.length : Int)) = false := decide_eq_false c7
          clear c7
          by_cases c16 : x6_3 = true
          ·subst c16
           have H1 : (if x3_2.length < 8796093022208 then (tickingref07_Alike.l1 k3 (x3_2 ++ [(⟨x4_1, x5_2⟩ : S53)]) x4_1 (wrap64 (x5_2 + 1)) l0_0 l0_1 l0_2) else (none)) = some r := by rw [if_pos rfl] at H; exact H
           clear H
           have H := H1
           clear H1
           by_cases c17 : x3_2.length < 8796093022208
           ·rw [if_pos c17] at H
            have LMc17 := Aside0.mk c17
            clear c17
            obtain ⟨y106, hy106⟩ : ∃ y_ : List (S53), y_ = (x3_2 ++ [(⟨x4_1, x5_2⟩ : S53)]) := ⟨_, rfl⟩
            replace H : (tickingref07_Alike.l1 k3 y106 x4_1 (wrap64 (x5_2 + 1)) l0_0 l0_1 l0_2) = some r := by first | (rw [hy106]; with_reducible exact H) | (have H2_ := (Option.bind_some _ _).symm.trans H; rw [hy106]; with_reducible exact H2_) | (have H2_ := (Option.bind_some _ _).symm.trans H; with_reducible exact H2_) | with_reducible exact H | (rw [hy106]; exact H) | exact H
            have Ny106 := Aside0.mk hy106
            clear hy106
            have H' := Aside0.mk H
            clear H
            have hcz18_0 : wr.cell? ⟨gb101, 0, none⟩ = some (.slice A0_0 l0_0.length c0_0) := (blk_cell BK101.out 0).trans rfl
            have hcz18_1 : wr.cell? ⟨gb101, 1, none⟩ = some (.slice A0_1 l0_1.length c0_1) := (blk_cell BK101.out 1).trans rfl
            have hcz18_2 : wr.cell? ⟨gb101, 2, none⟩ = some (.slice A0_2 l0_2.length c0_2) := (blk_cell BK101.out 2).trans rfl
            have hfz18_0 := blk_frozen BK101.out 0
            have hfz18_1 := blk_frozen BK101.out 1
            have hfz18_2 := blk_frozen BK101.out 2
            go_wp2_with (first | ((with_reducible refine gate_builtin (b := .append) (xs := #[.tmp 52, .tmp 56]) rfl ?_); at_builtin; refine Kd.R_append k53 (w0 := w) w.heap.size rfl (.tmp 52) (.tmp 56) 33 53 (.agg #[(.int .i64 0), (.int .i64 0)]) 16 rfl Tryd.underlying33 info53 rfl (by decide) (by omega) u3 x3_2 (⟨x4_1, x5_2⟩ : S53) [.int .i64 x4_1, .int .i64 x5_2] (fun _ => True) (fun _ => False) rfl rfl ?aP (fun _ hk => hk.elim) ?aF ?aO ?aB ?aS ?aL ?_; (case aP => exact k53_mkM _ _ _ (⟨x4_1, x5_2⟩ : S53)); (case aB => exact bz); (case aF => exact (fun _ _ => trivial)); (case aO => exact (rz HO_3.out)); (case aS => exact (below_size bz)); (case aL => have := LMc17.out; omega); intro v107 w19 ho hb hg hat; rw [← Ny106.out] at ho; have n0_ := Aside0.mk (blk_grown (g := gb101) (o := .cells #[.slice A0_0 l0_0.length c0_0, .slice A0_1 l0_1.length c0_1, .slice A0_2 l0_2.length c0_2] 25 (0, 0)) (kz BK101.out) hg (Kd.R_ne HO_3.out BK101.out (by decide))); have n1_ := Aside0.mk (hb); have n2_ := Aside0.mk (ho); clear BK101; clear HB; clear HO_3; have BK101 := n0_; have HB := n1_; have HO108 := n2_; clear n0_ n1_ n2_; clear ho hb hg hat))
            repeat (go_quiet (first | ((with_reducible refine gate_builtin (b := .append) (xs := #[.tmp 52, .tmp 56]) rfl ?_); at_builtin; refine Kd.R_append k53 (w0 := w) w.heap.size rfl (.tmp 52) (.tmp 56) 33 53 (.agg #[(.int .i64 0), (.int .i64 0)]) 16 rfl Tryd.underlying33 info53 rfl (by decide) (by omega) u3 x3_2 (⟨x4_1, x5_2⟩ : S53) [.int .i64 x4_1, .int .i64 x5_2] (fun _ => True) (fun _ => False) rfl rfl ?aP (fun _ hk => hk.elim) ?aF ?aO ?aB ?aS ?aL ?_; (case aP => exact k53_mkM _ _ _ (⟨x4_1, x5_2⟩ : S53)); (case aB => exact bz); (case aF => exact (fun _ _ => trivial)); (case aO => exact (rz HO_3.out)); (case aS => exact (below_size bz)); (case aL => have := LMc17.out; omega); intro v107 w19 ho hb hg hat; rw [← Ny106.out] at ho; have n0_ := Aside0.mk (blk_grown (g := gb101) (o := .cells #[.slice A0_0 l0_0.length c0_0, .slice A0_1 l0_1.length c0_1, .slice A0_2 l0_2.length c0_2] 25 (0, 0)) (kz BK101.out) hg (Kd.R_ne HO_3.out BK101.out (by decide))); have n1_ := Aside0.mk (hb); have n2_ := Aside0.mk (ho); clear BK101; clear HB; clear HO_3; have BK101 := n0_; have HB := n1_; have HO108 := n2_; clear n0_ n1_ n2_; clear ho hb hg hat)); try go_wp2_with (first | ((with_reducible refine gate_builtin (b := .append) (xs := #[.tmp 52, .tmp 56]) rfl ?_); at_builtin; refine Kd.R_append k53 (w0 := w) w.heap.size rfl (.tmp 52) (.tmp 56) 33 53 (.agg #[(.int .i64 0), (.int .i64 0)]) 16 rfl Tryd.underlying33 info53 rfl (by decide) (by omega) u3 x3_2 (⟨x4_1, x5_2⟩ : S53) [.int .i64 x4_1, .int .i64 x5_2] (fun _ => True) (fun _ => False) rfl rfl ?aP (fun _ hk => hk.elim) ?aF ?aO ?aB ?aS ?aL ?_; (case aP => exact k53_mkM _ _ _ (⟨x4_1, x5_2⟩ : S53)); (case aB => exact bz); (case aF => exact (fun _ _ => trivial)); (case aO => exact (rz HO_3.out)); (case aS => exact (below_size bz)); (case aL => have := LMc17.out; omega); intro v107 w19 ho hb hg hat; rw [← Ny106.out] at ho; have n0_ := Aside0.mk (blk_grown (g := gb101) (o := .cells #[.slice A0_0 l0_0.length c0_0, .slice A0_1 l0_1.length c0_1, .slice A0_2 l0_2.length c0_2] 25 (0, 0)) (kz BK101.out) hg (Kd.R_ne HO_3.out BK101.out (by decide))); have n1_ := Aside0.mk (hb); have n2_ := Aside0.mk (ho); clear BK101; clear HB; clear HO_3; have BK101 := n0_; have HB := n1_; have HO108 := n2_; clear n0_ n1_ n2_; clear ho hb hg hat)))
            go_roundg k3
            case measure => have := HK1.out; have := HK2.out; have := HK3.out; omega
            case rel => exact ⟨(y106), (wrap64 (x5_2 + 1)), (by first | rfl | (simp; done) | (simp [*]; done)), H', ⟨by have := HK1.out; have := HK2.out; have := HK3.out; omega⟩, ⟨by (with_reducible repeat (first | apply Kd.R_alloc | apply Kd.R_drewN | apply Kd.R_drew)); exact HO108.out⟩, ⟨by (with_reducible repeat (first | refine blk_drewN ?_ _ | refine blk_drew ?_ | refine blk_alloc ?_ _)); exact BK101.out⟩, ⟨by repeat (first | (with_reducible first | exact HB.out | apply below_alloc | apply pw_below_drewN | apply below_drew1 | refine below_set ?_ GE101.out) | exact HB.out)⟩⟩
           ·rw [if_neg c17] at H
            exact absurd H (by simp)
          ·replace c16 := Bool.eq_false_iff.mpr c16
           subst c16
           have H1 : (tickingref07_Alike.l1 k3 x3_2 x4_1 (wrap64 (x5_2 + 1)) l0_0 l0_1 l0_2) = some r := by rw [if_neg (show ¬ (false = true) by decide)] at H; exact H
           clear H
           have H := H1
           clear H1
           have H' := Aside0.mk H
           clear H
           have hcz20_0 : wr.cell? ⟨gb101, 0, none⟩ = some (.slice A0_0 l0_0.length c0_0) := (blk_cell BK101.out 0).trans rfl
           have hcz20_1 : wr.cell? ⟨gb101, 1, none⟩ = some (.slice A0_1 l0_1.length c0_1) := (blk_cell BK101.out 1).trans rfl
           have hcz20_2 : wr.cell? ⟨gb101, 2, none⟩ = some (.slice A0_2 l0_2.length c0_2) := (blk_cell BK101.out 2).trans rfl
           have hfz20_0 := blk_frozen BK101.out 0
           have hfz20_1 := blk_frozen BK101.out 1
           have hfz20_2 := blk_frozen BK101.out 2
           go_wp2
           repeat (go_quiet (fail); try go_wp2)
           go_roundg k3
           case measure => have := HK1.out; have := HK2.out; have := HK3.out; omega
           case rel => exact ⟨(x3_2), (wrap64 (x5_2 + 1)), (by first | rfl | (simp; done) | (simp [*]; done)), H', ⟨by have := HK1.out; have := HK2.out; have := HK3.out; omega⟩, ⟨by (with_reducible repeat (first | apply Kd.R_alloc | apply Kd.R_drewN | apply Kd.R_drew)); exact HO_3.out⟩, ⟨by (with_reducible repeat (first | refine blk_drewN ?_ _ | refine blk_drew ?_ | refine blk_alloc ?_ _)); exact BK101.out⟩, ⟨by repeat (first | (with_reducible first | exact HB.out | apply below_alloc | apply pw_below_drewN | apply below_drew1 | refine below_set ?_ GE101.out) | exact HB.out)⟩⟩
      ·rw [if_neg c5] at H
       have c5b0 : decide (x5_2 < (l0_0.length : Int)) = false := decide_eq_false c5
       clear c5
       have H' := Aside0.mk H
       clear H
       have hcz21_0 : wr.cell? ⟨gb101, 0, none⟩ = some (.slice A0_0 l0_0.length c0_0) := (blk_cell BK101.out 0).trans rfl
       have hcz21_1 : wr.cell? ⟨gb101, 1, none⟩ = some (.slice A0_1 l0_1.length c0_1) := (blk_cell BK101.out 1).trans rfl
       have hcz21_2 : wr.cell? ⟨gb101, 2, none⟩ = some (.slice A0_2 l0_2.length c0_2) := (blk_cell BK101.out 2).trans rfl
       have hfz21_0 := blk_frozen BK101.out 0
       have hfz21_1 := blk_frozen BK101.out 1
       have hfz21_2 := blk_frozen BK101.out 2
       go_wp2
       repeat (go_quiet (fail); try go_wp2)
       go_roundg k2
       case measure => have := HK1.out; have := HK2.out; omega
       case rel => exact ⟨(x3_2), (wrap64 (x4_1 + 1)), (by first | rfl | (simp; done) | (simp [*]; done)), H', ⟨by have := HK1.out; have := HK2.out; omega⟩, ⟨by (with_reducible repeat (first | apply Kd.R_alloc | apply Kd.R_drewN | apply Kd.R_drew)); exact HO_3.out⟩, ⟨by (with_reducible repeat (first | refine blk_drewN ?_ _ | refine blk_drew ?_ | refine blk_alloc ?_ _)); exact BK101.out⟩, ⟨by repeat (first | (with_reducible first | exact HB.out | apply below_alloc | apply pw_below_drewN | apply below_drew1 | refine below_set ?_ GE101.out) | exact HB.out)⟩⟩
   ·rw [if_neg c3] at H
    have c3b0 : decide (x4_1 < (l0_0.length : Int)) = false := decide_eq_false c3
    clear c3
    obtain rfl := Option.some.inj H
    have hcz22_0 : wr.cell? ⟨gb101, 0, none⟩ = some (.slice A0_0 l0_0.length c0_0) := (blk_cell BK101.out 0).trans rfl
    have hcz22_1 : wr.cell? ⟨gb101, 1, none⟩ = some (.slice A0_1 l0_1.length c0_1) := (blk_cell BK101.out 1).trans rfl
    have hcz22_2 : wr.cell? ⟨gb101, 2, none⟩ = some (.slice A0_2 l0_2.length c0_2) := (blk_cell BK101.out 2).trans rfl
    have hfz22_0 := blk_frozen BK101.out 0
    have hfz22_1 := blk_frozen BK101.out 1
    have hfz22_2 := blk_frozen BK101.out 2
    go_wp2
    repeat (go_quiet (fail); try go_wp2)
    go_ret
    exact ⟨_, by first | rfl | (simp [errW_none, errW_some] <;> rfl) | (simp [*, errW_none, errW_some] <;> rfl), by (with_reducible repeat (first | apply Kd.R_alloc | apply Kd.R_drewN | apply Kd.R_drew)); exact HO_3.out, by repeat (first | (with_reducible first | exact HB.out | apply below_alloc | apply pw_below_drewN | apply below_drew1 | refine below_set ?_ GE101.out) | exact HB.out)⟩

end Go.Proofs.YtekmiepdodaidaaDoor.X
end

section
namespace Go.Proofs.YtekmiepdodaidaaDoor.X
open Go.RowKit Go.Proofs.YtekmiepdodaidaaDoorW.PrintWords Go.Proofs.YtekmiepdodaidaaDoorW.PrintLast Go.Proofs.YtekmiepdodaidaaDoorW.PrintMore
attribute [local go_sem] max2_int min2_int max_two min_two max_three min_three max_four min_four   -- for this text's walks alone
set_option linter.unusedVariables false
set_option linter.unusedSimpArgs false

def tickingref07_Best.T17 : Bool × List (List Nat × List Nat) := (true, [([], []), ([], []), ([1], [1]), ([0, 2], [0, 2]), ([3], [3]), ([], []), ([], []), ([6], [6]), ([5, 7], [5, 7]), ([8], [8]), ([4, 0, 1, 2, 3, 4], [4]), ([9, 10, 0, 1, 2, 3, 4, 5, 6, 7, 8, 9, 10], [9])])
def tickingref07_Best.B17 : List Nat := [0, 0, 2, 7, 15, 0, 0, 64, 224, 480, 31, 2047]
theorem tickingref07_Best.tab17 : rtab .any (opsOf Tryd.f19 17) = tickingref07_Best.T17 := by kernel_rfl
theorem tickingref07_Best.bits17 : waitsOk tickingref07_Best.T17.2 tickingref07_Best.B17 = true := by kernel_rfl
end Go.Proofs.YtekmiepdodaidaaDoor.X
end

section
/- Layer 7, plain: the reference's Alike and Best. -/
set_option linter.unusedVariables false
namespace Go.Proofs.YtekmiepdodaidaaDoor.X
open Go.RowKit Go.Proofs.YtekmiepdodaidaaDoorW.PrintWords Go.Proofs.YtekmiepdodaidaaDoorW.PrintLast Go.Proofs.YtekmiepdodaidaaDoorW.PrintMore

theorem onesOf_at (b : List (List Int)) (t : Nat) (ht : t < b.length) : (onesOf b).drop t = (rowV b[t] : Int) :: (onesOf b).drop (t + 1) := by
 have hl : t < (onesOf b).length := by unfold onesOf; rw [List.length_map]; exact ht
 rw [List.drop_eq_getElem_cons hl]
 simp [onesOf]
section
variable {a : List Int} {b : List (List Int)} {c : List Int}
theorem row_lt (h : CaseIs a b c) (t : Nat) (ht : t < b.length) : rowV b[t] < 1024 := by
 obtain ⟨h1, h2⟩ := row_at h t ht
 have := rowV_lt b[t] h2
 rw [h1] at this
 exact Nat.lt_of_lt_of_le this (Nat.le_trans (Nat.pow_le_pow_right (by omega) h.a10) (by decide))
/-- Two faults are alike in a test exactly if their results are equal. -/
theorem same_row (h : CaseIs a b c) (t : Nat) (ht : t < b.length) (x y : Nat) (hx : x < a.length) (hy : y < a.length) : sameB (x : Int) (y : Int) (rowV b[t] : Int) = (rd b[t] (x : Int) == rd b[t] (y : Int)) := by
 obtain ⟨h1, h2⟩ := row_at h t ht
 have hl := row_lt h t ht
 have ha := h.a10
 unfold sameB
 rw [hasB_nat _ _ hl, hasB_nat _ _ hl, rowV_bit _ h2, rowV_bit _ h2]
 have ex : b[t].getD x 0 = b[t][x] := by simp [List.getD_eq_getElem?_getD, List.getElem?_eq_getElem (show x < b[t].length by omega)]
 have ey : b[t].getD y 0 = b[t][y] := by simp [List.getD_eq_getElem?_getD, List.getElem?_eq_getElem (show y < b[t].length by omega)]
 rw [ex, ey, rd_at _ x (by omega), rd_at _ y (by omega)]
 have := h2 b[t][x] (List.getElem_mem _)
 have := h2 b[t][y] (List.getElem_mem _)
 rcases h2 b[t][x] (List.getElem_mem _) with e1 | e1 <;> rcases h2 b[t][y] (List.getElem_mem _) with e2 | e2 <;> rw [e1, e2] <;> decide
theorem ralike_l1 (h : CaseIs a b c) (x : Nat) (hx : x < a.length) (m : Nat) : ∀ (y : Nat) (acc : List S53) (R : List S53), y + m = a.length → acc.length + m < 1000 →
  Ev (fun k => tickingref07_Alike.l0 k (acc ++ pairsIn (onesOf b) x y m) ((x + 1 : Nat) : Int) a b c) R → Ev (fun k => tickingref07_Alike.l1 k acc (x : Int) (y : Int) a b c) R := by
 have ha := h.a10
 induction m with
 | zero =>
  intro y acc R hm hl hR
  refine Ev.step (fun k => ?_) hR
  simp only [tickingref07_Alike.l1]
  rw [if_neg (by omega), w1 x (by omega)]
  simp [pairsIn]
 | succ m ih =>
  intro y acc R hm hl hR
  have key : Ev (fun k => tickingref07_Alike.l2 k acc (x : Int) (y : Int) true 0 a b c) R := by
   by_cases hs : (onesOf b).all (sameB (x : Int) (y : Int)) = true
   ·have e1 := ih (y + 1) (acc ++ [⟨(x : Int), (y : Int)⟩]) R (by omega) (by simp; omega) (by simpa [pairsIn, hs, List.append_assoc] using hR)
    have : ∀ (m t : Nat), t + m = b.length → Ev (fun k => tickingref07_Alike.l2 k acc (x : Int) (y : Int) true (t : Int) a b c) R := by
     intro m
     induction m with
     | zero =>
      intro t ht
      refine Ev.step (fun k => ?_) e1
      simp only [tickingref07_Alike.l2]
      rw [if_neg (by omega), if_pos trivial, if_pos (by omega), w1 y (by omega)]
     | succ m ih2 =>
      intro t ht
      have htl : t < b.length := by omega
      obtain ⟨r1, r2⟩ := row_at h t htl
      have hb12 := h.b12
      have hsm : (rd b[t] (x : Int) == rd b[t] (y : Int)) = true := by
       rw [← same_row h t htl x y (by omega) (by omega)]
       exact List.all_eq_true.1 hs _ (by unfold onesOf; exact List.mem_map.2 ⟨b[t], List.getElem_mem htl, rfl⟩)
      refine Ev.step (fun k => ?_) (ih2 (t + 1) (by omega))
      show tickingref07_Alike.l2 (k + 1) acc (x : Int) (y : Int) true (t : Int) a b c = _
      simp only [tickingref07_Alike.l2]
      rw [if_pos (by omega), if_pos trivial, if_pos (by omega), if_pos (by omega), rd_L1_at b t htl, if_pos (by omega), if_pos (by omega), if_pos (by omega), w1 t (by omega), hsm]
    exact this b.length 0 (by omega)
   ·have e2 := ih (y + 1) acc R (by omega) (by omega) (by simpa [pairsIn, hs] using hR)
    have : ∀ (m t : Nat) (s : Bool), t + m = b.length → (s = false ∨ ((onesOf b).drop t).all (sameB (x : Int) (y : Int)) = false) → Ev (fun k => tickingref07_Alike.l2 k acc (x : Int) (y : Int) s (t : Int) a b c) R := by
     intro m
     induction m with
     | zero =>
      intro t s ht hns
      have hsf : s = false := by
       rcases hns with h | h
       ·exact h
       ·have e : (onesOf b).drop t = [] := by rw [List.drop_eq_nil_iff, onesOf_len]; omega
        rw [e] at h; simp at h
      subst hsf
      refine Ev.step (fun k => ?_) e2
      simp only [tickingref07_Alike.l2]
      rw [if_neg (by omega), if_neg (by decide), w1 y (by omega)]
     | succ m ih2 =>
      intro t s ht hns
      have htl : t < b.length := by omega
      obtain ⟨r1, r2⟩ := row_at h t htl
      have hb12 := h.b12
      cases s
      ·refine Ev.step (fun k => ?_) (ih2 (t + 1) false (by omega) (.inl rfl))
       show tickingref07_Alike.l2 (k + 1) acc (x : Int) (y : Int) false (t : Int) a b c = _
       simp only [tickingref07_Alike.l2]
       rw [if_pos (by omega), if_neg (by decide), w1 t (by omega)]
      ·have hns' : (rd b[t] (x : Int) == rd b[t] (y : Int)) = false ∨ ((onesOf b).drop (t + 1)).all (sameB (x : Int) (y : Int)) = false := by
        rcases hns with h' | h'
        ·cases h'
        ·rw [onesOf_at b t htl, List.all_cons, same_row h t htl x y (by omega) (by omega)] at h'
         exact Bool.and_eq_false_iff.1 h'
       refine Ev.step (fun k => ?_) (ih2 (t + 1) _ (by omega) hns')
       show tickingref07_Alike.l2 (k + 1) acc (x : Int) (y : Int) true (t : Int) a b c = _
       simp only [tickingref07_Alike.l2]
       rw [if_pos (by omega), if_pos trivial, if_pos (by omega), if_pos (by omega), rd_L1_at b t htl, if_pos (by omega), if_pos (by omega), if_pos (by omega), w1 t (by omega)]
    exact this b.length 0 true (by omega) (.inr (by simpa using hs))
  refine Ev.step (fun k => ?_) key
  show tickingref07_Alike.l1 (k + 1) acc (x : Int) (y : Int) a b c = _
  simp only [tickingref07_Alike.l1]
  rw [if_pos (by omega)]
theorem ralike_l0 (h : CaseIs a b c) (m : Nat) : ∀ (x : Nat) (acc : List S53), x + m = a.length → acc.length + m * a.length < 900 → Ev (fun k => tickingref07_Alike.l0 k acc (x : Int) a b c) (acc ++ pairsOut (onesOf b) a.length x m) := by
 have ha := h.a10
 induction m with
 | zero =>
  intro x acc hm hl
  refine Ev.step (f := fun _ => some _) (fun k => ?_) (Ev.now _)
  simp only [tickingref07_Alike.l0]
  rw [if_neg (by omega)]
  simp [pairsOut]
 | succ m ih =>
  intro x acc hm hl
  have hpl := pairsIn_len (onesOf b) x (a.length - (x + 1)) (x + 1)
  have e := ih (x + 1) (acc ++ pairsIn (onesOf b) x (x + 1) (a.length - (x + 1))) (by omega) (by rw [List.length_append]; rw [Nat.add_mul] at hl; omega)
  have e2 := ralike_l1 h x (by omega) (a.length - (x + 1)) (x + 1) acc _ (by omega) (by omega) e
  rw [List.append_assoc] at e2
  refine Ev.step (fun k => ?_) e2
  show tickingref07_Alike.l0 (k + 1) acc (x : Int) a b c = _
  simp only [tickingref07_Alike.l0]
  rw [if_pos (by omega), w1 x (by omega)]
theorem ralike_ev (h : CaseIs a b c) : Ev (fun k => tickingref07_Alike.f k a b c) (alikeL (onesOf b) a.length) := by
 have ha := h.a10
 have hm : a.length * a.length ≤ 10 * 10 := Nat.mul_le_mul ha ha
 have := ralike_l0 h a.length 0 [] (by omega) (by simp only [List.length_nil]; omega)
 simpa [tickingref07_Alike.f, alikeL] using this
end
end Go.Proofs.YtekmiepdodaidaaDoor.X
end

section
/- Layer 7, plain: the reference's Best. -/
set_option linter.unusedVariables false
namespace Go.Proofs.YtekmiepdodaidaaDoor.X
open Go.RowKit Go.Proofs.YtekmiepdodaidaaDoorW.PrintWords Go.Proofs.YtekmiepdodaidaaDoorW.PrintLast Go.Proofs.YtekmiepdodaidaaDoorW.PrintMore

section
variable {mf : Int → Int → Int → Int → Int} {ones : List Int}
end
section
variable {a : List Int} {b : List (List Int)} {c : List Int}
def far : Int := 1099511627776
theorem split_nat {s x : Nat} (hs : s < 1024) (hx : x < 1024) : bAnd (s : Int) (x : Int) = ((s &&& x : Nat) : Int) ∧ bSub (s : Int) (x : Int) = (s : Int) - ((s &&& x : Nat) : Int) ∧ splitB (s : Int) (x : Int) = (!(((s &&& x : Nat) : Int) == 0) && !((s : Int) - ((s &&& x : Nat) : Int) == 0)) := by
 have h1 : SetB (s : Int) := by unfold SetB; omega
 have h2 : SetB (x : Int) := by unfold SetB; omega
 have e1 : bAnd (s : Int) (x : Int) = ((s &&& x : Nat) : Int) := by
  rw [bAnd_nat h1 h2]; simp
 have e2 : bSub (s : Int) (x : Int) = (s : Int) - ((s &&& x : Nat) : Int) := by
  have := bSub_add h1 h2
  omega
 refine ⟨e1, e2, ?_⟩
 unfold splitB
 rw [e1, e2]
theorem wr_sub (s o : Nat) (h : s ≤ 1024) (ho : o ≤ s) : wrap64 ((s : Int) - (o : Int)) = ((s - o : Nat) : Int) := by unfold wrap64; omega
end
end Go.Proofs.YtekmiepdodaidaaDoor.X
end

section
/- Layer 7, plain: plans: which lists are plans, the way of a fault, what a plan costs; the reference's Plan, Way, Correct. -/
set_option linter.unusedVariables false
namespace Go.Proofs.YtekmiepdodaidaaDoor.X
open Go.RowKit Go.Proofs.YtekmiepdodaidaaDoorW.PrintWords Go.Proofs.YtekmiepdodaidaaDoorW.PrintLast Go.Proofs.YtekmiepdodaidaaDoorW.PrintMore

/-- Is this a node at place i of a plan of len nodes? -/
def nodeB (n nt len : Nat) (i : Nat) (x : S57) : Bool :=
 if x.f0 = -1 then decide (0 ≤ x.f1) && decide (x.f1 < (n : Int)) && decide (x.f2 = 0) && decide (x.f3 = 0)
 else decide (0 ≤ x.f0) && decide (x.f0 < (nt : Int)) && decide (x.f1 = 0) && decide ((i : Int) < x.f2) && decide (x.f2 < (len : Int)) && decide ((i : Int) < x.f3) && decide (x.f3 < (len : Int))
section
variable {a : List Int} {b : List (List Int)} {c : List Int}
end
end Go.Proofs.YtekmiepdodaidaaDoor.X
end

section
/- Layer 7, plain: the way of a fault through a plan, what it costs; the reference's Correct. -/
set_option linter.unusedVariables false
namespace Go.Proofs.YtekmiepdodaidaaDoor.X
open Go.RowKit Go.Proofs.YtekmiepdodaidaaDoorW.PrintWords Go.Proofs.YtekmiepdodaidaaDoorW.PrintLast Go.Proofs.YtekmiepdodaidaaDoorW.PrintMore

/-- A plan's node. -/
structure PlanIs (n nt : Nat) (plan : List S57) : Prop where
 l1 : 1 ≤ plan.length
 l1000 : plan.length ≤ 1000
 node : ∀ i : Nat, i < plan.length → nodeB n nt plan.length i (rd_T57 plan i) = true
section
variable {n nt : Nat} {plan : List S57} (H : PlanIs n nt plan) (b : List (List Int)) (c : List Int)
include H
end
section
variable {a : List Int} {b : List (List Int)} {c : List Int}
end
end Go.Proofs.YtekmiepdodaidaaDoor.X
end

section
/- Layer 7, plain: the plan of a choice of tests is a correct plan; its mean and its worst. -/
set_option linter.unusedVariables false
namespace Go.Proofs.YtekmiepdodaidaaDoor.X
open Go.RowKit Go.Proofs.YtekmiepdodaidaaDoorW.PrintWords Go.Proofs.YtekmiepdodaidaaDoorW.PrintLast Go.Proofs.YtekmiepdodaidaaDoorW.PrintMore

def memB (s : Int) (f : Nat) : Bool := s.toNat.testBit f
theorem mem_and {s x : Int} (hs : SetB s) (hx : SetB x) (f : Nat) : memB (bAnd s x) f = (memB s f && memB x f) := by
 unfold memB
 rw [bAnd_nat hs hx, Int.toNat_natCast, Nat.testBit_and]
theorem mem_sub {s x : Int} (hs : SetB s) (hx : SetB x) (f : Nat) (hf : f < 64) : memB (bSub s x) f = (memB s f && !memB x f) := by
 obtain ⟨v, rfl⟩ : ∃ v : Nat, s = v := ⟨s.toNat, by unfold SetB at hs; omega⟩
 obtain ⟨y, rfl⟩ : ∃ y : Nat, x = y := ⟨x.toNat, by unfold SetB at hx; omega⟩
 unfold SetB at hs hx
 unfold memB
 rw [bSub_nat (by omega) (by omega), Int.toNat_natCast, Int.toNat_natCast, Int.toNat_natCast, Nat.testBit_and, not_bit (by omega) hf]
theorem filter_two (p q : Nat → Bool) : ∀ l : List Nat, (l.filter p).length = (l.filter fun i => p i && q i).length + (l.filter fun i => p i && !q i).length
 | [] => rfl
 | x :: xs => by
  have ih := filter_two p q xs
  simp only [List.filter_cons]
  cases p x <;> cases q x <;> simp <;> omega
theorem cnt_add {s x : Int} (hs : SetB s) (hx : SetB x) : cntB (bAnd s x).toNat + cntB (bSub s x).toNat = cntB s.toNat := by
 have h := filter_two (fun i => memB s i) (fun i => memB x i) (List.range 10)
 unfold cntB
 have e1 : (List.range 10).filter (fun i => (bAnd s x).toNat.testBit i) = (List.range 10).filter (fun i => memB s i && memB x i) := List.filter_congr (fun i _ => mem_and hs hx i)
 have e2 : (List.range 10).filter (fun i => (bSub s x).toNat.testBit i) = (List.range 10).filter (fun i => memB s i && !memB x i) := List.filter_congr (fun i hi => mem_sub hs hx i (by have := List.mem_range.1 hi; omega))
 rw [e1, e2]
 exact h.symm
theorem pcount_set {s : Int} (hs : SetB s) : pcount s = (cntB s.toNat : Nat) := by
 unfold SetB at hs
 have := pcount_nat s.toNat (by omega)
 rwa [show ((s.toNat : Nat) : Int) = s from by omega] at this
theorem cnt_pos : ∀ v, v < 1024 → v ≠ 0 → 1 ≤ cntB v ∧ cntB v ≤ 10 := by decide +kernel
structure TreeOk (n nt : Nat) (tf : Int → Int) (ones : List Int) (R : Int → Prop) : Prop where
 runs : Runs tf ones R
 lt : ∀ s, R s → s < (2 ^ n : Nat)
 n10 : n ≤ 10
 len : ones.length = nt
section
variable {n nt : Nat} {tf : Int → Int} {ones : List Int} {R : Int → Prop} (H : TreeOk n nt tf ones R)
include H
theorem tree_len (d : Nat) : ∀ (s : Int) (p : Nat), R s → s.toNat ≤ d → 1 ≤ (treeB tf ones s p).length ∧ (treeB tf ones s p).length + 1 = 2 * cntB s.toNat := by
 induction d with
 | zero => intro s p hR h; have hs := (H.runs.set s hR).2; exfalso; omega
 | succ d ih =>
  intro s p hR h
  have hs := H.runs.set s hR
  by_cases h1 : pcount s = 1
  ·have e := pcount_set hs.1
   rw [treeB_one s p h1]; simp only [List.length_cons, List.length_nil]; omega
  ·obtain ⟨t0, t1, t2, t3, t4, t5⟩ := H.runs.test s hR h1
   obtain ⟨⟨a1, a2⟩, b1, b2⟩ := split_parts (H.runs.set s hR).1 t2 t3
   have hadd := cnt_add (H.runs.set s hR).1 t2
   have e1 := ih _ (p + 1) t4 (by omega)
   have e2 := ih _ (p + 1 + (treeB tf ones (bSub s (rd ones (tf s))) (p + 1)).length) t5 (by omega)
   rw [treeB_two H.runs s p hR h1, List.length_cons, List.length_append]
   generalize (treeB tf ones (bAnd s (rd ones (tf s))) (p + 1 + (treeB tf ones (bSub s (rd ones (tf s))) (p + 1)).length)).length = m2 at *
   generalize (treeB tf ones (bSub s (rd ones (tf s))) (p + 1)).length = m1 at *
   generalize cntB (bAnd s (rd ones (tf s))).toNat = u1 at *
   generalize cntB (bSub s (rd ones (tf s))).toNat = u2 at *
   generalize cntB s.toNat = u3 at *
   clear ih hs t2 t3 t4 t5 h1
   omega
theorem tree_pos (s : Int) (p : Nat) (hR : R s) : 1 ≤ (treeB tf ones s p).length ∧ (treeB tf ones s p).length ≤ 19 := by
 have h := tree_len H s.toNat s p hR (Nat.le_refl _)
 have hs := H.runs.set s hR
 have h2 := cnt_pos s.toNat (by have := hs.1; unfold SetB at this; omega) (by omega)
 omega
theorem run_parts (s : Int) (hR : R s) (h1 : pcount s ≠ 1) : 0 ≤ tf s ∧ tf s < (nt : Int) ∧ SetB (rd ones (tf s)) ∧ R (bSub s (rd ones (tf s))) ∧ R (bAnd s (rd ones (tf s))) ∧ (bSub s (rd ones (tf s))).toNat < s.toNat ∧ (bAnd s (rd ones (tf s))).toNat < s.toNat := by
 obtain ⟨t0, t1, t2, t3, t4, t5⟩ := H.runs.test s hR h1
 obtain ⟨⟨a1, a2⟩, b1, b2⟩ := split_parts (H.runs.set s hR).1 t2 t3
 have hl := H.len
 exact ⟨t0, by omega, t2, t4, t5, by omega, by omega⟩
end
end Go.Proofs.YtekmiepdodaidaaDoor.X
end

section
/- Layer 7, plain: a case in which all faults differ; what Best and Worst find is the plan's mean and worst. -/
set_option linter.unusedVariables false
namespace Go.Proofs.YtekmiepdodaidaaDoor.X
open Go.RowKit Go.Proofs.YtekmiepdodaidaaDoorW.PrintWords Go.Proofs.YtekmiepdodaidaaDoorW.PrintLast Go.Proofs.YtekmiepdodaidaaDoorW.PrintMore

/-- A case in which all faults differ. -/
structure Differ (a : List Int) (b : List (List Int)) (c : List Int) : Prop where
 is : CaseIs a b c
 al : alikeL (onesOf b) a.length = []
def SetN (n : Nat) (s : Int) : Prop := SetB s ∧ 1 ≤ s ∧ s < (2 ^ n : Nat)
section
variable {a : List Int} {b : List (List Int)} {c : List Int}
theorem Differ.set (D : Differ a b c) : ∀ x ∈ onesOf b, SetB x := onesOf_set D.is.a10 D.is.rows
/-- A choice of tests that divide is a plan's. -/
theorem tree_ok (D : Differ a b c) {tf : Int → Int} (h : ∀ s, SetN a.length s → pcount s ≠ 1 → 0 ≤ tf s ∧ tf s < (onesOf b).length ∧ rd (onesOf b) (tf s) ∈ onesOf b ∧ splitB s (rd (onesOf b) (tf s)) = true) : TreeOk a.length b.length tf (onesOf b) (SetN a.length) := by
 refine ⟨⟨fun s hs => ⟨hs.1, hs.2.1⟩, fun s hs hp => ?_⟩, fun s hs => hs.2.2, D.is.a10, onesOf_len⟩
 obtain ⟨t0, t1, t2, t3⟩ := h s hs hp
 obtain ⟨⟨p1, p2⟩, q1, q2⟩ := split_parts hs.1 (D.set _ t2) t3
 have hsb := hs.1
 have hlt := hs.2.2
 unfold SetB at hsb
 exact ⟨t0, t1, D.set _ t2, t3, ⟨by unfold SetB; omega, q1, by omega⟩, ⟨by unfold SetB; omega, p1, by omega⟩⟩
theorem all_in (D : Differ a b c) : SetN a.length (allOf a) := by
 obtain ⟨h1, h2⟩ := allOf_set D.is
 refine ⟨h1, h2, ?_⟩
 unfold allOf; omega
end
end Go.Proofs.YtekmiepdodaidaaDoor.X
end

section
/- Layer 7, plain: the greedy choice. -/
set_option linter.unusedVariables false
namespace Go.Proofs.YtekmiepdodaidaaDoor.X
open Go.RowKit Go.Proofs.YtekmiepdodaidaaDoorW.PrintWords Go.Proofs.YtekmiepdodaidaaDoorW.PrintLast Go.Proofs.YtekmiepdodaidaaDoorW.PrintMore

/-- One test more: the best test so far, and its smaller weight. -/
def gStep (a c : List Int) (s k x : Int) (st : Int × Int) : Int × Int :=
 if splitB s x = true then (if st.1 < 0 ∨ wrap64 (mn (wOf a (bAnd s x).toNat) (wOf a (bSub s x).toNat) * rd c st.1) > wrap64 (st.2 * rd c k) then (k, mn (wOf a (bAnd s x).toNat) (wOf a (bSub s x).toNat)) else st) else st
def gFold (a c : List Int) (s : Int) : Int → List Int → Int × Int → Int × Int
 | _, [], st => st
 | k, x :: xs, st => gFold a c s (k + 1) xs (gStep a c s k x st)
/-- The test that Greedy takes for a set. -/
def greedyT (a c ones : List Int) (s : Int) : Int := (gFold a c s 0 ones (-1, 0)).1
theorem gFold_first {a c : List Int} {s : Int} : ∀ (l : List Int) (k : Nat) (st : Int × Int), (st.1 = -1 ∨ 0 ≤ st.1) →
  ((gFold a c s k l st).1 = st.1 ∨ ∃ j, j < l.length ∧ (gFold a c s k l st).1 = (k + j : Nat) ∧ splitB s (l.getD j 0) = true) ∧ ((0 ≤ st.1 ∨ ∃ x ∈ l, splitB s x = true) → 0 ≤ (gFold a c s k l st).1)
 | [], k, st, hb => ⟨.inl rfl, fun h => by
   rcases h with h | ⟨x, hx, _⟩
   ·exact h
   ·cases hx⟩
 | x :: xs, k, st, hb => by
  unfold gFold gStep
  by_cases hx : splitB s x = true
  ·rw [if_pos hx]
   split
   ·obtain ⟨h1, h2⟩ := gFold_first (a := a) (c := c) (s := s) xs (k + 1) ((k : Int), mn (wOf a (bAnd s x).toNat) (wOf a (bSub s x).toNat)) (.inr (by simp))
    refine ⟨.inr ?_, fun _ => h2 (.inl (by simp))⟩
    rcases h1 with h1 | ⟨j, hj, h1, h3⟩
    ·exact ⟨0, by simp, by simpa using h1, by simpa using hx⟩
    ·exact ⟨j + 1, by simp; omega, by rw [show k + (j + 1) = k + 1 + j by omega]; exact h1, by simpa using h3⟩
   ·rename_i ht
    obtain ⟨h1, h2⟩ := gFold_first (a := a) (c := c) (s := s) xs (k + 1) st hb
    refine ⟨?_, fun _ => h2 (.inl ?_)⟩
    ·rcases h1 with h1 | ⟨j, hj, h1, h3⟩
     ·exact .inl h1
     ·exact .inr ⟨j + 1, by simp; omega, by rw [show k + (j + 1) = k + 1 + j by omega]; exact h1, by simpa using h3⟩
    ·rcases hb with hb | hb
     ·exact absurd (.inl (by omega)) ht
     ·exact hb
  ·rw [if_neg hx]
   obtain ⟨h1, h2⟩ := gFold_first (a := a) (c := c) (s := s) xs (k + 1) st hb
   refine ⟨?_, fun h => h2 ?_⟩
   ·rcases h1 with h1 | ⟨j, hj, h1, h3⟩
    ·exact .inl h1
    ·exact .inr ⟨j + 1, by simp; omega, by rw [show k + (j + 1) = k + 1 + j by omega]; exact h1, by simpa using h3⟩
   ·rcases h with h | ⟨y, hy, hs⟩
    ·exact .inl h
    ·rcases List.mem_cons.1 hy with rfl | hy
     ·exact absurd hs hx
     ·exact .inr ⟨y, hy, hs⟩
section
variable {a : List Int} {b : List (List Int)} {c : List Int}
theorem greedy_ok (D : Differ a b c) : TreeOk a.length b.length (greedyT a c (onesOf b)) (onesOf b) (SetN a.length) := by
 refine tree_ok D (fun s hs hp => ?_)
 have hx := some_split D.is.a10 D.set D.al s hs.1 hs.2.1 hs.2.2 hp
 obtain ⟨h1, h2⟩ := gFold_first (a := a) (c := c) (s := s) (onesOf b) 0 (-1, 0) (.inl rfl)
 have h3 := h2 (.inr hx)
 rw [show ((0 : Nat) : Int) = 0 from rfl] at h1 h3
 unfold greedyT
 rcases h1 with h1 | ⟨j, hj, h1, h4⟩
 ·rw [h1] at h3
  exact absurd h3 (by decide)
 ·rw [h1]
  have hr : rd (onesOf b) ((0 + j : Nat) : Int) = (onesOf b).getD j 0 := by simp [rd]
  rw [hr]
  refine ⟨by omega, by omega, ?_, h4⟩
  rw [List.getD_eq_getElem?_getD, List.getElem?_eq_getElem hj]
  exact List.getElem_mem hj
end
end Go.Proofs.YtekmiepdodaidaaDoor.X
end

section
/- Greedy's choice (closure 51), by hand. -/
set_option linter.unusedVariables false
set_option linter.unusedSimpArgs false
namespace Go.Proofs.YtekmiepdodaidaaDoor.X
open Go.RowKit Go.Proofs.YtekmiepdodaidaaDoorW.PrintWords Go.Proofs.YtekmiepdodaidaaDoorW.PrintLast Go.Proofs.YtekmiepdodaidaaDoorW.PrintMore

section
variable {A0 : Option Addr} {c0 : Nat} {a : List Int} {A1 : Option Addr} {c1 : Nat} {b : List (List Int)} {A2 : Option Addr} {c2 : Nat} {c : List Int} {A3 : Option Addr} {c3 : Nat} {al : Int} {gt : Nat} {W : World}
/-- The trial, as it lies. -/
structure TrialAt (W : World) (gt : Nat) (A0 : Option Addr) (c0 : Nat) (a : List Int) (A1 : Option Addr) (c1 : Nat) (b : List (List Int)) (A2 : Option Addr) (c2 : Nat) (c : List Int) (A3 : Option Addr) (c3 : Nat) (al : Int) : Prop where
 bt : W.heap[gt]? = some (.cells #[.slice A0 a.length c0, .slice A1 b.length c1, .slice A2 c.length c2, .slice A3 (onesOf b).length c3, .int .u64 al] 77 (0, 0))
 at_ : CaseAt W A0 c0 a A1 c1 b A2 c2 c
 r3 : Kd.C (Kd.int .u64) W A3 (onesOf b).length (onesOf b)
 n3 : (onesOf b).length ≤ c3
theorem TrialAt.below (h : TrialAt W gt A0 c0 a A1 c1 b A2 c2 c A3 c3 al) {w' : World} (hb : Below W.heap.size W w') : TrialAt w' gt A0 c0 a A1 c1 b A2 c2 c A3 c3 al := ⟨blk_below h.bt hb, h.at_.below hb, Kd.C_below h.r3 hb, h.n3⟩
theorem gFold_cons (a c : List Int) (s k x : Int) (xs : List Int) (st : Int × Int) : gFold a c s k (x :: xs) st = gFold a c s (k + 1) xs (gStep a c s k x st) := rfl
theorem trS (h : TrialAt W gt A0 c0 a A1 c1 b A2 c2 c A3 c3 al) : W.cell? ⟨gt, 0, none⟩ = some (.slice A0 a.length c0) ∧ W.cell? ⟨gt, 1, none⟩ = some (.slice A1 b.length c1) ∧ W.cell? ⟨gt, 2, none⟩ = some (.slice A2 c.length c2) ∧ W.cell? ⟨gt, 3, none⟩ = some (.slice A3 (onesOf b).length c3) ∧ W.cell? ⟨gt, 4, none⟩ = some (.int .u64 al) :=
 ⟨(blk_cell h.bt 0).trans rfl, (blk_cell h.bt 1).trans rfl, (blk_cell h.bt 2).trans rfl, (blk_cell h.bt 3).trans rfl, (blk_cell h.bt 4).trans rfl⟩
theorem weight_n (hc : CaseIs a b c) (h : TrialAt W gt A0 c0 a A1 c1 b A2 c2 c A3 c3 al) (s : Int) (hs : SetB s) :
  Calls Tryd.prog 52 #[.agg #[.slice A0 a.length c0, .slice A1 b.length c1, .slice A2 c.length c2, .slice A3 (onesOf b).length c3, .int .u64 al], .int .u64 s] W fun e w' => e = .returned (.int .i64 (wOf a s.toNat)) ∧ Below W.heap.size W w' := by
 unfold SetB at hs
 have e := tweight_n (b := b) (c := c) hc.a10 hc.wa s.toNat (by omega) 12 (by have := hc.a10; omega) (onesOf b) al
 rw [show ((s.toNat : Nat) : Int) = s from by omega] at e
 exact tests_trial_weight.calls 12 A0 c0 a A1 c1 b A2 c2 c A3 c3 (onesOf b) al s _ W h.at_.r0 h.at_.n0 h.at_.r1 h.at_.n1 h.at_.r2 h.at_.n2 h.r3 h.n3 e
set_option maxHeartbeats 16000000 in
set_option maxRecDepth 100000 in
theorem greedy51 (hc : CaseIs a b c) (hs : ∀ x ∈ onesOf b, SetB x) (h : TrialAt W gt A0 c0 a A1 c1 b A2 c2 c A3 c3 al) (s : Int) (hss : SetB s) :
  Calls Tryd.prog 51 #[.int .u64 s, .pointer (some ⟨gt, 0, none⟩)] W fun e w' => e = .returned (.int .i64 (greedyT a c (onesOf b) s)) ∧ Below W.heap.size W w' := by
 have HC := Aside0.mk hc
 have HT := Aside0.mk h
 have HSS := Aside0.mk hss
 have HSET := Aside0.mk hs
 have hz3 : W.cell? ⟨gt, 3, none⟩ = some (.slice A3 (onesOf b).length c3) := (blk_cell h.bt 3).trans rfl
 have hl : (onesOf b).length ≤ 12 := by rw [onesOf_len]; exact hc.b12
 have hcl : c.length = (onesOf b).length := by rw [onesOf_len]; exact hc.cb
 have HL := Aside0.mk hl
 have HCL := Aside0.mk hcl
 clear hc h hss hs hl hcl
 go_enter Tryd.func51, Tryd.ntmps51
 go_wp2
 clear hz3
 go_loopg [12, 4, 5] (onesOf b).length (fun kq v12 v4 v5 w' => ∃ (k : Nat) (st1 st2 : Int), v12 = .int .i64 k ∧ v4 = .int .i64 st1 ∧ v5 = .int .i64 st2 ∧ Aside0 (kq + k = (onesOf b).length) ∧ Aside0 (Below W.heap.size W w') ∧ Aside0 (gFold a c s k ((onesOf b).drop k) (st1, st2) = gFold a c s 0 (onesOf b) (-1, 0)) ∧ Aside0 (st1 = -1 ∨ (0 ≤ st1 ∧ st1 < (onesOf b).length)))
 case atStart => exact ⟨0, -1, 0, rfl, rfl, rfl, ⟨by omega⟩, ⟨Below.refl _ _⟩, ⟨rfl⟩, ⟨.inl rfl⟩⟩
 case round =>
  obtain ⟨k, st1, st2, rfl, rfl, rfl, HKQ, HBW, HF, HST⟩ := hrel
  obtain ⟨k1, rfl⟩ : ∃ k1, k1 = gk := ⟨_, rfl⟩
  by_cases hk : k < (onesOf b).length
  ·have HTW := Aside0.mk (HT.out.below HBW.out)
   obtain ⟨ad, e1, hx⟩ := Kd.at_int HTW.out.r3 (k : Int) (by omega) (by omega)
   simp only [Int.toNat_natCast] at hx
   obtain ⟨x, hxn⟩ : ∃ x, rd (onesOf b) (k : Int) = x := ⟨_, rfl⟩
   rw [hxn] at hx
   have HX := Aside0.mk hxn
   have HSX := Aside0.mk (show SetB x by
    rw [← hxn]; refine HSET.out _ ?_
    simp only [rd, Int.toNat_natCast, List.getD_eq_getElem?_getD, List.getElem?_eq_getElem hk, Option.getD_some]; exact List.getElem_mem hk)
   have HDR := Aside0.mk (show (onesOf b).drop k = x :: (onesOf b).drop (k + 1) by
    rw [List.drop_eq_getElem_cons hk, ← hxn]; simp [rd, List.getD_eq_getElem?_getD, List.getElem?_eq_getElem hk])
   obtain ⟨sa, hsa⟩ : ∃ sa, Go.bits .and .u64 s x = sa := ⟨_, rfl⟩
   obtain ⟨sb, hsb⟩ : ∃ sb, Go.bits .andNot .u64 s x = sb := ⟨_, rfl⟩
   have HSA := Aside0.mk (show bAnd s x = sa from hsa)
   have HSB := Aside0.mk (show bSub s x = sb from hsb)
   clear hxn
   cases e1
   by_cases hz : sa = 0 ∨ sb = 0
   ·have hnot : splitB s x = false := by unfold splitB; rw [HSA.out, HSB.out]; rcases hz with h0 | h0 <;> simp [h0]
    have HF2 := Aside0.mk (show gFold a c s ((k + 1 : Nat) : Int) ((onesOf b).drop (k + 1)) (st1, st2) = gFold a c s 0 (onesOf b) (-1, 0) by
     have := HF.out
     rw [HDR.out, gFold_cons, show gStep a c s (k : Int) x (st1, st2) = (st1, st2) from by unfold gStep; rw [if_neg (by rw [hnot]; decide)], show (k : Int) + 1 = ((k + 1 : Nat) : Int) from by omega] at this
     exact this)
    clear hnot
    by_cases ha : sa = 0
    ·have ca : (sa == 0) = true := by simp [ha]
     clear ha hz
     go_wp2
     go_roundg (k1 - 1)
     case measure => have := HKQ.out; omega
     case rel => exact ⟨k + 1, st1, st2, by rw [Go.Proofs.YtekmiepdodaidaaDoor.X.w1 k (by have := HL.out; omega)], rfl, rfl, ⟨by have := HKQ.out; omega⟩, HBW, HF2, HST⟩
    ·have ca : (sa == 0) = false := by simp [ha]
     have cb : (sb == 0) = true := by simp; omega
     clear ha hz
     go_wp2
     go_roundg (k1 - 1)
     case measure => have := HKQ.out; omega
     case rel => exact ⟨k + 1, st1, st2, by rw [Go.Proofs.YtekmiepdodaidaaDoor.X.w1 k (by have := HL.out; omega)], rfl, rfl, ⟨by have := HKQ.out; omega⟩, HBW, HF2, HST⟩
   ·have ca : (sa == 0) = false := by simp; omega
    have cb : (sb == 0) = false := by simp; omega
    have hyes : splitB s x = true := by unfold splitB; rw [HSA.out, HSB.out, ca, cb]; rfl
    have HYES := Aside0.mk hyes
    have hparts := split_parts HSS.out HSX.out hyes
    rw [HSA.out, HSB.out] at hparts
    have HPb := Aside0.mk (show SetB sb by have h1 := hparts; have h2 := HSS.out; unfold SetB at h2 ⊢; omega)
    have HPa := Aside0.mk (show SetB sa by have h1 := hparts; have h2 := HSS.out; unfold SetB at h2 ⊢; omega)
    clear hz hyes hparts
    go_upto_region 6 with (fail)
    go_region_held3 (fun w' => w'.cell? ⟨gt, 0, none⟩ = some (.slice A0 a.length c0) ∧ w'.cell? ⟨gt, 1, none⟩ = some (.slice A1 b.length c1) ∧ w'.cell? ⟨gt, 2, none⟩ = some (.slice A2 c.length c2) ∧ w'.cell? ⟨gt, 3, none⟩ = some (.slice (some ad) (onesOf b).length c3) ∧ w'.cell? ⟨gt, 4, none⟩ = some (.int .u64 al)) (first | exact trS (HTW.out.below (below_drew (Below.refl _ _))) | exact trS HT9.out | exact trS HT10.out)
     (first | (go_at_call 52; (with_reducible refine (weight_n HC.out (HTW.out.below (below_drew (Below.refl _ _))) sa HPa.out).mono ?_); rintro e w9 ⟨rfl, hb⟩; (have HT9 := Aside0.mk ((HTW.out.below (below_drew (Below.refl _ _))).below hb)); (have HB9 := Aside0.mk (below_step (below_drew HBW.out) hb)); clear hb) | (go_at_call 52; (with_reducible refine (weight_n HC.out HT9.out sb HPb.out).mono ?_); rintro e w10 ⟨rfl, hb⟩; (have HT10 := Aside0.mk (HT9.out.below hb)); (have HB10 := Aside0.mk (below_step HB9.out hb)); clear hb))
    obtain ⟨nn, hnn⟩ : ∃ nn, mn (wOf a sa.toNat) (wOf a sb.toNat) = nn := ⟨_, rfl⟩
    have hnn2 : (if wOf a sb.toNat < wOf a sa.toNat then wOf a sb.toNat else wOf a sa.toNat) = nn := hnn
    rw [hnn2]
    have HNN := Aside0.mk hnn
    clear hnn hnn2
    have HFold := Aside0.mk (show gFold a c s ((k + 1 : Nat) : Int) ((onesOf b).drop (k + 1)) (if st1 < 0 ∨ wrap64 (nn * rd c st1) > wrap64 (st2 * rd c (k : Int)) then ((k : Int), nn) else (st1, st2)) = gFold a c s 0 (onesOf b) (-1, 0) by
     have := HF.out
     rw [HDR.out, gFold_cons, show gStep a c s (k : Int) x (st1, st2) = (if st1 < 0 ∨ wrap64 (nn * rd c st1) > wrap64 (st2 * rd c (k : Int)) then ((k : Int), nn) else (st1, st2)) from by unfold gStep; rw [if_pos HYES.out, HSA.out, HSB.out, HNN.out], show (k : Int) + 1 = ((k + 1 : Nat) : Int) from by omega] at this
     exact this)
    rcases HST.out with rfl | hst
    ·have HF2 := Aside0.mk (show gFold a c s ((k + 1 : Nat) : Int) ((onesOf b).drop (k + 1)) ((k : Int), nn) = gFold a c s 0 (onesOf b) (-1, 0) by have := HFold.out; rwa [if_pos (.inl (by decide))] at this)
     go_upto_region 7 with (fail)
     go_quiet (fail)
     go_wp2
     go_roundg (k1 - 1)
     case measure => have := HKQ.out; omega
     case rel => exact ⟨k + 1, (k : Int), nn, by rw [Go.Proofs.YtekmiepdodaidaaDoor.X.w1 k (by have := HL.out; omega)], rfl, rfl, ⟨by have := HKQ.out; omega⟩, ⟨pw_below_drewN HB10.out _⟩, HF2, ⟨.inr (by have := hk; omega)⟩⟩
    ·obtain ⟨q, rfl⟩ : ∃ q : Nat, st1 = (q : Int) := ⟨st1.toNat, by omega⟩
     have hq : q < (onesOf b).length := by omega
     have HQ := Aside0.mk hq
     have hqc : q < c.length := by have := HCL.out; omega
     have hkc : k < c.length := by have := HCL.out; omega
     obtain ⟨ad2, e2, hxq⟩ := Kd.at_int HT10.out.at_.r2 (q : Int) (by omega) (by omega)
     obtain ⟨ad3, e3, hxk⟩ := Kd.at_int HT10.out.at_.r2 (k : Int) (by omega) (by omega)
     rw [e2] at e3
     obtain rfl : ad2 = ad3 := Option.some.inj e3
     simp only [Int.toNat_natCast] at hxq hxk
     obtain ⟨cq, hcq⟩ : ∃ cq, rd c (q : Int) = cq := ⟨_, rfl⟩
     obtain ⟨ck, hck⟩ : ∃ ck, rd c (k : Int) = ck := ⟨_, rfl⟩
     rw [hcq] at hxq
     rw [hck] at hxk
     have hf := HFold.out
     rw [hcq, hck] at hf
     obtain ⟨p1, hp1⟩ : ∃ p1, IntKind.i64.wrap (nn * cq) = p1 := ⟨_, rfl⟩
     obtain ⟨p2, hp2⟩ : ∃ p2, IntKind.i64.wrap (st2 * ck) = p2 := ⟨_, rfl⟩
     rw [show wrap64 (nn * cq) = p1 from (IntWalk.i64_left _).symm.trans hp1, show wrap64 (st2 * ck) = p2 from (IntWalk.i64_left _).symm.trans hp2] at hf
     have HF2 := Aside0.mk hf
     have E2 := Aside0.mk e2
     have hn0 : ¬ ((q : Int) < 0) := by omega
     have hd0 : decide ((q : Int) < 0) = false := decide_eq_false hn0
     clear hf hcq hck hst HST HF e3
     cases e2
     by_cases hlt : p2 < p1
     ·have HF3 := Aside0.mk (show gFold a c s ((k + 1 : Nat) : Int) ((onesOf b).drop (k + 1)) ((k : Int), nn) = gFold a c s 0 (onesOf b) (-1, 0) by have := HF2.out; rwa [if_pos (.inr hlt)] at this)
      have hd1 : decide (p2 < p1) = true := decide_eq_true hlt
      clear HF2 HFold
      go_upto_region 7 with (fail)
      go_quiet (fail)
      go_wp2
      go_roundg (k1 - 1)
      case measure => have := HKQ.out; omega
      case rel => exact ⟨k + 1, (k : Int), nn, by rw [Go.Proofs.YtekmiepdodaidaaDoor.X.w1 k (by have := HL.out; omega)], rfl, rfl, ⟨by have := HKQ.out; omega⟩, ⟨pw_below_drewN HB10.out _⟩, HF3, ⟨.inr (by have := hk; omega)⟩⟩
     ·have HF3 := Aside0.mk (show gFold a c s ((k + 1 : Nat) : Int) ((onesOf b).drop (k + 1)) ((q : Int), st2) = gFold a c s 0 (onesOf b) (-1, 0) by have := HF2.out; rwa [if_neg (by rintro (h | h); exact hn0 h; exact hlt h)] at this)
      have hd1 : decide (p2 < p1) = false := decide_eq_false hlt
      clear HF2 HFold
      go_upto_region 7 with (fail)
      go_quiet (fail)
      go_wp2
      go_roundg (k1 - 1)
      case measure => have := HKQ.out; omega
      case rel => exact ⟨k + 1, (q : Int), st2, by rw [Go.Proofs.YtekmiepdodaidaaDoor.X.w1 k (by have := HL.out; omega)], rfl, rfl, ⟨by have := HKQ.out; omega⟩, ⟨pw_below_drewN HB10.out _⟩, HF3, ⟨.inr (by have := HQ.out; omega)⟩⟩
  ·obtain rfl : k = (onesOf b).length := by have := HKQ.out; omega
   have hf := HF.out
   rw [List.drop_length] at hf
   have HG := Aside0.mk (show greedyT a c (onesOf b) s = st1 by unfold greedyT; rw [← hf]; rfl)
   clear hf
   go_wp2
   go_ret
   exact ⟨by rw [HG.out]; rfl, HBW.out⟩
end
end Go.Proofs.YtekmiepdodaidaaDoor.X
end

section
/- (trial).plan's closure add, by hand: the step, with the test that function 51 selects; and plan itself. -/
set_option linter.unusedVariables false
set_option linter.unusedSimpArgs false
namespace Go.Proofs.YtekmiepdodaidaaDoor.X
open Go.RowKit Go.Proofs.YtekmiepdodaidaaDoorW.PrintWords Go.Proofs.YtekmiepdodaidaaDoorW.PrintLast Go.Proofs.YtekmiepdodaidaaDoorW.PrintMore

theorem adds_mk51 {E : PEnv} {W : World} {v : Value} {xs : List S57} {ad : Addr} {k : Nat} {x : Int} (hE : POk E) (h : PW E W v xs) (e1 : E.A3 = some ad) (hx : E.W0.cell? (ad.add k) = some (.int .u64 x)) :
  W.cell? ⟨E.ga, 0, none⟩ = some (.func (.func 68) #[] #[.pointer (some ⟨E.go, 0, none⟩), .pointer (some ⟨E.gs, 0, none⟩), .pointer (some ⟨E.ga, 0, none⟩), .pointer (some ⟨E.gt, 0, none⟩)]) ∧ W.cell? ⟨E.gt, 3, none⟩ = some (.slice (some ad) E.l3.length E.c3) ∧ W.cell? (ad.add k) = some (.int .u64 x) :=
 ⟨(blk_cell h.ba 0).trans rfl, by rw [← e1]; exact (blk_cell h.bt 3).trans rfl, pw_cell_below h.bl hx⟩
set_option maxHeartbeats 8000000 in
set_option maxRecDepth 100000 in
theorem add_step51 (E : PEnv) (tf : Int → Int) (R : Int → Prop) (H : Runs tf E.l3 R) (hF : E.F = 51) (s : Int) (hR : R s) (hp : pcount s ≠ 1) (W : World) (v : Value) (xs : List S57) (hE : POk E) (h : PW E W v xs) (hl : xs.length + 2 * s.toNat ≤ 4096)
  (hT : ∀ W, Below E.W0.heap.size E.W0 W → Calls Tryd.prog 51 #[.int .u64 s, .pointer (some ⟨E.gq, 0, none⟩)] W fun e w' => e = .returned (.int .i64 (tf s)) ∧ Below W.heap.size W w')
  (ih : ∀ u, R u → u < s → ∀ W v xs, PW E W v xs → xs.length + 2 * u.toNat ≤ 4096 → Calls Tryd.prog 68 #[.int .u64 u, .pointer (some ⟨E.go, 0, none⟩), .pointer (some ⟨E.gs, 0, none⟩), .pointer (some ⟨E.ga, 0, none⟩), .pointer (some ⟨E.gt, 0, none⟩)] W (APost E tf u xs)) :
  Calls Tryd.prog 68 #[.int .u64 s, .pointer (some ⟨E.go, 0, none⟩), .pointer (some ⟨E.gs, 0, none⟩), .pointer (some ⟨E.ga, 0, none⟩), .pointer (some ⟨E.gt, 0, none⟩)] W (APost E tf s xs) := by
 have HW := Aside0.mk h
 have HE := Aside0.mk hE
 have HH := Aside0.mk H
 have HR := Aside0.mk hR
 have HS := Aside0.mk (H.set s hR).1
 have HS1 := Aside0.mk (H.set s hR).2
 have HP := Aside0.mk hp
 have HT := Aside0.mk hT
 have IH := Aside0.mk ih
 have HL := Aside0.mk hl
 have c1 : (pcount s == 1) = false := by simp [hp]
 obtain ⟨t0, t1, t2, t3, t4, t5⟩ := H.test s hR hp
 obtain ⟨tk, htk⟩ : ∃ tk : Nat, tf s = tk := ⟨(tf s).toNat, by omega⟩
 obtain ⟨x, hx⟩ : ∃ x, rd E.l3 (tk : Int) = x := ⟨_, rfl⟩
 rw [htk, hx] at t2 t3 t4 t5
 have hparts := split_parts (H.set s hR).1 t2 t3
 have hadd := bSub_add (H.set s hR).1 t2
 obtain ⟨ad, e1, hcx⟩ := Kd.at_int hE.r3 (tk : Int) (by omega) (by omega)
 simp only [Int.toNat_natCast] at hcx
 rw [hx] at hcx
 obtain ⟨sa, hsa⟩ : ∃ sa, Go.bits .and .u64 s x = sa := ⟨_, rfl⟩
 obtain ⟨sb, hsb⟩ : ∃ sb, Go.bits .andNot .u64 s x = sb := ⟨_, rfl⟩
 have HSA := Aside0.mk (show bAnd s x = sa from hsa)
 have HSB := Aside0.mk (show bSub s x = sb from hsb)
 rw [HSA.out, HSB.out] at hparts hadd
 rw [HSA.out] at t5
 rw [HSB.out] at t4
 have HPA := Aside0.mk hparts
 have HAD := Aside0.mk hadd
 have HRA := Aside0.mk t5
 have HRB := Aside0.mk t4
 have HTK := Aside0.mk htk
 have HX := Aside0.mk hx
 have HCX := Aside0.mk hcx
 have E1 := Aside0.mk e1
 have htl : (tk : Int) < E.l3.length := by omega
 have htl' : tk < E.l3.length := by omega
 have hm3 := Kd.C_max hE.r3
 obtain ⟨A, c, rfl⟩ := Kd.R_slice h.rw
 have hcz : W.cell? ⟨E.go, 0, none⟩ = some (.slice A xs.length c) := (blk_cell h.bo 0).trans rfl
 have hcs : W.cell? ⟨E.gs, 0, none⟩ = some (.func (.func 51) #[] #[.pointer (some ⟨E.gq, 0, none⟩)]) := by rw [← hF]; exact (blk_cell h.bs 0).trans rfl
 have hT' := hT
 rw [htk] at hT'
 have HT := Aside0.mk hT'
 clear h H hR hp hT hT' ih hl t0 t1 t2 t3 t4 t5 htk hx hparts hadd hcx e1
 go_enter Tryd.func68, Tryd.ntmps68
 go_upto_region 6 with (first | (go_at_call 69; refine (ones_n _ (u64_id HS.out) _).mono ?_; rintro e w' ⟨rfl, rfl⟩) | (go_at_call 51; refine (HT.out _ HW.out.bl).mono ?_; rintro e w1 ⟨rfl, hb⟩; have HW1 := Aside0.mk (HW.out.below hb); clear hb))
 clear hcz
 have hcz : w1.cell? ⟨E.go, 0, none⟩ = some (.slice A xs.length c) := (blk_cell HW1.out.bo 0).trans rfl
 obtain ⟨x1, hx1⟩ : ∃ x1, x1 = xs ++ [(⟨tk, 0, 0, 0⟩ : S57)] := ⟨_, rfl⟩
 have hlen1 : x1.length = xs.length + 1 := by rw [hx1]; simp
 have HX1 := Aside0.mk hx1
 have HLEN1 := Aside0.mk hlen1
 clear hlen1
 go_upto_region 7 with (at_builtin; go_loud (refine Kd.R_append k57 (w0 := E.W0) E.W0.heap.size rfl (.tmp 26) (.tmp 29) 27 57 (.agg #[(.int .i64 0), (.int .i64 0), (.int .i64 0), (.int .i64 0)]) 32 rfl Tryd.underlying27 info57t rfl (by decide) (by omega) (.slice A xs.length c) xs (⟨tk, 0, 0, 0⟩ : S57) [.int .i64 tk, .int .i64 0, .int .i64 0, .int .i64 0] (fun _ => True) (fun _ => False) rfl rfl ?aP (fun _ hk => hk.elim) (fun _ _ => trivial) ?aO ?aB ?aS ?aL ?_); go_loud (case aP => exact k57_mkM _ _ _ _); go_loud (case aO => exact HW1.out.rw); go_loud (case aB => exact HW1.out.bl); go_loud (case aS => exact HW1.out.bl.size); go_loud (case aL => have h1 := HL.out; omega); intro v1 w2 ho hb hg hat; obtain ⟨A1, n1, rfl⟩ := Kd.R_slice ho; rw [← hx1] at ho; rw [← hx1]; have HPW := Aside0.mk (PW.put HE.out HW1.out ho hb hg); have e1 := blk_grown HW1.out.bo hg (Kd.R_ne HW1.out.rw HW1.out.bo (by decide)); clear hcz; have hcz1 : w2.cell? ⟨E.go, 0, none⟩ = some (.slice A xs.length c) := (blk_cell e1 0).trans rfl; have hfz1 := blk_frozen e1 0; clear ho hb hg hat e1 hx1)
 clear hcz1 hfz1
 generalize (w2.setCell ⟨E.go, 0, none⟩ (.slice A1 x1.length n1)) = w3 at HPW ⊢
 have hS := adds_mk51 HE.out HPW.out E1.out HCX.out
 have HLB := Aside0.mk (show x1.length + 2 * sb.toNat ≤ 4096 by have h1 := HL.out; have h2 := HLEN1.out; have h3 := HPA.out; have h4 := HAD.out; omega)
 have HDW := Aside0.mk (HPW.out.below (below_drew (Below.refl _ _)))
 go_region_held3 (fun w' => w'.cell? ⟨E.ga, 0, none⟩ = some (.func (.func 68) #[] #[.pointer (some ⟨E.go, 0, none⟩), .pointer (some ⟨E.gs, 0, none⟩), .pointer (some ⟨E.ga, 0, none⟩), .pointer (some ⟨E.gt, 0, none⟩)]) ∧ w'.cell? ⟨E.gt, 3, none⟩ = some (.slice (some ad) E.l3.length E.c3) ∧ w'.cell? (ad.add tk) = some (.int .u64 x)) (first | exact hS | exact adds_mk51 HE.out HDW.out E1.out HCX.out | exact adds_mk51 HE.out HP9.out E1.out HCX.out)
  ((go_at_call 68; (with_reducible refine (IH.out sb ?side1 ?side2 _ (.slice A1 x1.length n1) x1 ?side3 ?side4).mono ?_); (case side1 => exact HRB.out); (case side2 => exact HPA.out.2.2); (case side3 => exact HDW.out); (case side4 => exact HLB.out); rintro e w9 ⟨v9, rfl, hp9⟩; have HP9 := Aside0.mk hp9; clear hp9))
 obtain ⟨zs, hzs⟩ : ∃ zs, zs = treeB tf E.l3 sb x1.length := ⟨_, rfl⟩
 rw [← hzs] at HP9
 have HZS := Aside0.mk hzs
 have hzl : zs.length + 1 ≤ 2 * sb.toNat := by rw [hzs]; exact treeB_len HH.out sb.toNat sb x1.length HRB.out (Nat.le_refl _)
 obtain ⟨x2, hx2⟩ : ∃ x2, x2 = x1 ++ zs := ⟨_, rfl⟩
 rw [← hx2] at HP9
 have HX2 := Aside0.mk hx2
 have HLEN2 := Aside0.mk (show x2.length = x1.length + zs.length by rw [hx2]; simp)
 have HLA := Aside0.mk (show x2.length + 2 * sa.toNat ≤ 4096 by have h1 := HL.out; have h2 := HLEN1.out; have h3 := HPA.out; have h4 := HAD.out; have h5 := HLEN2.out; omega)
 have HZL := Aside0.mk hzl
 clear hzs hx2 hzl
 obtain ⟨A2, n2, rfl⟩ := Kd.R_slice HP9.out.rw
 go_wp2
 clear hS
 have hS := adds_mk51 HE.out HP9.out E1.out HCX.out
 have HDV := Aside0.mk (HP9.out.below (below_drew (Below.refl _ _)))
 go_region_held3 (fun w' => w'.cell? ⟨E.ga, 0, none⟩ = some (.func (.func 68) #[] #[.pointer (some ⟨E.go, 0, none⟩), .pointer (some ⟨E.gs, 0, none⟩), .pointer (some ⟨E.ga, 0, none⟩), .pointer (some ⟨E.gt, 0, none⟩)]) ∧ w'.cell? ⟨E.gt, 3, none⟩ = some (.slice (some ad) E.l3.length E.c3) ∧ w'.cell? (ad.add tk) = some (.int .u64 x)) (first | exact hS | exact adds_mk51 HE.out HDV.out E1.out HCX.out | exact adds_mk51 HE.out HP10.out E1.out HCX.out)
  ((go_at_call 68; (with_reducible refine (IH.out sa ?side1 ?side2 _ (.slice A2 x2.length n2) x2 ?side3 ?side4).mono ?_); (case side1 => exact HRA.out); (case side2 => exact HPA.out.1.2); (case side3 => exact HDV.out); (case side4 => exact HLA.out); rintro e w10 ⟨v10, rfl, hp10⟩; have HP10 := Aside0.mk hp10; clear hp10))
 obtain ⟨os, hos⟩ : ∃ os, os = treeB tf E.l3 sa x2.length := ⟨_, rfl⟩
 rw [← hos] at HP10
 have HOS := Aside0.mk hos
 obtain ⟨x3, hx3⟩ : ∃ x3, x3 = x2 ++ os := ⟨_, rfl⟩
 rw [← hx3] at HP10
 have HX3 := Aside0.mk hx3
 have hl3 : xs.length < x3.length := by have h1 := HLEN1.out; have h2 := HLEN2.out; rw [hx3]; simp; omega
 have HL3 := Aside0.mk hl3
 obtain ⟨g, n3, rfl, hgb, hgl, cells, hgc⟩ := Kd.R_form HP10.out.rw (by omega)
 have hget : x3.getD xs.length z57 = (⟨tk, 0, 0, 0⟩ : S57) := by
  rw [hx3, HX2.out, HX1.out]; simp [List.getD_eq_getElem?_getD, List.append_assoc]
 obtain ⟨⟨hc2, hc3, hf2, hf3⟩, hRN, hGN⟩ := node_put HP10.out.rw hl3 (⟨tk, 0, 0, 0⟩ : S57) hget (x1.length : Nat) (x2.length : Nat)
 have hfin : x3.set xs.length ⟨tk, 0, ((x1.length : Nat) : Int), ((x2.length : Nat) : Int)⟩ = xs ++ treeB tf E.l3 s xs.length := by
  have h1 := HLEN1.out
  have h2 := HLEN2.out
  rw [treeB_two HH.out s xs.length HR.out HP.out, HTK.out, HX.out, HSA.out, HSB.out, show xs.length + 1 = x1.length by omega, ← HZS.out, show x1.length + zs.length = x2.length by omega, ← hos, hx3, HX2.out, HX1.out]
  simp [List.append_assoc]
 rw [hfin] at hRN
 have HPN := Aside0.mk (PW.node HE.out HP10.out (g := g) rfl hRN hGN)
 have HRN := Aside0.mk hRN
 have HGN := Aside0.mk hGN
 have hcz : w10.cell? ⟨E.go, 0, none⟩ = some (.slice (some ⟨g, 0, none⟩) x3.length n3) := (blk_cell HP10.out.bo 0).trans rfl
 have hgo : E.go ≠ g := fun e => by have := HP10.out.bo; rw [e, hgc] at this; cases this
 have hli : (0 : Int) ≤ (xs.length : Int) := by omega
 have hli3 : (xs.length : Int) < (x3.length : Int) := by omega
 clear hos hx3 hS hRN hGN hget hfin
 go_wp2
 go_region_held3 (fun w' => w'.cell? ⟨E.go, 0, none⟩ = some (.slice (some ⟨g, 0, none⟩) x3.length n3)) (first | exact hcz | exact keepGo hcz hgo | exact keepGo2 hcz hgo)
  (fail)
 go_wp2
 go_ret
 exact ⟨_, rfl, HPN.out.below (below_drew (Below.refl _ _))⟩
theorem add_all51 (E : PEnv) (tf : Int → Int) (R : Int → Prop) (H : Runs tf E.l3 R) (hF : E.F = 51) (hE : POk E)
  (hT : ∀ W, Below E.W0.heap.size E.W0 W → ∀ s, R s → pcount s ≠ 1 → Calls Tryd.prog 51 #[.int .u64 s, .pointer (some ⟨E.gq, 0, none⟩)] W fun e w' => e = .returned (.int .i64 (tf s)) ∧ Below W.heap.size W w') (d : Nat) :
  ∀ u, R u → u.toNat ≤ d → ∀ W v xs, PW E W v xs → xs.length + 2 * u.toNat ≤ 4096 → Calls Tryd.prog 68 #[.int .u64 u, .pointer (some ⟨E.go, 0, none⟩), .pointer (some ⟨E.gs, 0, none⟩), .pointer (some ⟨E.ga, 0, none⟩), .pointer (some ⟨E.gt, 0, none⟩)] W (APost E tf u xs) := by
 induction d with
 | zero => intro u h1 h2; have h3 := H.set u h1; omega
 | succ d ih =>
  intro u h1 h2 W v xs h hl
  have h3 := H.set u h1
  by_cases hp : pcount u = 1
  ·exact add_one E tf u h3.1 h3.2 hp W v xs hE h (by omega)
  ·exact add_step51 E tf R H hF u h1 hp W v xs hE h hl (fun W hb => hT W hb u h1 hp) (fun q q1 q2 W v xs hq => by
    have h4 := H.set q q1
    exact ih q q1 (by omega) W v xs hq)
set_option maxHeartbeats 8000000 in
set_option maxRecDepth 100000 in
theorem plan51 (A0 : Option Addr) (c0 : Nat) (l0 : List Int) (A1 : Option Addr) (c1 : Nat) (l1 : List (List Int)) (A2 : Option Addr) (c2 : Nat) (l2 : List Int) (A3 : Option Addr) (c3 : Nat) (l3 : List Int) (al : Int) (gq : Nat) (tf : Int → Int) (R : Int → Prop) (W : World)
  (r3 : Kd.C (Kd.int .u64) W A3 l3.length l3) (n3 : l3.length ≤ c3) (hTab : Tab W) (H : Runs tf l3 R) (hR : R al)
  (hT : ∀ W', Below W.heap.size W W' → ∀ s, R s → pcount s ≠ 1 → Calls Tryd.prog 51 #[.int .u64 s, .pointer (some ⟨gq, 0, none⟩)] W' fun e w' => e = .returned (.int .i64 (tf s)) ∧ Below W'.heap.size W' w') :
  Calls Tryd.prog 50 #[.agg #[.slice A0 l0.length c0, .slice A1 l1.length c1, .slice A2 l2.length c2, .slice A3 l3.length c3, .int .u64 al], .func (.func 51) #[] #[.pointer (some ⟨gq, 0, none⟩)]] W (PPost (treeB tf l3 al 0) W) := by
 have hE : POk ⟨W, W.heap.size + 1 + 1, W.heap.size + 1, W.heap.size + 1 + 1 + 1, W.heap.size, gq, A0, c0, l0, A1, c1, l1, A2, c2, l2, A3, c3, l3, al, 51⟩ := ⟨r3, n3, (by show W.heap.size ≤ W.heap.size + 1 + 1; omega), hTab⟩
 have hal := H.set al hR
 have hal2 : 2 * al.toNat ≤ 4096 := by have h1 := hal.1; unfold SetB at h1; omega
 have hA := add_all51 ⟨W, W.heap.size + 1 + 1, W.heap.size + 1, W.heap.size + 1 + 1 + 1, W.heap.size, gq, A0, c0, l0, A1, c1, l1, A2, c2, l2, A3, c3, l3, al, 51⟩ tf R H rfl hE hT al.toNat al hR (Nat.le_refl _) _ _ [] (PW.start ⟨W, W.heap.size + 1 + 1, W.heap.size + 1, W.heap.size + 1 + 1 + 1, W.heap.size, gq, A0, c0, l0, A1, c1, l1, A2, c2, l2, A3, c3, l3, al, 51⟩ rfl rfl rfl rfl) (by simpa using hal2)
 have HA := Aside0.mk (hA.mono (R' := AllPost (treeB tf l3 al 0) W) (fun e w' h => all_post h))
 clear hA
 clear r3 hTab H hR hT hE hal hal2
 go_enter Tryd.func50, Tryd.ntmps50
 go_wp2_with (go_at_call 68; refine (HA.out).mono ?_; rintro e w9 ⟨v9, rfl, hp0, hp1, hp2⟩; have HP9 := Aside0.mk (And.intro hp1 hp2); have hcz : w9.cell? ⟨W.heap.size + 1 + 1, 0, none⟩ = some v9 := (blk_cell hp0 0).trans rfl; clear hp0 hp1 hp2)
 go_ret
 exact ⟨_, rfl, HP9.out.1, HP9.out.2⟩
end Go.Proofs.YtekmiepdodaidaaDoor.X
end
