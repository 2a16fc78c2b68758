/- SerialLets: Lets and Weights return what the reference reckons, or the errors of the document. -/
import Derived.Test.YtdkncfmlehcjmaaTX12
import Derived.Test.YtdkncfmlehcjmaaTS12
set_option linter.unusedVariables false
set_option linter.unusedSimpArgs false
set_option linter.unusedSectionVars false
namespace Go.Proofs.Ytdkncfmlehcjmaa.X
open Go.RowKit Go.Proofs.YtdkncfmlehcjmaaW.PrintWords
section
variable {n M : Nat} (hn : n ≤ 24) (h2 : 2 ≤ M) (h97 : M ≤ 97) (T : List Bool) (hI : Inv n M T n 0)
include hn h2 h97 hI
theorem row_w (i : Nat) (hi : i < n) : wrap64 (wrap64 ((n : Int) - 1) - (i : Int)) = ((n - 1 - i : Nat) : Int) := by
  rw [w64 (x := (n : Int) - 1) (by omega) (by omega), w64 (by omega) (by omega)]; omega
theorem l4_head (x11 : List Int) (i v : Nat) (hi : i < n) (hv : v < M) (k : Nat) : tickingref11_Weights.l4 (k + 1) n M T x11 i v = if ent T M (n - 1 - i) v = true then (if (i : Int) = 0 then (tickingref11_Weights.j5 k n M T x11 i v (!true)) else (if 0 ≤ (wrap64 ((i : Int) - 1)) then (if (wrap64 ((i : Int) - 1)) < (x11.length : Int) then ((tickingref11_Gcd.f k (mx (wrap64 ((v : Int) - (rd x11 (wrap64 ((i : Int) - 1))))) (wrap64 ((rd x11 (wrap64 ((i : Int) - 1))) - v))) M).bind fun t650 => (tickingref11_Weights.j5 k n M T x11 i v (!(t650 == 1)))) else (none)) else (none))) else (tickingref11_Weights.j5 k n M T x11 i v (!false)) := by
  have hvM : (v : Int) < (M : Int) := by omega
  have hr := row_w hn h2 h97 T hI i hi
  have hix := idx_w hn h2 h97 (n - 1 - i) v (by omega) (by omega)
  have hlt : (((n - 1 - i) * M + v : Nat) : Int) < (T.length : Int) := by rw [hI.len]; exact Int.ofNat_lt.2 (idx_lt (by omega) hv)
  simp only [tickingref11_Weights.l4]
  rw [if_pos hvM, hr, hix, if_pos (Int.natCast_nonneg _), if_pos hlt]; rfl
theorem j5_next (x11 : List Int) (i v : Nat) (hv : v < M) (res : List Int × Bool) (h : Ev (fun k => tickingref11_Weights.l4 k n M T x11 i ((v + 1 : Nat) : Int)) res) : Ev (fun k => tickingref11_Weights.j5 k n M T x11 i v true) res :=
  Ev.step (fun k => by simp only [tickingref11_Weights.j5, if_true]; rw [wrap_succ v (by omega)]) h
theorem j5_take (x11 : List Int) (hx : x11.length ≤ 24) (i v : Nat) (hi : i < n) (hv : v < M) (res : List Int × Bool) (h : Ev (fun k => tickingref11_Weights.l3 k n M T (x11 ++ [(v : Int)]) ((i + 1 : Nat) : Int)) res) : Ev (fun k => tickingref11_Weights.j5 k n M T x11 i v false) res := by
  have hne : ¬ (v : Int) = (M : Int) := by omega
  have h44 : x11.length < 17592186044416 := by omega
  have hw := wrap_succ i (by omega)
  exact Ev.step (fun k => by simp only [tickingref11_Weights.j5, Bool.false_eq_true, if_false]; rw [if_neg hne, if_pos h44, hw]) h
theorem l4_skip (x11 : List Int) (i v : Nat) (hi : i < n) (hv : v < M) (he : ent T M (n - 1 - i) v = false) (res : List Int × Bool) (h : Ev (fun k => tickingref11_Weights.l4 k n M T x11 i ((v + 1 : Nat) : Int)) res) : Ev (fun k => tickingref11_Weights.l4 k n M T x11 i v) res := by
  refine Ev.step (fun k => ?_) (j5_next hn h2 h97 T hI x11 i v hv res h)
  rw [l4_head hn h2 h97 T hI x11 i v hi hv k, he]; rfl
theorem l4_take0 (v : Nat) (hi : 0 < n) (hv : v < M) (he : ent T M (n - 1) v = true) (res : List Int × Bool) (h : Ev (fun k => tickingref11_Weights.l3 k n M T [(v : Int)] 1) res) : Ev (fun k => tickingref11_Weights.l4 k n M T [] 0 v) res := by
  refine Ev.step (fun k => ?_) (j5_take hn h2 h97 T hI [] (by simp) 0 v hi hv res h)
  have := l4_head hn h2 h97 T hI [] 0 v hi hv k
  rw [show n - 1 - 0 = n - 1 by omega, he] at this
  exact this
theorem l4_gcd (x11 : List Int) (i v last : Nat) (hi : i + 1 < n) (hx : x11.length = i + 1) (hl : rd x11 (i : Int) = last) (hlast : last ≤ 1000) (hv : v < M) (he : ent T M (n - 1 - (i + 1)) v = true) (res : List Int × Bool)
    (h : if Int.gcd ((v : Int) - (last : Int)) (M : Int) = 1 then Ev (fun k => tickingref11_Weights.l3 k n M T (x11 ++ [(v : Int)]) ((i + 1 + 1 : Nat) : Int)) res else Ev (fun k => tickingref11_Weights.l4 k n M T x11 ((i + 1 : Nat) : Int) ((v + 1 : Nat) : Int)) res) : Ev (fun k => tickingref11_Weights.l4 k n M T x11 ((i + 1 : Nat) : Int) v) res := by
  have hmx := mx_gcd hn h2 h97 v last (by omega) hlast
  have hge := ev_Gcd (((v : Int) - (last : Int)).natAbs : Int) (M : Int) (Int.natCast_nonneg _) (Int.natCast_nonneg _)
  rw [gcd_abs hn h2 h97] at hge
  have hw := wrap_pred i (by omega)
  have hp : (i : Int) < (x11.length : Int) := by rw [hx]; omega
  have hi0 : ¬ ((i + 1 : Nat) : Int) = 0 := by omega
  refine Ev.step (f := fun k => (tickingref11_Gcd.f k (((v : Int) - (last : Int)).natAbs : Int) M).bind fun t650 => tickingref11_Weights.j5 k n M T x11 ((i + 1 : Nat) : Int) v (!(t650 == 1))) (fun k => ?_) (Ev.bind hge ?_)
  · rw [l4_head hn h2 h97 T hI x11 (i + 1) v hi hv k, if_pos he, if_neg hi0, hw, hl, hmx, if_pos (Int.natCast_nonneg _), if_pos hp]
  · by_cases hg : Int.gcd ((v : Int) - (last : Int)) (M : Int) = 1
    · rw [if_pos hg] at h
      rw [hg]
      exact j5_take hn h2 h97 T hI x11 (by omega) (i + 1) v hi hv res h
    · rw [if_neg hg] at h
      rw [show (((Int.gcd ((v : Int) - (last : Int)) (M : Int) : Nat) : Int) == 1) = false from beq_eq_false_iff_ne.2 (fun e => hg (by omega))]
      exact j5_next hn h2 h97 T hI x11 (i + 1) v hv res h
theorem ev_l3_good (hg : good n (M : Int)) (hn1 : 1 ≤ n) (d : Nat) : ∀ i : Nat, i + d = n → Ev (fun k => tickingref11_Weights.l3 k n M T (pat i) i) (pat n, true) := by
  have hd : ∀ i v, i < n → v < M → G M (n - 1 - i) v (ent T M (n - 1 - i) v) := fun i v hi hv => hI.done (n - 1 - i) v (by omega) hv (by omega)
  induction d with
  | zero =>
    intro i hi
    obtain rfl : i = n := by omega
    refine Ev.step (f := fun _ => some (pat i, true)) (fun k => ?_) (Ev.now _)
    simp only [tickingref11_Weights.l3]; rw [if_neg (by omega)]
  | succ d ih =>
    intro i hi
    have hI3 := ih (i + 1) (by omega)
    rw [pat_succ] at hI3
    have hlt : (i : Int) < (n : Int) := by omega
    have e0 : ent T M (n - 1 - i) 0 = false := (hd i 0 (by omega) (by omega)).1 rfl
    have e1 : ent T M (n - 1 - i) 1 = true := by
      have h := hd i 1 (by omega) (by omega)
      by_cases hM : M % 2 = 1
      · exact h.2.1 hM (.inl rfl)
      · unfold good at hg
        exact h.2.2.2.1 (by omega) (by omega) rfl
    refine Ev.step (fun k => ?_) (l4_skip hn h2 h97 T hI (pat i) i 0 (by omega) (by omega) e0 (pat n, true) ?_)
    · simp only [tickingref11_Weights.l3]; rw [if_pos hlt]; rfl
    · cases i with
      | zero => exact l4_take0 hn h2 h97 T hI 1 (by omega) (by omega) e1 _ hI3
      | succ i =>
        have hM : M % 2 = 1 := by unfold good at hg; omega
        have e2 : ent T M (n - 1 - (i + 1)) 2 = true := (hd (i + 1) 2 (by omega) (by omega)).2.1 hM (.inr rfl)
        have hrd := pat_rd (i + 1) i (by omega)
        have hpl := pat_len (i + 1)
        by_cases hp : i % 2 = 0
        · have a1 : patA i = 1 := by unfold patA; rw [if_pos hp]
          have a2 : patA (i + 1) = 2 := by unfold patA; rw [if_neg (by omega)]
          rw [a2] at hI3
          rw [a1] at hrd
          refine l4_gcd hn h2 h97 T hI (pat (i + 1)) i 1 1 (by omega) hpl hrd (by omega) (by omega) e1 _ ?_
          rw [if_neg (by rw [show ((1 : Nat) : Int) - ((1 : Nat) : Int) = 0 from rfl, Int.gcd_zero_left]; simp; omega)]
          refine l4_gcd hn h2 h97 T hI (pat (i + 1)) i 2 1 (by omega) hpl hrd (by omega) (by omega) e2 _ ?_
          rw [if_pos (show Int.gcd (((2 : Nat) : Int) - ((1 : Nat) : Int)) (M : Int) = 1 from Int.one_gcd)]
          exact hI3
        · have a1 : patA i = 2 := by unfold patA; rw [if_neg hp]
          have a2 : patA (i + 1) = 1 := by unfold patA; rw [if_pos (by omega)]
          rw [a2] at hI3
          rw [a1] at hrd
          refine l4_gcd hn h2 h97 T hI (pat (i + 1)) i 1 2 (by omega) hpl hrd (by omega) (by omega) e1 _ ?_
          rw [if_pos (show Int.gcd (((1 : Nat) : Int) - ((2 : Nat) : Int)) (M : Int) = 1 by rw [show ((1 : Nat) : Int) - ((2 : Nat) : Int) = -1 from rfl, Int.neg_gcd]; exact Int.one_gcd)]
          exact hI3
theorem ev_l4_none (hM : M % 2 = 0) (hn2 : 2 ≤ n) (d : Nat) : ∀ v : Nat, v + d = M → Ev (fun k => tickingref11_Weights.l4 k n M T [] 0 v) ([], false) := by
  induction d with
  | zero =>
    intro v hv
    obtain rfl : v = M := by omega
    refine Ev.step (f := fun k => tickingref11_Weights.j5 k n v T [] 0 v false) (fun k => ?_) (Ev.step (f := fun _ => some ([], false)) (fun k => ?_) (Ev.now _))
    · simp only [tickingref11_Weights.l4]; rw [if_neg (by omega)]
    · simp [tickingref11_Weights.j5]
  | succ d ih =>
    intro v hv
    have he : ent T M (n - 1 - 0) v = false := (hI.done (n - 1 - 0) v (by omega) (by omega) (by omega)).2.2.1 hM (by omega)
    exact l4_skip hn h2 h97 T hI [] 0 v (by omega) (by omega) he _ (ih (v + 1) (by omega))
end
theorem inv_start (n M : Nat) : Inv n M (List.replicate (n * M) false) 0 0 := by
  refine ⟨by simp, fun r' v' _ _ h => by omega, fun r' v' hr' hv' _ => ?_⟩
  unfold ent rdOf
  simp only [Int.toNat_natCast, List.getD_eq_getElem?_getD, List.getElem?_replicate]
  split <;> rfl
theorem ev_rWeights (n M : Nat) (hn1 : 1 ≤ n) (hn : n ≤ 24) (h2 : 2 ≤ M) (h97 : M ≤ 97) : Ev (fun k => tickingref11_Weights.f k n M) (if M % 2 = 0 ∧ 1 < n then ([], false) else (pat n, true)) := by
  have hb := prod_bd hn h2 h97 n (Nat.le_refl _)
  have hw : wrap64 ((n : Int) * (M : Int)) = ((n * M : Nat) : Int) := by
    rw [← Int.natCast_mul, w64 (by omega) (by omega)]
  refine Ev.congr (f := fun k => tickingref11_Weights.l0 k n M (List.replicate (n * M) false) 0) (fun k => ?_) (ev_wl0 hn h2 h97 _ (fun T hI => ?_) n 0 _ (by omega) (inv_start n M))
  · unfold tickingref11_Weights.f
    rw [hw, Int.toNat_natCast, if_pos (Int.natCast_nonneg _), if_pos (Nat.le_trans hb (by decide))]
  · by_cases hc : M % 2 = 0 ∧ 1 < n
    · rw [if_pos hc]
      refine Ev.step (fun k => ?_) (ev_l4_none hn h2 h97 T hI hc.1 (by omega) M 0 (by omega))
      simp only [tickingref11_Weights.l3]; rw [if_pos (by omega)]; rfl
    · rw [if_neg hc]
      exact ev_l3_good hn h2 h97 T hI (by unfold good; omega) hn1 n 0 (by omega)

/-! ### The law -/
theorem wts_nil (m : Int) : wtsB [] m = (decide (2 ≤ m) && decide (m ≤ 97)) := by unfold wtsB digs; simp
theorem ev_lets_j2 (m n : Int) (z : Bool) (hz : z = false → (1 ≤ n ∧ n ≤ 24) ∧ (2 ≤ m ∧ m ≤ 97)) (hn : z = true → ¬ ((1 ≤ n ∧ n ≤ 24) ∧ (2 ≤ m ∧ m ≤ 97))) (l : List Int) (e : Int) (hf : serial_Weights.f n m = some (l, e)) : Ev (fun k => tickinglaw11_SerialLets.j2 k m n l e z) true := by
  unfold serial_Weights.f at hf
  have hf := Option.some.inj hf
  cases z with
  | true =>
    rw [if_pos (hn rfl)] at hf
    obtain ⟨rfl, rfl⟩ := Prod.mk.inj hf
    refine Ev.step (f := fun k => (tickinglaw11_awake.f k).bind fun t => some t) (fun k => ?_) (Ev.bind ev_awake (Ev.now true))
    simp [tickinglaw11_SerialLets.j2]
  | false =>
    have h := hz rfl
    rw [if_neg (fun c => c h)] at hf
    obtain ⟨a, rfl⟩ : ∃ a : Nat, n = a := ⟨n.toNat, by omega⟩
    obtain ⟨M, rfl⟩ : ∃ M : Nat, m = M := ⟨m.toNat, by omega⟩
    have hr := ev_rWeights a M (by omega) (by omega) (by omega) (by omega)
    refine Ev.step (fun k => by simp only [tickinglaw11_SerialLets.j2, Bool.false_eq_true, if_false]; rfl) (Ev.bind hr ?_)
    by_cases hc : M % 2 = 0 ∧ 1 < a
    · rw [if_pos (by omega)] at hf
      obtain ⟨rfl, rfl⟩ := Prod.mk.inj hf
      rw [if_pos hc]
      simp; exact ev_awake
    · rw [if_neg (by omega)] at hf
      obtain ⟨rfl, rfl⟩ := Prod.mk.inj hf
      rw [if_neg hc]
      simp only [if_true, Int.toNat_natCast]
      refine Ev.bind (ev_ints _ _ (by rw [pat_len]; omega)) ?_
      simp; exact ev_awake
theorem ev_lets_j1 (m n : Int) (l : List Int) (e : Int) (hf : serial_Weights.f n m = some (l, e)) : Ev (fun k => tickinglaw11_SerialLets.j1 k m n l e) true := by
  have hW := ev_Weighted [] m (by simp)
  rw [wts_nil] at hW
  refine Ev.step (fun k => by simp only [tickinglaw11_SerialLets.j1]; rfl) (Ev.bind hW ?_)
  by_cases h : 2 ≤ m ∧ m ≤ 97
  · simp only [h.1, h.2, decide_true, Bool.and_self, if_true]
    by_cases h1 : n < 1
    · simp only [h1, if_true]; exact ev_lets_j2 m n true (by simp) (fun _ => by omega) l e hf
    · simp only [h1, if_false]
      refine ev_lets_j2 m n _ (fun hz => ?_) (fun hz => ?_) l e hf
      · have := of_decide_eq_false hz; omega
      · have := of_decide_eq_true hz; omega
  · have : (decide (2 ≤ m) && decide (m ≤ 97)) = false := by simp only [Bool.and_eq_false_iff, decide_eq_false_iff_not]; omega
    rw [this]
    simp only [Bool.false_eq_true, if_false]
    exact ev_lets_j2 m n true (by simp) (fun _ => by omega) l e hf
theorem ev_SerialLets (l0 : List Int) (m h n : Int) : Ev (fun k => tickinglaw11_SerialLets.f k l0 m h n) true := by
  have hl : ∀ l, tickinglaw11_list.f l = some (l.take 25) := fun _ => rfl
  have hw : (l0.take 25).length ≤ 25 := by simp; omega
  obtain ⟨wl, we, hf⟩ : ∃ a b, serial_Weights.f n m = some (a, b) := ⟨_, _, rfl⟩
  have hj1 := ev_lets_j1 m n wl we hf
  unfold tickinglaw11_SerialLets.f
  simp only [hl, Option.bind_some]
  generalize l0.take 25 = w at *
  have no : ∀ z, (z = true → ¬ (wtsB w m = true ∧ (0 ≤ h ∧ h ≤ 3))) → (z = false → (wtsB w m = true ∧ (0 ≤ h ∧ h ≤ 3))) → ∀ a b, Ev (fun k => serial_Lets.f k w m h) (a, b) → Ev (fun k => tickinglaw11_SerialLets.j0 k m w h n a b wl we z) true := by
    intro z hz hz2 a b hab
    cases z with
    | true =>
      obtain ⟨rfl, rfl⟩ := Prod.mk.inj (Ev.uniq hab (ev_sLets_no (hz rfl)))
      refine Ev.step (fun k => ?_) hj1
      simp [tickinglaw11_SerialLets.j0]
    | false =>
      obtain ⟨hW, hh⟩ := hz2 rfl
      obtain ⟨p, q, r, s⟩ := wts_of hW
      obtain ⟨rfl, rfl⟩ := Prod.mk.inj (Ev.uniq hab (ev_sLets_yes hW hh))
      have hr := ev_rLets p q r s h hh
      have hle := letN_len w m h (w.length - offH h)
      refine Ev.step (fun k => by simp only [tickinglaw11_SerialLets.j0, Bool.false_eq_true, if_false]; rfl) (Ev.bind hr (Ev.bind (ev_ints (letN w m h (w.length - offH h)) (letN w m h (w.length - offH h)) (by omega)) ?_))
      simp only [decide_true, if_true]
      exact hj1
  obtain ⟨a, b, hab⟩ : ∃ a b, Ev (fun k => serial_Lets.f k w m h) (a, b) := by
    by_cases c : wtsB w m = true ∧ (0 ≤ h ∧ h ≤ 3)
    · exact ⟨_, _, ev_sLets_yes c.1 c.2⟩
    · exact ⟨_, _, ev_sLets_no c⟩
  refine Ev.bind hab ?_
  simp only [hf, Option.bind_some]
  refine Ev.bind (ev_Weighted w m (by omega)) ?_
  cases hW : wtsB w m with
  | false =>
    simp only [Bool.false_eq_true, if_false]
    exact no true (fun _ c => by rw [hW] at c; cases c.1) (by simp) a b hab
  | true =>
    simp only [if_true]
    by_cases h1 : h < 0
    · simp only [h1, if_true]; exact no true (fun _ c => by omega) (by simp) a b hab
    · simp only [h1, if_false]
      refine no _ (fun hz c => ?_) (fun hz => ?_) a b hab
      · have := of_decide_eq_true hz; omega
      · have := of_decide_eq_false hz; exact ⟨hW, by omega, by omega⟩
end Go.Proofs.Ytdkncfmlehcjmaa.X
namespace Go.Proofs.Ytdkncfmlehcjmaa.Pure
open Go.Proofs.Ytdkncfmlehcjmaa.X Go.Proofs.YtdkncfmlehcjmaaW.PrintWords
theorem SerialLets : ∀ (l0 : List Int) (a1 : Int) (a2_0 a2_1 : Int), l0.length ≤ maxLen → (∀ x ∈ l0, (Lit.int .i64 x).wf = true) → (Lit.int .i64 a1).wf = true → (Lit.int .i64 a2_0).wf = true → (Lit.int .i64 a2_1).wf = true → ∃ k, tickinglaw11_SerialLets.f k l0 a1 a2_0 a2_1 = some true := fun l0 a1 a b _ _ _ _ _ => by
  obtain ⟨k, hk⟩ := ev_SerialLets l0 a1 a b
  exact ⟨k, hk k (Nat.le_refl _)⟩
end Go.Proofs.Ytdkncfmlehcjmaa.Pure
