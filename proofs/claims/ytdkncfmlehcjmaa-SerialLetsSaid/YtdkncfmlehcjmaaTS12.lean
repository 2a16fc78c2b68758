/- The reference's Weights: its table of what can be reached, and the first weights read off it. -/
import Derived.Test.YtdkncfmlehcjmaaTS11
import Derived.Test.YtdkncfmlehcjmaaTX50
set_option linter.unusedVariables false
set_option linter.unusedSimpArgs false
set_option linter.unusedSectionVars false
namespace Go.Proofs.Ytdkncfmlehcjmaa.X
open Go.RowKit Go.Proofs.YtdkncfmlehcjmaaW.PrintWords
def ent (T : List Bool) (M r v : Nat) : Bool := rdOf false T ((r * M + v : Nat) : Int)
theorem idx_lt {n M r v : Nat} (hr : r < n) (hv : v < M) : r * M + v < n * M := by
  have : (r + 1) * M ≤ n * M := Nat.mul_le_mul_right M hr
  rw [Nat.add_mul, Nat.one_mul] at this; omega
theorem idx_inj {M r v r' v' : Nat} (hv : v < M) (hv' : v' < M) (h : r * M + v = r' * M + v') : r = r' ∧ v = v' := by
  rcases Nat.lt_trichotomy r r' with h1 | h1 | h1
  · have : (r + 1) * M ≤ r' * M := Nat.mul_le_mul_right M h1
    rw [Nat.add_mul, Nat.one_mul] at this; omega
  · subst h1; omega
  · have : (r' + 1) * M ≤ r * M := Nat.mul_le_mul_right M h1
    rw [Nat.add_mul, Nat.one_mul] at this; omega
theorem ent_set (T : List Bool) (M r v r' v' : Nat) (b : Bool) (hv : v < M) (hv' : v' < M) (hl : r * M + v < T.length) : ent (T.set (r * M + v) b) M r' v' = if r' = r ∧ v' = v then b else ent T M r' v' := by
  unfold ent rdOf
  simp only [Int.toNat_natCast, List.getD_eq_getElem?_getD, List.getElem?_set]
  by_cases h : r * M + v = r' * M + v'
  · obtain ⟨rfl, rfl⟩ := idx_inj hv hv' h
    simp [hl]
  · rw [if_neg h, if_neg (fun e => h (by rw [e.1, e.2]))]
/-- What an entry of the table must be. -/
def G (M r v : Nat) (b : Bool) : Prop := (v = 0 → b = false) ∧ (M % 2 = 1 → (v = 1 ∨ v = 2) → b = true) ∧ (M % 2 = 0 → 1 ≤ r → b = false) ∧ (M % 2 = 0 → r = 0 → v = 1 → b = true) ∧ (M % 2 = 0 → r = 0 → b = true → v % 2 = 1)
structure Inv (n M : Nat) (T : List Bool) (r v : Nat) : Prop where
  len : T.length = n * M
  done : ∀ r' v', r' < n → v' < M → (r' < r ∨ r' = r ∧ v' < v) → G M r' v' (ent T M r' v')
  rest : ∀ r' v', r' < n → v' < M → ¬ (r' < r ∨ r' = r ∧ v' < v) → ent T M r' v' = false
theorem Inv.set {n M : Nat} {T : List Bool} {r v : Nat} (h : Inv n M T r v) (hr : r < n) (hv : v < M) (b : Bool) (hb : G M r v b) : Inv n M (T.set (r * M + v) b) r (v + 1) := by
  have hl : r * M + v < T.length := by rw [h.len]; exact idx_lt hr hv
  refine ⟨by rw [List.length_set]; exact h.len, fun r' v' hr' hv' hd => ?_, fun r' v' hr' hv' hd => ?_⟩
  · rw [ent_set T M r v r' v' b hv hv' hl]
    by_cases e : r' = r ∧ v' = v
    · rw [if_pos e]; obtain ⟨rfl, rfl⟩ := e; exact hb
    · rw [if_neg e]; exact h.done r' v' hr' hv' (by omega)
  · rw [ent_set T M r v r' v' b hv hv' hl, if_neg (by omega)]
    exact h.rest r' v' hr' hv' (by omega)
theorem Inv.skip {n M : Nat} {T : List Bool} {r v : Nat} (h : Inv n M T r v) (hr : r < n) (hv : v < M) (hb : G M r v false) : Inv n M T r (v + 1) := by
  refine ⟨h.len, fun r' v' hr' hv' hd => ?_, fun r' v' hr' hv' hd => h.rest r' v' hr' hv' (by omega)⟩
  by_cases e : r' = r ∧ v' = v
  · obtain ⟨rfl, rfl⟩ := e
    rw [h.rest r' v' hr' hv' (by omega)]; exact hb
  · exact h.done r' v' hr' hv' (by omega)
theorem Inv.row {n M : Nat} {T : List Bool} {r : Nat} (h : Inv n M T r M) : Inv n M T (r + 1) 0 :=
  ⟨h.len, fun r' v' hr' hv' hd => h.done r' v' hr' hv' (by omega), fun r' v' hr' hv' hd => h.rest r' v' hr' hv' (by omega)⟩
theorem unit_of {v M : Nat} (hv : v < M) : unitB (v : Int) (M : Int) = decide (Int.gcd (v : Int) (M : Int) = 1) := by
  unfold unitB
  rw [decide_eq_true (show (0 : Int) ≤ (v : Int) by omega), decide_eq_true (show (v : Int) < (M : Int) by omega)]; rfl
theorem even_gcd {a : Int} {M : Nat} (ha : a % 2 = 0) (hM : M % 2 = 0) : Int.gcd a (M : Int) ≠ 1 := by
  intro e
  have h1 : (2 : Int) ∣ a := Int.dvd_of_emod_eq_zero ha
  have h2 : (2 : Int) ∣ (M : Int) := Int.dvd_of_emod_eq_zero (by omega)
  have := Int.dvd_gcd h1 h2
  rw [e] at this
  exact absurd this (by decide)
section
variable {n M : Nat} (hn : n ≤ 24) (h2 : 2 ≤ M) (h97 : M ≤ 97)
include hn h2 h97
theorem prod_bd (r : Nat) (hr : r ≤ n) : r * M ≤ 2328 := Nat.le_trans (Nat.mul_le_mul (Nat.le_trans hr hn) h97) (by decide)
/-- The index, as the program reckons it. -/
theorem idx_w (r v : Nat) (hr : r ≤ n) (hv : v ≤ M) : wrap64 (wrap64 ((r : Int) * (M : Int)) + (v : Int)) = ((r * M + v : Nat) : Int) := by
  have hb := prod_bd hn h2 h97 r hr
  have e : ((r : Int) * (M : Int)) = ((r * M : Nat) : Int) := (Int.natCast_mul r M).symm
  rw [e, w64 (x := ((r * M : Nat) : Int)) (by omega) (by omega), w64 (by omega) (by omega)]; rfl
theorem not_unit_G (r v : Nat) (hv : v < M) (hu : ¬ Int.gcd (v : Int) (M : Int) = 1) : G M r v false := by
  refine ⟨fun _ => rfl, fun hM hv12 => ?_, fun _ _ => rfl, fun hM hr hv1 => ?_, fun _ _ h => by cases h⟩
  · exfalso
    rcases hv12 with rfl | rfl
    · exact hu Int.one_gcd
    · exact hu (gcd_two M (by omega) hM)
  · subst hv1; exact absurd Int.one_gcd hu
theorem unit_G0 (v : Nat) (hv : v < M) (hu : Int.gcd (v : Int) (M : Int) = 1) : G M 0 v true := by
  refine ⟨fun h => ?_, fun _ _ => rfl, fun _ h => by omega, fun _ _ _ => rfl, fun hM _ _ => ?_⟩
  · subst h; rw [show ((0 : Nat) : Int) = 0 from rfl, Int.gcd_zero_left] at hu; simp at hu; omega
  · refine Classical.byContradiction fun h => even_gcd (a := (v : Int)) (by omega) hM hu
theorem unit_G1 {T : List Bool} {r v : Nat} (hI : Inv n M T (r + 1) v) (hr : r + 1 < n) (hv : v < M) (hu : Int.gcd (v : Int) (M : Int) = 1) (b : Bool) (hb : b = true ↔ ∃ u, u < M ∧ (ent T M r u = true ∧ Int.gcd ((v : Int) - (u : Int)) (M : Int) = 1)) : G M (r + 1) v b := by
  have hd : ∀ u, u < M → G M r u (ent T M r u) := fun u hu => hI.done r u (by omega) hu (by omega)
  refine ⟨fun h => ?_, fun hM hv12 => ?_, fun hM _ => ?_, fun _ h => by omega, fun _ h => by omega⟩
  · exfalso; subst h; rw [show ((0 : Nat) : Int) = 0 from rfl, Int.gcd_zero_left] at hu; simp at hu; omega
  · rw [hb]
    rcases hv12 with rfl | rfl
    · refine ⟨2, by omega, (hd 2 (by omega)).2.1 hM (.inr rfl), ?_⟩
      show Int.gcd (-1) (M : Int) = 1
      rw [Int.neg_gcd]; exact Int.one_gcd
    · exact ⟨1, by omega, (hd 1 (by omega)).2.1 hM (.inl rfl), Int.one_gcd⟩
  · cases hbb : b with
    | false => rfl
    | true =>
      exfalso
      obtain ⟨u, hu1, hu2, hu3⟩ := hb.1 hbb
      by_cases h0 : r = 0
      · subst h0
        have h5 := (hd u hu1).2.2.2.2 hM rfl hu2
        have h6 : v % 2 = 1 := Classical.byContradiction fun h => even_gcd (a := (v : Int)) (by omega) hM hu
        exact even_gcd (a := (v : Int) - (u : Int)) (by omega) hM hu3
      · have := (hd u hu1).2.2.1 hM (by omega)
        rw [this] at hu2; cases hu2
theorem mx_gcd (a b : Nat) (ha : a ≤ 1000) (hb : b ≤ 1000) : ((mx (wrap64 ((a : Int) - (b : Int))) (wrap64 ((b : Int) - (a : Int)))) = (((a : Int) - (b : Int)).natAbs : Int)) := by
  rw [w64 (x := (a : Int) - b) (by omega) (by omega), w64 (x := (b : Int) - a) (by omega) (by omega), show (b : Int) - (a : Int) = -((a : Int) - (b : Int)) by omega, mx_neg]
theorem gcd_abs (x m : Int) : Int.gcd ((x.natAbs : Nat) : Int) m = Int.gcd x m := by simp [Int.gcd]
theorem ev_wl2_true (T : List Bool) (r v u : Nat) (hl : T.length = n * M) (hr : r < n) (hv : v < M) (res : List Int × Bool) (hc : Ev (fun k => tickingref11_Weights.l1 k n M (T.set (r * M + v) true) r ((v + 1 : Nat) : Int)) res) : Ev (fun k => tickingref11_Weights.l2 k n M T r v true u) res := by
  have hi := idx_w hn h2 h97 r v (by omega) (by omega)
  have hlt := idx_lt hr hv
  have hv1 : wrap64 ((v : Int) + 1) = ((v + 1 : Nat) : Int) := w64 (by omega) (by omega)
  refine Ev.step (fun k => ?_) hc
  simp only [tickingref11_Weights.l2, if_true]
  rw [hi, hv1, Int.toNat_natCast, if_pos (Int.natCast_nonneg _), if_pos (show ((r * M + v : Nat) : Int) < (T.length : Int) by rw [hl]; exact Int.ofNat_lt.2 hlt)]
  split <;> rfl
omit hn h2 h97 in
theorem wrap_pred (r : Nat) (hr : r ≤ 1000) : wrap64 (((r + 1 : Nat) : Int) - 1) = (r : Int) := by rw [w64 (by omega) (by omega)]; omega
theorem ev_wl2 (T : List Bool) (r v : Nat) (hl : T.length = n * M) (hr : r + 1 < n) (hv : v < M) (res : List Int × Bool)
    (hc : ∀ b, (b = true ↔ ∃ u, u < M ∧ (ent T M r u = true ∧ Int.gcd ((v : Int) - (u : Int)) (M : Int) = 1)) → Ev (fun k => tickingref11_Weights.l1 k n M (T.set ((r + 1) * M + v) b) ((r + 1 : Nat) : Int) ((v + 1 : Nat) : Int)) res) (d : Nat) :
    ∀ u : Nat, u + d = M → (∀ u', u' < u → ¬ (ent T M r u' = true ∧ Int.gcd ((v : Int) - (u' : Int)) (M : Int) = 1)) → Ev (fun k => tickingref11_Weights.l2 k n M T ((r + 1 : Nat) : Int) v false u) res := by
  have HI := Aside0.mk (idx_w hn h2 h97 (r + 1) v (by omega) (by omega))
  have hlt := idx_lt hr hv
  have HV := Aside0.mk (wrap_succ v (by omega))
  induction d with
  | zero =>
    intro u hu hall
    refine Ev.step (fun k => ?_) (hc false ⟨(fun h => by cases h), (fun ⟨u', h1, h2⟩ => absurd h2 (hall u' (by omega)))⟩)
    simp only [tickingref11_Weights.l2]
    rw [if_neg (by omega), HI.out, HV.out, Int.toNat_natCast, if_pos (Int.natCast_nonneg _), if_pos (show (((r + 1) * M + v : Nat) : Int) < (T.length : Int) by rw [hl]; exact Int.ofNat_lt.2 hlt)]
  | succ d ih =>
    intro u hu hall
    have huM : (u : Int) < (M : Int) := by omega
    have hRr := Aside0.mk (show r < n by omega)
    have hUu := Aside0.mk (show u < M by omega)
    have HR1 := Aside0.mk (wrap_pred r (by omega))
    have HU1 := Aside0.mk (wrap_succ u (by omega))
    have HMX := Aside0.mk (mx_gcd hn h2 h97 v u (by omega) (by omega))
    have hge := ev_Gcd (((v : Int) - (u : Int)).natAbs : Int) (M : Int) (Int.natCast_nonneg _) (Int.natCast_nonneg _)
    rw [gcd_abs hn h2 h97] at hge
    have HGE := Aside0.mk hge
    clear hge
    have hltu : ((r * M + u : Nat) : Int) < (T.length : Int) := by rw [hl]; exact Int.ofNat_lt.2 (idx_lt hRr.out hUu.out)
    have HLT := Aside0.mk hltu
    clear hltu
    have HIU := Aside0.mk (idx_w hn h2 h97 r u (Nat.le_of_lt hRr.out) (Nat.le_of_lt hUu.out))
    by_cases he : ent T M r u = true
    · by_cases hgg : Int.gcd ((v : Int) - (u : Int)) (M : Int) = 1
      · have ht := hc true ⟨fun _ => ⟨u, by omega, he, hgg⟩, fun _ => rfl⟩
        have h3 := ev_wl2_true hn h2 h97 T (r + 1) v (u + 1) hl hr hv res ht
        refine Ev.step (f := fun k => (tickingref11_Gcd.f k (((v : Int) - (u : Int)).natAbs : Int) M).bind fun t645 => tickingref11_Weights.l2 k n M T ((r + 1 : Nat) : Int) v (t645 == 1) ((u + 1 : Nat) : Int)) (fun k => ?_) (Ev.bind HGE.out ?_)
        · simp only [tickingref11_Weights.l2, Bool.false_eq_true, if_false]
          rw [if_pos huM, HR1.out, HIU.out, HU1.out, HMX.out, if_pos (Int.natCast_nonneg _), if_pos HLT.out, if_pos (show rdOf false T ((r * M + u : Nat) : Int) = true from he)]
        · rw [hgg]; exact h3
      · have h3 := ih (u + 1) (by omega) (fun u' hu' => by
          by_cases e : u' = u
          · subst e; exact fun h => hgg h.2
          · exact hall u' (by omega))
        refine Ev.step (f := fun k => (tickingref11_Gcd.f k (((v : Int) - (u : Int)).natAbs : Int) M).bind fun t645 => tickingref11_Weights.l2 k n M T ((r + 1 : Nat) : Int) v (t645 == 1) ((u + 1 : Nat) : Int)) (fun k => ?_) (Ev.bind HGE.out ?_)
        · simp only [tickingref11_Weights.l2, Bool.false_eq_true, if_false]
          rw [if_pos huM, HR1.out, HIU.out, HU1.out, HMX.out, if_pos (Int.natCast_nonneg _), if_pos HLT.out, if_pos (show rdOf false T ((r * M + u : Nat) : Int) = true from he)]
        · have : (((Int.gcd ((v : Int) - (u : Int)) (M : Int) : Nat) : Int) == 1) = false := beq_eq_false_iff_ne.2 (fun e => hgg (by omega))
          rw [this]; exact h3
    · have h3 := ih (u + 1) (by omega) (fun u' hu' => by
        by_cases e : u' = u
        · subst e; exact fun h => he h.1
        · exact hall u' (by omega))
      refine Ev.step (fun k => ?_) h3
      simp only [tickingref11_Weights.l2, Bool.false_eq_true, if_false]
      rw [if_pos huM, HR1.out, HIU.out, HU1.out, if_pos (Int.natCast_nonneg _), if_pos HLT.out, if_neg (show ¬ rdOf false T ((r * M + u : Nat) : Int) = true from he)]
theorem ev_wl1 (r : Nat) (hr : r < n) (res : List Int × Bool) (hc : ∀ T, Inv n M T (r + 1) 0 → Ev (fun k => tickingref11_Weights.l0 k n M T ((r + 1 : Nat) : Int)) res) (d : Nat) :
    ∀ (v : Nat) (T : List Bool), v + d = M → Inv n M T r v → Ev (fun k => tickingref11_Weights.l1 k n M T r v) res := by
  induction d with
  | zero =>
    intro v T hv hI
    obtain rfl : v = M := by omega
    have hr1 : wrap64 ((r : Int) + 1) = ((r + 1 : Nat) : Int) := w64 (by omega) (by omega)
    refine Ev.step (fun k => ?_) (hc T hI.row)
    simp only [tickingref11_Weights.l1]; rw [if_neg (by omega), hr1]
  | succ d ih =>
    intro v T hv hI
    have hv1 : wrap64 ((v : Int) + 1) = ((v + 1 : Nat) : Int) := w64 (by omega) (by omega)
    have hP := ev_Prime (v : Int) (M : Int) (by omega) (by omega)
    rw [unit_of (by omega)] at hP
    refine Ev.step (f := fun k => (tickingref11_Prime.f k v M).bind fun t642 => (if t642 = true then (tickingref11_Weights.l2 k n M T r v ((r : Int) == 0) 0) else (tickingref11_Weights.l1 k n M T r ((v + 1 : Nat) : Int)))) (fun k => ?_) (Ev.bind hP ?_)
    · simp only [tickingref11_Weights.l1]; rw [if_pos (by omega), hv1]
    · by_cases hu : Int.gcd (v : Int) (M : Int) = 1
      · rw [decide_eq_true hu]
        simp only [if_true]
        cases r with
        | zero =>
          exact ev_wl2_true hn h2 h97 T 0 v 0 hI.len hr (by omega) res (ih (v + 1) _ (by omega) (hI.set hr (by omega) true (unit_G0 hn h2 h97 v (by omega) hu)))
        | succ r =>
          have hz : (((r + 1 : Nat) : Int) == 0) = false := beq_eq_false_iff_ne.2 (by omega)
          rw [hz]
          exact ev_wl2 hn h2 h97 T r v hI.len hr (by omega) res (fun b hb => ih (v + 1) _ (by omega) (hI.set hr (by omega) b (unit_G1 hn h2 h97 hI hr (by omega) hu b hb))) M 0 (by omega) (by intro u' hu'; omega)
      · rw [decide_eq_false hu]
        simp only [Bool.false_eq_true, if_false]
        exact ih (v + 1) T (by omega) (hI.skip hr (by omega) (not_unit_G hn h2 h97 r v (by omega) hu))
theorem ev_wl0 (res : List Int × Bool) (hc : ∀ T, Inv n M T n 0 → Ev (fun k => tickingref11_Weights.l3 k n M T [] 0) res) (d : Nat) :
    ∀ (r : Nat) (T : List Bool), r + d = n → Inv n M T r 0 → Ev (fun k => tickingref11_Weights.l0 k n M T r) res := by
  induction d with
  | zero =>
    intro r T hr hI
    obtain rfl : r = n := by omega
    refine Ev.step (fun k => ?_) (hc T hI)
    simp only [tickingref11_Weights.l0]; rw [if_neg (by omega)]
  | succ d ih =>
    intro r T hr hI
    refine Ev.step (fun k => ?_) (ev_wl1 hn h2 h97 r (by omega) res (fun T' hT' => ih (r + 1) T' (by omega) hT') M 0 T (by omega) hI)
    simp only [tickingref11_Weights.l0]; rw [if_pos (by omega)]; rfl
end
end Go.Proofs.Ytdkncfmlehcjmaa.X
