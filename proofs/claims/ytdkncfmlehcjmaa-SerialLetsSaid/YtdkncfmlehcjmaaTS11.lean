/- The reference's Lets: the places with a multiple that the modulus divides are those with a common divisor. -/
import Derived.Test.YtdkncfmlehcjmaaTS10
import Derived.Test.YtdkncfmlehcjmaaTX49
set_option linter.unusedVariables false
set_option linter.unusedSimpArgs false
set_option linter.unusedSectionVars false
namespace Go.Proofs.Ytdkncfmlehcjmaa.X
open Go.RowKit Go.Proofs.YtdkncfmlehcjmaaW.PrintWords
theorem hit_iff (ch m : Int) (hm : 2 ≤ m) : (∃ u, 1 ≤ u ∧ u < m ∧ m ∣ ch * u) ↔ 1 < (Int.gcd ch m : Int) := by
  constructor
  · rintro ⟨u, u0, u1, hd⟩
    refine Classical.byContradiction fun hg => ?_
    have hg0 : Int.gcd ch m ≠ 0 := fun e => by
      have := (Int.gcd_eq_zero_iff.1 e).2
      omega
    have hg1 : Int.gcd m ch = 1 := by rw [Int.gcd_comm]; omega
    have := dvd_coprime m ch u hd hg1
    obtain ⟨q, hq⟩ := this
    by_cases q0 : q ≤ 0
    · have : m * q ≤ 0 := Int.mul_nonpos_of_nonneg_of_nonpos (by omega) q0
      omega
    · have : m * 1 ≤ m * q := Int.mul_le_mul_of_nonneg_left (by omega) (by omega)
      omega
  · intro hg2
    obtain ⟨g, hgE⟩ : ∃ g : Int, g = (Int.gcd ch m : Int) := ⟨_, rfl⟩
    rw [← hgE] at hg2
    obtain ⟨x, hx⟩ : g ∣ ch := by rw [hgE]; exact Int.gcd_dvd_left ..
    obtain ⟨u, hu⟩ : g ∣ m := by rw [hgE]; exact Int.gcd_dvd_right ..
    have hu0 : 1 ≤ u := by
      by_cases h1 : 0 < u
      · omega
      · have : g * u ≤ 0 := Int.mul_nonpos_of_nonneg_of_nonpos (by omega) (by omega)
        omega
    have hum : u < m := by
      have : 2 * u ≤ g * u := Int.mul_le_mul_of_nonneg_right (by omega) (by omega)
      omega
    refine ⟨u, hu0, hum, x, ?_⟩
    rw [hx, hu]; grind
theorem tmod_zero_iff (a m : Int) : Int.tmod a m = 0 ↔ m ∣ a := ⟨Int.dvd_of_tmod_eq_zero, Int.tmod_eq_zero_of_dvd⟩
section
variable {w : List Int} {m : Int} (h1 : 2 ≤ m) (h2 : m ≤ 97) (hw : digs w m = true) (hn : w.length ≤ 24) (h : Int) (hh : 0 ≤ h ∧ h ≤ 3)
include h1 h2
theorem ev_rLets_l1 (x7 : List Int) (h7 : x7.length ≤ 24) (i n ch : Int) (c0 : -1000 ≤ ch) (c1 : ch ≤ 1000) (r : List Int) (hyes : (1 < (Int.gcd ch m : Int)) → Ev (fun k => tickingref11_Lets.l0 k w m h (x7 ++ [i]) n (wrap64 (i + 1))) r) (hno : ¬ (1 < (Int.gcd ch m : Int)) → Ev (fun k => tickingref11_Lets.l0 k w m h x7 n (wrap64 (i + 1))) r) (d : Nat) :
    ∀ v : Int, 1 ≤ v → v + d = m → (∀ u, 1 ≤ u → u < v → ¬ m ∣ ch * u) → Ev (fun k => tickingref11_Lets.l1 k w m h x7 n i ch v) r := by
  have hiff := hit_iff ch m h1
  have h44 : x7.length < 17592186044416 := by omega
  induction d with
  | zero =>
    intro v v0 hv hall
    refine Ev.step (fun k => ?_) (hno fun hg => ?_)
    · simp only [tickingref11_Lets.l1]; rw [if_neg (by omega)]
    · obtain ⟨u, u0, u1, hd⟩ := hiff.2 hg
      exact hall u u0 (by omega) hd
  | succ d ih =>
    intro v v0 hv hall
    have hb : -100000 ≤ ch * v ∧ ch * v ≤ 100000 := by
      constructor
      · have : (-1000) * v ≤ ch * v := Int.mul_le_mul_of_nonneg_right c0 (by omega)
        omega
      · have : ch * v ≤ 1000 * v := Int.mul_le_mul_of_nonneg_right c1 (by omega)
        omega
    have hwr : wrap64 (ch * v) = ch * v := w64 (by omega) (by omega)
    have hv1 : wrap64 (v + 1) = v + 1 := w64 (by omega) (by omega)
    have hz := tmod_zero_iff (ch * v) m
    by_cases hd : m ∣ ch * v
    · refine Ev.step (fun k => ?_) (hyes (hiff.1 ⟨v, v0, by omega, hd⟩))
      simp only [tickingref11_Lets.l1]
      rw [if_pos (by omega), if_neg (by omega), hwr, if_pos (hz.2 hd), if_pos h44]
    · refine Ev.step (fun k => ?_) (ih (v + 1) (by omega) (by omega) (fun u u0 u1 => by
        by_cases e : u = v
        · rw [e]; exact hd
        · exact hall u u0 (by omega)))
      simp only [tickingref11_Lets.l1]
      rw [if_pos (by omega), if_neg (by omega), hwr, if_neg (fun e => hd (hz.1 e)), hv1]
include hw hn hh
theorem ev_rLets_l0 (d : Nat) : ∀ i : Nat, i + d = w.length → Ev (fun k => tickingref11_Lets.l0 k w m h (letN w m h (min i (w.length - offH h))) w.length i) (letN w m h (w.length - offH h)) := by
  induction d with
  | zero =>
    intro i hi
    rw [show min i (w.length - offH h) = w.length - offH h by omega]
    refine Ev.step (f := fun _ => some (letN w m h (w.length - offH h))) (fun k => ?_) (Ev.now _)
    simp only [tickingref11_Lets.l0]; rw [if_neg (by omega)]
  | succ d ih =>
    intro i hi
    have hI := ih (i + 1) (by omega)
    have wi := wrap_succ i (by omega)
    have wi' : wrap64 ((i : Int) + 1) = (i : Int) + 1 := wi
    have wi2 : wrap64 ((i : Int) + 2) = (i : Int) + 2 := w64 (by omega) (by omega)
    by_cases hin : i + offH h < w.length
    · rw [show min (i + 1) (w.length - offH h) = i + 1 by omega] at hI
      rw [show min i (w.length - offH h) = i by omega]
      have hb := chg_bd h2 hw hn h hh i hin
      have hlen : (letN w m h i).length ≤ 24 := Nat.le_trans (letN_len w m h i) (by omega)
      have hl1 := ev_rLets_l1 (w := w) h1 h2 h (letN w m h i) hlen i w.length (chg w h i) (by omega) (by omega) (letN w m h (w.length - offH h))
        (fun hg => by rw [letN_succ, show letB w m h i = true from decide_eq_true hg, if_pos rfl] at hI; rw [wi]; exact hI)
        (fun hg => by rw [letN_succ, show letB w m h i = false from decide_eq_false hg] at hI; simp only [Bool.false_eq_true, if_false, List.append_nil] at hI; rw [wi]; exact hI) (m - 1).toNat 1 (by omega) (by omega) (by intro u u0 u1; omega)
      have hj2 : Ev (fun k => tickingref11_Lets.j2 k w m h (letN w m h i) w.length i (chg w h i)) (letN w m h (w.length - offH h)) := Ev.step (fun k => by simp only [tickingref11_Lets.j2]) hl1
      clear hl1 hI ih
      unfold offH at hin
      by_cases e0 : h = 0
      · have hc : chg w h i = rd w i := by unfold chg; rw [if_pos e0]
        rw [hc] at hj2
        refine Ev.step (f := fun k => tickingref11_Lets.j1 k w m h (letN w m h i) w.length i (rd w i) false) (fun k => ?_) (Ev.step (fun k => ?_) hj2)
        · simp only [tickingref11_Lets.l0]
          rw [if_pos (by omega), if_pos (by omega), if_pos (by omega), if_neg (by omega), if_neg (by omega)]
        · simp only [tickingref11_Lets.j1, Bool.false_eq_true, if_false]
          rw [if_neg (by omega), if_neg (by omega), if_neg (by omega)]
      · rw [if_neg e0] at hin
        by_cases e1 : h = 1
        · rw [if_neg (by omega)] at hin
          have hc : chg w h i = rd w i - rd w ((i : Int) + 1) := by unfold chg; rw [if_neg e0, if_pos e1]
          rw [hc] at hj2 hb
          refine Ev.step (f := fun k => tickingref11_Lets.j1 k w m h (letN w m h i) w.length i (rd w i) false) (fun k => ?_) (Ev.step (fun k => ?_) hj2)
          · simp only [tickingref11_Lets.l0]
            rw [if_pos (by omega), if_pos (by omega), if_pos (by omega), if_pos (by omega), wi', if_neg (by omega), if_neg (by omega)]
          · simp only [tickingref11_Lets.j1, Bool.false_eq_true, if_false]
            rw [if_pos e1, wi', if_pos (by omega), if_pos (by omega), if_pos (by omega), if_pos (by omega), w64 (by omega) (by omega)]
        · by_cases e2 : h = 2
          · rw [if_neg (by omega)] at hin
            have hc : chg w h i = rd w i + rd w ((i : Int) + 1) := by unfold chg; rw [if_neg e0, if_neg e1, if_pos e2]
            rw [hc] at hj2 hb
            refine Ev.step (f := fun k => tickingref11_Lets.j1 k w m h (letN w m h i) w.length i (rd w i) false) (fun k => ?_) (Ev.step (fun k => ?_) hj2)
            · simp only [tickingref11_Lets.l0]
              rw [if_pos (by omega), if_pos (by omega), if_pos (by omega), if_pos (by omega), wi', if_neg (by omega), if_neg (by omega)]
            · simp only [tickingref11_Lets.j1, Bool.false_eq_true, if_false]
              rw [if_neg e1, if_pos e2, wi', if_pos (by omega), if_pos (by omega), if_pos (by omega), if_pos (by omega), w64 (by omega) (by omega)]
          · rw [if_pos (by omega)] at hin
            have hc : chg w h i = rd w i - rd w ((i : Int) + 2) := by unfold chg; rw [if_neg e0, if_neg e1, if_neg e2]
            rw [hc] at hj2 hb
            refine Ev.step (f := fun k => tickingref11_Lets.j1 k w m h (letN w m h i) w.length i (rd w i) false) (fun k => ?_) (Ev.step (fun k => ?_) hj2)
            · simp only [tickingref11_Lets.l0]
              rw [if_pos (by omega), if_pos (by omega), if_pos (by omega), if_pos (by omega), wi', if_neg (by omega), if_pos (by omega), wi2, decide_eq_false (by omega)]
            · simp only [tickingref11_Lets.j1, Bool.false_eq_true, if_false]
              rw [if_neg e1, if_neg e2, if_pos (by omega), wi2, if_pos (by omega), if_pos (by omega), if_pos (by omega), if_pos (by omega), w64 (by omega) (by omega)]
    · rw [show min (i + 1) (w.length - offH h) = w.length - offH h by omega] at hI
      rw [show min i (w.length - offH h) = w.length - offH h by omega]
      have e0 : ¬ h = 0 := fun e => by unfold offH at hin; rw [if_pos e] at hin; omega
      have hj1 : Ev (fun k => tickingref11_Lets.j1 k w m h (letN w m h (w.length - offH h)) w.length i (rd w i) true) (letN w m h (w.length - offH h)) := Ev.step (fun k => by simp only [tickingref11_Lets.j1, if_true]; rw [wi]) hI
      clear hI ih
      unfold offH at hin
      rw [if_neg e0] at hin
      refine Ev.step (fun k => ?_) hj1
      simp only [tickingref11_Lets.l0]
      rw [if_pos (by omega), if_pos (by omega), if_pos (by omega), if_pos (by omega), wi']
      by_cases e1 : (i : Int) + 1 ≥ (w.length : Int)
      · rw [if_pos e1]
      · have e3 : h = 3 := by
          refine Classical.byContradiction fun e => ?_
          rw [if_neg e] at hin; omega
        rw [if_pos e3] at hin
        rw [if_neg e1, if_pos e3, wi2, decide_eq_true (by omega)]
theorem ev_rLets : Ev (fun k => tickingref11_Lets.f k w m h) (letN w m h (w.length - offH h)) := by
  have := ev_rLets_l0 h1 h2 hw hn h hh w.length 0 (by omega)
  simp only [Nat.zero_le, Nat.min_eq_left] at this
  exact this
end
end Go.Proofs.Ytdkncfmlehcjmaa.X
