/- What good weights notice: one changed digit, two exchanged neighbors; and the last digit. -/
import Derived.Test.YtdkncfmlehcjmaaTS9
set_option linter.unusedVariables false
set_option linter.unusedSimpArgs false
set_option linter.unusedSectionVars false
namespace Go.Proofs.Ytdkncfmlehcjmaa.X
open Go.RowKit Go.Proofs.YtdkncfmlehcjmaaW.PrintWords
theorem dvd_coprime (a b c : Int) (h : a ∣ b * c) (hg : Int.gcd a b = 1) : a ∣ c := by
  rw [← Int.natAbs_dvd_natAbs] at h ⊢
  rw [Int.natAbs_mul] at h
  exact Nat.Coprime.dvd_of_dvd_mul_left hg h
theorem rdset (l : List Int) (p i : Nat) (v : Int) (hp : p < l.length) : rd (l.set p v) (i : Int) = if i = p then v else rd l (i : Int) := by
  simp only [rd, Int.toNat_natCast, List.getD_eq_getElem?_getD, List.getElem?_set]
  by_cases h : p = i
  · subst h; simp [hp]
  · rw [if_neg h, if_neg (fun e => h e.symm)]
theorem dotset (w l : List Int) (p : Nat) (v : Int) (hp : p < l.length) (i : Nat) : dotN w (l.set p v) i = dotN w l i + (if p < i then rd w p * (v - rd l p) else 0) := by
  induction i with
  | zero => simp [dotN]
  | succ i ih =>
    show dotN w (l.set p v) i + rd w i * rd (l.set p v) i = dotN w l i + rd w i * rd l i + _
    rw [ih, rdset l p i v hp]
    rcases Nat.lt_trichotomy p i with h | h | h
    · rw [if_pos h, if_neg (by omega), if_pos (by omega)]; omega
    · subst h
      rw [if_neg (by omega), if_pos rfl, if_pos (by omega), Int.mul_sub]; omega
    · rw [if_neg (by omega), if_neg (by omega), if_neg (by omega)]; omega
theorem dot_app (w l : List Int) (x : Int) (i : Nat) (h : i ≤ l.length) : dotN w (l ++ [x]) i = dotN w l i := by
  induction i with
  | zero => rfl
  | succ i ih =>
    show dotN w (l ++ [x]) i + rd w i * rd (l ++ [x]) i = dotN w l i + rd w i * rd l i
    rw [ih (by omega), rd_app_lt _ _ _ (by omega)]
theorem dot_snoc (w l : List Int) (x : Int) : dotN w (l ++ [x]) (l.length + 1) = dotN w l l.length + rd w (l.length : Int) * x := by
  show dotN w (l ++ [x]) l.length + rd w (l.length : Int) * rd (l ++ [x]) (l.length : Int) = _
  rw [dot_app _ _ _ _ (Nat.le_refl _), rd_app_eq]
theorem digs_set' {l : List Int} {m : Int} (h : digs l m = true) (p : Nat) (v : Int) (v0 : 0 ≤ v) (v1 : v < m) : digs (l.set p v) m = true := by
  unfold digs at *
  rw [List.all_eq_true] at *
  intro x hx
  rcases List.mem_or_eq_of_mem_set hx with hx | rfl
  · exact h x hx
  · simp [v0, v1]
theorem digs_app' {l r : List Int} {n : Int} : digs (l ++ r) n = true ↔ digs l n = true ∧ digs r n = true := by
  unfold digs; simp
section
variable {N : Nat} {m : Int} (hg : good N m)
include hg
theorem gcd_pat (p : Nat) (hp : p < N) : Int.gcd m (patA p) = 1 := by
  have hm := good_m hg p hp
  rw [Int.gcd_comm]
  by_cases e : p % 2 = 0
  · rw [show patA p = 1 by unfold patA; rw [if_pos e]]; exact Int.one_gcd
  · rw [show patA p = 2 by unfold patA; rw [if_neg e]]
    have h3 : m % 2 = 1 := by
      rcases hg.2.2 with h | h
      · exact h.2
      · omega
    have := gcd_two m.toNat (by omega) (by omega)
    rwa [Int.toNat_of_nonneg (by omega)] at this
theorem pat_diff (p : Nat) : patA p - patA (p + 1) = 1 ∨ patA p - patA (p + 1) = -1 := by
  unfold patA
  by_cases e : p % 2 = 0
  · right; rw [if_pos e, if_neg (by omega)]; rfl
  · left; rw [if_neg e, if_pos (by omega)]; rfl
/-- Two digits whose difference the modulus divides are the same. -/
theorem same_digit (a b : Int) (a0 : 0 ≤ a) (a1 : a < m) (b0 : 0 ≤ b) (b1 : b < m) (h : m ∣ a - b) : a = b := by
  obtain ⟨q, hq⟩ := h
  by_cases hq0 : q = 0
  · subst hq0; omega
  · exfalso
    rcases Int.lt_or_gt_of_ne hq0 with hl | hg'
    · have : m * q ≤ m * (-1) := Int.mul_le_mul_of_nonneg_left (by omega) (by omega)
      omega
    · have : m * 1 ≤ m * q := Int.mul_le_mul_of_nonneg_left (by omega) (by omega)
      omega
theorem one_changed (S : Int) (hS : S % m = 0) (p : Nat) (hp : p < N) (v y : Int) (v0 : 0 ≤ v) (v1 : v < m) (y0 : 0 ≤ y) (y1 : y < m) : (S + patA p * (v - y)) % m = 0 ↔ v = y := by
  constructor
  · intro h
    have h1 : m ∣ S := Int.dvd_of_emod_eq_zero hS
    have h2 : m ∣ patA p * (v - y) := (Int.dvd_add_right h1).1 (Int.dvd_of_emod_eq_zero h)
    exact same_digit hg v y v0 v1 y0 y1 (dvd_coprime _ _ _ h2 (gcd_pat hg p hp))
  · rintro rfl
    rw [Int.sub_self, Int.mul_zero, Int.add_zero, hS]
theorem two_changed (S : Int) (hS : S % m = 0) (p : Nat) (a b : Int) (a0 : 0 ≤ a) (a1 : a < m) (b0 : 0 ≤ b) (b1 : b < m) : (S + patA p * (b - a) + patA (p + 1) * (a - b)) % m = 0 ↔ a = b := by
  have e : S + patA p * (b - a) + patA (p + 1) * (a - b) = S + (patA p - patA (p + 1)) * (b - a) := by
    grind
  rw [e]
  constructor
  · intro h
    have h1 : m ∣ S := Int.dvd_of_emod_eq_zero hS
    have h2 : m ∣ (patA p - patA (p + 1)) * (b - a) := (Int.dvd_add_right h1).1 (Int.dvd_of_emod_eq_zero h)
    have h3 : m ∣ b - a := by
      rcases pat_diff hg p with h4 | h4
      · rw [h4, Int.one_mul] at h2; exact h2
      · rw [h4] at h2
        have : -1 * (b - a) = -(b - a) := by omega
        rw [this] at h2; exact Int.dvd_neg.1 h2
    exact (same_digit hg b a b0 b1 a0 a1 h3).symm
  · rintro rfl
    rw [Int.sub_self, Int.mul_zero, Int.add_zero, hS]
theorem pat_wts (hN : 1 ≤ N) : wtsB (pat N) m = true := by
  obtain ⟨j, rfl⟩ : ∃ j, N = j + 1 := ⟨N - 1, by omega⟩
  have hm := good_m hg j (by omega)
  have hp := patA_le j
  have hd := pat_digs hg j (by omega) (patA j) (by omega) (Int.le_refl _)
  rw [← pat_succ] at hd
  have hl := pat_len (j + 1)
  have hN24 := hg.1
  unfold wtsB
  rw [hd, decide_eq_true hm.1, decide_eq_true hm.2, decide_eq_true (show ((pat (j + 1)).length : Int) ≤ 24 by omega)]; rfl
/-- Some last digit makes the sum 0. -/
theorem last_ex (s : Int) (p : Nat) (hp : p < N) : ∃ d, 0 ≤ d ∧ d < m ∧ (s + d * patA p) % m = 0 := by
  have hm := good_m hg p hp
  by_cases e : p % 2 = 0
  · rw [show patA p = 1 by unfold patA; rw [if_pos e]]
    refine ⟨(-s) % m, Int.emod_nonneg _ (by omega), Int.emod_lt_of_pos _ (by omega), ?_⟩
    rw [Int.mul_one, Int.add_emod_emod]; rw [show s + -s = 0 by omega]; exact Int.zero_emod _
  · rw [show patA p = 2 by unfold patA; rw [if_neg e]]
    have h3 : m % 2 = 1 := by
      rcases hg.2.2 with h | h
      · exact h.2
      · omega
    obtain ⟨u, hu⟩ : ∃ u, m = 2 * u + 1 := ⟨m / 2, by omega⟩
    refine ⟨(-s * (u + 1)) % m, Int.emod_nonneg _ (by omega), Int.emod_lt_of_pos _ (by omega), ?_⟩
    rw [Int.add_emod, Int.mul_emod, Int.emod_emod, ← Int.mul_emod, ← Int.add_emod]
    have : s + -s * (u + 1) * 2 = m * (-s) := by
      rw [hu]; grind
    rw [this]; exact Int.mul_emod_right _ _
end
theorem ev_last_found (w l : List Int) (m s : Int) (h1 : 2 ≤ m) (h2 : m ≤ 97) (hw : digs w m = true) (hl : l.length < w.length) (hlw : w.length ≤ 24) (hs0 : 0 ≤ s) (hs1 : s < m) (d0 : Int) (hd0 : 0 ≤ d0) (hd1 : d0 < m) (hz : (s + d0 * rd w l.length) % m = 0) (d : Nat) :
    ∀ i : Nat, (i : Int) + d = d0 → ∃ r, 0 ≤ r ∧ r < m ∧ (s + r * rd w l.length) % m = 0 ∧ Ev (fun k => serial_Last.l0 k w m l s m i) (r, 0) := by
  have hd := digs_rd hw l.length hl
  induction d with
  | zero =>
    intro i hi
    obtain rfl : (i : Int) = d0 := by omega
    have hm := mul_lt_97 h2 (show 0 ≤ (i : Int) by omega) (show (i : Int) < m by omega) hd.1 hd.2
    refine ⟨i, hd0, hd1, hz, Ev.step (f := fun _ => some ((i : Int), 0)) (fun k => ?_) (Ev.now _)⟩
    simp only [serial_Last.l0]
    rw [if_pos hd1, if_pos (by omega), if_pos (by omega), if_neg (by omega), w64 (x := (i : Int) * rd w l.length) (by omega) (by omega), w64 (by omega) (by omega), Int.tmod_eq_emod_of_nonneg (by omega), if_pos hz]
  | succ d ih =>
    intro i hi
    have hm := mul_lt_97 h2 (show 0 ≤ (i : Int) by omega) (show (i : Int) < m by omega) hd.1 hd.2
    by_cases hz' : (s + (i : Int) * rd w l.length) % m = 0
    · refine ⟨i, by omega, by omega, hz', Ev.step (f := fun _ => some ((i : Int), 0)) (fun k => ?_) (Ev.now _)⟩
      simp only [serial_Last.l0]
      rw [if_pos (by omega), if_pos (by omega), if_pos (by omega), if_neg (by omega), w64 (x := (i : Int) * rd w l.length) (by omega) (by omega), w64 (by omega) (by omega), Int.tmod_eq_emod_of_nonneg (by omega), if_pos hz']
    · obtain ⟨r, r0, r1, rz, e⟩ := ih (i + 1) (by omega)
      refine ⟨r, r0, r1, rz, Ev.step (fun k => ?_) e⟩
      simp only [serial_Last.l0]
      rw [if_pos (by omega), if_pos (by omega), if_pos (by omega), if_neg (by omega), w64 (x := (i : Int) * rd w l.length) (by omega) (by omega), w64 (x := s + _) (by omega) (by omega), Int.tmod_eq_emod_of_nonneg (by omega), if_neg hz', w64 (by omega) (by omega)]; rfl
/-- Last finds a digit that makes the whole sum 0. -/
theorem ev_Last_pat {N : Nat} {m : Int} (hg : good N m) (l : List Int) (hl : l.length + 1 = N) (hd : digs l m = true) : ∃ r, 0 ≤ r ∧ r < m ∧ Ev (fun k => serial_Last.f k (pat N) m l) (r, 0) ∧ dotN (pat N) (l ++ [r]) N % m = 0 := by
  have hW := pat_wts hg (by omega)
  obtain ⟨a, b, c, d⟩ := wts_of hW
  have hpl := pat_len N
  have hw := ev_weighed (pat N) l m a b c hd (by omega) (by omega)
  have hb : 0 ≤ dotN (pat N) l l.length % m ∧ dotN (pat N) l l.length % m < m := ⟨Int.emod_nonneg _ (by omega), Int.emod_lt_of_pos _ (by omega)⟩
  have hrd : rd (pat N) (l.length : Int) = patA l.length := pat_rd N l.length (by omega)
  obtain ⟨d0, d00, d01, hz⟩ := last_ex hg (dotN (pat N) l l.length % m) l.length (by omega)
  rw [← hrd] at hz
  obtain ⟨r, r0, r1, rz, e⟩ := ev_last_found (pat N) l m _ a b c (by omega) d hb.1 hb.2 d0 d00 d01 hz d0.toNat 0 (by omega)
  refine ⟨r, r0, r1, ?_, ?_⟩
  · refine Ev.congr (f := fun k => serial_Last.j0 k (pat N) m l false) (fun k => ?_) (Ev.step (f := fun k => (serial_weighed.f k (pat N) m l).bind fun t515 => serial_Last.l0 k (pat N) m l t515 m 0) (fun k => by simp [serial_Last.j0]) (Ev.bind hw e))
    unfold serial_Last.f serial_isNumber.f
    rw [areWeights_eq, isNum_eq l m _ (by omega) (by omega), hW, hd, w64 (by omega) (by omega), if_pos (by omega), decide_eq_true (by omega)]; rfl
  · have := dot_snoc (pat N) l r
    rw [hl] at this
    rw [this, Int.add_emod, ← Int.emod_emod (dotN (pat N) l l.length), ← Int.add_emod, Int.mul_comm]
    exact rz
end Go.Proofs.Ytdkncfmlehcjmaa.X
