/- SerialPass: what Lets names is what the reference reckons for single digits, and each named place has two numbers that differ there and weigh the same. -/
import Derived.Test.YtdkncfmlehcjmaaTX6
import Derived.Test.YtdkncfmlehcjmaaTS3
import Derived.Test.YtdkncfmlehcjmaaTS8
set_option linter.unusedVariables false
set_option linter.unusedSimpArgs false
set_option linter.unusedSectionVars false
namespace Go.Proofs.Ytdkncfmlehcjmaa.X
open Go.RowKit Go.Proofs.YtdkncfmlehcjmaaW.PrintWords

/-! ### Sums of numbers with one or two digits -/
theorem dotN_zeros (w : List Int) (n i : Nat) : dotN w (List.replicate n 0) i = 0 := by
  induction i with
  | zero => rfl
  | succ i ih =>
    show dotN w (List.replicate n 0) i + rd w i * rd (List.replicate n 0) i = 0
    have : rd (List.replicate n (0 : Int)) (i : Int) = 0 := by
      simp only [rd, Int.toNat_natCast, List.getD_eq_getElem?_getD, List.getElem?_replicate]
      split <;> rfl
    rw [ih, this]; simp
theorem rd_set (l : List Int) (p i : Nat) (v : Int) (hp : p < l.length) : rd (l.set p v) (i : Int) = if i = p then v else rd l (i : Int) := by
  simp only [rd, Int.toNat_natCast, List.getD_eq_getElem?_getD, List.getElem?_set]
  by_cases h : p = i
  · subst h; simp [hp]
  · rw [if_neg h, if_neg (fun e => h e.symm)]
theorem dotN_set (w l : List Int) (p : Nat) (v : Int) (hp : p < l.length) (i : Nat) : dotN w (l.set p v) i = dotN w l i + (if p < i then rd w p * (v - rd l p) else 0) := by
  induction i with
  | zero => simp [dotN]
  | succ i ih =>
    show dotN w (l.set p v) i + rd w i * rd (l.set p v) i = dotN w l i + rd w i * rd l i + _
    rw [ih, rd_set l p i v hp]
    rcases Nat.lt_trichotomy p i with h | h | h
    · rw [if_pos h, if_neg (by omega), if_pos (by omega)]; omega
    · subst h
      rw [if_neg (by omega), if_pos rfl, if_pos (by omega), Int.mul_sub]; omega
    · rw [if_neg (by omega), if_neg (by omega), if_neg (by omega)]; omega
theorem rd_zeros (n i : Nat) : rd (List.replicate n (0 : Int)) (i : Int) = 0 := by
  simp only [rd, Int.toNat_natCast, List.getD_eq_getElem?_getD, List.getElem?_replicate]
  split <;> rfl
def zer (n : Nat) : List Int := List.replicate n 0
theorem zer_len (n : Nat) : (zer n).length = n := by simp [zer]
theorem dot_one (w : List Int) (n p : Nat) (v : Int) (hp : p < n) : dotN w ((zer n).set p v) n = rd w p * v := by
  rw [dotN_set w (zer n) p v (by rw [zer_len]; exact hp), if_pos hp]
  unfold zer
  rw [dotN_zeros, rd_zeros]; simp
theorem dot_two (w : List Int) (n p q : Nat) (v : Int) (hp : p < n) (hq : q < n) (hpq : q ≠ p) : dotN w (((zer n).set p v).set q v) n = rd w p * v + rd w q * v := by
  rw [dotN_set w _ q v (by rw [List.length_set, zer_len]; exact hq), if_pos hq, dot_one w n p v hp, rd_set _ p q v (by rw [zer_len]; exact hp), if_neg hpq]
  unfold zer
  rw [rd_zeros]; simp
theorem digs_zer (n : Nat) (m : Int) (hm : 1 ≤ m) : digs (zer n) m = true := by
  unfold digs zer
  rw [List.all_eq_true]
  intro x hx
  rw [List.mem_replicate] at hx
  rw [hx.2]; simp; omega
theorem digs_set {l : List Int} {m : Int} (h : digs l m = true) (p : Nat) (v : Int) (v0 : 0 ≤ v) (v1 : v < m) : digs (l.set p v) m = true := by
  unfold digs at *
  rw [List.all_eq_true] at *
  intro x hx
  rcases List.mem_or_eq_of_mem_set hx with hx | rfl
  · exact h x hx
  · simp [v0, v1]

/-! ### The two numbers -/
def numA (w : List Int) (h : Int) (p : Nat) (v : Int) : List Int := if h = 1 then (zer w.length).set (p + 1) v else if h = 3 then (zer w.length).set (p + 2) v else zer w.length
def numB (w : List Int) (h : Int) (p : Nat) (v : Int) : List Int := if h = 2 then ((zer w.length).set p v).set (p + 1) v else (zer w.length).set p v
section
variable {w : List Int} {m : Int} (hW : wtsB w m = true) (h : Int) (hh : 0 ≤ h ∧ h ≤ 3) (p : Nat) (hp : p + offH h < w.length)
include hW hh hp
theorem off_of : offH h = (if h = 0 then 0 else if h = 3 then 2 else 1) := rfl
theorem ev_sum_num (l : List Int) (hl : l.length = w.length) (hd : digs l m = true) : Ev (fun k => serial_Sum.f k w m l) (dotN w l w.length % m, 0) := by
  have := ev_sSum_yes w l m hW hl hd
  rwa [hl] at this
theorem lenA (v : Int) : (numA w h p v).length = w.length := by
  unfold numA; split
  · rw [List.length_set, zer_len]
  · split
    · rw [List.length_set, zer_len]
    · exact zer_len _
theorem lenB (v : Int) : (numB w h p v).length = w.length := by
  unfold numB; split
  · rw [List.length_set, List.length_set, zer_len]
  · rw [List.length_set, zer_len]
theorem digA (v : Int) (v0 : 0 ≤ v) (v1 : v < m) : digs (numA w h p v) m = true := by
  have hz := digs_zer w.length m (by omega)
  unfold numA; split
  · exact digs_set hz _ _ v0 v1
  · split
    · exact digs_set hz _ _ v0 v1
    · exact hz
theorem digB (v : Int) (v0 : 0 ≤ v) (v1 : v < m) : digs (numB w h p v) m = true := by
  have hz := digs_zer w.length m (by omega)
  unfold numB; split
  · exact digs_set (digs_set hz _ _ v0 v1) _ _ v0 v1
  · exact digs_set hz _ _ v0 v1
/-- Whichever the numbers' sums, the search has an answer there or goes on. -/
theorem passes_step (v : Int) (v0 : 1 ≤ v) (v1 : v < m) (hm : m ≤ 97) (hn : w.length ≤ 24) (r : Bool)
    (hr : Ev (fun k => (serial_Sum.f k w m (numA w h p v)).bind fun bt426 => ((serial_Sum.f k w m (numB w h p v)).bind fun bt428 => (if bt426.2 = 0 then (if bt428.2 = 0 then (if bt426.1 = bt428.1 then (some true) else (tickinglaw11_passes.l0 k w m h p (wrap64 (v + 1)))) else (tickinglaw11_passes.l0 k w m h p (wrap64 (v + 1)))) else (tickinglaw11_passes.l0 k w m h p (wrap64 (v + 1)))))) r) : Ev (fun k => tickinglaw11_passes.l0 k w m h p v) r := by
  have hz : (List.replicate w.length (0 : Int)) = zer w.length := rfl
  have zl := zer_len w.length
  have w1 : wrap64 ((p : Int) + 1) = ((p + 1 : Nat) : Int) := w64 (by omega) (by omega)
  have w2 : wrap64 ((p : Int) + 2) = ((p + 2 : Nat) : Int) := w64 (by omega) (by omega)
  have h6 : Ev (fun k => tickinglaw11_passes.j6 k w m h p v (numA w h p v) (numB w h p v)) r := Ev.step (fun k => by simp only [tickinglaw11_passes.j6]) hr
  have start : ∀ b, (∀ q : Bool, q = (h == 1 || h == 2) → Ev (fun k => tickinglaw11_passes.j1 k w m h p v (zer w.length) ((zer w.length).set p v) p q) b) → Ev (fun k => tickinglaw11_passes.l0 k w m h p v) b := by
    intro b hb
    refine Ev.step (fun k => ?_) (hb (h == 1 || h == 2) rfl)
    simp only [tickinglaw11_passes.l0]
    rw [if_pos v1, if_pos (by omega), Int.toNat_natCast, if_pos (Nat.le_trans hn (by decide))]
    simp only [Option.bind_some]
    rw [hz, zl, if_pos (by omega), if_pos (by omega)]
    by_cases e : h = 1
    · rw [if_pos e]; simp [e]
    · rw [if_neg e, show (h == 1) = false from beq_eq_false_iff_ne.2 e, Bool.false_or]; rfl
  have o := off_of hW h hh p hp
  refine start r fun q hq => ?_
  rcases (by omega : h = 0 ∨ h = 1 ∨ h = 2 ∨ h = 3) with rfl | rfl | rfl | rfl
  · obtain rfl : q = false := hq.trans (by decide)
    refine Ev.step (f := fun k => tickinglaw11_passes.j2 k w m 0 p v (zer w.length) ((zer w.length).set p v) p) (fun k => by simp [tickinglaw11_passes.j1]) ?_
    refine Ev.step (f := fun k => tickinglaw11_passes.j3 k w m 0 p v (zer w.length) ((zer w.length).set p v) p) (fun k => by simp [tickinglaw11_passes.j2]) ?_
    refine Ev.step (f := fun k => tickinglaw11_passes.j4 k w m 0 p v (zer w.length) ((zer w.length).set p v) p) (fun k => by simp only [tickinglaw11_passes.j3]; rw [if_neg (by simp at o; omega)]; simp) ?_
    refine Ev.step (f := fun k => tickinglaw11_passes.j5 k w m 0 p v (zer w.length) ((zer w.length).set p v) p false) (fun k => by simp [tickinglaw11_passes.j4]) ?_
    exact Ev.step (fun k => by simp [tickinglaw11_passes.j5, numA, numB]) h6
  · obtain rfl : q = true := hq.trans (by decide)
    have hp1 : p + 1 < w.length := by simp at o; omega
    refine Ev.step (f := fun k => tickinglaw11_passes.j2 k w m 1 p v (zer w.length) ((zer w.length).set p v) ((p + 1 : Nat) : Int)) (fun k => by simp only [tickinglaw11_passes.j1, if_true]; rw [w1]) ?_
    refine Ev.step (f := fun k => tickinglaw11_passes.j3 k w m 1 p v (zer w.length) ((zer w.length).set p v) ((p + 1 : Nat) : Int)) (fun k => by simp [tickinglaw11_passes.j2]) ?_
    refine Ev.step (f := fun k => tickinglaw11_passes.j4 k w m 1 p v (zer w.length) ((zer w.length).set p v) ((p + 1 : Nat) : Int)) (fun k => by simp only [tickinglaw11_passes.j3]; rw [if_neg (by omega), if_neg (by decide)]) ?_
    refine Ev.step (f := fun k => tickinglaw11_passes.j5 k w m 1 p v (zer w.length) ((zer w.length).set p v) ((p + 1 : Nat) : Int) true) (fun k => by simp only [tickinglaw11_passes.j4]; rw [if_pos trivial]) ?_
    refine Ev.step (fun k => ?_) h6
    simp only [tickinglaw11_passes.j5, if_true]
    rw [zl, if_pos (by omega), if_pos (by omega), Int.toNat_natCast]; rfl
  · obtain rfl : q = true := hq.trans (by decide)
    have hp1 : p + 1 < w.length := by simp at o; omega
    refine Ev.step (f := fun k => tickinglaw11_passes.j2 k w m 2 p v (zer w.length) ((zer w.length).set p v) ((p + 1 : Nat) : Int)) (fun k => by simp only [tickinglaw11_passes.j1, if_true]; rw [w1]) ?_
    refine Ev.step (f := fun k => tickinglaw11_passes.j3 k w m 2 p v (zer w.length) ((zer w.length).set p v) ((p + 1 : Nat) : Int)) (fun k => by simp [tickinglaw11_passes.j2]) ?_
    refine Ev.step (f := fun k => tickinglaw11_passes.j4 k w m 2 p v (zer w.length) (((zer w.length).set p v).set (p + 1) v) ((p + 1 : Nat) : Int)) (fun k => by simp only [tickinglaw11_passes.j3]; rw [if_neg (by omega), if_pos trivial, List.length_set, zl, if_pos (by omega), if_pos (by omega), Int.toNat_natCast]) ?_
    refine Ev.step (f := fun k => tickinglaw11_passes.j5 k w m 2 p v (zer w.length) (((zer w.length).set p v).set (p + 1) v) ((p + 1 : Nat) : Int) false) (fun k => by simp [tickinglaw11_passes.j4]) ?_
    exact Ev.step (fun k => by simp [tickinglaw11_passes.j5, numA, numB]) h6
  · obtain rfl : q = false := hq.trans (by decide)
    have hp1 : p + 2 < w.length := by simp at o; omega
    refine Ev.step (f := fun k => tickinglaw11_passes.j2 k w m 3 p v (zer w.length) ((zer w.length).set p v) p) (fun k => by simp [tickinglaw11_passes.j1]) ?_
    refine Ev.step (f := fun k => tickinglaw11_passes.j3 k w m 3 p v (zer w.length) ((zer w.length).set p v) ((p + 2 : Nat) : Int)) (fun k => by simp only [tickinglaw11_passes.j2]; rw [if_pos trivial, w2]) ?_
    refine Ev.step (f := fun k => tickinglaw11_passes.j4 k w m 3 p v (zer w.length) ((zer w.length).set p v) ((p + 2 : Nat) : Int)) (fun k => by simp only [tickinglaw11_passes.j3]; rw [if_neg (by omega), if_neg (by decide)]) ?_
    refine Ev.step (f := fun k => tickinglaw11_passes.j5 k w m 3 p v (zer w.length) ((zer w.length).set p v) ((p + 2 : Nat) : Int) true) (fun k => by simp [tickinglaw11_passes.j4]) ?_
    refine Ev.step (fun k => ?_) h6
    simp only [tickinglaw11_passes.j5, if_true]
    rw [zl, if_pos (by omega), if_pos (by omega), Int.toNat_natCast]; rfl
/-- At the modulus divided by the common divisor both numbers weigh the same. -/
theorem same_at (v : Int) (hv : (chg w h p * v) % m = 0) : dotN w (numA w h p v) w.length % m = dotN w (numB w h p v) w.length % m := by
  have o := off_of hW h hh p hp
  have dz : dotN w (zer w.length) w.length = 0 := dotN_zeros w w.length w.length
  rcases (by omega : h = 0 ∨ h = 1 ∨ h = 2 ∨ h = 3) with rfl | rfl | rfl | rfl
  · have e1 : numA w 0 p v = zer w.length := rfl
    have e2 : numB w 0 p v = (zer w.length).set p v := rfl
    have e3 : chg w 0 p = rd w p := rfl
    rw [e3] at hv
    rw [e1, e2, dz, dot_one w _ p v (by omega), hv]; rfl
  · have hp1 : p + 1 < w.length := by simp at o; omega
    have e1 : numA w 1 p v = (zer w.length).set (p + 1) v := rfl
    have e2 : numB w 1 p v = (zer w.length).set p v := rfl
    have e3 : chg w 1 p = rd w p - rd w ((p + 1 : Nat) : Int) := rfl
    rw [e3, Int.sub_mul] at hv
    rw [e1, e2, dot_one w _ p v (by omega), dot_one w _ (p + 1) v (by omega)]
    exact (Int.emod_eq_emod_iff_emod_sub_eq_zero.2 hv).symm
  · have hp1 : p + 1 < w.length := by simp at o; omega
    have e1 : numA w 2 p v = zer w.length := rfl
    have e2 : numB w 2 p v = ((zer w.length).set p v).set (p + 1) v := rfl
    have e3 : chg w 2 p = rd w p + rd w ((p + 1 : Nat) : Int) := rfl
    rw [e3, Int.add_mul] at hv
    rw [e1, e2, dz, dot_two w _ p (p + 1) v (by omega) hp1 (by omega), hv]; rfl
  · have hp1 : p + 2 < w.length := by simp at o; omega
    have e1 : numA w 3 p v = (zer w.length).set (p + 2) v := rfl
    have e2 : numB w 3 p v = (zer w.length).set p v := rfl
    have e3 : chg w 3 p = rd w p - rd w ((p + 2 : Nat) : Int) := rfl
    rw [e3, Int.sub_mul] at hv
    rw [e1, e2, dot_one w _ p v (by omega), dot_one w _ (p + 2) v (by omega)]
    exact (Int.emod_eq_emod_iff_emod_sub_eq_zero.2 hv).symm
theorem ev_passes_l (u : Int) (u1 : u < m) (hu : (chg w h p * u) % m = 0) (d : Nat) : ∀ v : Int, 1 ≤ v → v + d = u → Ev (fun k => tickinglaw11_passes.l0 k w m h p v) true := by
  obtain ⟨a, b, c, hn⟩ := wts_of hW
  induction d with
  | zero =>
    intro v v0 hv
    obtain rfl : v = u := by omega
    refine passes_step hW h hh p hp v v0 (by omega) b hn true ?_
    refine Ev.bind (ev_sum_num hW h hh p hp _ (lenA hW h hh p hp v) (digA hW h hh p hp v (by omega) u1)) (Ev.bind (ev_sum_num hW h hh p hp _ (lenB hW h hh p hp v) (digB hW h hh p hp v (by omega) u1)) ?_)
    simp only [same_at hW h hh p hp v hu, if_true]
    exact Ev.now _
  | succ d ih =>
    intro v v0 hv
    have hw1 : wrap64 (v + 1) = v + 1 := w64 (by omega) (by omega)
    refine passes_step hW h hh p hp v v0 (by omega) b hn true ?_
    refine Ev.bind (ev_sum_num hW h hh p hp _ (lenA hW h hh p hp v) (digA hW h hh p hp v (by omega) (by omega))) (Ev.bind (ev_sum_num hW h hh p hp _ (lenB hW h hh p hp v) (digB hW h hh p hp v (by omega) (by omega))) ?_)
    simp only [if_true, hw1]
    by_cases e : dotN w (numA w h p v) w.length % m = dotN w (numB w h p v) w.length % m
    · simp only [e, if_true]; exact Ev.now _
    · simp only [e, if_false]; exact ih (v + 1) (by omega) (by omega)
theorem ev_passes (hg : letB w m h p = true) : Ev (fun k => tickinglaw11_passes.f k w m h p) true := by
  obtain ⟨a, b, c, hn⟩ := wts_of hW
  have hg2 : 1 < (Int.gcd (chg w h p) m : Int) := of_decide_eq_true hg
  obtain ⟨g, hgE⟩ : ∃ g : Int, g = (Int.gcd (chg w h p) m : Int) := ⟨_, rfl⟩
  rw [← hgE] at hg2
  obtain ⟨x, hx⟩ : g ∣ chg w h p := by rw [hgE]; exact Int.gcd_dvd_left ..
  obtain ⟨u, hu⟩ : g ∣ m := by rw [hgE]; exact Int.gcd_dvd_right ..
  have hu0 : 1 ≤ u := by
    by_cases h1 : 0 < u
    · omega
    · have : g * u ≤ 0 := Int.mul_nonpos_of_nonneg_of_nonpos (by omega) (by omega)
      omega
  have hum : u < m := by
    have : 2 * u ≤ g * u := Int.mul_le_mul_of_nonneg_right (by omega) (by omega)
    omega
  have hz : (chg w h p * u) % m = 0 := by
    rw [hx, hu, Int.mul_right_comm, Int.mul_emod_right]
  exact ev_passes_l hW h hh p hp u hum hz (u - 1).toNat 1 (by omega) (by omega)
end

/-! ### The law -/
theorem mem_letN {w : List Int} {m h : Int} {N : Nat} (j : Nat) (hj : j < (letN w m h N).length) : ∃ p : Nat, p < N ∧ letB w m h p = true ∧ rd (letN w m h N) (j : Int) = p := by
  rw [rd_nat _ j hj]
  have := List.getElem_mem hj
  generalize (letN w m h N)[j] = y at this
  unfold letN at this
  simp only [List.mem_map, List.mem_filter, List.mem_range] at this
  obtain ⟨p, ⟨h1, h2⟩, rfl⟩ := this
  exact ⟨p, h1, h2, rfl⟩
theorem ev_pass_l1 {w : List Int} {m h : Int} (hW : wtsB w m = true) (hh : 0 ≤ h ∧ h ≤ 3) (d : Nat) : ∀ j : Nat, j + d = (letN w m h (w.length - offH h)).length → Ev (fun k => tickinglaw11_SerialPass.l1 k m h w (letN w m h (w.length - offH h)) j) true := by
  have hn := (wts_of hW).2.2.2
  have hle := letN_len w m h (w.length - offH h)
  induction d with
  | zero =>
    intro j hj
    refine Ev.step (f := fun k => (tickinglaw11_awake.f k).bind fun t => some t) (fun k => ?_) (Ev.bind ev_awake (Ev.now true))
    simp only [tickinglaw11_SerialPass.l1]; rw [if_neg (by omega)]
  | succ d ih =>
    intro j hj
    obtain ⟨p, hp, hB, hr⟩ := mem_letN (w := w) (m := m) (h := h) (N := w.length - offH h) j (by omega)
    have hI := ih (j + 1) (by omega)
    have wi := wrap_succ j (by omega)
    refine Ev.step (f := fun k => (tickinglaw11_passes.f k w m h p).bind fun t449 => (if t449 = true then (tickinglaw11_SerialPass.l1 k m h w (letN w m h (w.length - offH h)) ((j + 1 : Nat) : Int)) else (some false))) (fun k => ?_) (Ev.bind (ev_passes hW h hh p (by omega) hB) (by simpa using hI))
    simp only [tickinglaw11_SerialPass.l1]
    rw [if_pos (by omega), if_pos (by omega), hr, if_neg (by omega), if_neg (by omega), wi]
theorem ev_pass_l0 {w : List Int} {m h : Int} (hW : wtsB w m = true) (hh : 0 ≤ h ∧ h ≤ 3) (d : Nat) : ∀ i : Nat, i + d = w.length → Ev (fun k => tickinglaw11_SerialPass.l0 k m h w (letN w m 0 w.length) (letN w m h (w.length - offH h)) ((letN w m 0 i).length : Nat) i) true := by
  obtain ⟨h1, h2, hw, hn⟩ := wts_of hW
  induction d with
  | zero =>
    intro i hi
    obtain rfl : i = w.length := by omega
    refine Ev.step (fun k => ?_) (ev_pass_l1 hW hh _ 0 (Nat.zero_add _))
    simp only [tickinglaw11_SerialPass.l0]; rw [if_neg (by omega), if_pos trivial]; rfl
  | succ d ih =>
    intro i hi
    have hI := ih (i + 1) (by omega)
    have wi := wrap_succ i (by omega)
    have a0 := digs_rd hw i (by omega)
    have hg := ev_Gcd (rd w i) m a0.1 (by omega)
    have hlb : letB w m 0 i = decide (1 < (Int.gcd (rd w i) m : Int)) := rfl
    have hle := letN_len w m 0 i
    rw [letN_succ] at hI
    refine Ev.step (f := fun k => (tickingref11_Gcd.f k (rd w i) m).bind fun t444 => (if t444 > 1 then (if ((letN w m 0 i).length : Int) ≥ ((letN w m 0 w.length).length : Int) then (some false) else (if 0 ≤ ((letN w m 0 i).length : Int) then (if ((letN w m 0 i).length : Int) < ((letN w m 0 w.length).length : Int) then (if (rd (letN w m 0 w.length) ((letN w m 0 i).length : Int)) = i then (tickinglaw11_SerialPass.l0 k m h w (letN w m 0 w.length) (letN w m h (w.length - offH h)) (wrap64 (((letN w m 0 i).length : Int) + 1)) ((i + 1 : Nat) : Int)) else (some false)) else (none)) else (none))) else (tickinglaw11_SerialPass.l0 k m h w (letN w m 0 w.length) (letN w m h (w.length - offH h)) ((letN w m 0 i).length : Nat) ((i + 1 : Nat) : Int)))) (fun k => ?_) (Ev.bind hg ?_)
    · simp only [tickinglaw11_SerialPass.l0]; rw [if_pos (by omega), if_pos (by omega), wi]
    · by_cases hB : (Int.gcd (rd w i) m : Int) > 1
      · have hBt : letB w m 0 i = true := by rw [hlb]; exact decide_eq_true hB
        rw [hBt, if_pos rfl, List.length_append, List.length_singleton] at hI
        obtain ⟨r, hr⟩ := letN_pre w m 0 (i + 1) (w.length - (i + 1))
        rw [show i + 1 + (w.length - (i + 1)) = w.length by omega, letN_succ, hBt, if_pos rfl] at hr
        have hlen : (letN w m 0 w.length).length = (letN w m 0 i).length + 1 + r.length := by rw [hr, List.length_append, List.length_append]; rfl
        have hlt1 : (letN w m 0 i).length < (letN w m 0 w.length).length := by rw [hlen]; exact Nat.lt_of_lt_of_le (Nat.lt_succ_self _) (Nat.le_add_right _ _)
        have hlt2 : ((letN w m 0 i).length : Int) < ((letN w m 0 w.length).length : Int) := Int.ofNat_lt.2 hlt1
        have hge : ¬ ((letN w m 0 i).length : Int) ≥ ((letN w m 0 w.length).length : Int) := Int.not_le.2 hlt2
        have h00 : (0 : Int) ≤ ((letN w m 0 i).length : Int) := Int.natCast_nonneg _
        have wl := wrap_succ (letN w m 0 i).length (Nat.le_trans hle (by clear hlen hr hI hBt hB hg hlb wi; omega))
        have hrd : rd (letN w m 0 w.length) ((letN w m 0 i).length : Int) = i := by
          rw [rd_nat _ _ hlt1]
          simp only [hr]
          simp
        simp only [hB, if_true, hrd, wl, hge, if_false, h00, hlt2]
        exact hI
      · have hBf : letB w m 0 i = false := by rw [hlb]; exact decide_eq_false hB
        rw [hBf] at hI
        simp only [Bool.false_eq_true, if_false, List.append_nil] at hI
        simp only [hB, if_false]
        exact hI
theorem ev_SerialPass (l0 : List Int) (a1 a2 : Int) : Ev (fun k => tickinglaw11_SerialPass.f k l0 a1 a2) true := by
  have hm := modN_in a1 96 (by omega)
  have hc := modN_in a2 4 (by omega)
  have e1 : tickinglaw11_mod.f a1 96 = some (modN a1 96) := mod_eq a1 96 (by omega) (by omega)
  have e2 : tickinglaw11_mod.f a2 4 = some (modN a2 4) := mod_eq a2 4 (by omega) (by omega)
  have e3 : wrap64 (2 + modN a1 96) = 2 + modN a1 96 := w64 (by omega) (by omega)
  unfold tickinglaw11_SerialPass.f
  simp only [e1, e2, Option.bind_some, e3]
  generalize modN a2 4 = h at *
  obtain ⟨m, hmE⟩ : ∃ m, m = 2 + modN a1 96 := ⟨_, rfl⟩
  rw [← hmE]
  have hd := digitsOf_digs l0 12 m (by omega)
  have hl := digitsOf_len l0 12 m
  refine Ev.bind (ev_digits l0 12 m (by omega) (by omega) (by omega)) ?_
  generalize digitsOf l0 12 m = w at *
  have hW : wtsB w m = true := by
    unfold wtsB
    rw [hd, decide_eq_true (show 2 ≤ m by omega), decide_eq_true (show m ≤ 97 by omega), decide_eq_true (show (w.length : Int) ≤ 24 by omega)]; rfl
  refine Ev.bind (ev_sLets_yes hW (h := 0) (by omega)) (Ev.bind (ev_sLets_yes hW (h := h) (by omega)) ?_)
  have h0 : w.length - offH 0 = w.length := rfl
  simp only [h0, if_true]
  refine Ev.step (fun k => ?_) (ev_pass_l0 hW (h := h) (by omega) w.length 0 (by omega))
  simp only [tickinglaw11_SerialPass.j0, letN_zero]; rfl
end Go.Proofs.Ytdkncfmlehcjmaa.X
namespace Go.Proofs.Ytdkncfmlehcjmaa.Pure
open Go.Proofs.Ytdkncfmlehcjmaa.X Go.Proofs.YtdkncfmlehcjmaaW.PrintWords
theorem SerialPass : ∀ (l0 : List Int) (a1 a2 : Int), l0.length ≤ maxLen → (∀ x ∈ l0, (Lit.int .i64 x).wf = true) → (Lit.int .i64 a1).wf = true → (Lit.int .i64 a2).wf = true → ∃ k, tickinglaw11_SerialPass.f k l0 a1 a2 = some true := fun l0 a1 a2 _ _ _ _ => by
  obtain ⟨k, hk⟩ := ev_SerialPass l0 a1 a2
  exact ⟨k, hk k (Nat.le_refl _)⟩
end Go.Proofs.Ytdkncfmlehcjmaa.Pure
