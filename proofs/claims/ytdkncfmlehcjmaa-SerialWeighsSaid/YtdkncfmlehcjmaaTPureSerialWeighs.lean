/- SerialWeighs: the good weights notice one changed digit and two exchanged neighbors, and Last makes the sum 0. -/
import Derived.Test.YtdkncfmlehcjmaaTX13
import Derived.Test.YtdkncfmlehcjmaaTS3
import Derived.Test.YtdkncfmlehcjmaaTS10
set_option linter.unusedVariables false
set_option linter.unusedSimpArgs false
set_option linter.unusedSectionVars false
namespace Go.Proofs.Ytdkncfmlehcjmaa.X
open Go.RowKit Go.Proofs.YtdkncfmlehcjmaaW.PrintWords
section
variable {N : Nat} {m : Int} (hg : good N m) (hN : 1 ≤ N) (y : List Int) (hy : y.length = N) (hd : digs y m = true) (hz : dotN (pat N) y N % m = 0) (p : Nat) (hp : p < N)
include hg hN hy hd hz hp
theorem ev_sum_pat (l : List Int) (hl : l.length = N) (hld : digs l m = true) : Ev (fun k => serial_Sum.f k (pat N) m l) (dotN (pat N) l N % m, 0) := by
  have := ev_sSum_yes (pat N) l m (pat_wts hg hN) (by rw [hl, pat_len]) hld
  rwa [hl] at this
theorem sum_one (v : Int) (v0 : 0 ≤ v) (v1 : v < m) : dotN (pat N) (y.set p v) N % m = 0 ↔ v = rd y p := by
  have hr := digs_rd hd p (by omega)
  rw [dotset _ _ _ _ (by omega), if_pos hp, pat_rd N p hp]
  exact one_changed hg _ hz p hp v (rd y p) v0 v1 hr.1 hr.2
theorem sum_two (v : Int) (hp1 : p + 1 < N) : dotN (pat N) (((y.set p v).set p (rd y ((p + 1 : Nat) : Int))).set (p + 1) (rd y p)) N % m = 0 ↔ rd y p = rd y ((p + 1 : Nat) : Int) := by
  have h0 := digs_rd hd p (by omega)
  have h1 := digs_rd hd (p + 1) (by omega)
  rw [List.set_set, dotset _ _ _ _ (by rw [List.length_set]; omega), if_pos hp1, dotset _ _ _ _ (by omega), if_pos hp, rdset _ _ _ _ (by omega), if_neg (by omega), pat_rd N p hp, pat_rd N (p + 1) hp1]
  exact two_changed hg _ hz p (rd y p) (rd y ((p + 1 : Nat) : Int)) h0.1 h0.2 h1.1 h1.2
theorem ev_weighs_j2 (a b v : Int) (v0 : 0 ≤ v) (v1 : v < m) : Ev (fun k => tickinglaw11_SerialWeighs.j2 k N m (pat N) y p (y.set p v) false) true := by
  have hN24 := hg.1
  have w1 : wrap64 ((p : Int) + 1) = ((p + 1 : Nat) : Int) := wrap_succ p (by omega)
  by_cases hp1 : p + 1 < N
  · have h0 := digs_rd hd p (by omega)
    have h1 := digs_rd hd (p + 1) (by omega)
    have hl : (((y.set p v).set p (rd y ((p + 1 : Nat) : Int))).set (p + 1) (rd y p)).length = N := by simp [hy]
    have hld : digs (((y.set p v).set p (rd y ((p + 1 : Nat) : Int))).set (p + 1) (rd y p)) m = true := digs_set' (digs_set' (digs_set' hd _ _ v0 v1) _ _ h1.1 h1.2) _ _ h0.1 h0.2
    have h2 := sum_two hg hN y hy hd hz p hp v hp1
    refine Ev.step (f := fun k => (serial_Sum.f k (pat N) m (((y.set p v).set p (rd y ((p + 1 : Nat) : Int))).set (p + 1) (rd y p))).bind fun bt720 => (if bt720.2 = 0 then (if ((bt720.1 == 0) == ((rd y p) == (rd y ((p + 1 : Nat) : Int)))) = true then ((tickinglaw11_awake.f k).bind fun t724 => (some t724)) else (some false)) else (some false))) (fun k => ?_) (Ev.bind (ev_sum_pat hg hN y hy hd hz p hp _ hl hld) ?_)
    · simp only [tickinglaw11_SerialWeighs.j2, Bool.false_eq_true, if_false]
      rw [w1, if_neg (by omega), if_pos (by omega), if_pos (by rw [hy]; omega), if_pos (by omega), if_pos (by rw [List.length_set, hy]; omega), if_pos (by rw [hy]; omega), if_pos (by rw [List.length_set, hy]; omega), Int.toNat_natCast, Int.toNat_natCast]
    · have : ((dotN (pat N) (((y.set p v).set p (rd y ((p + 1 : Nat) : Int))).set (p + 1) (rd y p)) N % m == 0) == (rd y p == rd y ((p + 1 : Nat) : Int))) = true := by
        rw [beq_iff_eq, Bool.eq_iff_iff, beq_iff_eq, beq_iff_eq]; exact h2
      simp only [this, if_true]
      exact Ev.bind ev_awake (Ev.now true)
  · refine Ev.step (f := fun k => (tickinglaw11_awake.f k).bind fun t => some t) (fun k => ?_) (Ev.bind ev_awake (Ev.now true))
    simp only [tickinglaw11_SerialWeighs.j2, Bool.false_eq_true, if_false]
    rw [w1, if_pos (by omega)]
end
theorem ev_weighs_j1 {N : Nat} {m : Int} (hg : good N m) (hN : 1 ≤ N) (y : List Int) (hy : y.length = N) (hd : digs y m = true) (hz : dotN (pat N) y N % m = 0) (a b : Int) : Ev (fun k => tickinglaw11_SerialWeighs.j1 k N m (pat N) y false a b) true := by
  have hN24 := hg.1
  have hm := good_m hg 0 (by omega)
  have hpm := modN_in a (N : Int) (by omega)
  have hvm := modN_in b m (by omega)
  obtain ⟨p, hpE⟩ : ∃ p : Nat, (p : Int) = modN a (N : Int) := ⟨(modN a (N : Int)).toNat, by omega⟩
  obtain ⟨v, hvE⟩ : ∃ v, v = modN b m := ⟨_, rfl⟩
  have e1 : tickinglaw11_mod.f a (N : Int) = some (p : Int) := by rw [mod_eq _ _ (by omega) (by omega), hpE]
  have e2 : tickinglaw11_mod.f b m = some v := by rw [mod_eq _ _ (by omega) (by omega), hvE]
  have e3 : tickinglaw11_list.f y = some y := (show tickinglaw11_list.f y = some (y.take 25) from rfl).trans (by rw [List.take_of_length_le (by omega)])
  rw [← hvE] at hvm
  have hp : p < N := by omega
  have hpy : (p : Int) < (y.length : Int) := by rw [hy]; omega
  have h1 := sum_one hg hN y hy hd hz p hp v hvm.1 hvm.2
  have hrd : rd (y.set p v) (p : Int) = v := by rw [rdset _ _ _ _ (by omega), if_pos rfl]
  have hs := ev_sum_pat hg hN y hy hd hz p hp (y.set p v) (by rw [List.length_set]; exact hy) (digs_set' hd _ _ hvm.1 hvm.2)
  refine Ev.step (f := fun k => (serial_Sum.f k (pat N) m (y.set p v)).bind fun bt711 => (if bt711.2 = 0 then (tickinglaw11_SerialWeighs.j2 k N m (pat N) y p (y.set p v) ((bt711.1 == 0) != (v == (rd y p)))) else (tickinglaw11_SerialWeighs.j2 k N m (pat N) y p (y.set p v) true))) (fun k => ?_) (Ev.bind hs ?_)
  · simp only [tickinglaw11_SerialWeighs.j1, Bool.false_eq_true, if_false]
    rw [e1, Option.bind_some, e3, Option.bind_some, e2, Option.bind_some, if_pos (Int.natCast_nonneg _), if_pos hpy, Option.bind_some, Int.toNat_natCast, hrd]
    congr 1; funext bt; rw [if_pos hpy]
  · have : ((dotN (pat N) (y.set p v) N % m == 0) != (v == rd y p)) = false := by
      rw [bne_eq_false_iff_eq, Bool.eq_iff_iff, beq_iff_eq, beq_iff_eq]; exact h1
    simp only [this, if_true]
    exact ev_weighs_j2 hg hN y hy hd hz p hp a b v hvm.1 hvm.2
theorem ev_weighs_l0 {N : Nat} {m : Int} (hg : good N m) (hN : 1 ≤ N) (a b : Int) (d : Nat) : ∀ l : List Int, l.length + 1 + d = N → digs l m = true → Ev (fun k => tickinglaw11_SerialWeighs.l0 k N m (pat N) l a b) true := by
  have hN24 := hg.1
  have hm := good_m hg 0 (by omega)
  have hw1 : wrap64 ((N : Int) - 1) = (N : Int) - 1 := w64 (by omega) (by omega)
  have HW1 := Aside0.mk hw1
  clear hw1
  induction d with
  | zero =>
    intro l hl hd
    obtain ⟨r, r0, r1, hL, hz⟩ := ev_Last_pat hg l (by omega) hd
    have hyl : (l ++ [r]).length = N := by rw [List.length_append, List.length_singleton]; omega
    have hyd : digs (l ++ [r]) m = true := by
      rw [digs_app']; refine ⟨hd, ?_⟩; unfold digs; simp; omega
    have e3 : tickinglaw11_list.f l = some l := (show tickinglaw11_list.f l = some (l.take 25) from rfl).trans (by rw [List.take_of_length_le (by omega)])
    have h44 : l.length < 17592186044416 := by omega
    have hs := ev_sum_pat hg hN (l ++ [r]) hyl hyd hz 0 (by omega) (l ++ [r]) hyl hyd
    have hne : (((l ++ [r]).length : Int) != (N : Int)) = false := by rw [bne_eq_false_iff_eq, hyl]
    have hlt : ¬ (l.length : Int) < (N : Int) - 1 := by omega
    refine Ev.step (f := fun k => (serial_Last.f k (pat N) m l).bind fun bt695 => ((serial_Sum.f k (pat N) m (l ++ [bt695.1])).bind fun bt703 => (if bt695.2 = 0 then (if bt703.2 = 0 then (if bt703.1 = 0 then (tickinglaw11_SerialWeighs.j1 k N m (pat N) (l ++ [bt695.1]) (((l ++ [bt695.1]).length : Int) != N) a b) else (tickinglaw11_SerialWeighs.j1 k N m (pat N) (l ++ [bt695.1]) true a b)) else (tickinglaw11_SerialWeighs.j1 k N m (pat N) (l ++ [bt695.1]) true a b)) else (tickinglaw11_SerialWeighs.j1 k N m (pat N) (l ++ [bt695.1]) true a b)))) (fun k => ?_) (Ev.bind hL (Ev.bind hs ?_))
    · simp only [tickinglaw11_SerialWeighs.l0]
      rw [HW1.out, if_neg hlt, e3]
      simp only [Option.bind_some]
      congr 1; funext bt
      rw [if_pos h44]
    · simp only [hz, hne, if_true]
      exact ev_weighs_j1 hg hN (l ++ [r]) hyl hyd hz a b
  | succ d ih =>
    intro l hl hd
    have h44 : l.length < 17592186044416 := by omega
    have hlt : (l.length : Int) < (N : Int) - 1 := by omega
    have hyd : digs (l ++ [1]) m = true := by
      rw [digs_app']; refine ⟨hd, ?_⟩; unfold digs; simp; omega
    refine Ev.step (fun k => ?_) (ih (l ++ [1]) (by rw [List.length_append, List.length_singleton]; omega) hyd)
    simp only [tickinglaw11_SerialWeighs.l0]
    rw [HW1.out, if_pos hlt, if_pos h44]
theorem ev_SerialWeighs (a0 b0 : Int) (l1 : List Int) (a b : Int) : Ev (fun k => tickinglaw11_SerialWeighs.f k a0 b0 l1 a b) true := by
  have hn := modN_in a0 24 (by omega)
  have hm := modN_in b0 96 (by omega)
  have e1 : tickinglaw11_mod.f a0 24 = some (modN a0 24) := mod_eq a0 24 (by omega) (by omega)
  have e2 : tickinglaw11_mod.f b0 96 = some (modN b0 96) := mod_eq b0 96 (by omega) (by omega)
  have e3 : wrap64 (1 + modN a0 24) = 1 + modN a0 24 := w64 (by omega) (by omega)
  have e4 : wrap64 (2 + modN b0 96) = 2 + modN b0 96 := w64 (by omega) (by omega)
  unfold tickinglaw11_SerialWeighs.f
  simp only [e1, e2, Option.bind_some, e3, e4]
  obtain ⟨N, hNE⟩ : ∃ N : Nat, (N : Int) = 1 + modN a0 24 := ⟨(1 + modN a0 24).toNat, by omega⟩
  obtain ⟨m, hmE⟩ : ∃ m, m = 2 + modN b0 96 := ⟨_, rfl⟩
  rw [← hNE, ← hmE]
  have hW : serial_Weights.f N m = some (if m % 2 = 0 ∧ (N : Int) > 1 then ([], 6) else (pat N, 0)) := by
    unfold serial_Weights.f
    rw [if_neg (fun c => c (by omega)), Int.toNat_natCast]
  simp only [hW, Option.bind_some]
  by_cases hc : m % 2 = 0 ∧ (N : Int) > 1
  · have ht : Int.tmod m 2 = 0 := by rw [Int.tmod_eq_emod_of_nonneg (by omega)]; exact hc.1
    rw [if_pos hc]
    have hN1 : (1 : Int) < (N : Int) := by omega
    simp [ht, hN1]
    exact ev_awake
  · rw [if_neg hc]
    have hg : good N m := by unfold good; omega
    have hpl : ((pat N).length : Int) = (N : Int) := by rw [pat_len]
    have hw1 : wrap64 ((N : Int) - 1) = ((N - 1 : Nat) : Int) := by rw [w64 (by omega) (by omega)]; omega
    simp only [if_true, hpl, hw1]
    have hdl := digitsOf_len l1 (N - 1) m
    have hdd := digitsOf_digs l1 (N - 1) m (by omega)
    refine Ev.bind (ev_digits l1 (N - 1) m (by omega) (by omega) (by omega)) ?_
    exact ev_weighs_l0 hg (by omega) a b (N - 1 - (digitsOf l1 (N - 1) m).length) _ (by omega) hdd
end Go.Proofs.Ytdkncfmlehcjmaa.X
namespace Go.Proofs.Ytdkncfmlehcjmaa.Pure
open Go.Proofs.Ytdkncfmlehcjmaa.X Go.Proofs.YtdkncfmlehcjmaaW.PrintWords
theorem SerialWeighs : ∀ (a0_0 a0_1 : Int) (l1 : List Int) (a2_0 a2_1 : Int), (Lit.int .i64 a0_0).wf = true → (Lit.int .i64 a0_1).wf = true → l1.length ≤ maxLen → (∀ x ∈ l1, (Lit.int .i64 x).wf = true) → (Lit.int .i64 a2_0).wf = true → (Lit.int .i64 a2_1).wf = true → ∃ k, tickinglaw11_SerialWeighs.f k a0_0 a0_1 l1 a2_0 a2_1 = some true := fun a0 b0 l1 a b _ _ _ _ _ _ => by
  obtain ⟨k, hk⟩ := ev_SerialWeighs a0 b0 l1 a b
  exact ⟨k, hk k (Nat.le_refl _)⟩
end Go.Proofs.Ytdkncfmlehcjmaa.Pure
