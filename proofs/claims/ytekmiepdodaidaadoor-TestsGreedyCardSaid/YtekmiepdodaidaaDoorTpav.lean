/- Texts behind TestsGreedy, part 22: contracts of the program's functions and the plain words for them. -/
import Derived.WalkSpells
import Derived.Test.YtekmiepdodaidaaDoorTpas
import Derived.Test.YtekmiepdodaidaaDoorTpau
section
/- tests.newTrial and (trial).alike as the hand-walked callers take them: by whether the case is one. -/
set_option linter.unusedVariables false
set_option linter.unusedSimpArgs false
namespace Go.Proofs.YtekmiepdodaidaaDoor.X
open Go.RowKit Go.Proofs.YtekmiepdodaidaaDoorW.PrintWords Go.Proofs.YtekmiepdodaidaaDoorW.PrintLast Go.Proofs.YtekmiepdodaidaaDoorW.PrintMore

/-- A case's slices, as they lie. -/
structure CaseAt (w : World) (A0 : Option Addr) (c0 : Nat) (a : List Int) (A1 : Option Addr) (c1 : Nat) (b : List (List Int)) (A2 : Option Addr) (c2 : Nat) (c : List Int) : Prop where
 r0 : Kd.C (Kd.int .i64) w A0 a.length a
 n0 : a.length ≤ c0
 r1 : Kd.C (Kd.slice 3 (Kd.int .i64)) w A1 b.length b
 n1 : b.length ≤ c1
 r2 : Kd.C (Kd.int .i64) w A2 c.length c
 n2 : c.length ≤ c2
theorem CaseAt.below {w w' : World} {A0 : Option Addr} {c0 : Nat} {a : List Int} {A1 : Option Addr} {c1 : Nat} {b : List (List Int)} {A2 : Option Addr} {c2 : Nat} {c : List Int} (h : CaseAt w A0 c0 a A1 c1 b A2 c2 c) (hb : Below w.heap.size w w') : CaseAt w' A0 c0 a A1 c1 b A2 c2 c :=
 ⟨Kd.C_below h.r0 hb, h.n0, Kd.C_below h.r1 hb, h.n1, Kd.C_below h.r2 hb, h.n2⟩
section
variable {A0 : Option Addr} {c0 : Nat} {a : List Int} {A1 : Option Addr} {c1 : Nat} {b : List (List Int)} {A2 : Option Addr} {c2 : Nat} {c : List Int} {w : World}
def TrialBad (w : World) (e : Ending) (w' : World) : Prop := ∃ A3 c3, e = .returned (.tuple #[.agg #[.slice none 0 0, .slice none 0 0, .slice none 0 0, .slice A3 0 c3, .int .u64 0], .int .i64 2]) ∧ Below w.heap.size w w'
def TrialGood (A0 : Option Addr) (c0 : Nat) (a : List Int) (A1 : Option Addr) (c1 : Nat) (b : List (List Int)) (A2 : Option Addr) (c2 : Nat) (c : List Int) (w : World) (e : Ending) (w' : World) : Prop :=
 ∃ A3 c3, e = .returned (.tuple #[.agg #[.slice A0 a.length c0, .slice A1 b.length c1, .slice A2 c.length c2, .slice A3 (onesOf b).length c3, .int .u64 ((2 ^ a.length : Nat) - 1)], .int .i64 0]) ∧ (Kd.C (Kd.int .u64) w' A3 (onesOf b).length (onesOf b) ∧ (onesOf b).length ≤ c3) ∧ Below w.heap.size w w'
theorem trial_bad (h : CaseAt w A0 c0 a A1 c1 b A2 c2 c) (hc : caseB a b c = false) : Calls Tryd.prog 45 #[.agg #[.slice A0 a.length c0, .slice A1 b.length c1, .slice A2 c.length c2]] w (TrialBad w) := by
 obtain ⟨k, hk⟩ := (newTrialA_all a b c).rounds
 rw [hc, if_neg (by decide)] at hk
 refine (tests_newTrialA.calls k A0 c0 a A1 c1 b A2 c2 c _ _ _ _ _ _ w h.r0 h.n0 h.r1 h.n1 h.r2 h.n2 hk).mono ?_
 rintro e w' ⟨v0, v1, v2, v3, rfl, ht, hv3, hb⟩
 obtain ⟨A3, c3, rfl⟩ := Kd.R_slice hv3
 rcases ht with ⟨h6, rfl, rfl, rfl⟩ | ⟨h6, rfl, rfl, rfl⟩
 ·exact absurd h6 (by decide)
 ·exact ⟨A3, c3, rfl, hb⟩
theorem trial_good (h : CaseAt w A0 c0 a A1 c1 b A2 c2 c) (hc : caseB a b c = true) : Calls Tryd.prog 45 #[.agg #[.slice A0 a.length c0, .slice A1 b.length c1, .slice A2 c.length c2]] w (TrialGood A0 c0 a A1 c1 b A2 c2 c w) := by
 obtain ⟨k, hk⟩ := (newTrialA_all a b c).rounds
 rw [hc, if_pos rfl] at hk
 refine (tests_newTrialA.calls k A0 c0 a A1 c1 b A2 c2 c _ _ _ _ _ _ w h.r0 h.n0 h.r1 h.n1 h.r2 h.n2 hk).mono ?_
 rintro e w' ⟨v0, v1, v2, v3, rfl, ht, hv3, hb⟩
 obtain ⟨A3, c3, rfl⟩ := Kd.R_slice hv3
 rcases ht with ⟨h6, rfl, rfl, rfl⟩ | ⟨h6, rfl, rfl, rfl⟩
 ·exact ⟨A3, c3, rfl, ⟨(Kd.R_reads' hv3).2.2, (Kd.R_reads' hv3).2.1⟩, hb⟩
 ·exact absurd h6 (by decide)
/-- What holds of a case. -/
structure CaseIs (a : List Int) (b : List (List Int)) (c : List Int) : Prop where
 a1 : 1 ≤ a.length
 a10 : a.length ≤ 10
 b12 : b.length ≤ 12
 cb : c.length = b.length
 wa : ∀ x ∈ a, 1 ≤ x ∧ x ≤ 1000
 wc : ∀ x ∈ c, 1 ≤ x ∧ x ≤ 100
 rows : b.all (rowOkB a.length) = true
theorem case_is (h : caseB a b c = true) : CaseIs a b c := by
 unfold caseB at h
 simp only [Bool.and_eq_true, decide_eq_true_eq, beq_iff_eq] at h
 obtain ⟨⟨⟨⟨⟨⟨h1, h2⟩, h3⟩, h4⟩, h5⟩, h6⟩, h7⟩ := h
 exact ⟨h1, h2, h3, h4, fun x hx => (all_inB _ _ _).1 h5 x hx, fun x hx => (all_inB _ _ _).1 h6 x hx, h7⟩
theorem onesOf_len : (onesOf b).length = b.length := by unfold onesOf; exact List.length_map ..
def allOf (a : List Int) : Int := (2 ^ a.length : Nat) - 1
theorem allOf_set (h : CaseIs a b c) : SetB (allOf a) ∧ 1 ≤ allOf a := by
 have hp : 2 ^ a.length ≤ 2 ^ 10 := Nat.pow_le_pow_right (by omega) h.a10
 have hq : 2 ^ 1 ≤ 2 ^ a.length := Nat.pow_le_pow_right (by omega) h.a1
 unfold allOf SetB
 omega
/-- The pairs that no test tells apart. -/
def AlikePost (l : List S53) (w : World) (e : Ending) (w' : World) : Prop := ∃ A n, e = .returned (.slice A l.length n) ∧ Below w.heap.size w w'
theorem alike_n (h : CaseAt w A0 c0 a A1 c1 b A2 c2 c) (hc : CaseIs a b c) (A3 : Option Addr) (c3 : Nat) (ones : List Int) (al : Int) (r3 : Kd.C (Kd.int .u64) w A3 ones.length ones) (n3 : ones.length ≤ c3) :
  Calls Tryd.prog 49 #[.agg #[.slice A0 a.length c0, .slice A1 b.length c1, .slice A2 c.length c2, .slice A3 ones.length c3, .int .u64 al]] w (AlikePost (alikeL ones a.length) w) := by
 refine (tests_trial_alike.calls A0 c0 a A1 c1 b A2 c2 c A3 c3 ones al (alikeL ones a.length) w h.r0 h.n0 h.r1 h.n1 h.r2 h.n2 r3 n3 (by unfold tests_trial_alike.f; rw [if_pos hc.a10])).mono ?_
 rintro e w' ⟨v, rfl, hv, hb⟩
 obtain ⟨A, n, rfl⟩ := Kd.R_slice hv
 exact ⟨A, n, rfl, hb⟩
end
theorem field96 (w : World) (x y : Int) : (Instr.field 96 (.agg #[.int .i64 x, .int .i64 y]) 0).run Tryd.prog w = .ok (.int .i64 x) w ∧ (Instr.field 96 (.agg #[.int .i64 x, .int .i64 y]) 1).run Tryd.prog w = .ok (.int .i64 y) w := by
 have ha : (asAgg (.agg #[.int .i64 x, .int .i64 y])).run Tryd.prog w = .ok #[.int .i64 x, .int .i64 y] w := rfl
 constructor <;> (simp [Instr.field, run_underlying Tryd.underlying96, part, isAgg, run_underlying Tryd.underlying3, ha]; try rfl)
set_option maxRecDepth 100000 in
/-- The test that the map of the choices has at a set. -/
theorem test60 {W : World} {gq B n : Nat} {f : KMap} {s t co : Int} (hs : SetB s) (hcz : W.cell? ⟨gq, 0, none⟩ = some (.map (some B))) (hm : MapIs Tryd.prog 75 W B n f) (hv : f (ky s) = some (.agg #[.int .i64 t, .int .i64 co])) :
  Calls Tryd.prog 60 #[.int .u64 s, .pointer (some ⟨gq, 0, none⟩)] W fun e w' => e = .returned (.int .i64 t) ∧ Below W.heap.size W w' := by
 have hlook := hm.look (t := 93) (e := 96) keyed75 Tryd.underlying93 (zero96 W) (ky_of hs)
 rw [hv] at hlook
 simp only [Option.getD_some] at hlook
 have hf := fun w => (field96 w t co).1
 clear hm hv hs
 go_enter Tryd.func60, Tryd.ntmps60
 go_wp2
 go_ret
 exact ⟨rfl, Below.refl _ _⟩
theorem chs_one (mf : Int → Int → Int → Int → Int) (ones : List Int) (ho : ∀ x ∈ ones, SetB x) (s : Int) (hs : SetB s) (h : ∀ x ∈ ones, splitB s x = false) : chs mf ones s = (-1, 0) := by
 rw [chs_eq mf ones ho s hs]
 unfold chsStep
 have : ∀ (c : Int → Int → Int) (l : List Int) (k : Int) (bb : Int × Int), (∀ x ∈ l, splitB s x = false) → pickB c s k l bb = bb := by
  intro c l
  induction l with
  | nil => intro k bb _; rfl
  | cons x xs ih =>
   intro k bb hl
   unfold pickB
   rw [if_neg (by rw [hl x (by simp)]; decide)]
   exact ih _ _ (fun y hy => hl y (by simp [hy]))
 exact this _ _ _ _ h
theorem one_split (s x : Int) (hs : SetB s) (hx : SetB x) (h1 : 1 ≤ s) (hp : pcount s = 1) : splitB s x = false := by
 cases hsp : splitB s x with
 | false => rfl
 | true =>
  exfalso
  obtain ⟨v, rfl⟩ : ∃ v : Nat, s = v := ⟨s.toNat, by omega⟩
  obtain ⟨y, rfl⟩ : ∃ y : Nat, x = y := ⟨x.toNat, by unfold SetB at hx; omega⟩
  unfold SetB at hs hx
  rw [pcount_nat v (by omega)] at hp
  have hone : ∀ v, v < 1024 → v ≠ 0 → cntB v = 1 → ∃ i, i < 10 ∧ v = 2 ^ i := by decide +kernel
  obtain ⟨i, hi, rfl⟩ := hone v (by omega) (by omega) (by omega)
  unfold splitB at hsp
  have e1 : bAnd ((2 ^ i : Nat) : Int) (y : Int) = ((2 ^ i &&& y : Nat) : Int) := by
   rw [bAnd_nat (s := ((2 ^ i : Nat) : Int)) (x := (y : Int)) (by unfold SetB; omega) (by unfold SetB; omega), Int.toNat_natCast, Int.toNat_natCast]
  have e2 := bSub_nat (v := 2 ^ i) (x := y) (by omega) (by omega)
  rw [e1, e2] at hsp
  have hb := not_bit (x := y) (i := i) (by omega) (by omega)
  cases hy : y.testBit i
  ·have : 2 ^ i &&& y = 0 := by
    apply Nat.eq_of_testBit_eq
    intro j
    rw [Nat.testBit_and, Nat.testBit_two_pow]
    by_cases e : i = j
    ·subst e; simp [hy]
    ·simp [e]
   rw [this] at hsp
   simp at hsp
  ·rw [hy] at hb
   have : 2 ^ i &&& (18446744073709551615 - y) = 0 := by
    apply Nat.eq_of_testBit_eq
    intro j
    rw [Nat.testBit_and, Nat.testBit_two_pow]
    by_cases e : i = j
    ·subst e; simp [hb]
    ·simp [e]
   rw [this] at hsp
   simp at hsp
/-- What the map of the choices has at the whole set. -/
theorem val_at {mf : Int → Int → Int → Int → Int} {ones : List Int} {f : KMap} (ho : ∀ x ∈ ones, SetB x) {al : Int} (hs : SetB al) (h1 : 1 ≤ al) (hd : doneB f al)
  (hg : ∀ kl v, f kl = some v → ∃ s, SetB s ∧ 1 ≤ s ∧ kl = ky s ∧ v = .agg #[.int .i64 (chs mf ones s).1, .int .i64 (chs mf ones s).2] ∧ ∀ x ∈ ones, splitB s x = true → doneB f (bSub s x) ∧ doneB f (bAnd s x)) :
  ∃ t, (f (ky al)).getD (.agg #[.int .i64 0, .int .i64 0]) = .agg #[.int .i64 t, .int .i64 (cstB (chs mf ones) al)] := by
 by_cases hp : pcount al = 1
 ·have hch := chs_one mf ones ho al hs (fun x hx => one_split al x hs (ho x hx) h1 hp)
  have hcst : cstB (chs mf ones) al = 0 := by unfold cstB; rw [if_pos hp]
  rw [hcst]
  cases hf : f (ky al) with
  | none => exact ⟨0, rfl⟩
  | some v =>
   obtain ⟨s, _, _, hk, rfl, _⟩ := hg _ _ hf
   obtain rfl := ky_inj hk
   rw [hch]
   exact ⟨-1, rfl⟩
 ·have hcst : cstB (chs mf ones) al = (chs mf ones al).2 := by unfold cstB; rw [if_neg hp]
  rw [hcst]
  rcases hd with hd | hd
  ·exact absurd hd hp
  ·obtain ⟨v, hv⟩ := Option.isSome_iff_exists.1 hd
   obtain ⟨s, _, _, hk, rfl, _⟩ := hg _ _ hv
   obtain rfl := ky_inj hk
   rw [hv]
   exact ⟨_, rfl⟩
/-- The sets that the best plan comes to. -/
def bestR (n : Nat) (f : KMap) (s : Int) : Prop := SetB s ∧ 1 ≤ s ∧ s < (2 ^ n : Nat) ∧ doneB f s
theorem best_runs {n : Nat} (hn : n ≤ 10) {mf : Int → Int → Int → Int → Int} {ones : List Int} {f : KMap} (ho : ∀ x ∈ ones, SetB x) (hal : alikeL ones n = [])
  (hg : ∀ kl v, f kl = some v → ∃ s, SetB s ∧ 1 ≤ s ∧ kl = ky s ∧ v = .agg #[.int .i64 (chs mf ones s).1, .int .i64 (chs mf ones s).2] ∧ ∀ x ∈ ones, splitB s x = true → doneB f (bSub s x) ∧ doneB f (bAnd s x)) :
  Runs (fun s => (chs mf ones s).1) ones (bestR n f) := by
 refine ⟨fun s h => ⟨h.1, h.2.1⟩, fun s h hp => ?_⟩
 obtain ⟨hs, h1, h2, hd⟩ := h
 obtain ⟨t0, t1, t2, t3⟩ := chs_test mf ones ho s hs (some_split hn ho hal s hs h1 h2 hp)
 rcases hd with hd | hd
 ·exact absurd hd hp
 ·obtain ⟨v, hv⟩ := Option.isSome_iff_exists.1 hd
  obtain ⟨u, _, _, hk, _, hcl⟩ := hg _ _ hv
  obtain rfl := ky_inj hk
  obtain ⟨d1, d2⟩ := hcl _ t2 t3
  obtain ⟨⟨p1, p2⟩, q1, q2⟩ := split_parts hs (ho _ t2) t3
  unfold SetB at hs
  exact ⟨t0, t1, ho _ t2, t3, ⟨by unfold SetB; omega, q1, by omega, d1⟩, ⟨by unfold SetB; omega, p1, by omega, d2⟩⟩
theorem best_val {n : Nat} {mf : Int → Int → Int → Int → Int} {ones : List Int} {f : KMap}
  (hg : ∀ kl v, f kl = some v → ∃ s, SetB s ∧ 1 ≤ s ∧ kl = ky s ∧ v = .agg #[.int .i64 (chs mf ones s).1, .int .i64 (chs mf ones s).2] ∧ ∀ x ∈ ones, splitB s x = true → doneB f (bSub s x) ∧ doneB f (bAnd s x)) {s : Int} (h : bestR n f s) (hp : pcount s ≠ 1) :
  f (ky s) = some (.agg #[.int .i64 (chs mf ones s).1, .int .i64 (chs mf ones s).2]) := by
 rcases h.2.2.2 with hd | hd
 ·exact absurd hd hp
 ·obtain ⟨v, hv⟩ := Option.isSome_iff_exists.1 hd
  obtain ⟨u, _, _, hk, rfl, _⟩ := hg _ _ hv
  obtain rfl := ky_inj hk
  exact hv
end Go.Proofs.YtekmiepdodaidaaDoor.X
end

section
/- (trial).divides, by hand: do the tests of a list tell all faults apart? -/
set_option linter.unusedVariables false
set_option linter.unusedSimpArgs false
namespace Go.Proofs.YtekmiepdodaidaaDoor.X
open Go.RowKit Go.Proofs.YtekmiepdodaidaaDoorW.PrintWords Go.Proofs.YtekmiepdodaidaaDoorW.PrintLast Go.Proofs.YtekmiepdodaidaaDoorW.PrintMore
open Go.Maps (Keyed)

theorem keyed3 : Keyed Tryd.prog 3 := Maps.int_keyed Tryd.underlying3
theorem zero4 (w : World) : (zeroValue 4).run Tryd.prog w = .ok (.bool false) w := by kernel_rfl
def ki (s : Int) : Lit := .int .i64 s
theorem ki_of {s : Int} (h : 0 ≤ s ∧ s ≤ 1000000) : keyOf Tryd.prog 3 (.int .i64 s) = some (ki s) := Maps.keyOf_int_mk Tryd.underlying3 (WalkArith.wf_i64 (by omega))
theorem ki_inj {s u : Int} (h : ki s = ki u) : s = u := by unfold ki at h; injection h
/-- The results of a fault in the tests of a list, as one number. -/
def resB (ones : List Int) (f : Nat) : List Int → Nat → Nat
 | [], r => r
 | k :: l, r => resB ones f l (2 * r + (if hasB (rd ones k) f = true then 1 else 0))
/-- No two of the first m faults have the same results. -/
def apartB (ones : List Int) (l : List Int) (m : Nat) : Bool := decide (((List.range m).map fun f => resB ones f l 0).Nodup)
theorem resB_lt (ones : List Int) (f : Nat) : ∀ (l : List Int) (r n : Nat), r < 2 ^ n → resB ones f l r < 2 ^ (n + l.length)
 | [], r, n, h => by simpa [resB] using h
 | k :: l, r, n, h => by
  have := resB_lt ones f l (2 * r + (if hasB (rd ones k) f = true then 1 else 0)) (n + 1) (by rw [Nat.pow_succ]; split <;> omega)
  rw [List.length_cons, show n + (l.length + 1) = n + 1 + l.length by omega]
  exact this
theorem resB_snoc (ones : List Int) (f : Nat) : ∀ (l : List Int) (k : Int) (r : Nat), resB ones f (l ++ [k]) r = 2 * resB ones f l r + (if hasB (rd ones k) f = true then 1 else 0)
 | [], k, r => rfl
 | x :: l, k, r => by
  show resB ones f (l ++ [k]) _ = _
  rw [resB_snoc ones f l k]; rfl
theorem apartB_zero (ones l : List Int) : apartB ones l 0 = true := rfl
theorem apartB_snoc (ones l : List Int) (m : Nat) : apartB ones l (m + 1) = (apartB ones l m && decide (∀ f, f < m → resB ones f l 0 ≠ resB ones m l 0)) := by
 unfold apartB
 rw [List.range_succ, List.map_append, List.map_cons, List.map_nil]
 rw [Bool.eq_iff_iff]
 simp only [Bool.and_eq_true, decide_eq_true_eq, List.nodup_append, List.mem_map, List.mem_range, List.mem_singleton]
 constructor
 ·rintro ⟨h1, _, h3⟩
  exact ⟨h1, fun f hf e => h3 _ ⟨f, hf, rfl⟩ _ rfl e⟩
 ·rintro ⟨h1, h2⟩
  refine ⟨h1, by simp, ?_⟩
  rintro x ⟨f, hf, rfl⟩ y rfl
  exact h2 f hf
theorem apartB_le (ones l : List Int) {m n : Nat} (h : m ≤ n) (hf : apartB ones l m = false) : apartB ones l n = false := by
 obtain ⟨d, rfl⟩ : ∃ d, n = m + d := ⟨n - m, by omega⟩
 clear h
 induction d with
 | zero => exact hf
 | succ d ih => rw [show m + (d + 1) = (m + d) + 1 by omega, apartB_snoc, ih]; rfl
theorem or_step (x : Int) (hx : SetB x) (r f : Nat) (hr : r < 4096) (hf : f < 10) : Go.bits .or .i64 (wrap64 ((r : Int) * 2)) (wrap64 (Go.bits .and .u64 (x / 2 ^ f) 1)) = ((2 * r + (if hasB x f = true then 1 else 0) : Nat) : Int) := by
 unfold SetB at hx
 obtain ⟨v, rfl⟩ : ∃ v : Nat, x = v := ⟨x.toNat, by omega⟩
 rw [hasB_nat v f (by omega), Nat.testBit_eq_decide_div_mod_eq]
 have hq : (v : Int) / 2 ^ f = ((v / 2 ^ f : Nat) : Int) := by simp
 have hle : v / 2 ^ f ≤ v := Nat.div_le_self _ _
 rw [hq]
 generalize v / 2 ^ f = q at hle ⊢
 clear hq
 rw [u64_and (q : Int) 1 (by omega) (by omega) (by omega) (by omega)]
 simp only [Int.toNat_natCast, Int.toNat_one]
 rw [Nat.and_one_is_mod]
 have e1 : wrap64 ((r : Int) * 2) = ((2 * r : Nat) : Int) := by unfold wrap64; omega
 have e2 : wrap64 ((q % 2 : Nat) : Int) = ((q % 2 : Nat) : Int) := by unfold wrap64; omega
 rw [e1, e2, (bits_nat .i64 20 (by decide) (fun n h0 h1 => by rw [IntKind.wrap_i64]; omega) (2 * r) (q % 2) (by omega) (by omega)).2]
 have h2 := Nat.two_pow_add_eq_or_of_lt (b := q % 2) (i := 1) (by omega) r
 rw [Nat.pow_one] at h2
 rw [← h2]
 by_cases h1 : q % 2 = 1
 ·simp [h1]
 ·have h0 : q % 2 = 0 := by omega
  simp [h0]
/-- The map of what was seen, when f faults are done. -/
structure SeenAt (ones l : List Int) (w w' : World) (B f : Nat) : Prop where mk ::
 ex : ∃ g, MapIs Tryd.prog 3 w' B f g ∧ (∀ r : Nat, r < 4096 → (g (ki r) = some (.bool true) ∨ g (ki r) = none) ∧ (g (ki r) = some (.bool true) ↔ ∃ f', f' < f ∧ resB ones f' l 0 = r)) ∧ Below w.heap.size w w' ∧ w.heap.size ≤ B
theorem seen_next {ones l : List Int} {w w1 : World} {B f r : Nat} {g : KMap} (hm : MapIs Tryd.prog 3 w1 B (f + 1) (g.put (ki r) (.bool true))) (hg : ∀ r : Nat, r < 4096 → (g (ki r) = some (.bool true) ∨ g (ki r) = none) ∧ (g (ki r) = some (.bool true) ↔ ∃ f', f' < f ∧ resB ones f' l 0 = r)) (hr : resB ones f l 0 = r) (hb : Below w.heap.size w w1) (hB : w.heap.size ≤ B) : SeenAt ones l w w1 B (f + 1) := by
 refine ⟨⟨_, hm, fun q hq => ?_, hb, hB⟩⟩
 by_cases e : q = r
 ·subst e
  have hp : g.put (ki q) (.bool true) (ki q) = some (.bool true) := KMap.put_same g (show WideAt.IsKeyLit (ki q) from trivial) _
  exact ⟨.inl hp, fun _ => ⟨f, Nat.lt_succ_self _, hr⟩, fun _ => hp⟩
 ·have hp : g.put (ki r) (.bool true) (ki q) = g (ki q) := KMap.put_other g (fun h => e (by have := ki_inj h; omega)) _
  rw [hp]
  refine ⟨(hg q hq).1, ?_⟩
  rw [(hg q hq).2]
  constructor
  ·rintro ⟨f', h1, h2⟩; exact ⟨f', by omega, h2⟩
  ·rintro ⟨f', h1, h2⟩
   by_cases ef : f' = f
   ·subst ef; exact absurd (h2.symm.trans hr) (fun h => e h)
   ·exact ⟨f', by omega, h2⟩
set_option maxHeartbeats 8000000 in
set_option maxRecDepth 100000 in
theorem divides_n {A0 : Option Addr} {c0 : Nat} {a : List Int} {A1 : Option Addr} {c1 : Nat} {b : List (List Int)} {A2 : Option Addr} {c2 : Nat} {c : List Int} {w : World} (h : CaseAt w A0 c0 a A1 c1 b A2 c2 c) (ha : a.length ≤ 10) (A3 : Option Addr) (c3 : Nat) (ones : List Int) (al : Int)
  (r3 : Kd.C (Kd.int .u64) w A3 ones.length ones) (n3 : ones.length ≤ c3) (ho : ∀ x ∈ ones, SetB x) (AL : Option Addr) (cl : Nat) (l : List Int) (rl : Kd.C (Kd.int .i64) w AL l.length l) (hl : l.length ≤ 12) (hk : ∀ k ∈ l, 0 ≤ k ∧ k < ones.length) :
  Calls Tryd.prog 53 #[.agg #[.slice A0 a.length c0, .slice A1 b.length c1, .slice A2 c.length c2, .slice A3 ones.length c3, .int .u64 al], .slice AL l.length cl] w fun e w' => e = .returned (.bool (apartB ones l a.length)) ∧ Below w.heap.size w w' := by
 have H := Aside0.mk h
 have R3 := Aside0.mk r3
 have HO := Aside0.mk ho
 have RL := Aside0.mk rl
 have HK := Aside0.mk hk
 have hm3 := Kd.C_max r3
 have hml := Kd.C_max rl
 have hmm := @run_makeMap Tryd.prog
 clear h r3 ho rl hk
 go_enter Tryd.func53, Tryd.ntmps53
 go_wp2
 go_loopg [15] a.length (fun kq v15 w' => ∃ f : Nat, v15 = .int .i64 f ∧ Aside0 (kq + f = a.length) ∧ Aside0 (apartB ones l f = true) ∧ Aside0 (SeenAt ones l (w.alloc (.cells #[.slice A0 a.length c0, .slice A1 b.length c1, .slice A2 c.length c2, .slice A3 ones.length c3, .int .u64 al] 77 (0, 0))) w' (w.heap.size + 1) f))
 case atStart =>
  refine ⟨0, rfl, ⟨by omega⟩, ⟨apartB_zero ones l⟩, ⟨⟨⟨KMap.empty, ?_, fun r _ => ⟨.inr rfl, ⟨fun h => (by cases h), fun ⟨_, h, _⟩ => absurd h (Nat.not_lt_zero _)⟩⟩, below_alloc (Below.refl _ _) _, (by rw [size_alloc']; omega)⟩⟩⟩⟩
  have := MapIs.made (w.alloc (.cells #[.slice A0 a.length c0, .slice A1 b.length c1, .slice A2 c.length c2, .slice A3 ones.length c3, .int .u64 al] 77 (0, 0))) Tryd.prog 3
  rwa [size_alloc'] at this
 case round =>
  obtain ⟨f, rfl, HKQ, HAP, HSE⟩ := hrel
  obtain ⟨k1, rfl⟩ : ∃ k1, k1 = gk := ⟨_, rfl⟩
  by_cases hf : f < a.length
  ·have hbx : wr.heap[w.heap.size]? = some (.cells #[.slice A0 a.length c0, .slice A1 b.length c1, .slice A2 c.length c2, .slice A3 ones.length c3, .int .u64 al] 77 (0, 0)) := by
    obtain ⟨g, _, _, hb, _⟩ := HSE.out.ex
    exact blk_below (blk_new w _) hb
   have HBX := Aside0.mk hbx
   have hcz : wr.cell? ⟨w.heap.size, 3, none⟩ = some (.slice A3 ones.length c3) := (blk_cell hbx 3).trans rfl
   have R3W := Aside0.mk (show Kd.C (Kd.int .u64) wr A3 ones.length ones by obtain ⟨g, _, _, hb, _⟩ := HSE.out.ex; exact Kd.C_below (Kd.C_alloc R3.out _) hb)
   have RLW := Aside0.mk (show Kd.C (Kd.int .i64) wr AL l.length l by obtain ⟨g, _, _, hb, _⟩ := HSE.out.ex; exact Kd.C_below (Kd.C_alloc RL.out _) hb)
   clear hbx
   go_upto_region 7 with (fail)
   go_loopg [20, 7] l.length (fun kq v20 v7 w' => ∃ j r : Nat, v20 = .int .i64 j ∧ v7 = .int .i64 r ∧ w' = wr ∧ Aside0 (kq + j = l.length) ∧ Aside0 (resB ones f (l.take j) 0 = r))
   case atStart => exact ⟨0, 0, rfl, rfl, rfl, ⟨by omega⟩, ⟨rfl⟩⟩
   case round =>
    obtain ⟨j, r, rfl, rfl, rfl, HJ, HR⟩ := hrel
    obtain ⟨k2, rfl⟩ : ∃ k2, k2 = gk := ⟨_, rfl⟩
    by_cases hj : j < l.length
    ·obtain ⟨adl, e1, hx⟩ := Kd.at_int RLW.out (j : Int) (by omega) (by omega)
     cases e1
     simp only [Int.toNat_natCast] at hx
     have hmem : rd l (j : Int) ∈ l := by simp [rd, List.getD_eq_getElem?_getD, List.getElem?_eq_getElem hj]
     obtain ⟨hk0, hk1⟩ := HK.out _ hmem
     obtain ⟨kn, hkn⟩ : ∃ kn : Nat, rd l (j : Int) = kn := ⟨(rd l (j : Int)).toNat, by omega⟩
     have HKN := Aside0.mk hkn
     rw [hkn] at hx hk1
     clear hmem hk0 hkn
     have hkn' : kn < ones.length := by omega
     obtain ⟨ad3, e3, hx3⟩ := Kd.at_int R3W.out (kn : Int) (by omega) (by omega)
     cases e3
     simp only [Int.toNat_natCast] at hx3
     obtain ⟨x, hxn⟩ : ∃ x, rd ones (kn : Int) = x := ⟨_, rfl⟩
     rw [hxn] at hx3
     have hSX : SetB x := by
      rw [← hxn]; refine HO.out _ ?_
      simp only [rd, Int.toNat_natCast, List.getD_eq_getElem?_getD, List.getElem?_eq_getElem hkn', Option.getD_some]; exact List.getElem_mem hkn'
     have hlt : (l.take j).length = j := by rw [List.length_take]; omega
     have hr4 : r < 4096 := by
      have h1 := resB_lt ones f (l.take j) 0 0 (by simp)
      rw [HR.out, hlt, Nat.zero_add] at h1
      have h2 : 2 ^ j ≤ 2 ^ 11 := Nat.pow_le_pow_right (by omega) (by omega)
      omega
     have HST := Aside0.mk (or_step x hSX r f hr4 (by omega))
     have hts : l.take (j + 1) = l.take j ++ [rd l (j : Int)] := by
      rw [List.take_succ_eq_append_getElem hj]; simp [rd, List.getD_eq_getElem?_getD, List.getElem?_eq_getElem hj]
     have HR2 := Aside0.mk (show resB ones f (l.take (j + 1)) 0 = 2 * r + (if hasB x f = true then 1 else 0) by rw [hts, resB_snoc, HR.out, HKN.out, hxn])
     clear hSX hlt hr4 hts hxn
     go_wp2
     go_roundg (k2 - 1)
     case measure => have := HJ.out; omega
     case rel => exact ⟨j + 1, 2 * r + (if hasB x f = true then 1 else 0), by go_num, by rw [HST.out], rfl, ⟨by have := HJ.out; omega⟩, HR2⟩
    ·obtain rfl : j = l.length := by have := HJ.out; omega
     have hR := HR.out
     rw [List.take_length] at hR
     have HRR := Aside0.mk hR
     have hr4 : r < 4096 := by
      have h1 := resB_lt ones f l 0 0 (by simp)
      rw [hR, Nat.zero_add] at h1
      have h2 : 2 ^ l.length ≤ 2 ^ 12 := Nat.pow_le_pow_right (by omega) (by omega)
      omega
     obtain ⟨g, hmp, hg, hb, hB⟩ := HSE.out.ex
     have HMP := Aside0.mk hmp
     have HG := Aside0.mk hg
     have HBL := Aside0.mk hb
     have HBB := Aside0.mk hB
     obtain ⟨hg1, hg2⟩ := hg r hr4
     have HG2 := Aside0.mk hg2
     have hlook := hmp.look (t := 102) (e := 4) keyed3 Tryd.underlying102 (zero4 _) (ki_of (s := (r : Int)) (by omega))
     have HKY := Aside0.mk (ki_of (s := (r : Int)) (by omega))
     have hfl : f < maxLen := by unfold maxLen; omega
     clear hR hmp hg hb hB hg2 hj
     rcases hg1 with hg1 | hg1
     ·rw [hg1] at hlook
      simp only [Option.getD_some] at hlook
      have hno : apartB ones l a.length = false := by
       obtain ⟨f', hf', he⟩ := HG2.out.1 hg1
       refine apartB_le ones l (show f + 1 ≤ a.length by omega) ?_
       rw [apartB_snoc, decide_eq_false (fun h => h f' hf' (by rw [he, HRR.out])), Bool.and_false]
      have HNO := Aside0.mk hno
      clear hg1 hno
      go_wp2
      go_ret
      exact ⟨by rw [HNO.out]; rfl, below_step (below_alloc (Below.refl _ _) _) HBL.out⟩
     ·rw [hg1] at hlook
      simp only [Option.getD_none] at hlook
      have hnew : ∀ f', f' < f → resB ones f' l 0 ≠ r := fun f' hf' he => by
       have := HG2.out.2 ⟨f', hf', he⟩
       rw [hg1] at this; cases this
      have hap : apartB ones l (f + 1) = true := by rw [apartB_snoc, HAP.out, Bool.true_and]; exact decide_eq_true (fun f' hf' e => hnew f' hf' (e.trans HRR.out))
      have HAP2 := Aside0.mk hap
      clear hg1 hnew hap
      go_wp2_with (at_mapUpdate; refine wpList_put_is _ rfl _ _ _ 102 rfl 3 4 keyed3 Tryd.underlying102 (w.heap.size + 1) f g rfl HMP.out hfl (.int .i64 r) _ (ki r) rfl rfl HKY.out ?_; intro w1 hown1 hgrow1; have HO1 := Aside0.mk hown1; have HG1 := Aside0.mk hgrow1; clear hown1 hgrow1)
      go_roundg (k1 - 1)
      case measure => have := HKQ.out; omega
      case rel => exact ⟨f + 1, by go_num, ⟨by have := HKQ.out; omega⟩, HAP2, ⟨seen_next HO1.out HG.out HRR.out (HBL.out.grown HG1.out HBL.out.size (fun k e => by injection e with e; subst e; exact HBB.out)) HBB.out⟩⟩
  ·obtain rfl : f = a.length := by have := HKQ.out; omega
   have HBL := Aside0.mk (show Below w.heap.size w wr by obtain ⟨g, _, _, hb, _⟩ := HSE.out.ex; exact below_step (below_alloc (Below.refl _ _) _) hb)
   go_wp2
   go_ret
   exact ⟨by rw [HAP.out]; rfl, HBL.out⟩
end Go.Proofs.YtekmiepdodaidaaDoor.X
end

section
namespace Go.Proofs.YtekmiepdodaidaaDoor.X
open Go.RowKit Go.Proofs.YtekmiepdodaidaaDoorW.PrintWords Go.Proofs.YtekmiepdodaidaaDoorW.PrintLast Go.Proofs.YtekmiepdodaidaaDoorW.PrintMore
attribute [local go_sem] max2_int min2_int max_two min_two max_three min_three max_four min_four   -- for this text's walks alone
set_option linter.unusedVariables false
set_option linter.unusedSimpArgs false

def cmp_Or_int.l0 : Nat → Int → List Int → Int → Int → Option (Int)
 | 0, _, _, _, _ => none
 | k + 1, x3, x6, x7, x8 => if x8 < x7 then (if 0 ≤ x8 then (if x8 < (x6.length : Int) then (if (rd x6 x8) = x3 then (cmp_Or_int.l0 k x3 x6 x7 (wrap64 (x8 + 1))) else (some (rd x6 x8))) else (none)) else (none)) else (some x3)
def cmp_Or_int.f (k : Nat) (l0 : List Int) : Option (Int) := cmp_Or_int.l0 k 0 l0 (l0.length : Int) 0
set_option maxHeartbeats 8000000 in
set_option maxRecDepth 100000 in
theorem cmp_Or_int.calls (k : Nat) (A0 : Option Addr) (c0 : Nat) (l0 : List Int) (r : Int) (w : World) (hr0 : Kd.C (Kd.int .i64) w A0 l0.length l0) (hc0 : l0.length ≤ c0) (h : cmp_Or_int.f k l0 = some r) :
  Calls Tryd.prog 54 #[.slice A0 l0.length c0] w fun e w' => e = .returned (.int .i64 r) ∧ Drawn0 w w' := by
 have HR0 := Aside0.mk hr0
 have HC0 := Aside0.mk hc0
 clear hr0 hc0
 have H : (cmp_Or_int.l0 k 0 l0 (l0.length : Int) 0) = some r := h
 clear h
 have H' := Aside0.mk H
 clear H
 go_enter Tryd.func54, Tryd.ntmps54
 go_wp2
 go_loopg [8] k (fun kq v8 w' => ∃ (x8_1 : Int), v8 = .int .i64 x8_1 ∧ Aside0 (cmp_Or_int.l0 kq 0 l0 (l0.length : Int) x8_1 = some r) ∧ Aside0 (kq ≤ k) ∧ Drawn0 w w')
 case atStart => exact ⟨(0), (by first | rfl | (simp; done) | (simp [*]; done)), H', ⟨Nat.le_refl _⟩, by repeat (first | exact Drawn0.refl _ | apply Drawn0.step)⟩
 case round =>
  clear H'
  obtain ⟨x8_1, rfl, HA, HK1, ⟨m1, rfl⟩⟩ := hrel
  cases gk with
  | zero => exact absurd HA.out (by simp [cmp_Or_int.l0])
  | succ k1 =>
   have H := HA.out
   clear HA
   simp only [cmp_Or_int.l0] at H
   by_cases c2 : x8_1 < (l0.length : Int)
   ·rw [if_pos c2] at H
    have c2b0 : decide (x8_1 < (l0.length : Int)) = true := decide_eq_true c2
    clear c2
    by_cases c3 : 0 ≤ x8_1
    ·rw [if_pos c3] at H
     have c3b0 : decide (0 ≤ x8_1) = true := decide_eq_true c3
     clear c3
     by_cases c4 : x8_1 < (l0.length : Int)
     ·rw [if_pos c4] at H
      have c4b0 : decide (x8_1 < (l0.length : Int)) = true := decide_eq_true c4
      clear c4
      by_cases c5 : (rd l0 x8_1) = 0
      ·rw [if_pos c5] at H
       have c5b0 : ((rd l0 x8_1) == 0) = true := beq_iff_eq.mpr c5
       have c5b1 : ((rd l0 x8_1) != 0) = false := bne_eq_false_iff_eq.mpr c5
       clear c5
       have H' := Aside0.mk H
       clear H
       have p168 : 0 ≤ (x8_1 : Int) := of_decide_eq_true az
       have q168 : x8_1 < (l0.length : Int) := of_decide_eq_true az
       obtain ⟨ad168, e168, hx168_0⟩ := Kd.at_int HR0.out x8_1 p168 q168
       cases e168
       replace p168 := eq_true p168
       replace q168 := eq_true q168
       go_wp2
       go_roundg k1
       case measure => have := HK1.out; omega
       case rel => exact ⟨(wrap64 (x8_1 + 1)), (by first | rfl | (simp; done) | (simp [*]; done)), H', ⟨by have := HK1.out; omega⟩, by repeat (first | exact Drawn0.refl _ | apply Drawn0.step)⟩
      ·rw [if_neg c5] at H
       have c5b0 : ((rd l0 x8_1) == 0) = false := beq_eq_false_iff_ne.mpr c5
       have c5b1 : ((rd l0 x8_1) != 0) = true := bne_iff_ne.mpr c5
       obtain rfl := Option.some.inj H
       have p168 : 0 ≤ (x8_1 : Int) := of_decide_eq_true az
       have q168 : x8_1 < (l0.length : Int) := of_decide_eq_true az
       obtain ⟨ad168, e168, hx168_0⟩ := Kd.at_int HR0.out x8_1 p168 q168
       cases e168
       replace p168 := eq_true p168
       replace q168 := eq_true q168
       go_wp2
       go_ret
       exact ⟨by first | rfl | (simp; done) | (simp [*]; done), by repeat (first | exact Drawn0.refl _ | apply Drawn0.step)⟩
     ·rw [if_neg c4] at H
      exact absurd H (by simp)
    ·rw [if_neg c3] at H
     exact absurd H (by simp)
   ·rw [if_neg c2] at H
    have c2b0 : decide (x8_1 < (l0.length : Int)) = false := decide_eq_false c2
    clear c2
    obtain rfl := Option.some.inj H
    go_wp2
    go_ret
    exact ⟨by first | rfl | (simp; done) | (simp [*]; done), by repeat (first | exact Drawn0.refl _ | apply Drawn0.step)⟩

end Go.Proofs.YtekmiepdodaidaaDoor.X
end

section
namespace Go.Proofs.YtekmiepdodaidaaDoor.X
open Go.RowKit Go.Proofs.YtekmiepdodaidaaDoorW.PrintWords Go.Proofs.YtekmiepdodaidaaDoorW.PrintLast Go.Proofs.YtekmiepdodaidaaDoorW.PrintMore
attribute [local go_sem] max2_int min2_int max_two min_two max_three min_three max_four min_four   -- for this text's walks alone
set_option linter.unusedVariables false
set_option linter.unusedSimpArgs false

def cmp_isNaN_int.f (a0 : Int) : Option (Bool) := some (a0 != a0)
set_option maxHeartbeats 8000000 in
set_option maxRecDepth 100000 in
theorem cmp_isNaN_int.calls (a0 : Int) (r : Bool) (w : World) (h : cmp_isNaN_int.f a0 = some r) :
  Calls Tryd.prog 71 #[.int .i64 a0] w fun e w' => e = .returned (.bool r) ∧ Drawn0 w w' := by
 have H : (some (a0 != a0)) = some r := h
 clear h
 obtain rfl := Option.some.inj H
 go_enter Tryd.func71, Tryd.ntmps71
 go_wp2
 go_ret
 exact ⟨by first | rfl | (simp; done) | (simp [*]; done), by repeat (first | exact Drawn0.refl _ | apply Drawn0.step)⟩

end Go.Proofs.YtekmiepdodaidaaDoor.X
end

section
namespace Go.Proofs.YtekmiepdodaidaaDoor.X
open Go.RowKit Go.Proofs.YtekmiepdodaidaaDoorW.PrintWords Go.Proofs.YtekmiepdodaidaaDoorW.PrintLast Go.Proofs.YtekmiepdodaidaaDoorW.PrintMore
attribute [local go_sem] max2_int min2_int max_two min_two max_three min_three max_four min_four   -- for this text's walks alone
set_option linter.unusedVariables false
set_option linter.unusedSimpArgs false

def cmp_Compare_int.f (a0 : Int) (a1 : Int) : Option (Int) := (cmp_isNaN_int.f a0).bind fun t169 => ((cmp_isNaN_int.f a1).bind fun t170 => (if t169 = true then (if t170 = true then (some 0) else (some (-1))) else (if t170 = true then (some 1) else (if a0 < a1 then (some (-1)) else (if a0 > a1 then (some 1) else (some 0))))))
set_option maxHeartbeats 8000000 in
set_option maxRecDepth 100000 in
theorem cmp_Compare_int.calls (a0 : Int) (a1 : Int) (r : Int) (w : World) (h : cmp_Compare_int.f a0 a1 = some r) :
  Calls Tryd.prog 55 #[.int .i64 a0, .int .i64 a1] w fun e w' => e = .returned (.int .i64 r) ∧ Drawn0 w w' := by
 have H : ((cmp_isNaN_int.f a0).bind fun t169 => ((cmp_isNaN_int.f a1).bind fun t170 => (if t169 = true then (if t170 = true then (some 0) else (some (-1))) else (if t170 = true then (some 1) else (if a0 < a1 then (some (-1)) else (if a0 > a1 then (some 1) else (some 0))))))) = some r := h
 clear h
 replace H := Option.bind_eq_some_iff.mp H
 obtain ⟨t169, A30, H⟩ := H
 replace H : ((cmp_isNaN_int.f a1).bind fun t170 => (if t169 = true then (if t170 = true then (some 0) else (some (-1))) else (if t170 = true then (some 1) else (if a0 < a1 then (some (-1)) else (if a0 > a1 then (some 1) else (some 0)))))) = some r := H
 have A3 := Aside0.mk A30
 clear A30
 replace H := Option.bind_eq_some_iff.mp H
 obtain ⟨t170, A40, H⟩ := H
 replace H : (if t169 = true then (if t170 = true then (some 0) else (some (-1))) else (if t170 = true then (some 1) else (if a0 < a1 then (some (-1)) else (if a0 > a1 then (some 1) else (some 0))))) = some r := H
 have A4 := Aside0.mk A40
 clear A40
 by_cases c5 : t169 = true
 ·subst c5
  have H1 : (if t170 = true then (some 0) else (some (-1))) = some r := by rw [if_pos rfl] at H; exact H
  clear H
  have H := H1
  clear H1
  go_enter Tryd.func55, Tryd.ntmps55
  go_wp2_with (first | ((with_reducible refine gate_callee (f := 71) rfl ?_); refine goesL_ (some 8) rfl rfl Tryd.func71 (by kernel_rfl) rfl #[.int .i64 a0] rfl dz ?_; (with_reducible refine (cmp_isNaN_int.calls a0 true _ A3.out).mono ?_); rintro e w' ⟨rfl, ⟨nd, rfl⟩⟩; refine ⟨_, rfl, ?_⟩; refine hold_ ?_; intro P_ hP_))
  refine hP_.out ?_
  clear hP_ P_
  by_cases c6 : t170 = true
  ·subst c6
   have H1 : (some 0) = some r := by rw [if_pos rfl] at H; exact H
   clear H
   have H := H1
   clear H1
   obtain rfl := Option.some.inj H
   go_wp2_with (first | ((with_reducible refine gate_callee (f := 71) rfl ?_); refine goesL_ (some 10) rfl rfl Tryd.func71 (by kernel_rfl) rfl #[.int .i64 a1] rfl dz ?_; (with_reducible refine (cmp_isNaN_int.calls a1 true _ A4.out).mono ?_); rintro e w' ⟨rfl, ⟨nd, rfl⟩⟩; refine ⟨_, rfl, ?_⟩))
   go_ret
   exact ⟨by first | rfl | (simp; done) | (simp [*]; done), by repeat (first | exact Drawn0.refl _ | apply Drawn0.step)⟩
  ·replace c6 := Bool.eq_false_iff.mpr c6
   subst c6
   have H1 : (some (-1)) = some r := by rw [if_neg (show ¬ (false = true) by decide)] at H; exact H
   clear H
   have H := H1
   clear H1
   obtain rfl := Option.some.inj H
   go_wp2_with (first | ((with_reducible refine gate_callee (f := 71) rfl ?_); refine goesL_ (some 10) rfl rfl Tryd.func71 (by kernel_rfl) rfl #[.int .i64 a1] rfl dz ?_; (with_reducible refine (cmp_isNaN_int.calls a1 false _ A4.out).mono ?_); rintro e w' ⟨rfl, ⟨nd, rfl⟩⟩; refine ⟨_, rfl, ?_⟩))
   go_ret
   exact ⟨by first | rfl | (simp; done) | (simp [*]; done), by repeat (first | exact Drawn0.refl _ | apply Drawn0.step)⟩
 ·replace c5 := Bool.eq_false_iff.mpr c5
  subst c5
  have H1 : (if t170 = true then (some 1) else (if a0 < a1 then (some (-1)) else (if a0 > a1 then (some 1) else (some 0)))) = some r := by rw [if_neg (show ¬ (false = true) by decide)] at H; exact H
  clear H
  have H := H1
  clear H1
  go_enter Tryd.func55, Tryd.ntmps55
  go_wp2_with (first | ((with_reducible refine gate_callee (f := 71) rfl ?_); refine goesL_ (some 8) rfl rfl Tryd.func71 (by kernel_rfl) rfl #[.int .i64 a0] rfl dz ?_; (with_reducible refine (cmp_isNaN_int.calls a0 false _ A3.out).mono ?_); rintro e w' ⟨rfl, ⟨nd, rfl⟩⟩; refine ⟨_, rfl, ?_⟩; refine hold_ ?_; intro P_ hP_))
  refine hP_.out ?_
  clear hP_ P_
  by_cases c7 : t170 = true
  ·subst c7
   have H1 : (some 1) = some r := by rw [if_pos rfl] at H; exact H
   clear H
   have H := H1
   clear H1
   obtain rfl := Option.some.inj H
   go_wp2_with (first | ((with_reducible refine gate_callee (f := 71) rfl ?_); refine goesL_ (some 10) rfl rfl Tryd.func71 (by kernel_rfl) rfl #[.int .i64 a1] rfl dz ?_; (with_reducible refine (cmp_isNaN_int.calls a1 true _ A4.out).mono ?_); rintro e w' ⟨rfl, ⟨nd, rfl⟩⟩; refine ⟨_, rfl, ?_⟩))
   go_ret
   exact ⟨by first | rfl | (simp; done) | (simp [*]; done), by repeat (first | exact Drawn0.refl _ | apply Drawn0.step)⟩
  ·replace c7 := Bool.eq_false_iff.mpr c7
   subst c7
   have H1 : (if a0 < a1 then (some (-1)) else (if a0 > a1 then (some 1) else (some 0))) = some r := by rw [if_neg (show ¬ (false = true) by decide)] at H; exact H
   clear H
   have H := H1
   clear H1
   go_wp2_with (first | ((with_reducible refine gate_callee (f := 71) rfl ?_); refine goesL_ (some 10) rfl rfl Tryd.func71 (by kernel_rfl) rfl #[.int .i64 a1] rfl dz ?_; (with_reducible refine (cmp_isNaN_int.calls a1 false _ A4.out).mono ?_); rintro e w' ⟨rfl, ⟨nd, rfl⟩⟩; refine ⟨_, rfl, ?_⟩; refine hold_ ?_; intro P_ hP_))
   refine hP_.out ?_
   clear hP_ P_
   by_cases c8 : a0 < a1
   ·rw [if_pos c8] at H
    have c8b0 : decide (a0 < a1) = true := decide_eq_true c8
    clear c8
    obtain rfl := Option.some.inj H
    go_wp2_with fail
    go_ret
    exact ⟨by first | rfl | (simp; done) | (simp [*]; done), by repeat (first | exact Drawn0.refl _ | apply Drawn0.step)⟩
   ·rw [if_neg c8] at H
    have c8b0 : decide (a0 < a1) = false := decide_eq_false c8
    clear c8
    by_cases c9 : a0 > a1
    ·rw [if_pos c9] at H
     have c9b0 : decide (a1 < a0) = true := decide_eq_true c9
     clear c9
     obtain rfl := Option.some.inj H
     go_wp2_with fail
     go_ret
     exact ⟨by first | rfl | (simp; done) | (simp [*]; done), by repeat (first | exact Drawn0.refl _ | apply Drawn0.step)⟩
    ·rw [if_neg c9] at H
     have c9b0 : decide (a1 < a0) = false := decide_eq_false c9
     clear c9
     obtain rfl := Option.some.inj H
     go_wp2_with fail
     go_ret
     exact ⟨by first | rfl | (simp; done) | (simp [*]; done), by repeat (first | exact Drawn0.refl _ | apply Drawn0.step)⟩

end Go.Proofs.YtekmiepdodaidaaDoor.X
end

section
namespace Go.Proofs.YtekmiepdodaidaaDoor.X
open Go.RowKit Go.Proofs.YtekmiepdodaidaaDoorW.PrintWords Go.Proofs.YtekmiepdodaidaaDoorW.PrintLast Go.Proofs.YtekmiepdodaidaaDoorW.PrintMore
attribute [local go_sem] max2_int min2_int max_two min_two max_three min_three max_four min_four   -- for this text's walks alone
set_option linter.unusedVariables false
set_option linter.unusedSimpArgs false

def slices_Compare_int_int.l0 : Nat → List Int → List Int → List Int → Int → Int → Option (Int)
 | 0, _, _, _, _, _ => none
 | k + 1, x0, x1, x9, x10, x11 => if x11 < x10 then (if 0 ≤ x11 then (if x11 < (x9.length : Int) then (if x11 ≥ (x1.length : Int) then (some 1) else (if x11 < (x1.length : Int) then ((cmp_Compare_int.f (rd x9 x11) (rd x1 x11)).bind fun t173 => (if t173 = 0 then (slices_Compare_int_int.l0 k x0 x1 x9 x10 (wrap64 (x11 + 1))) else (some t173))) else (none))) else (none)) else (none)) else (if (x0.length : Int) < (x1.length : Int) then (some (-1)) else (some 0))
def slices_Compare_int_int.f (k : Nat) (l0 : List Int) (l1 : List Int) : Option (Int) := slices_Compare_int_int.l0 k l0 l1 l0 (l0.length : Int) 0
set_option maxHeartbeats 8000000 in
set_option maxRecDepth 100000 in
theorem slices_Compare_int_int.calls (k : Nat) (A0 : Option Addr) (c0 : Nat) (l0 : List Int) (A1 : Option Addr) (c1 : Nat) (l1 : List Int) (r : Int) (w : World) (hr0 : Kd.C (Kd.int .i64) w A0 l0.length l0) (hc0 : l0.length ≤ c0) (hr1 : Kd.C (Kd.int .i64) w A1 l1.length l1) (hc1 : l1.length ≤ c1) (h : slices_Compare_int_int.f k l0 l1 = some r) :
  Calls Tryd.prog 56 #[.slice A0 l0.length c0, .slice A1 l1.length c1] w fun e w' => e = .returned (.int .i64 r) ∧ Drawn0 w w' := by
 have HR0 := Aside0.mk hr0
 have HC0 := Aside0.mk hc0
 clear hr0 hc0
 have HR1 := Aside0.mk hr1
 have HC1 := Aside0.mk hc1
 clear hr1 hc1
 have H : (slices_Compare_int_int.l0 k l0 l1 l0 (l0.length : Int) 0) = some r := h
 clear h
 have H' := Aside0.mk H
 clear H
 go_enter Tryd.func56, Tryd.ntmps56
 go_wp2
 go_loopg [11] k (fun kq v11 w' => ∃ (x11_1 : Int), v11 = .int .i64 x11_1 ∧ Aside0 (slices_Compare_int_int.l0 kq l0 l1 l0 (l0.length : Int) x11_1 = some r) ∧ Aside0 (kq ≤ k) ∧ Drawn0 w w')
 case atStart => exact ⟨(0), (by first | rfl | (simp; done) | (simp [*]; done)), H', ⟨Nat.le_refl _⟩, by repeat (first | exact Drawn0.refl _ | apply Drawn0.step)⟩
 case round =>
  clear H'
  try clear c1
  try clear p2
  obtain ⟨x11_1, rfl, HA, HK1, ⟨m1, rfl⟩⟩ := hrel
  cases gk with
  | zero => exact absurd HA.out (by simp [slices_Compare_int_int.l0])
  | succ k1 =>
   have H := HA.out
   clear HA
   simp only [slices_Compare_int_int.l0] at H
   by_cases c3 : x11_1 < (l0.length : Int)
   ·rw [if_pos c3] at H
    have c3b0 : decide (x11_1 < (l0.length : Int)) = true := decide_eq_true c3
    clear c3
    by_cases c4 : 0 ≤ x11_1
    ·rw [if_pos c4] at H
     have c4b0 : decide (0 ≤ x11_1) = true := decide_eq_true c4
     clear c4
     by_cases c5 : x11_1 < (l0.length : Int)
     ·rw [if_pos c5] at H
      have c5b0 : decide (x11_1 < (l0.length : Int)) = true := decide_eq_true c5
      clear c5
      by_cases c6 : x11_1 ≥ (l1.length : Int)
      ·rw [if_pos c6] at H
       have c6b0 : decide ((l1.length : Int) ≤ x11_1) = true := decide_eq_true c6
       clear c6
       obtain rfl := Option.some.inj H
       have p171 : 0 ≤ (x11_1 : Int) := of_decide_eq_true az
       have q171 : x11_1 < (l0.length : Int) := of_decide_eq_true az
       obtain ⟨ad171, e171, hx171_0⟩ := Kd.at_int HR0.out x11_1 p171 q171
       cases e171
       replace p171 := eq_true p171
       replace q171 := eq_true q171
       go_wp2
       go_ret
       exact ⟨by first | rfl | (simp; done) | (simp [*]; done), by repeat (first | exact Drawn0.refl _ | apply Drawn0.step)⟩
      ·rw [if_neg c6] at H
       have c6b0 : decide ((l1.length : Int) ≤ x11_1) = false := decide_eq_false c6
       clear c6
       by_cases c7 : x11_1 < (l1.length : Int)
       ·rw [if_pos c7] at H
        have c7b0 : decide (x11_1 < (l1.length : Int)) = true := decide_eq_true c7
        clear c7
        replace H := Option.bind_eq_some_iff.mp H
        obtain ⟨t173, A80, H⟩ := H
        replace H : (if t173 = 0 then (slices_Compare_int_int.l0 k1 l0 l1 l0 (l0.length : Int) (wrap64 (x11_1 + 1))) else (some t173)) = some r := H
        have A8 := Aside0.mk A80
        clear A80
        by_cases c9 : t173 = 0
        ·rw [if_pos c9] at H
         have c9b0 : (t173 == 0) = true := beq_iff_eq.mpr c9
         have c9b1 : (t173 != 0) = false := bne_eq_false_iff_eq.mpr c9
         clear c9
         have H' := Aside0.mk H
         clear H
         have p171 : 0 ≤ (x11_1 : Int) := of_decide_eq_true az
         have q171 : x11_1 < (l0.length : Int) := of_decide_eq_true az
         obtain ⟨ad171, e171, hx171_0⟩ := Kd.at_int HR0.out x11_1 p171 q171
         cases e171
         replace p171 := eq_true p171
         replace q171 := eq_true q171
         have p172 : 0 ≤ (x11_1 : Int) := of_decide_eq_true az
         have q172 : x11_1 < (l1.length : Int) := of_decide_eq_true az
         obtain ⟨ad172, e172, hx172_0⟩ := Kd.at_int HR1.out x11_1 p172 q172
         cases e172
         replace p172 := eq_true p172
         replace q172 := eq_true q172
         go_wp2_with (first | ((with_reducible refine gate_callee (f := 55) rfl ?_); refine goesL_ (some 26) rfl rfl Tryd.func55 (by kernel_rfl) rfl #[.int .i64 (rd l0 x11_1), .int .i64 (rd l1 x11_1)] rfl dz ?_; (with_reducible refine (cmp_Compare_int.calls (rd l0 x11_1) (rd l1 x11_1) t173 _ A8.out).mono ?_); rintro e w' ⟨rfl, ⟨nd, rfl⟩⟩; refine ⟨_, rfl, ?_⟩))
         go_roundg k1
         case measure => have := HK1.out; omega
         case rel => exact ⟨(wrap64 (x11_1 + 1)), (by first | rfl | (simp; done) | (simp [*]; done)), H', ⟨by have := HK1.out; omega⟩, by repeat (first | exact Drawn0.refl _ | apply Drawn0.step)⟩
        ·rw [if_neg c9] at H
         have c9b0 : (t173 == 0) = false := beq_eq_false_iff_ne.mpr c9
         have c9b1 : (t173 != 0) = true := bne_iff_ne.mpr c9
         obtain rfl := Option.some.inj H
         have p171 : 0 ≤ (x11_1 : Int) := of_decide_eq_true az
         have q171 : x11_1 < (l0.length : Int) := of_decide_eq_true az
         obtain ⟨ad171, e171, hx171_0⟩ := Kd.at_int HR0.out x11_1 p171 q171
         cases e171
         replace p171 := eq_true p171
         replace q171 := eq_true q171
         have p172 : 0 ≤ (x11_1 : Int) := of_decide_eq_true az
         have q172 : x11_1 < (l1.length : Int) := of_decide_eq_true az
         obtain ⟨ad172, e172, hx172_0⟩ := Kd.at_int HR1.out x11_1 p172 q172
         cases e172
         replace p172 := eq_true p172
         replace q172 := eq_true q172
         go_wp2_with (first | ((with_reducible refine gate_callee (f := 55) rfl ?_); refine goesL_ (some 26) rfl rfl Tryd.func55 (by kernel_rfl) rfl #[.int .i64 (rd l0 x11_1), .int .i64 (rd l1 x11_1)] rfl dz ?_; (with_reducible refine (cmp_Compare_int.calls (rd l0 x11_1) (rd l1 x11_1) t173 _ A8.out).mono ?_); rintro e w' ⟨rfl, ⟨nd, rfl⟩⟩; refine ⟨_, rfl, ?_⟩))
         go_ret
         exact ⟨by first | rfl | (simp; done) | (simp [*]; done), by repeat (first | exact Drawn0.refl _ | apply Drawn0.step)⟩
       ·rw [if_neg c7] at H
        exact absurd H (by simp)
     ·rw [if_neg c5] at H
      exact absurd H (by simp)
    ·rw [if_neg c4] at H
     exact absurd H (by simp)
   ·rw [if_neg c3] at H
    have c3b0 : decide (x11_1 < (l0.length : Int)) = false := decide_eq_false c3
    clear c3
    by_cases c10 : (l0.length : Int) < (l1.length : Int)
    ·rw [if_pos c10] at H
     have c10b0 : decide ((l0.length : Int) < (l1.length : Int)) = true := decide_eq_true c10
     have c10b1 : decide (l0.length < l1.length) = true := decide_eq_true (Int.ofNat_lt.mp c10)
     clear c10
     obtain rfl := Option.some.inj H
     go_wp2
     go_ret
     exact ⟨by first | rfl | (simp; done) | (simp [*]; done), by repeat (first | exact Drawn0.refl _ | apply Drawn0.step)⟩
    ·rw [if_neg c10] at H
     have c10b0 : decide ((l0.length : Int) < (l1.length : Int)) = false := decide_eq_false c10
     have c10b1 : decide (l0.length < l1.length) = false := decide_eq_false (fun h => c10 (Int.ofNat_lt.mpr h))
     clear c10
     obtain rfl := Option.some.inj H
     go_wp2
     go_ret
     exact ⟨by first | rfl | (simp; done) | (simp [*]; done), by repeat (first | exact Drawn0.refl _ | apply Drawn0.step)⟩

end Go.Proofs.YtekmiepdodaidaaDoor.X
end

section
/- cmp.Compare, cmp.Or and slices.Compare at ints, each with a plain answer. -/
set_option linter.unusedVariables false
set_option linter.unusedSimpArgs false
namespace Go.Proofs.YtekmiepdodaidaaDoor.X
open Go.RowKit Go.Proofs.YtekmiepdodaidaaDoorW.PrintWords Go.Proofs.YtekmiepdodaidaaDoorW.PrintLast Go.Proofs.YtekmiepdodaidaaDoorW.PrintMore

def cmpI (a b : Int) : Int := if a < b then -1 else if a > b then 1 else 0
def cmpL : List Int → List Int → Int
 | [], [] => 0
 | [], _ :: _ => -1
 | _ :: _, [] => 1
 | a :: x, b :: y => if cmpI a b = 0 then cmpL x y else cmpI a b
def orI (x y : Int) : Int := if x = 0 then y else x
theorem cmpI_f (a b : Int) : cmp_Compare_int.f a b = some (cmpI a b) := by
 unfold cmp_Compare_int.f cmp_isNaN_int.f cmpI
 simp
 by_cases h : a < b
 ·simp [h]
 ·by_cases h2 : b < a <;> simp [h, h2]
theorem cmpL_end : ∀ (y : List Int), cmpL [] y = if 0 < y.length then -1 else 0
 | [] => rfl
 | _ :: _ => by simp [cmpL]
theorem cmpL_l0 (x y : List Int) (hx : x.length ≤ 1000) (hy : y.length ≤ 1000) (m : Nat) : ∀ i, i + m = x.length → (∀ j, j < i → j < y.length) → Ev (fun k => slices_Compare_int_int.l0 k x y x (x.length : Int) (i : Int)) (cmpL (x.drop i) (y.drop i)) := by
 induction m with
 | zero =>
  intro i hi hy2
  obtain rfl : i = x.length := by omega
  refine Ev.step (f := fun _ => some _) (fun k => ?_) (Ev.now _)
  simp only [slices_Compare_int_int.l0]
  rw [if_neg (by omega), List.drop_length, cmpL_end, List.length_drop]
  have hle : x.length ≤ y.length := by
   rcases Nat.eq_zero_or_pos x.length with h | h
   ·omega
   ·have := hy2 (x.length - 1) (by omega); omega
  by_cases h : x.length < y.length
  ·rw [if_pos (by omega), if_pos (by omega)]
  ·rw [if_neg (by omega), if_neg (by omega)]
 | succ m ih =>
  intro i hi hy2
  have hil : i < x.length := by omega
  have hdx : x.drop i = x[i] :: x.drop (i + 1) := List.drop_eq_getElem_cons hil
  by_cases hiy : i < y.length
  ·have hdy : y.drop i = y[i] :: y.drop (i + 1) := List.drop_eq_getElem_cons hiy
   rw [hdx, hdy]
   have hrx : rd x (i : Int) = x[i] := by simp [rd, List.getD_eq_getElem?_getD, List.getElem?_eq_getElem hil]
   have hry : rd y (i : Int) = y[i] := by simp [rd, List.getD_eq_getElem?_getD, List.getElem?_eq_getElem hiy]
   have hw : wrap64 ((i : Int) + 1) = ((i + 1 : Nat) : Int) := by unfold wrap64; omega
   by_cases h0 : cmpI x[i] y[i] = 0
   ·refine Ev.step (fun k => ?_) (by simp only [cmpL, if_pos h0]; exact ih (i + 1) (by omega) (fun j hj => by by_cases e : j = i; omega; exact hy2 j (by omega)))
    show slices_Compare_int_int.l0 (k + 1) x y x (x.length : Int) (i : Int) = _
    simp only [slices_Compare_int_int.l0]
    rw [if_pos (by omega), if_pos (by omega), if_pos (by omega), if_neg (by omega), if_pos (by omega), hrx, hry, cmpI_f, hw]
    simp only [Option.bind_some]
    rw [if_pos h0]
   ·refine Ev.step (f := fun _ => some _) (fun k => ?_) (Ev.now _)
    simp only [slices_Compare_int_int.l0]
    rw [if_pos (by omega), if_pos (by omega), if_pos (by omega), if_neg (by omega), if_pos (by omega), hrx, hry, cmpI_f]
    simp only [Option.bind_some, cmpL]
    rw [if_neg h0, if_neg h0]
  ·have hdy : y.drop i = [] := List.drop_eq_nil_of_le (by omega)
   rw [hdx, hdy]
   refine Ev.step (f := fun _ => some _) (fun k => ?_) (Ev.now _)
   simp only [slices_Compare_int_int.l0, cmpL]
   rw [if_pos (by omega), if_pos (by omega), if_pos (by omega), if_pos (by omega)]
theorem cmpL_f (x y : List Int) (hx : x.length ≤ 1000) (hy : y.length ≤ 1000) : ∃ k, slices_Compare_int_int.f k x y = some (cmpL x y) :=
 (cmpL_l0 x y hx hy x.length 0 (by omega) (fun j hj => absurd hj (Nat.not_lt_zero _))).rounds
theorem orI_f (x y : Int) : cmp_Or_int.f 3 [x, y] = some (orI x y) := by
 unfold cmp_Or_int.f orI
 simp only [cmp_Or_int.l0]
 by_cases h : x = 0
 ·by_cases h2 : y = 0 <;> simp [rd, h, h2, wrap64]
 ·simp [rd, h]
theorem cmpI_n (a b : Int) (w : World) : Calls Tryd.prog 55 #[.int .i64 a, .int .i64 b] w fun e w' => e = .returned (.int .i64 (cmpI a b)) ∧ Drawn0 w w' := cmp_Compare_int.calls a b _ w (cmpI_f a b)
theorem cmpL_n (x y : List Int) (hx : x.length ≤ 1000) (hy : y.length ≤ 1000) (A0 : Option Addr) (c0 : Nat) (A1 : Option Addr) (c1 : Nat) (w : World) (r0 : Kd.C (Kd.int .i64) w A0 x.length x) (n0 : x.length ≤ c0) (r1 : Kd.C (Kd.int .i64) w A1 y.length y) (n1 : y.length ≤ c1) :
  Calls Tryd.prog 56 #[.slice A0 x.length c0, .slice A1 y.length c1] w fun e w' => e = .returned (.int .i64 (cmpL x y)) ∧ Drawn0 w w' := by
 obtain ⟨k, hk⟩ := cmpL_f x y hx hy
 exact slices_Compare_int_int.calls k A0 c0 x A1 c1 y _ w r0 n0 r1 n1 hk
theorem orI_n (x y : Int) (A0 : Option Addr) (c0 : Nat) (w : World) (r0 : Kd.C (Kd.int .i64) w A0 2 [x, y]) (n0 : 2 ≤ c0) :
  Calls Tryd.prog 54 #[.slice A0 2 c0] w fun e w' => e = .returned (.int .i64 (orI x y)) ∧ Drawn0 w w' := cmp_Or_int.calls 3 A0 c0 [x, y] _ w r0 n0 (orI_f x y)
end Go.Proofs.YtekmiepdodaidaaDoor.X
end

section
/- tests.Cover, by hand: the first smallest set of tests that tells all faults apart. -/
set_option linter.unusedVariables false
set_option linter.unusedSimpArgs false
namespace Go.Proofs.YtekmiepdodaidaaDoor.X
open Go.RowKit Go.Proofs.YtekmiepdodaidaaDoorW.PrintWords Go.Proofs.YtekmiepdodaidaaDoorW.PrintLast Go.Proofs.YtekmiepdodaidaaDoorW.PrintMore

/-- The tests of a set, the numbers below T. -/
def selB (set : Nat) : Nat → List Int
 | 0 => []
 | T + 1 => selB set T ++ (if set.testBit T = true then [(T : Int)] else [])
theorem selB_len (set : Nat) : ∀ T, (selB set T).length ≤ T
 | 0 => by simp [selB]
 | T + 1 => by
  have := selB_len set T
  unfold selB
  rw [List.length_append]
  split <;> simp <;> omega
theorem selB_mem (set : Nat) : ∀ T, ∀ k ∈ selB set T, 0 ≤ k ∧ k < T
 | 0, k, h => by simp [selB] at h
 | T + 1, k, h => by
  unfold selB at h
  rcases List.mem_append.1 h with h | h
  ·have := selB_mem set T k h; omega
  ·split at h
   ·simp at h; omega
   ·simp at h
def beforeB (l b : List Int) : Bool := decide (orI (cmpI l.length b.length) (cmpL l b) < 0)
def coverTake (ones : List Int) (n : Nat) (best : Option (List Int)) (l : List Int) : Bool := apartB ones l n && (match best with | none => true | some b => beforeB l b)
def coverStep (ones : List Int) (n : Nat) (best : Option (List Int)) (set : Nat) : Option (List Int) := if coverTake ones n best (selB set ones.length) = true then some (selB set ones.length) else best
def coverB (ones : List Int) (n : Nat) : Nat → Option (List Int)
 | 0 => none
 | m + 1 => coverStep ones n (coverB ones n m) m
theorem coverB_len (ones : List Int) (n : Nat) : ∀ m l, coverB ones n m = some l → l.length ≤ ones.length
 | 0, l, h => by cases h
 | m + 1, l, h => by
  unfold coverB coverStep at h
  split at h
  ·injection h with h; subst h; exact selB_len _ _
  ·exact coverB_len ones n m l h
theorem sel_bit (set k : Nat) (hs : set < 4096) : (Go.bits .and .i64 ((set : Int) / 2 ^ k) 1 == 1) = set.testBit k := by
 rw [Nat.testBit_eq_decide_div_mod_eq]
 have hq : (set : Int) / 2 ^ k = ((set / 2 ^ k : Nat) : Int) := by simp
 have hle : set / 2 ^ k ≤ set := Nat.div_le_self _ _
 rw [hq]
 generalize set / 2 ^ k = q at hle ⊢
 have := (bits_nat .i64 20 (by decide) (fun n h0 h1 => by rw [IntKind.wrap_i64]; omega) q 1 (by omega) (by omega)).1
 rw [show ((1 : Nat) : Int) = 1 from rfl] at this
 rw [this, Nat.and_one_is_mod]
 by_cases h1 : q % 2 = 1
 ·simp [h1]
 ·have h0 : q % 2 = 0 := by omega
  simp [h0]
theorem info3c : (Tryd.prog.info? 3).map (fun i => (i.zero, i.size, i.bytes)) = some (some (.int .i64 0), 1, 8) := by kernel_rfl
/-- The best list so far, as it lies. -/
def BestAt (w : World) (v : Value) (w' : World) : Option (List Int) → Prop
 | none => v = .slice none 0 0
 | some l => ∃ g c, v = .slice (some g) l.length c ∧ Kd.R (Kd.int .i64) 3 w' w.heap.size (fun _ => True) v l
theorem BestAt.below {w w1 w2 : World} {v : Value} {o : Option (List Int)} (h : BestAt w v w1 o) (hb : Below w1.heap.size w1 w2) : BestAt w v w2 o := by
 cases o with
 | none => exact h
 | some l => obtain ⟨g, c, h1, h2⟩ := h; exact ⟨g, c, h1, Kd.R_below h2 hb⟩
theorem R_made0t (w : World) : Kd.R (Kd.int .i64) 3 (w.alloc (.cells #[] 3 (0, 0))) w.heap.size (fun _ => True) (.slice (some ⟨w.heap.size, 0, none⟩) 0 0) ([] : List Int) :=
 ⟨fun _ _ => trivial, [], World.ownsRow_made w #[] 0 (Nat.le_refl _) (Nat.zero_le _) rfl, Reps.none _ _⟩
theorem best_some {w w1 w2 : World} {v : Value} {l : List Int} (h : Kd.R (Kd.int .i64) 3 w2 w1.heap.size (fun _ => True) v ([] ++ l)) (hb : w.heap.size ≤ w1.heap.size) {g0 m : Nat} {v0 : Value} (hv0 : v0 = .slice (some ⟨g0, 0, none⟩) 0 0) (hat : v.ownBlock = v0.ownBlock ∨ ∃ b, v.ownBlock = some b ∧ m ≤ b) : BestAt w v w2 (some l) := by
 rw [List.nil_append] at h
 obtain ⟨A, c, rfl⟩ := Kd.R_slice h
 cases A with
 | none =>
  exfalso
  rcases hat with h1 | ⟨b, h1, _⟩
  ·rw [hv0] at h1; simp [Value.ownBlock] at h1
  ·simp [Value.ownBlock] at h1
 | some g => exact ⟨g, c, rfl, Kd.R_lower h hb⟩
section
variable {A0 : Option Addr} {c0 : Nat} {a : List Int} {A1 : Option Addr} {c1 : Nat} {b : List (List Int)} {A2 : Option Addr} {c2 : Nat} {c : List Int} {w : World}
def CovNone (er : Int) (w : World) (e : Ending) (w' : World) : Prop := e = .returned (.tuple #[.slice none 0 0, .int .i64 er]) ∧ Below w.heap.size w w'
set_option maxHeartbeats 4000000 in
set_option maxRecDepth 100000 in
theorem cov_bad (h : CaseAt w A0 c0 a A1 c1 b A2 c2 c) (hc : caseB a b c = false) : Calls Tryd.prog 28 #[.agg #[.slice A0 a.length c0, .slice A1 b.length c1, .slice A2 c.length c2]] w (CovNone 2 w) := by
 have H := Aside0.mk h
 have HC := Aside0.mk hc
 have HB := Aside0.mk (Below.refl w.heap.size w)
 clear h hc
 go_enter Tryd.func28, Tryd.ntmps28
 go_wp2_with (go_at_call 45; refine (trial_bad (H.out.below ((Below.refl _ _).alloc (Nat.le_refl _) _)) HC.out).mono ?_; rintro e w5 ⟨A3, c3, rfl, hb⟩; have HB5 := Aside0.mk (below_step (below_alloc HB.out _) hb); clear hb)
 go_ret2
 exact ⟨rfl, below_alloc HB5.out _⟩
set_option maxHeartbeats 4000000 in
set_option maxRecDepth 100000 in
theorem cov_alike (h : CaseAt w A0 c0 a A1 c1 b A2 c2 c) (hc : caseB a b c = true) (hal : alikeL (onesOf b) a.length ≠ []) : Calls Tryd.prog 28 #[.agg #[.slice A0 a.length c0, .slice A1 b.length c1, .slice A2 c.length c2]] w (CovNone 6 w) := by
 have H := Aside0.mk h
 have HC := Aside0.mk hc
 have HI := Aside0.mk (case_is hc)
 have HB := Aside0.mk (Below.refl w.heap.size w)
 obtain ⟨n, hn⟩ : ∃ n, n = (alikeL (onesOf b) a.length).length := ⟨_, rfl⟩
 have HN := Aside0.mk hn
 have hpos : (0 : Int) < (n : Int) := by have := List.length_pos_iff.2 hal; omega
 clear h hc hal hn
 go_enter Tryd.func28, Tryd.ntmps28
 go_wp2_with (first | (go_at_call 45; refine (trial_good (H.out.below ((Below.refl _ _).alloc (Nat.le_refl _) _)) HC.out).mono ?_; rintro e w5 ⟨A3, c3, rfl, hr3, hb⟩; have HR3 := Aside0.mk hr3; have HB5 := Aside0.mk (below_step (below_alloc HB.out _) hb); clear hr3 hb) | (go_at_call 49; refine (alike_n (H.out.below (below_alloc HB5.out _)) HI.out A3 c3 (onesOf b) _ (Kd.C_alloc HR3.out.1 _) HR3.out.2).mono ?_; rintro e w6 ⟨A4, c4, rfl, hb⟩; have HB6 := Aside0.mk (below_step (below_alloc HB5.out _) hb); rw [← HN.out]; clear hb))
 go_ret2
 exact ⟨rfl, HB6.out⟩
def CovGood (o : Option (List Int)) (w : World) (e : Ending) (w' : World) : Prop := ∃ v, e = .returned (.tuple #[v, .int .i64 0]) ∧ BestAt w v w' o ∧ Below w.heap.size w w'
set_option maxHeartbeats 16000000 in
set_option maxRecDepth 100000 in
theorem cov_good (h : CaseAt w A0 c0 a A1 c1 b A2 c2 c) (hc : caseB a b c = true) (hal : alikeL (onesOf b) a.length = []) :
  Calls Tryd.prog 28 #[.agg #[.slice A0 a.length c0, .slice A1 b.length c1, .slice A2 c.length c2]] w (CovGood (coverB (onesOf b) a.length (2 ^ (onesOf b).length)) w) := by
 have H := Aside0.mk h
 have HC := Aside0.mk hc
 have HI := Aside0.mk (case_is hc)
 have HB := Aside0.mk (Below.refl w.heap.size w)
 have HSET := Aside0.mk (onesOf_set HI.out.a10 HI.out.rows)
 have hpos : (alikeL (onesOf b) a.length).length = 0 := by rw [hal]; rfl
 have HP := Aside0.mk hpos
 have H12 := Aside0.mk (show (onesOf b).length ≤ 12 by rw [onesOf_len]; exact HI.out.b12)
 have hall : ((2 ^ a.length : Nat) : Int) - 1 = allOf a := rfl
 have HALL := Aside0.mk hall
 clear h hc hal hpos hall
 go_enter Tryd.func28, Tryd.ntmps28
 go_upto_region 6 with (first | (go_at_call 45; refine (trial_good (H.out.below ((Below.refl _ _).alloc (Nat.le_refl _) _)) HC.out).mono ?_; rintro e w5 ⟨A3, c3, rfl, hr3, hb⟩; rw [HALL.out]; have HR3 := Aside0.mk hr3; have HB5 := Aside0.mk (below_step (below_alloc HB.out _) hb); clear hr3 hb) | (go_at_call 49; refine (alike_n (H.out.below (below_alloc HB5.out _)) HI.out A3 c3 (onesOf b) _ (Kd.C_alloc HR3.out.1 _) HR3.out.2).mono ?_; rintro e w6 ⟨A4, c4, rfl, hb⟩; have HB6 := Aside0.mk (below_step (below_alloc HB5.out _) hb); have HR6 := Aside0.mk (Kd.C_below (Kd.C_alloc HR3.out.1 _) hb); have HX6 := Aside0.mk ((hb.block _ (by rw [size_alloc']; omega)).trans (blk_new w5 _)); rw [HP.out]; clear hb))
 have HC6 := Aside0.mk (H.out.below HB6.out)
 have HN3 := Aside0.mk HR3.out.2
 have hz3 : w6.cell? ⟨w5.heap.size, 3, none⟩ = some (.slice A3 (onesOf b).length c3) := (blk_cell HX6.out 3).trans rfl
 have h12 : (onesOf b).length ≤ 12 := H12.out
 clear HP
 obtain ⟨g5, hg5⟩ : ∃ g5, g5 = w5.heap.size := ⟨_, rfl⟩
 rw [← hg5] at HX6 hz3 ⊢
 clear hg5
 obtain ⟨M, hM⟩ : ∃ M : Nat, M = 2 ^ (onesOf b).length := ⟨_, rfl⟩
 have hMle : M ≤ 4096 := by rw [hM]; exact Nat.le_trans (Nat.pow_le_pow_right (by omega) h12) (by decide)
 have hMw : wrap64 (2 ^ (onesOf b).length) = (M : Int) := by
  rw [hM] at hMle ⊢
  have e : (2 : Int) ^ (onesOf b).length = ((2 ^ (onesOf b).length : Nat) : Int) := by simp
  rw [e]; unfold wrap64; omega
 have HM := Aside0.mk hM
 have HML := Aside0.mk hMle
 clear hM hMle
 go_wp2
 rw [hMw]
 clear hMw
 go_loopg [28, 6] M (fun kq v28 v6 w' => ∃ set : Nat, v28 = .int .i64 set ∧ Aside0 (kq + set = M) ∧ Aside0 (Below w6.heap.size w6 w') ∧ Aside0 (BestAt w v6 w' (coverB (onesOf b) a.length set)))
 case atStart => exact ⟨0, rfl, ⟨by omega⟩, ⟨Below.refl _ _⟩, ⟨rfl⟩⟩
 case round =>
  clear hz3
  obtain ⟨set, rfl, HKQ, HBW, HBE⟩ := hrel
  obtain ⟨k1, rfl⟩ : ∃ k1, k1 = gk := ⟨_, rfl⟩
  by_cases hs : set < M
  ·have HBX := Aside0.mk (blk_below HX6.out HBW.out)
   have hz3 : wr.cell? ⟨g5, 3, none⟩ = some (.slice A3 (onesOf b).length c3) := (blk_cell HBX.out 3).trans rfl
   have hs4 : set < 4096 := by have := HML.out; omega
   go_upto_region 12 with (fail)
   clear hz3
   obtain ⟨wo, rfl⟩ : ∃ wo, wo = wr := ⟨_, rfl⟩
   go_loopg [34, 8] (onesOf b).length (fun kq v34 v8 w' => ∃ k : Nat, v34 = .int .i64 k ∧ Aside0 (kq + k = (onesOf b).length) ∧ Aside0 (Below wo.heap.size wo w') ∧ Aside0 (Kd.R (Kd.int .i64) 3 w' wo.heap.size (fun _ => True) v8 (selB set k)))
   case atStart => exact ⟨0, rfl, ⟨by omega⟩, ⟨Below.refl _ _⟩, ⟨Kd.R_nil _ _ _ _ _⟩⟩
   case round =>
    obtain ⟨k, rfl, HJ, HBV, HRL⟩ := hrel
    obtain ⟨k2, rfl⟩ : ∃ k2, k2 = gk := ⟨_, rfl⟩
    by_cases hk : k < (onesOf b).length
    ·obtain ⟨p, hp⟩ : ∃ p, (Go.bits .and .i64 ((set : Int) / 2 ^ k) 1 == 1) = p := ⟨_, rfl⟩
     have HPT := Aside0.mk (show set.testBit k = p by rw [← sel_bit set k hs4]; exact hp)
     have HLN := Aside0.mk (show (selB set k).length ≤ 12 by have := selB_len set k; omega)
     cases p with
     | true =>
      have HSL := Aside0.mk (show selB set (k + 1) = selB set k ++ [(k : Int)] by show selB set k ++ _ = _; rw [if_pos HPT.out])
      go_wp2_with (at_builtin; go_loud (refine Kd.R_append (Kd.int .i64) (w0 := wo) wo.heap.size rfl (.tmp 42) (.tmp 44) 22 3 (.int .i64 0) 8 rfl Tryd.underlying22 info3c rfl (by decide) (by omega) u8 (selB set k) (k : Int) [.int .i64 (k : Int)] (fun _ => True) (fun _ => False) rfl rfl ?aP (fun _ hk => hk.elim) (fun _ _ => trivial) ?aO ?aB ?aS ?aL ?_); go_loud (case aP => exact rfl); go_loud (case aO => first | exact HRL.out | exact Kd.R_alloc HRL.out _); go_loud (case aB => first | exact HBV.out | exact below_alloc HBV.out _); go_loud (case aS => first | exact below_size HBV.out | exact below_size (below_alloc HBV.out _)); go_loud (case aL => have := HLN.out; omega); intro v1 w2 ho hb hg hat; have HO := Aside0.mk ho; have HB2 := Aside0.mk hb; clear ho hb hg hat)
      go_roundg (k2 - 1)
      case measure => have := HJ.out; omega
      case rel => exact ⟨k + 1, by go_num, ⟨by have := HJ.out; omega⟩, HB2, ⟨by rw [HSL.out]; exact HO.out⟩⟩
     | false =>
      have HSL := Aside0.mk (show selB set (k + 1) = selB set k by show selB set k ++ _ = _; rw [if_neg (by rw [HPT.out]; decide), List.append_nil])
      go_wp2
      go_roundg (k2 - 1)
      case measure => have := HJ.out; omega
      case rel => exact ⟨k + 1, by go_num, ⟨by have := HJ.out; omega⟩, HBV, ⟨by rw [HSL.out]; exact HRL.out⟩⟩
    ·obtain rfl : k = (onesOf b).length := by have := HJ.out; omega
     obtain ⟨l, hl⟩ : ∃ l, l = selB set (onesOf b).length := ⟨_, rfl⟩
     rw [← hl] at HRL
     have HLL := Aside0.mk hl
     have HLM := Aside0.mk (show l.length ≤ 12 by rw [hl]; have := selB_len set (onesOf b).length; omega)
     have HLK := Aside0.mk (show ∀ k ∈ l, 0 ≤ k ∧ k < ((onesOf b).length : Int) by rw [hl]; exact selB_mem set _)
     obtain ⟨AL, cl, rfl⟩ := Kd.R_slice HRL.out
     have HRD := Aside0.mk (Kd.R_reads' HRL.out)
     clear hl hk
     have HBY := Aside0.mk (blk_below HBX.out HBV.out)
     go_upto_region 17 with (fail)
     have hq0 : wr.cell? ⟨g5, 0, none⟩ = some (.slice A0 a.length c0) := (blk_cell HBY.out 0).trans rfl
     have hq1 : wr.cell? ⟨g5, 1, none⟩ = some (.slice A1 b.length c1) := (blk_cell HBY.out 1).trans rfl
     have hq2 : wr.cell? ⟨g5, 2, none⟩ = some (.slice A2 c.length c2) := (blk_cell HBY.out 2).trans rfl
     have hq3 : wr.cell? ⟨g5, 3, none⟩ = some (.slice A3 (onesOf b).length c3) := (blk_cell HBY.out 3).trans rfl
     have hq4 : wr.cell? ⟨g5, 4, none⟩ = some (.int .u64 (allOf a)) := (blk_cell HBY.out 4).trans rfl
     have q22 : ∀ (w : World) (a : Option Addr) (n c n' c' : Nat), (binOp .eql 22 (.slice a n c) (.slice none n' c')).run Tryd.prog w = .ok (.bool a.isNone) w := fun w a n c n' c' => Lib.run_eql_slice_nil w _ _ a n c n' c' Tryd.underlying22
     obtain ⟨p, hp⟩ : ∃ p, apartB (onesOf b) l a.length = p := ⟨_, rfl⟩
     have HAP := Aside0.mk hp
     obtain ⟨best, hbest⟩ : ∃ best, best = coverB (onesOf b) a.length set := ⟨_, rfl⟩
     rw [← hbest] at HBE
     have HBQ := Aside0.mk hbest
     have HNX := Aside0.mk (show coverB (onesOf b) a.length (set + 1) = if coverTake (onesOf b) a.length best l = true then some l else best by rw [HLL.out, hbest]; rfl)
     have HBWR := Aside0.mk (HBW.out.trans (HBV.out.mono HBW.out.size))
     clear hp hbest
     cases p with
     | false =>
      have HT := Aside0.mk (show coverB (onesOf b) a.length (set + 1) = best by rw [HNX.out]; unfold coverTake; rw [HAP.out]; rfl)
      go_wp2_with (go_at_call 53; refine (divides_n ((HC6.out.below HBW.out).below HBV.out) HI.out.a10 A3 c3 (onesOf b) (allOf a) (Kd.C_below (Kd.C_below HR6.out HBW.out) HBV.out) HN3.out HSET.out AL cl l HRD.out.2.2 HLM.out HLK.out).mono ?_; rintro e w7 ⟨rfl, hb⟩; rw [HAP.out]; have HB7 := Aside0.mk hb; clear hb)
      go_roundg (k1 - 1)
      case measure => have := HKQ.out; omega
      case rel => exact ⟨set + 1, by go_num, ⟨by have := HKQ.out; omega⟩, ⟨below_step HBWR.out HB7.out⟩, ⟨by rw [HT.out]; exact (HBE.out.below HBV.out).below HB7.out⟩⟩
     | true =>
      cases best with
      | none =>
       obtain rfl := HBE.out
       have HT := Aside0.mk (show coverB (onesOf b) a.length (set + 1) = some l by rw [HNX.out]; unfold coverTake; rw [HAP.out]; rfl)
       go_wp2_with (first | (go_at_call 53; refine (divides_n ((HC6.out.below HBW.out).below HBV.out) HI.out.a10 A3 c3 (onesOf b) (allOf a) (Kd.C_below (Kd.C_below HR6.out HBW.out) HBV.out) HN3.out HSET.out AL cl l HRD.out.2.2 HLM.out HLK.out).mono ?_; rintro e w7 ⟨rfl, hb⟩; rw [HAP.out]; have HB7 := Aside0.mk hb; clear hb) | (at_builtin; go_loud (refine Kd.R_append_rows (Kd.int .i64) (w0 := w7) w7.heap.size rfl (.tmp 67) (.tmp 68) 22 3 (.int .i64 0) 8 rfl Tryd.underlying22 info3c rfl (by decide) (by omega) (.slice (some ⟨w7.heap.size, 0, none⟩) 0 0) ([] : List Int) l _ _ _ (fun _ => True) (fun _ => False) rfl rfl ?aO ?aR (fun _ _ h => h) (fun _ h => h.elim) ?aF ?aB ?aS ?aL ?_); go_loud (case aO => exact R_made0t w7); go_loud (case aR => exact Kd.C_alloc (Kd.C_below HRD.out.2.2 HB7.out) _); go_loud (case aF => exact fun _ _ => trivial); go_loud (case aB => exact below_alloc (Below.refl _ _) _); go_loud (case aS => exact (below_alloc (Below.refl _ _) _).size); go_loud (case aL => have := HLM.out; simp; omega); intro v103 w9 ho hb hg hat; have HO := Aside0.mk ho; have HB9 := Aside0.mk hb; have HAT := Aside0.mk hat; clear ho hb hg hat))
       go_roundg (k1 - 1)
       case measure => have := HKQ.out; omega
       case rel => exact ⟨set + 1, by go_num, ⟨by have := HKQ.out; omega⟩, ⟨below_step (below_step HBWR.out HB7.out) HB9.out⟩, ⟨by rw [HT.out]; exact best_some HO.out (below_size (below_step (below_step (HB6.out) (below_step HBWR.out HB7.out)) (Below.refl _ _))) rfl HAT.out⟩⟩
      | some lb =>
       obtain ⟨gb, cb, rfl, hrb⟩ := HBE.out
       have HRB := Aside0.mk (Kd.C_below (Kd.R_reads' hrb).2.2 HBV.out)
       have HRN := Aside0.mk (Kd.R_reads' hrb).2.1
       have HRO := Aside0.mk hrb
       have HLB := Aside0.mk (show lb.length ≤ 12 by have := coverB_len _ _ _ _ HBQ.out.symm; omega)
       obtain ⟨cx, hcx⟩ : ∃ cx, cmpI l.length lb.length = cx := ⟨_, rfl⟩
       obtain ⟨cy, hcy⟩ : ∃ cy, cmpL l lb = cy := ⟨_, rfl⟩
       obtain ⟨cz, hcz⟩ : ∃ cz, orI cx cy = cz := ⟨_, rfl⟩
       have HCX := Aside0.mk hcx
       have HCY := Aside0.mk hcy
       have HCZ := Aside0.mk hcz
       obtain ⟨q, hq⟩ : ∃ q, decide (cz < 0) = q := ⟨_, rfl⟩
       have HTQ := Aside0.mk (show coverTake (onesOf b) a.length (some lb) l = q by unfold coverTake beforeB; rw [HAP.out, Bool.true_and]; show decide (orI (cmpI (l.length : Int) (lb.length : Int)) (cmpL l lb) < 0) = q; rw [hcx, hcy, hcz, hq])
       clear hrb hcx hcy hcz
       cases q with
       | true =>
        have HT := Aside0.mk (show coverB (onesOf b) a.length (set + 1) = some l by rw [HNX.out, HTQ.out]; rfl)
        go_wp2_with (first | (go_at_call 53; refine (divides_n ((HC6.out.below HBW.out).below HBV.out) HI.out.a10 A3 c3 (onesOf b) (allOf a) (Kd.C_below (Kd.C_below HR6.out HBW.out) HBV.out) HN3.out HSET.out AL cl l HRD.out.2.2 HLM.out HLK.out).mono ?_; rintro e w7 ⟨rfl, hb⟩; rw [HAP.out]; have HB7 := Aside0.mk hb; have HRB7 := Aside0.mk (Kd.C_below HRB.out hb); have HRL7 := Aside0.mk (Kd.C_below HRD.out.2.2 hb); clear hb) | (go_at_call 55; refine (cmpI_n _ _ _).mono ?_; rintro e w' ⟨rfl, ⟨nd1, rfl⟩⟩; rw [HCX.out]) | (go_at_call 56; refine (cmpL_n l lb (by have := HLM.out; omega) (by have := HLB.out; omega) AL cl (some gb) cb _ (Kd.C_drewN HRL7.out _) HRD.out.2.1 (Kd.C_drewN HRB7.out _) HRN.out).mono ?_; rintro e w' ⟨rfl, ⟨nd2, rfl⟩⟩; rw [HCY.out]) | ((with_reducible refine gate_dst (N := 62) rfl ?_); (try (refine gate_guard (by rfl) ?_; dsimp only)); go_loud (refine Kd.R_lit (Kd.int .i64) (w0 := w7) w7.heap.size 3 ?hg (N := 62) ?hd (xs := ([cx, cy] : List Int)) (inner := [.int .i64 cx, .int .i64 cy]) (ok := fun _ => True) (okp := fun _ => True) ?hr ?hp (fun _ hk => hk) trivial ?hB ?hS (by simp) ?_); go_loud (case hd => rfl); go_loud (case hg => rfl); go_loud (case hr => first | (go_simp; done) | (go_simp; rfl)); go_loud (case hp => exact (Reps.one (show Kd.M (Kd.int .i64) _ _ _ cx [.int .i64 cx] from rfl) (Reps.one (show Kd.M (Kd.int .i64) _ _ _ cy [.int .i64 cy] from rfl) (Reps.none _ _)))); go_loud (case hB => repeat (first | (with_reducible first | exact Below.refl _ _ | apply below_alloc | apply pw_below_drewN | apply below_drew1))); go_loud (case hS => exact Nat.le_refl _); intro v62 w8 ho hb hg_ hnew_; obtain ⟨A62, c62, rfl⟩ := Kd.R_slice ho; have HO8 := Aside0.mk (Kd.R_reads' ho); have HB8 := Aside0.mk hb; clear ho hb hg_ hnew_) | (go_at_call 54; go_loud (refine (orI_n cx cy A62 c62 _ HO8.out.2.2 HO8.out.2.1).mono ?_); rintro e w' ⟨rfl, ⟨nd3, rfl⟩⟩; rw [HCZ.out]) | (at_builtin; go_loud (refine Kd.R_append_rows (Kd.int .i64) (w0 := w8.drewN nd3) w8.heap.size rfl (.tmp 67) (.tmp 68) 22 3 (.int .i64 0) 8 rfl Tryd.underlying22 info3c rfl (by decide) (by omega) (.slice (some ⟨w8.heap.size, 0, none⟩) 0 0) ([] : List Int) l _ _ _ (fun _ => True) (fun _ => False) rfl rfl ?aO ?aR (fun _ _ h => h) (fun _ h => h.elim) ?aF ?aB ?aS ?aL ?_); go_loud (case aO => exact R_made0t (w8.drewN nd3)); go_loud (case aR => exact Kd.C_alloc (Kd.C_drewN (Kd.C_below HRL7.out HB8.out) _) _); go_loud (case aF => exact fun _ _ => trivial); go_loud (case aB => exact (show Below (w8.drewN nd3).heap.size _ _ from below_alloc (Below.refl _ _) _)); go_loud (case aS => exact (show (w8.drewN nd3).heap.size ≤ _ from (below_alloc (Below.refl (w8.drewN nd3).heap.size _) _).size)); go_loud (case aL => have := HLM.out; simp; omega); intro v103 w9 ho hb hg hat; have HO := Aside0.mk ho; have HB9 := Aside0.mk hb; have HAT := Aside0.mk hat; clear ho hb hg hat))
        go_roundg (k1 - 1)
        case measure => have := HKQ.out; omega
        case rel => exact ⟨set + 1, by go_num, ⟨by have := HKQ.out; omega⟩, ⟨below_step (below_step (below_step HBWR.out HB7.out) HB8.out) (pw_below_drewN (Below.refl _ _) nd3 |>.trans HB9.out)⟩, ⟨by rw [HT.out]; exact best_some (w1 := w8) HO.out (below_size (below_step (below_step HB6.out (below_step HBWR.out HB7.out)) HB8.out)) rfl HAT.out⟩⟩
       | false =>
        have HT := Aside0.mk (show coverB (onesOf b) a.length (set + 1) = some lb by rw [HNX.out, HTQ.out]; rfl)
        go_wp2_with (first | (go_at_call 53; refine (divides_n ((HC6.out.below HBW.out).below HBV.out) HI.out.a10 A3 c3 (onesOf b) (allOf a) (Kd.C_below (Kd.C_below HR6.out HBW.out) HBV.out) HN3.out HSET.out AL cl l HRD.out.2.2 HLM.out HLK.out).mono ?_; rintro e w7 ⟨rfl, hb⟩; rw [HAP.out]; have HB7 := Aside0.mk hb; have HRB7 := Aside0.mk (Kd.C_below HRB.out hb); have HRL7 := Aside0.mk (Kd.C_below HRD.out.2.2 hb); clear hb) | (go_at_call 55; refine (cmpI_n _ _ _).mono ?_; rintro e w' ⟨rfl, ⟨nd1, rfl⟩⟩; rw [HCX.out]) | (go_at_call 56; refine (cmpL_n l lb (by have := HLM.out; omega) (by have := HLB.out; omega) AL cl (some gb) cb _ (Kd.C_drewN HRL7.out _) HRD.out.2.1 (Kd.C_drewN HRB7.out _) HRN.out).mono ?_; rintro e w' ⟨rfl, ⟨nd2, rfl⟩⟩; rw [HCY.out]) | ((with_reducible refine gate_dst (N := 62) rfl ?_); (try (refine gate_guard (by rfl) ?_; dsimp only)); go_loud (refine Kd.R_lit (Kd.int .i64) (w0 := w7) w7.heap.size 3 ?hg (N := 62) ?hd (xs := ([cx, cy] : List Int)) (inner := [.int .i64 cx, .int .i64 cy]) (ok := fun _ => True) (okp := fun _ => True) ?hr ?hp (fun _ hk => hk) trivial ?hB ?hS (by simp) ?_); go_loud (case hd => rfl); go_loud (case hg => rfl); go_loud (case hr => first | (go_simp; done) | (go_simp; rfl)); go_loud (case hp => exact (Reps.one (show Kd.M (Kd.int .i64) _ _ _ cx [.int .i64 cx] from rfl) (Reps.one (show Kd.M (Kd.int .i64) _ _ _ cy [.int .i64 cy] from rfl) (Reps.none _ _)))); go_loud (case hB => repeat (first | (with_reducible first | exact Below.refl _ _ | apply below_alloc | apply pw_below_drewN | apply below_drew1))); go_loud (case hS => exact Nat.le_refl _); intro v62 w8 ho hb hg_ hnew_; obtain ⟨A62, c62, rfl⟩ := Kd.R_slice ho; have HO8 := Aside0.mk (Kd.R_reads' ho); have HB8 := Aside0.mk hb; clear ho hb hg_ hnew_) | (go_at_call 54; go_loud (refine (orI_n cx cy A62 c62 _ HO8.out.2.2 HO8.out.2.1).mono ?_); rintro e w' ⟨rfl, ⟨nd3, rfl⟩⟩; rw [HCZ.out]))
        go_roundg (k1 - 1)
        case measure => have := HKQ.out; omega
        case rel => exact ⟨set + 1, by go_num, ⟨by have := HKQ.out; omega⟩, ⟨pw_below_drewN (below_step (below_step HBWR.out HB7.out) HB8.out) nd3⟩, ⟨by rw [HT.out]; exact ((((show BestAt w _ _ (some lb) from ⟨gb, cb, rfl, HRO.out⟩).below HBV.out).below HB7.out).below HB8.out).below (pw_below_drewN (Below.refl _ _) nd3)⟩⟩
  ·obtain rfl : set = M := by have := HKQ.out; omega
   go_wp2
   go_ret2
   exact ⟨_, rfl, by rw [← HM.out]; exact HBE.out, HB6.out.trans (HBW.out.mono HB6.out.size)⟩
end
def covRes (a : List Int) (b : List (List Int)) (c : List Int) : List Int × Int :=
 if caseB a b c = true then (if alikeL (onesOf b) a.length = [] then ((coverB (onesOf b) a.length (2 ^ (onesOf b).length)).getD [], 0) else ([], 6)) else ([], 2)
def tests_Cover.f (a : List Int) (b : List (List Int)) (c : List Int) : Option (List Int × Int) := some (covRes a b c)
theorem tests_Cover.calls (A0 : Option Addr) (c0 : Nat) (a : List Int) (A1 : Option Addr) (c1 : Nat) (b : List (List Int)) (A2 : Option Addr) (c2 : Nat) (c : List Int) (r1 : List Int) (r2 : Int) (w : World)
  (h0 : Kd.C (Kd.int .i64) w A0 a.length a) (n0 : a.length ≤ c0) (h1 : Kd.C (Kd.slice 3 (Kd.int .i64)) w A1 b.length b) (n1 : b.length ≤ c1) (h2 : Kd.C (Kd.int .i64) w A2 c.length c) (n2 : c.length ≤ c2) (h : tests_Cover.f a b c = some (r1, r2)) :
  Calls Tryd.prog 28 #[.agg #[.slice A0 a.length c0, .slice A1 b.length c1, .slice A2 c.length c2]] w fun e w' => ∃ v0_ : Value, e = .returned (.tuple #[v0_, .int .i64 r2]) ∧ Kd.R (Kd.int .i64) 3 w' w.heap.size (fun _ => True) v0_ r1 ∧ Below w.heap.size w w' := by
 have H : CaseAt w A0 c0 a A1 c1 b A2 c2 c := ⟨h0, n0, h1, n1, h2, n2⟩
 have hr := Option.some.inj h
 unfold covRes at hr
 by_cases hc : caseB a b c = true
 ·rw [if_pos hc] at hr
  by_cases hal : alikeL (onesOf b) a.length = []
  ·rw [if_pos hal] at hr
   obtain ⟨rfl, rfl⟩ := Prod.mk.inj hr
   refine (cov_good H hc hal).mono ?_
   rintro e w' ⟨v, rfl, hv, hb⟩
   refine ⟨v, rfl, ?_, hb⟩
   cases ho : coverB (onesOf b) a.length (2 ^ (onesOf b).length) with
   | none => rw [ho] at hv; obtain rfl := hv; exact Kd.R_nil _ _ _ _ _
   | some l => rw [ho] at hv; obtain ⟨g, cc, rfl, hR⟩ := hv; exact hR
  ·rw [if_neg hal] at hr
   obtain ⟨rfl, rfl⟩ := Prod.mk.inj hr
   exact (cov_alike H hc hal).mono fun e w' ⟨h1, h2⟩ => ⟨_, h1, Kd.R_nil _ _ _ _ _, h2⟩
 ·rw [if_neg hc] at hr
  obtain ⟨rfl, rfl⟩ := Prod.mk.inj hr
  exact (cov_bad H (by simpa using hc)).mono fun e w' ⟨h1, h2⟩ => ⟨_, h1, Kd.R_nil _ _ _ _ _, h2⟩
end Go.Proofs.YtekmiepdodaidaaDoor.X
end
