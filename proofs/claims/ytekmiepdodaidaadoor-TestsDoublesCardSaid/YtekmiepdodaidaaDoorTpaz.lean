/- Texts behind TestsDoubles, part 26: contracts of the program's functions and the plain words for them. -/
import Derived.BigQuiet
import Derived.Deep.QuietTactic
import Derived.Test.YtekmiepdodaidaaDoorTpas
import Derived.Test.YtekmiepdodaidaaDoorTpax
import Derived.Test.YtekmiepdodaidaaDoorTpay
section
/- Layer 7, plain: Cover: the first smallest set of tests, as the program and as the reference find it. -/
set_option linter.unusedVariables false
namespace Go.Proofs.YtekmiepdodaidaaDoor.X
open Go.RowKit Go.Proofs.YtekmiepdodaidaaDoorW.PrintWords Go.Proofs.YtekmiepdodaidaaDoorW.PrintLast Go.Proofs.YtekmiepdodaidaaDoorW.PrintMore

def AscB : Int → Int → List Int → Prop
 | _, _, [] => True
 | lo, T, x :: xs => lo ≤ x ∧ x < T ∧ AscB (x + 1) T xs
theorem AscB.mono {T T' : Int} (h : T ≤ T') : ∀ {l : List Int} {lo : Int}, AscB lo T l → AscB lo T' l
 | [], _, _ => trivial
 | x :: xs, lo, hl => ⟨hl.1, by have := hl.2.1; omega, AscB.mono h hl.2.2⟩
theorem AscB.snoc {T : Int} : ∀ {l : List Int} {lo : Int}, AscB lo T l → lo ≤ T → AscB lo (T + 1) (l ++ [T])
 | [], lo, _, h => ⟨h, by omega, trivial⟩
 | x :: xs, lo, hl, h => ⟨hl.1, by have := hl.2.1; omega, AscB.snoc hl.2.2 (by have := hl.2.1; omega)⟩
theorem AscB.mem {T : Int} : ∀ {l : List Int} {lo : Int}, AscB lo T l → ∀ x ∈ l, lo ≤ x ∧ x < T
 | [], _, _, x, h => by cases h
 | y :: ys, lo, hl, x, h => by
  rcases List.mem_cons.1 h with rfl | h
  ·exact ⟨hl.1, hl.2.1⟩
  ·have := AscB.mem hl.2.2 x h
   have := hl.1
   omega
theorem AscB.split {T : Int} : ∀ {l : List Int} {lo : Int}, AscB lo (T + 1) l → AscB lo T l ∨ ∃ l', l = l' ++ [T] ∧ AscB lo T l'
 | [], _, _ => .inl trivial
 | x :: xs, lo, h => by
  obtain ⟨h1, h2, h3⟩ := h
  rcases AscB.split h3 with h4 | ⟨l', h4, h5⟩
  ·by_cases e : x = T
   ·subst e
    cases xs with
    | nil => exact .inr ⟨[], rfl, trivial⟩
    | cons y ys => have := h4.1; have := h4.2.1; omega
   ·exact .inl ⟨h1, by omega, h4⟩
  ·by_cases e : x = T
   ·subst e
    subst h4
    cases l' with
    | nil => have := h3.1; have := h3.2.1; omega
    | cons y ys => have := h5.1; have := h5.2.1; omega
   ·exact .inr ⟨x :: l', by rw [h4]; rfl, h1, by omega, h5⟩
theorem AscB.len {T : Int} : ∀ {l : List Int} {lo : Int}, AscB lo T l → lo ≤ T → (l.length : Int) ≤ T - lo
 | [], lo, _, h => by simp; omega
 | x :: xs, lo, hl, h => by
  have := AscB.len hl.2.2 (by have := hl.2.1; omega)
  have := hl.1
  simp only [List.length_cons]
  omega
theorem selB_asc (set : Nat) : ∀ T : Nat, AscB 0 (T : Int) (selB set T)
 | 0 => trivial
 | T + 1 => by
  have ih := selB_asc set T
  unfold selB
  split
  ·have := AscB.snoc ih (by omega)
   rwa [show ((T + 1 : Nat) : Int) = (T : Int) + 1 by omega]
  ·rw [List.append_nil]
   exact ih.mono (by omega)
theorem selB_congr {s s' : Nat} : ∀ T : Nat, (∀ i, i < T → s.testBit i = s'.testBit i) → selB s T = selB s' T
 | 0, _ => rfl
 | T + 1, h => by unfold selB; rw [selB_congr T (fun i hi => h i (by omega)), h T (by omega)]
theorem selB_all : ∀ (T : Nat) (l : List Int), AscB 0 (T : Int) l → ∃ set, set < 2 ^ T ∧ selB set T = l
 | 0, l, h => by
  cases l with
  | nil => exact ⟨0, by simp, rfl⟩
  | cons x xs => have := h.1; have := h.2.1; omega
 | T + 1, l, h => by
  rw [show ((T + 1 : Nat) : Int) = (T : Int) + 1 by omega] at h
  rcases AscB.split h with h1 | ⟨l', rfl, h1⟩
  ·obtain ⟨set, hs, he⟩ := selB_all T l h1
   refine ⟨set, by rw [Nat.pow_succ]; omega, ?_⟩
   unfold selB
   rw [he, if_neg (by rw [Nat.testBit_lt_two_pow hs]; decide), List.append_nil]
  ·obtain ⟨set, hs, he⟩ := selB_all T l' h1
   refine ⟨2 ^ T + set, by rw [Nat.pow_succ]; omega, ?_⟩
   unfold selB
   have h2 : selB (2 ^ T + set) T = selB set T := selB_congr T (fun i hi => Nat.testBit_two_pow_add_gt hi set)
   have h3 : (2 ^ T + set).testBit T = true := by rw [Nat.testBit_two_pow_add_eq, Nat.testBit_lt_two_pow hs]; rfl
   rw [h2, he, if_pos h3]
theorem cmpI_lt (x y : Int) : cmpI x y < 0 ↔ x < y := by unfold cmpI; split <;> (try split) <;> omega
theorem cmpI_eq (x y : Int) : cmpI x y = 0 ↔ x = y := by unfold cmpI; split <;> (try split) <;> omega
theorem cmpL_cons (x y : Int) (a b : List Int) : cmpL (x :: a) (y :: b) < 0 ↔ x < y ∨ (x = y ∧ cmpL a b < 0) := by
 rw [cmpL]
 by_cases h : cmpI x y = 0
 ·rw [if_pos h]
  have := (cmpI_eq x y).1 h
  omega
 ·rw [if_neg h, cmpI_lt]
  have := mt (cmpI_eq x y).2 h
  omega
theorem cmpL_trans : ∀ {a b c : List Int}, cmpL a b < 0 → cmpL b c < 0 → cmpL a c < 0
 | [], [], _, h, _ => by simp [cmpL] at h
 | [], _ :: _, [], _, h => by simp [cmpL] at h
 | [], _ :: _, _ :: _, _, _ => by simp [cmpL]
 | _ :: _, [], _, h, _ => by simp [cmpL] at h
 | _ :: _, _ :: _, [], _, h => by simp [cmpL] at h
 | x :: a, y :: b, z :: c, h1, h2 => by
  rw [cmpL_cons] at h1 h2 ⊢
  rcases h1 with h1 | ⟨rfl, h1⟩ <;> rcases h2 with h2 | ⟨rfl, h2⟩
  ·exact .inl (by omega)
  ·exact .inl h1
  ·exact .inl h2
  ·exact .inr ⟨rfl, cmpL_trans h1 h2⟩
theorem before_iff (l b : List Int) : beforeB l b = true ↔ l.length < b.length ∨ (l.length = b.length ∧ cmpL l b < 0) := by
 unfold beforeB
 rw [decide_eq_true_iff]
 unfold orI
 split
 ·rename_i h
  have := (cmpI_eq _ _).1 h
  omega
 ·rename_i h
  have h2 := mt (cmpI_eq (l.length : Int) (b.length : Int)).2 h
  rw [cmpI_lt]
  omega
theorem before_trans {a b c : List Int} (h1 : beforeB a b = true) (h2 : beforeB b c = true) : beforeB a c = true := by
 rw [before_iff] at *
 rcases h1 with h1 | ⟨h1, h3⟩ <;> rcases h2 with h2 | ⟨h2, h4⟩
 ·exact .inl (by omega)
 ·exact .inl (by omega)
 ·exact .inl (by omega)
 ·exact .inr ⟨by omega, cmpL_trans h3 h4⟩
theorem before_irr (l : List Int) : beforeB l l = false := by
 cases h : beforeB l l with
 | false => rfl
 | true =>
  have h2 := before_trans h h
  rw [before_iff] at h
  exfalso
  rcases h with h | ⟨_, h⟩
  ·omega
  ·have : ∀ (l : List Int), ¬ cmpL l l < 0 := by
    intro l
    induction l with
    | nil => simp [cmpL]
    | cons x xs ih => rw [cmpL_cons]; rintro (h | ⟨_, h⟩); omega; exact ih h
   exact this l h
/-- What the program finds. -/
theorem coverB_is (ones : List Int) (n : Nat) : ∀ M,
  (∀ l, coverB ones n M = some l → (∃ set, set < M ∧ l = selB set ones.length) ∧ apartB ones l n = true ∧ ∀ set, set < M → apartB ones (selB set ones.length) n = true → beforeB (selB set ones.length) l = false) ∧
  (coverB ones n M = none → ∀ set, set < M → apartB ones (selB set ones.length) n = false)
 | 0 => ⟨fun l h => (by cases h), fun _ set h => absurd h (Nat.not_lt_zero _)⟩
 | M + 1 => by
  obtain ⟨h1, h2⟩ := coverB_is ones n M
  cases hc : coverB ones n M with
  | none =>
   have h2 := h2 hc
   have e : coverB ones n (M + 1) = if apartB ones (selB M ones.length) n = true then some (selB M ones.length) else none := by
    show coverStep ones n (coverB ones n M) M = _
    rw [hc]; unfold coverStep coverTake; simp only [Bool.and_true]
   rw [e]
   by_cases ha : apartB ones (selB M ones.length) n = true
   ·rw [if_pos ha]
    refine ⟨fun l hl => ?_, fun h => (by cases h)⟩
    obtain rfl := Option.some.inj hl
    refine ⟨⟨M, Nat.lt_succ_self _, rfl⟩, ha, fun set hs hap => ?_⟩
    by_cases es : set = M
    ·subst es; exact before_irr _
    ·rw [h2 set (by omega)] at hap; cases hap
   ·rw [if_neg ha]
    refine ⟨fun l hl => (by cases hl), fun _ set hs => ?_⟩
    by_cases es : set = M
    ·subst es; simpa using ha
    ·exact h2 set (by omega)
  | some lb =>
   obtain ⟨⟨sb, hsb, rfl⟩, hap, hmin⟩ := h1 lb hc
   have e : coverB ones n (M + 1) = if (apartB ones (selB M ones.length) n && beforeB (selB M ones.length) (selB sb ones.length)) = true then some (selB M ones.length) else some (selB sb ones.length) := by
    show coverStep ones n (coverB ones n M) M = _
    rw [hc]; rfl
   rw [e]
   by_cases ht : (apartB ones (selB M ones.length) n && beforeB (selB M ones.length) (selB sb ones.length)) = true
   ·rw [if_pos ht]
    refine ⟨fun l hl => ?_, fun h => (by cases h)⟩
    obtain rfl := Option.some.inj hl
    rw [Bool.and_eq_true] at ht
    refine ⟨⟨M, Nat.lt_succ_self _, rfl⟩, ht.1, fun set hs hap2 => ?_⟩
    by_cases es : set = M
    ·subst es; exact before_irr _
    ·cases hb : beforeB (selB set ones.length) (selB M ones.length) with
     | false => rfl
     | true =>
      have := hmin set (by omega) hap2
      rw [before_trans hb ht.2] at this
      cases this
   ·rw [if_neg ht]
    refine ⟨fun l hl => ?_, fun h => (by cases h)⟩
    obtain rfl := Option.some.inj hl
    refine ⟨⟨sb, by omega, rfl⟩, hap, fun set hs hap2 => ?_⟩
    by_cases es : set = M
    ·subst es
     rw [hap2, Bool.true_and] at ht
     simpa using ht
    ·exact hmin set (by omega) hap2
theorem resB_eq (ones : List Int) (i j : Nat) : ∀ (l : List Int) (r r' : Nat), resB ones i l r = resB ones j l r' ↔ r = r' ∧ ∀ k ∈ l, hasB (rd ones k) i = hasB (rd ones k) j
 | [], r, r' => by simp [resB]
 | k :: l, r, r' => by
  unfold resB
  rw [resB_eq ones i j l]
  constructor
  ·rintro ⟨h1, h2⟩
   have : hasB (rd ones k) i = hasB (rd ones k) j ∧ r = r' := by
    cases ha : hasB (rd ones k) i <;> cases hb : hasB (rd ones k) j <;> simp [ha, hb] at h1 ⊢ <;> omega
   exact ⟨this.2, fun q hq => by rcases List.mem_cons.1 hq with rfl | hq; exact this.1; exact h2 q hq⟩
  ·rintro ⟨rfl, h2⟩
   rw [h2 k (by simp)]
   exact ⟨rfl, fun q hq => h2 q (by simp [hq])⟩
theorem apart_iff (ones l : List Int) : ∀ n : Nat, apartB ones l n = true ↔ ∀ j, j < n → ∀ i, i < j → ∃ k ∈ l, sameB (i : Int) (j : Int) (rd ones k) = false
 | 0 => by simp [apartB_zero]
 | n + 1 => by
  rw [apartB_snoc, Bool.and_eq_true, apart_iff ones l n, decide_eq_true_iff]
  have key : ∀ i : Nat, resB ones i l 0 ≠ resB ones n l 0 ↔ ∃ k ∈ l, sameB (i : Int) (n : Int) (rd ones k) = false := by
   intro i
   rw [ne_eq, resB_eq]
   unfold sameB
   constructor
   ·intro h
    refine Classical.byContradiction fun hn => h ⟨rfl, fun k hk => ?_⟩
    refine Classical.byContradiction fun hk2 => hn ⟨k, hk, by simpa using hk2⟩
   ·rintro ⟨k, hk, h1⟩ ⟨_, h2⟩
    rw [h2 k hk] at h1
    simp at h1
  constructor
  ·rintro ⟨h1, h2⟩ j hj i hi
   by_cases e : j = n
   ·subst e; exact (key i).1 (h2 i hi)
   ·exact h1 j (by omega) i hi
  ·intro h
   exact ⟨fun j hj i hi => h j (by omega) i hi, fun i hi => (key i).2 (h n (by omega) i hi)⟩
theorem pairsIn_nil {ones : List Int} {a : Nat} : ∀ (m b : Nat), (∀ j, j < m → ∃ x ∈ ones, sameB (a : Int) ((b + j : Nat) : Int) x = false) → pairsIn ones a b m = []
 | 0, _, _ => rfl
 | m + 1, b, h => by
  unfold pairsIn
  obtain ⟨x, hx, hs⟩ := h 0 (by omega)
  rw [Nat.add_zero] at hs
  rw [if_neg (by intro hall; rw [List.all_eq_true.1 hall x hx] at hs; cases hs), List.nil_append]
  exact pairsIn_nil m (b + 1) (fun j hj => by have := h (j + 1) (by omega); rwa [show b + (j + 1) = b + 1 + j by omega] at this)
theorem pairsOut_nil {ones : List Int} {n : Nat} (h : ∀ j, j < n → ∀ i, i < j → ∃ x ∈ ones, sameB (i : Int) (j : Int) x = false) : ∀ (m a : Nat), a + m = n → pairsOut ones n a m = []
 | 0, _, _ => rfl
 | m + 1, a, ha => by
  unfold pairsOut
  rw [pairsIn_nil _ _ (fun j hj => h (a + 1 + j) (by omega) a (by omega)), List.nil_append]
  exact pairsOut_nil h m (a + 1) (by omega)
theorem alikeL_iff (ones : List Int) (n : Nat) : alikeL ones n = [] ↔ ∀ j, j < n → ∀ i, i < j → ∃ x ∈ ones, sameB (i : Int) (j : Int) x = false :=
 ⟨fun h j hj i hi => alikeL_none h hi hj, fun h => pairsOut_nil h n 0 (by omega)⟩
theorem rows_ones {b : List (List Int)} {l : List Int} (hm : ∀ x ∈ l, 0 ≤ x ∧ x < (b.length : Int)) : onesOf (rowsOf b l) = l.map (rd (onesOf b)) := by
 unfold onesOf rowsOf
 rw [List.map_map]
 refine List.map_congr_left (fun x hx => ?_)
 have h := hm x hx
 have hl : x.toNat < b.length := by omega
 simp [rd_L1, rd, List.getD_eq_getElem?_getD, List.getElem?_map, List.getElem?_eq_getElem hl]
theorem rows_apart {b : List (List Int)} {l : List Int} (hm : ∀ x ∈ l, 0 ≤ x ∧ x < (b.length : Int)) (n : Nat) : alikeL (onesOf (rowsOf b l)) n = [] ↔ apartB (onesOf b) l n = true := by
 rw [alikeL_iff, apart_iff, rows_ones hm]
 constructor
 ·intro h j hj i hi
  obtain ⟨x, hx, hs⟩ := h j hj i hi
  obtain ⟨k, hk, rfl⟩ := List.mem_map.1 hx
  exact ⟨k, hk, hs⟩
 ·intro h j hj i hi
  obtain ⟨k, hk, hs⟩ := h j hj i hi
  exact ⟨_, List.mem_map.2 ⟨k, hk, rfl⟩, hs⟩
section
variable {a : List Int} {b : List (List Int)} {c : List Int}
/-- The program's cover, and what makes it the reference's. -/
theorem cover_has (D : Differ a b c) : ∃ l, coverB (onesOf b) a.length (2 ^ (onesOf b).length) = some l ∧ AscB 0 b.length l ∧ alikeL (onesOf (rowsOf b l)) a.length = [] ∧ ∀ l', AscB 0 b.length l' → alikeL (onesOf (rowsOf b l')) a.length = [] → beforeB l' l = false := by
 have hlen : (onesOf b).length = b.length := onesOf_len
 have mem : ∀ l, AscB 0 b.length l → ∀ x ∈ l, 0 ≤ x ∧ x < (b.length : Int) := fun l h x hx => h.mem x hx
 obtain ⟨h1, h2⟩ := coverB_is (onesOf b) a.length (2 ^ (onesOf b).length)
 cases hc : coverB (onesOf b) a.length (2 ^ (onesOf b).length) with
 | none =>
  exfalso
  -- all tests together
  have h3 := h2 hc (2 ^ (onesOf b).length - 1) (by have := Nat.two_pow_pos (onesOf b).length; omega)
  have : apartB (onesOf b) (selB (2 ^ (onesOf b).length - 1) (onesOf b).length) a.length = true := by
   rw [apart_iff]
   intro j hj i hi
   obtain ⟨x, hx, hs⟩ := alikeL_none D.al hi hj
   obtain ⟨t, ht, rfl⟩ := List.mem_iff_getElem.1 hx
   refine ⟨(t : Int), ?_, by simpa [rd, List.getD_eq_getElem?_getD, List.getElem?_eq_getElem ht] using hs⟩
   have : ∀ (T s : Nat), (∀ i, i < T → s.testBit i = true) → ∀ t, t < T → (t : Int) ∈ selB s T := by
    intro T s hb
    induction T with
    | zero => intro t ht; omega
    | succ T ih =>
     intro t ht
     unfold selB
     rw [if_pos (hb T (by omega)), List.mem_append]
     by_cases e : t = T
     ·subst e; exact .inr (by simp)
     ·exact .inl (ih (fun i hi => hb i (by omega)) t (by omega))
   exact this _ _ (fun i hi => by rw [Nat.testBit_two_pow_sub_one]; simpa using hi) t ht
  rw [this] at h3
  cases h3
 | some l =>
  obtain ⟨⟨set, hs, rfl⟩, hap, hmin⟩ := h1 l hc
  have hasc := selB_asc set (onesOf b).length
  rw [hlen] at hasc
  refine ⟨_, rfl, by rw [hlen]; exact hasc, (rows_apart (fun x hx => mem _ (by rw [hlen]; exact hasc) x hx) _).2 hap, fun l' hA hP => ?_⟩
  obtain ⟨s', hs', rfl⟩ := selB_all b.length l' hA
  have := hmin s' (by rw [hlen]; exact hs') (by rw [hlen]; exact (rows_apart (mem _ hA) _).1 hP)
  rw [hlen] at this ⊢
  exact this
end
end Go.Proofs.YtekmiepdodaidaaDoor.X
end

section
namespace Go.Proofs.YtekmiepdodaidaaDoor.X
open Go.RowKit Go.Proofs.YtekmiepdodaidaaDoorW.PrintWords Go.Proofs.YtekmiepdodaidaaDoorW.PrintLast Go.Proofs.YtekmiepdodaidaaDoorW.PrintMore
attribute [local go_sem] max2_int min2_int max_two min_two max_three min_three max_four min_four   -- for this text's walks alone
set_option linter.unusedVariables false
set_option linter.unusedSimpArgs false

def tickinglaw07_mod.f (a0 : Int) (a1 : Int) : Option (Int) := if (IntKind.u64.wrap (a1)) = 0 then (none) else (some (wrap64 (Int.tmod (IntKind.u64.wrap (a0)) (IntKind.u64.wrap (a1)))))
set_option maxHeartbeats 8000000 in
set_option maxRecDepth 100000 in
theorem tickinglaw07_mod.calls (a0 : Int) (a1 : Int) (r : Int) (w : World) (h : tickinglaw07_mod.f a0 a1 = some r) :
  Calls Tryd.prog 34 #[.int .i64 a0, .int .i64 a1] w fun e w' => e = .returned (.int .i64 r) ∧ Drawn0 w w' := by
 have H : (if (IntKind.u64.wrap (a1)) = 0 then (none) else (some (wrap64 (Int.tmod (IntKind.u64.wrap (a0)) (IntKind.u64.wrap (a1)))))) = some r := h
 clear h
 by_cases c3 : (IntKind.u64.wrap (a1)) = 0
 ·rw [if_pos c3] at H
  exact absurd H (by simp)
 ·rw [if_neg c3] at H
  have c3b0 : ((IntKind.u64.wrap (a1)) == 0) = false := beq_eq_false_iff_ne.mpr c3
  have c3b1 : ((IntKind.u64.wrap (a1)) != 0) = true := bne_iff_ne.mpr c3
  obtain rfl := Option.some.inj H
  go_enter Tryd.func34, Tryd.ntmps34
  go_wp2
  go_ret
  exact ⟨by first | rfl | (simp; done) | (simp [*]; done), by repeat (first | exact Drawn0.refl _ | apply Drawn0.step)⟩

end Go.Proofs.YtekmiepdodaidaaDoor.X
end

section
namespace Go.Proofs.YtekmiepdodaidaaDoor.X
open Go.RowKit Go.Proofs.YtekmiepdodaidaaDoorW.PrintWords Go.Proofs.YtekmiepdodaidaaDoorW.PrintLast Go.Proofs.YtekmiepdodaidaaDoorW.PrintMore
attribute [local go_sem] max2_int min2_int max_two min_two max_three min_three max_four min_four   -- for this text's walks alone
set_option linter.unusedVariables false
set_option linter.unusedSimpArgs false

def tickinglaw07_at.f (l0 : List Int) (a1 : Int) : Option (Int) := if a1 < (l0.length : Int) then (if 0 ≤ a1 then (some (rd l0 a1)) else (none)) else (some 0)
set_option maxHeartbeats 8000000 in
set_option maxRecDepth 100000 in
theorem tickinglaw07_at.calls (A0 : Option Addr) (c0 : Nat) (l0 : List Int) (a1 : Int) (r : Int) (w : World) (hr0 : Kd.C (Kd.int .i64) w A0 l0.length l0) (hc0 : l0.length ≤ c0) (h : tickinglaw07_at.f l0 a1 = some r) :
  Calls Tryd.prog 35 #[.slice A0 l0.length c0, .int .i64 a1] w fun e w' => e = .returned (.int .i64 r) ∧ Drawn0 w w' := by
 have HR0 := Aside0.mk hr0
 have HC0 := Aside0.mk hc0
 clear hr0 hc0
 have H : (if a1 < (l0.length : Int) then (if 0 ≤ a1 then (some (rd l0 a1)) else (none)) else (some 0)) = some r := h
 clear h
 by_cases c3 : a1 < (l0.length : Int)
 ·rw [if_pos c3] at H
  have c3b0 : decide (a1 < (l0.length : Int)) = true := decide_eq_true c3
  clear c3
  by_cases c4 : 0 ≤ a1
  ·rw [if_pos c4] at H
   have c4b0 : decide (0 ≤ a1) = true := decide_eq_true c4
   clear c4
   obtain rfl := Option.some.inj H
   have p558 : 0 ≤ (a1 : Int) := of_decide_eq_true az
   have q558 : a1 < (l0.length : Int) := of_decide_eq_true az
   obtain ⟨ad558, e558, hx558_0⟩ := Kd.at_int HR0.out a1 p558 q558
   cases e558
   replace p558 := eq_true p558
   replace q558 := eq_true q558
   go_enter Tryd.func35, Tryd.ntmps35
   go_wp2
   go_ret
   exact ⟨by first | rfl | (simp; done) | (simp [*]; done), by repeat (first | exact Drawn0.refl _ | apply Drawn0.step)⟩
  ·rw [if_neg c4] at H
   exact absurd H (by simp)
 ·rw [if_neg c3] at H
  have c3b0 : decide (a1 < (l0.length : Int)) = false := decide_eq_false c3
  clear c3
  obtain rfl := Option.some.inj H
  go_enter Tryd.func35, Tryd.ntmps35
  go_wp2
  go_ret
  exact ⟨by first | rfl | (simp; done) | (simp [*]; done), by repeat (first | exact Drawn0.refl _ | apply Drawn0.step)⟩

end Go.Proofs.YtekmiepdodaidaaDoor.X
end

section
/- Layer 7, plain: mod, at, and the case that tame makes. -/
set_option linter.unusedVariables false
namespace Go.Proofs.YtekmiepdodaidaaDoor.X
open Go.RowKit Go.Proofs.YtekmiepdodaidaaDoorW.PrintWords Go.Proofs.YtekmiepdodaidaaDoorW.PrintLast Go.Proofs.YtekmiepdodaidaaDoorW.PrintMore

def modN (x n : Int) : Int := (x % 18446744073709551616) % n
theorem modN_in (x n : Int) (h : 1 ≤ n) : 0 ≤ modN x n ∧ modN x n < n := ⟨Int.emod_nonneg _ (by omega), Int.emod_lt_of_pos _ (by omega)⟩
theorem mod_eq (x n : Int) (h : 1 ≤ n) (h2 : n ≤ 1000000) : tickinglaw07_mod.f x n = some (modN x n) := by
 have h3 := modN_in x n h
 unfold tickinglaw07_mod.f
 rw [IntKind.wrap_u64, IntKind.wrap_u64, show n % 18446744073709551616 = n by omega, if_neg (by omega), Int.tmod_eq_emod_of_nonneg (by omega)]
 unfold modN at *
 unfold wrap64
 exact congrArg some (by omega)
def atN (l : List Int) (i : Nat) : Int := l.getD i 0
theorem at_eq (l : List Int) (i : Nat) : tickinglaw07_at.f l (i : Int) = some (atN l i) := by
 unfold tickinglaw07_at.f atN
 by_cases h : i < l.length
 ·rw [if_pos (by omega), if_pos (by omega)]; simp [rd]
 ·rw [if_neg (by omega)]; simp [List.getD_eq_getElem?_getD, List.getElem?_eq_none (show l.length ≤ i by omega)]
def tameN (a : List Int) : Nat := (1 + modN ((a.length : Int) - 1) 10).toNat
def tameX (x : Int) : Int := if x < 1 ∨ x > 1000 then 1 + modN x 1000 else x
def tameW (a : List Int) : List Int := (List.range (tameN a)).map fun i => tameX (atN a i)
def tameRow (n : Nat) (l : List Int) : List Int := (List.range n).map fun i => modN (atN l i) 2
def tameBit (n bit : Nat) : List Int := (List.range n).map fun i => ((i / 2 ^ bit % 2 : Nat) : Int)
def tameK (b : List (List Int)) : Nat := min b.length 6
def tameB1 (n : Nat) (b : List (List Int)) (m : Nat) : List (List Int) := (List.range m).map fun t : Nat => tameRow n (rd_L1 b (t : Int))
def tameB2 (n m : Nat) : List (List Int) := (List.range m).map fun t => tameBit n t
def tameC1 (c : List Int) (m : Nat) : List Int := (List.range m).map fun t => 1 + modN (wrap64 (atN c t - 1)) 100
def tameC2 (c : List Int) (m : Nat) : List Int := (List.range m).map fun t => 1 + modN (atN c t) 100
def tameB (a : List Int) (b : List (List Int)) : List (List Int) := tameB1 (tameN a) b (tameK b) ++ tameB2 (tameN a) 4
def tameC (b : List (List Int)) (c : List Int) : List Int := tameC1 c (tameK b) ++ tameC2 c 4
theorem tameN_in (a : List Int) : 1 ≤ tameN a ∧ tameN a ≤ 10 := by
 have := modN_in ((a.length : Int) - 1) 10 (by omega)
 unfold tameN; omega
theorem tameX_in (x : Int) : 1 ≤ tameX x ∧ tameX x ≤ 1000 := by
 have := modN_in x 1000 (by omega)
 unfold tameX; split <;> omega
theorem tameRow_ok (n : Nat) (l : List Int) : rowOkB n (tameRow n l) = true := by
 unfold rowOkB tameRow
 rw [Bool.and_eq_true, beq_iff_eq, List.length_map, List.length_range]
 refine ⟨rfl, (all_inB _ _ _).2 fun x hx => ?_⟩
 obtain ⟨i, _, rfl⟩ := List.mem_map.1 hx
 have := modN_in (atN l i) 2 (by omega)
 omega
theorem tameBit_ok (n t : Nat) : rowOkB n (tameBit n t) = true := by
 unfold rowOkB tameBit
 rw [Bool.and_eq_true, beq_iff_eq, List.length_map, List.length_range]
 refine ⟨rfl, (all_inB _ _ _).2 fun x hx => ?_⟩
 obtain ⟨i, _, rfl⟩ := List.mem_map.1 hx
 have := Nat.mod_lt (i / 2 ^ t) (show 0 < 2 by omega)
 omega
theorem tameB_len (a : List Int) (b : List (List Int)) : (tameB a b).length = tameK b + 4 := by unfold tameB tameB1 tameB2; simp
theorem tameC_len (b : List (List Int)) (c : List Int) : (tameC b c).length = tameK b + 4 := by unfold tameC tameC1 tameC2; simp
theorem tameW_len (a : List Int) : (tameW a).length = tameN a := by unfold tameW; simp
theorem tameC_in (b : List (List Int)) (c : List Int) : ∀ x ∈ tameC b c, 1 ≤ x ∧ x ≤ 100 := by
 intro x hx
 unfold tameC tameC1 tameC2 at hx
 rcases List.mem_append.1 hx with h | h
 ·obtain ⟨i, _, rfl⟩ := List.mem_map.1 h
  have := modN_in (wrap64 (atN c i - 1)) 100 (by omega)
  omega
 ·obtain ⟨i, _, rfl⟩ := List.mem_map.1 h
  have := modN_in (atN c i) 100 (by omega)
  omega
theorem tame_case (a : List Int) (b : List (List Int)) (c : List Int) : CaseIs (tameW a) (tameB a b) (tameC b c) := by
 have hn := tameN_in a
 refine ⟨by rw [tameW_len]; exact hn.1, by rw [tameW_len]; exact hn.2, ?_, by rw [tameB_len, tameC_len], ?_, tameC_in b c, ?_⟩
 ·rw [tameB_len]; have : tameK b ≤ 6 := Nat.min_le_right _ _; omega
 ·intro x hx
  unfold tameW at hx
  obtain ⟨i, _, rfl⟩ := List.mem_map.1 hx
  exact tameX_in _
 ·rw [List.all_eq_true, tameW_len]
  intro r hr
  unfold tameB tameB1 tameB2 at hr
  rcases List.mem_append.1 hr with h | h
  ·obtain ⟨i, _, rfl⟩ := List.mem_map.1 h; exact tameRow_ok _ _
  ·obtain ⟨i, _, rfl⟩ := List.mem_map.1 h; exact tameBit_ok _ _
theorem caseB_of {a : List Int} {b : List (List Int)} {c : List Int} (h : CaseIs a b c) : caseB a b c = true := by
 unfold caseB
 simp only [Bool.and_eq_true, decide_eq_true_eq, beq_iff_eq]
 exact ⟨⟨⟨⟨⟨⟨h.a1, h.a10⟩, h.b12⟩, h.cb⟩, (all_inB _ _ _).2 h.wa⟩, (all_inB _ _ _).2 h.wc⟩, h.rows⟩
theorem bits_differ : ∀ j, j < 10 → ∀ i, i < j → ∃ t, t < 4 ∧ i / 2 ^ t % 2 ≠ j / 2 ^ t % 2 := by decide
/-- In a tame case every two faults differ. -/
theorem tame_differ (a : List Int) (b : List (List Int)) (c : List Int) : Differ (tameW a) (tameB a b) (tameC b c) := by
 have hc := tame_case a b c
 have hn := tameN_in a
 refine ⟨hc, (alikeL_iff _ _).2 fun j hj i hi => ?_⟩
 rw [tameW_len] at hj
 obtain ⟨t, ht, hne⟩ := bits_differ j (by omega) i hi
 have hl : tameK b + t < (tameB a b).length := by rw [tameB_len]; omega
 have hrow : (tameB a b)[tameK b + t] = tameBit (tameN a) t := by
  have h1 : (tameB1 (tameN a) b (tameK b)).length = tameK b := by unfold tameB1; simp
  have h2 : (tameB a b)[tameK b + t]? = some (tameBit (tameN a) t) := by
   unfold tameB
   rw [List.getElem?_append_right (by rw [h1]; omega), h1]
   simp [tameB2, ht]
  rw [List.getElem?_eq_getElem hl] at h2
  exact Option.some.inj h2
 refine ⟨_, List.mem_map.2 ⟨_, List.getElem_mem hl, rfl⟩, ?_⟩
 rw [same_row hc (tameK b + t) hl i j (by rw [tameW_len]; omega) (by rw [tameW_len]; omega), hrow]
 have e : ∀ q, q < tameN a → rd (tameBit (tameN a) t) (q : Int) = ((q / 2 ^ t % 2 : Nat) : Int) := by
  intro q hq
  unfold tameBit
  simp [rd, List.getD_eq_getElem?_getD, List.getElem?_map, List.getElem?_range hq]
 rw [e i (by omega), e j hj]
 rw [beq_eq_false_iff_ne]
 intro h
 exact hne (by exact_mod_cast h)
end Go.Proofs.YtekmiepdodaidaaDoor.X
end

section
/- tickinglaw07.with, by hand: a test more, appended to lists of the caller's own. -/
set_option linter.unusedVariables false
set_option linter.unusedSimpArgs false
namespace Go.Proofs.YtekmiepdodaidaaDoor.X
open Go.RowKit Go.Proofs.YtekmiepdodaidaaDoorW.PrintWords Go.Proofs.YtekmiepdodaidaaDoorW.PrintLast Go.Proofs.YtekmiepdodaidaaDoorW.PrintMore

theorem info22w : (Tryd.prog.info? 22).map (fun i => (i.zero, i.size, i.bytes)) = some (some (.slice none 0 0), 1, 24) := by kernel_rfl
theorem info3w : (Tryd.prog.info? 3).map (fun i => (i.zero, i.size, i.bytes)) = some (some (.int .i64 0), 1, 8) := by kernel_rfl
/-- What with does: the two new lists; nothing else that was there has changed. -/
structure WithPost {α : Type} (d : Kd α) (w : World) (base : Nat) (V0 V1 V2 : Value) (xs : List α) (p : α) (c : List Int) (cost : Int) (okA okB : Nat → Prop) (v1 v2 : Value) (w' : World) : Prop where
 r1 : d.R 22 w' base (fun k => okA k ∧ some k ≠ v2.ownBlock) v1 (xs ++ [p])
 r2 : Kd.R (Kd.int .i64) 3 w' base okB v2 (c ++ [cost])
 keep : ∀ k, k < w.heap.size → some k ≠ V1.ownBlock → some k ≠ V2.ownBlock → w'.heap[k]? = w.heap[k]?
 at1 : v1.ownBlock = V1.ownBlock ∨ ∃ b, v1.ownBlock = some b ∧ w.heap.size ≤ b
 at2 : v2.ownBlock = V2.ownBlock ∨ ∃ b, v2.ownBlock = some b ∧ w.heap.size ≤ b
 below : Below base w w'
set_option maxHeartbeats 8000000 in
set_option maxRecDepth 100000 in
theorem with_core {α : Type} (d : Kd α) (hsz : d.sz = 1) (hE : ∀ q, q ∈ 22 :: d.E → q ≠ 25) (w : World) (base : Nat) (A0 : Option Addr) (n0 c0 : Nat) (A1 : Option Addr) (c1 : Nat) (A2 : Option Addr) (c2 : Nat) (AR : Option Addr) (nR cR : Nat) (xs : List α) (p : α) (c : List Int) (cost : Int) (okA okB okp : Nat → Prop)
  (h1 : d.R 22 w base (fun k => okA k ∧ some k ≠ (Value.slice A2 c.length c2).ownBlock) (.slice A1 xs.length c1) xs)
  (hp : d.M w base okp p [.slice AR nR cR]) (hokp : ∀ k, okp k → (okA k ∧ some k ≠ (Value.slice A2 c.length c2).ownBlock) ∧ some k ≠ (Value.slice A1 xs.length c1).ownBlock)
  (h2 : Kd.R (Kd.int .i64) 3 w base okB (.slice A2 c.length c2) c)
  (hA : ∀ k, w.heap.size ≤ k → okA k) (hB : ∀ k, w.heap.size ≤ k → okB k) (hbase : base ≤ w.heap.size) (hl1 : xs.length ≤ 1000000) (hl2 : c.length ≤ 1000000) :
  Calls Tryd.prog 36 #[.agg #[.slice A0 n0 c0, .slice A1 xs.length c1, .slice A2 c.length c2], .slice AR nR cR, .int .i64 cost] w fun e w' => ∃ v1 v2, e = .returned (.agg #[.slice A0 n0 c0, v1, v2]) ∧ WithPost d w base (.slice A0 n0 c0) (.slice A1 xs.length c1) (.slice A2 c.length c2) xs p c cost okA okB v1 v2 w' := by
 have H1 := Aside0.mk h1
 have HP := Aside0.mk hp
 have HOKP := Aside0.mk hokp
 have H2 := Aside0.mk h2
 have HA := Aside0.mk hA
 have HBB := Aside0.mk hB
 have HBASE := Aside0.mk hbase
 have HSZ := Aside0.mk hsz
 have HE := Aside0.mk hE
 clear h1 hp hokp h2 hA hB hbase hE hsz
 go_enter Tryd.func36, Tryd.ntmps36
 go_upto_region 1 with (fail)
 go_quiet (fail)
 obtain ⟨w1, hw1⟩ : ∃ w1, w1 = (((w.alloc (.cells #[.slice A0 n0 c0, .slice A1 xs.length c1, .slice A2 c.length c2] 25)).alloc (.cells #[.slice none 0 0, .slice none 0 0, .slice none 0 0] 25)).drewN nq) := ⟨_, rfl⟩
 have HB1 := Aside0.mk (show Below w.heap.size w w1 by rw [hw1]; exact pw_below_drewN (below_alloc (below_alloc (Below.refl _ _) _) _) _)
 have HG3 := Aside0.mk (show w1.heap[w.heap.size]? = some (.cells #[.slice A0 n0 c0, .slice A1 xs.length c1, .slice A2 c.length c2] 25 (0, 0)) by rw [hw1]; exact blk_drewN (blk_alloc (blk_new w _) _) _)
 have HG6 := Aside0.mk (show w1.heap[w.heap.size + 1]? = some (.cells #[.slice none 0 0, .slice none 0 0, .slice none 0 0] 25 (0, 0)) by rw [hw1]; have := blk_new (w.alloc (.cells #[.slice A0 n0 c0, .slice A1 xs.length c1, .slice A2 c.length c2] 25)) (.cells #[.slice none 0 0, .slice none 0 0, .slice none 0 0] 25); rw [show (w.alloc (.cells #[.slice A0 n0 c0, .slice A1 xs.length c1, .slice A2 c.length c2] 25)).heap.size = w.heap.size + 1 from Array.size_push _] at this; exact blk_drewN this _)
 have HS1 := Aside0.mk (show w.heap.size + 2 ≤ w1.heap.size by have := blk_lt HG6.out; omega)
 rw [← hw1]
 clear hw1
 have hcz : w1.cell? ⟨w.heap.size, 1, none⟩ = some (.slice A1 xs.length c1) := (blk_cell HG3.out 1).trans rfl
 have H11 := Aside0.mk (Kd.R_below H1.out HB1.out)
 have H21 := Aside0.mk (Kd.R_below H2.out HB1.out)
 have HP1 := Aside0.mk (Kd.M_below HP.out HB1.out)
 have HL1 := Aside0.mk hl1
 have HL2 := Aside0.mk hl2
 clear hl1 hl2
 have key : ∀ (ops : Array Oper) (rest : List Oper) (o : Oper) (a : Act) (Q : Exit → Act → World → Prop) (hgd : o.guard = none) (ho : o.op = .call { callee := .builtin .append, args := #[.tmp 13, .tmp 15], argTypes := #[23, 23] }) (hs : a.eval (.tmp 13) = .slice A1 xs.length c1) (hx : a.eval (.tmp 15) = .slice (some ⟨w1.heap.size, 0, none⟩) 1 1)
   (h : ∀ v1 w2, d.R 22 w2 base (fun k => okA k ∧ some k ≠ (Value.slice A2 c.length c2).ownBlock) v1 (xs ++ [p]) → Below base w w2 → w1.grownBy w2 (Value.slice A1 xs.length c1).ownBlock → (v1.ownBlock = (Value.slice A1 xs.length c1).ownBlock ∨ ∃ b, v1.ownBlock = some b ∧ w1.heap.size ≤ b) → wpList Tryd.prog ops Q rest (a.put o.dst v1) w2), wpList Tryd.prog ops Q (o :: rest) a (w1.alloc (.cells #[.slice AR nR cR] 22)) := by
  intro ops rest o a Q hgd ho hs hx h
  exact Kd.R_append d (w0 := w) base hgd (.tmp 13) (.tmp 15) 23 22 (.slice none 0 0) 24 ho Tryd.underlying23 (by rw [HSZ.out]; exact info22w) (by rw [HSZ.out]; rfl) (by rw [HSZ.out]; exact Nat.one_pos) (by omega) (.slice A1 xs.length c1) xs p [.slice AR nR cR] (fun k => okA k ∧ some k ≠ (Value.slice A2 c.length c2).ownBlock) okp hs hx HP1.out HOKP.out (fun k hk => ⟨HA.out k (by have h1 := HS1.out; omega), fun e => by have h1 := HS1.out; have := Kd.R_lt H2.out k e.symm; omega⟩) H11.out (HB1.out.mono HBASE.out) (Nat.le_trans HBASE.out HB1.out.size) (by have := HL1.out; omega) h
 have KEY := Aside0.mk key
 clear key
 have HL3 := Aside0.mk (show (xs ++ [p]).length = xs.length + 1 by simp)
 go_upto_region 3 with (at_builtin; refine KEY.out _ _ _ _ _ rfl rfl rfl rfl ?_; intro v1 w2 ho hb hg hat; obtain ⟨A3, c3, rfl⟩ := Kd.R_slice ho; have HO := Aside0.mk ho; have HB2 := Aside0.mk hb; have HG2 := Aside0.mk hg; have HAT := Aside0.mk hat; have g3' := blk_grown HG3.out hg (Kd.R_ne H11.out HG3.out (by decide)); have HG32 := Aside0.mk g3'; rw [HL3.out]; clear hcz; have hcz1 : w2.cell? ⟨w.heap.size, 1, none⟩ = some (.slice A1 xs.length c1) := (blk_cell g3' 1).trans rfl; have hfz1 := blk_frozen g3' 1; clear ho hb hg hat g3')
 clear hcz1 hfz1
 have HO' := HO.out
 rw [HL3.out] at HO'
 have HG62 := Aside0.mk (blk_grown HG6.out HG2.out (Kd.R_ne H11.out HG6.out (by decide)))
 have H22 := Aside0.mk (Kd.R_over' H21.out (Kd.R_typed H11.out) (by decide) HG2.out)
 have HS2 := Aside0.mk (show w1.heap.size ≤ w2.heap.size from HG2.out.size)
 obtain ⟨w3, hw3⟩ : ∃ w3, w3 = w2.setCell ⟨w.heap.size, 1, none⟩ (.slice A3 (xs.length + 1) c3) := ⟨_, rfl⟩
 have HG33 := Aside0.mk (show w3.heap[w.heap.size]? = some (.cells #[.slice A0 n0 c0, .slice A3 (xs.length + 1) c3, .slice A2 c.length c2] 25 (0, 0)) by rw [hw3]; exact (blk_set HG32.out 1 _).trans rfl)
 have HG63 := Aside0.mk (show w3.heap[w.heap.size + 1]? = some (.cells #[.slice none 0 0, .slice none 0 0, .slice none 0 0] 25 (0, 0)) by rw [hw3]; exact blk_far HG62.out (by show w.heap.size + 1 ≠ w.heap.size; omega) _)
 have HO3 := Aside0.mk (show d.R 22 w3 base (fun k => okA k ∧ some k ≠ (Value.slice A2 c.length c2).ownBlock) (.slice A3 (xs.length + 1) c3) (xs ++ [p]) by rw [hw3]; exact Kd.R_set HO' HG32.out HE.out 1 _)
 have H23 := Aside0.mk (show Kd.R (Kd.int .i64) 3 w3 base okB (.slice A2 c.length c2) c by rw [hw3]; exact Kd.R_set H22.out HG32.out (by decide) 1 _)
 have HB3 := Aside0.mk (show Below base w w3 by rw [hw3]; exact HB2.out.setCell HBASE.out _)
 have HS3 := Aside0.mk (show w2.heap.size ≤ w3.heap.size by rw [hw3]; simp)
 have HK3 := Aside0.mk (show ∀ k, k < w.heap.size → some k ≠ (Value.slice A1 xs.length c1).ownBlock → w3.heap[k]? = w.heap[k]? by
  intro k hk h1
  rw [hw3, Below.heap_setCell w2 _ _ k (by show k ≠ w.heap.size; omega), HG2.out.block k (Nat.lt_of_lt_of_le hk (Nat.le_trans (Nat.le_add_right _ 2) HS1.out)) h1]
  exact HB1.out.block k hk)
 rw [← hw3]
 clear hw3 HO'
 have key2 : ∀ (ops : Array Oper) (rest : List Oper) (o : Oper) (a : Act) (Q : Exit → Act → World → Prop) (hgd : o.guard = none) (ho : o.op = .call { callee := .builtin .append, args := #[.tmp 18, .tmp 20], argTypes := #[22, 22] }) (hs : a.eval (.tmp 18) = .slice A2 c.length c2) (hx : a.eval (.tmp 20) = .slice (some ⟨w3.heap.size, 0, none⟩) 1 1)
   (h : ∀ v1 w4, Kd.R (Kd.int .i64) 3 w4 base okB v1 (c ++ [cost]) → Below base w w4 → w3.grownBy w4 (Value.slice A2 c.length c2).ownBlock → (v1.ownBlock = (Value.slice A2 c.length c2).ownBlock ∨ ∃ b, v1.ownBlock = some b ∧ w3.heap.size ≤ b) → wpList Tryd.prog ops Q rest (a.put o.dst v1) w4), wpList Tryd.prog ops Q (o :: rest) a (w3.alloc (.cells #[.int .i64 cost] 3)) := by
  intro ops rest o a Q hgd ho hs hx h
  exact Kd.R_append (Kd.int .i64) (w0 := w) base hgd (.tmp 18) (.tmp 20) 22 3 (.int .i64 0) 8 ho Tryd.underlying22 info3w rfl (by decide) (by omega) (.slice A2 c.length c2) c cost [.int .i64 cost] okB (fun _ => False) hs hx rfl (fun _ h => h.elim) (fun k hk => HBB.out k (by have h1 := HS1.out; have h2 := HS2.out; have h3 := HS3.out; omega)) H23.out HB3.out (Nat.le_trans HBASE.out HB3.out.size) (by have := HL2.out; omega) h
 have KEY2 := Aside0.mk key2
 clear key2
 have HL4 := Aside0.mk (show (c ++ [cost]).length = c.length + 1 by simp)
 go_upto_region 4 with (at_builtin; refine KEY2.out _ _ _ _ _ rfl rfl rfl rfl ?_; intro v1 w4 ho hb hg hat; obtain ⟨A4, c4, rfl⟩ := Kd.R_slice ho; have HO4 := Aside0.mk ho; have HB4 := Aside0.mk hb; have HG4 := Aside0.mk hg; have HAT4 := Aside0.mk hat; have g3' := blk_grown HG33.out hg (Kd.R_ne H23.out HG33.out (by decide)); have HG34 := Aside0.mk g3'; rw [HL4.out]; have hcz1 : w4.cell? ⟨w.heap.size, 2, none⟩ = some (.slice A2 c.length c2) := (blk_cell g3' 2).trans rfl; have hfz1 := blk_frozen g3' 2; clear ho hb hg hat g3')
 clear hcz1 hfz1
 have HO' := HO4.out
 rw [HL4.out] at HO'
 have HG64 := Aside0.mk (blk_grown HG63.out HG4.out (Kd.R_ne H23.out HG63.out (by decide)))
 have HO34 := Aside0.mk (Kd.R_after HO3.out HG4.out HAT4.out)
 obtain ⟨w5, hw5⟩ : ∃ w5, w5 = w4.setCell ⟨w.heap.size, 2, none⟩ (.slice A4 (c.length + 1) c4) := ⟨_, rfl⟩
 have HG35 := Aside0.mk (show w5.heap[w.heap.size]? = some (.cells #[.slice A0 n0 c0, .slice A3 (xs.length + 1) c3, .slice A4 (c.length + 1) c4] 25 (0, 0)) by rw [hw5]; exact (blk_set HG34.out 2 _).trans rfl)
 have HG65 := Aside0.mk (show w5.heap[w.heap.size + 1]? = some (.cells #[.slice none 0 0, .slice none 0 0, .slice none 0 0] 25 (0, 0)) by rw [hw5]; exact blk_far HG64.out (by show w.heap.size + 1 ≠ w.heap.size; omega) _)
 have HV1 := Aside0.mk (show d.R 22 w5 base (fun k => okA k ∧ some k ≠ (Value.slice A4 (c ++ [cost]).length c4).ownBlock) (.slice A3 (xs.length + 1) c3) (xs ++ [p]) by rw [hw5]; exact Kd.R_set HO34.out HG34.out HE.out 2 _)
 have HV2 := Aside0.mk (show Kd.R (Kd.int .i64) 3 w5 base okB (.slice A4 (c.length + 1) c4) (c ++ [cost]) by rw [hw5]; exact Kd.R_set HO' HG34.out (by decide) 2 _)
 have HB5 := Aside0.mk (show Below base w w5 by rw [hw5]; exact HB4.out.setCell HBASE.out _)
 have HK5 := Aside0.mk (show ∀ k, k < w.heap.size → some k ≠ (Value.slice A1 xs.length c1).ownBlock → some k ≠ (Value.slice A2 c.length c2).ownBlock → w5.heap[k]? = w.heap[k]? by
  intro k hk h1 h2
  rw [hw5, Below.heap_setCell w4 _ _ k (by show k ≠ w.heap.size; omega), HG4.out.block k (by have e1 := HS1.out; have e2 := HS2.out; have e3 := HS3.out; omega) h2]
  exact HK3.out k hk h1)
 rw [← hw5]
 clear hw5 HO'
 have hc0 : w5.cell? ⟨w.heap.size, 0, none⟩ = some (.slice A0 n0 c0) := (blk_cell HG35.out 0).trans rfl
 have hc1 : w5.cell? ⟨w.heap.size, 1, none⟩ = some (.slice A3 (xs.length + 1) c3) := (blk_cell HG35.out 1).trans rfl
 have hc2 : w5.cell? ⟨w.heap.size, 2, none⟩ = some (.slice A4 (c.length + 1) c4) := (blk_cell HG35.out 2).trans rfl
 have hd0 : w5.cell? ⟨w.heap.size + 1, 0, none⟩ = some (.slice none 0 0) := (blk_cell HG65.out 0).trans rfl
 have hd1 : w5.cell? ⟨w.heap.size + 1, 1, none⟩ = some (.slice none 0 0) := (blk_cell HG65.out 1).trans rfl
 have hd2 : w5.cell? ⟨w.heap.size + 1, 2, none⟩ = some (.slice none 0 0) := (blk_cell HG65.out 2).trans rfl
 have hf0 := blk_frozen HG65.out 0
 have hf1 := blk_frozen HG65.out 1
 have hf2 := blk_frozen HG65.out 2
 go_wp2
 refine bodyPost_ret (results_cell_row rfl _ _ (w.heap.size + 1) 25 #[.slice A0 n0 c0, .slice A3 (xs.length + 1) c3, .slice A4 (c.length + 1) c4] (0, 0) _ rfl ((blk_set ((blk_set ((blk_set HG65.out 0 (.slice A0 n0 c0)).trans rfl) 1 (.slice A3 (xs.length + 1) c3)).trans rfl) 2 (.slice A4 (c.length + 1) c4)).trans rfl) Tryd.underlying25 rfl (by kernel_rfl)) rfl ?_
 have e1 := HV1.out
 rw [HL4.out] at e1
 have e3 := HAT.out
 rw [HL3.out] at e3
 have e4 := HAT4.out
 rw [HL4.out] at e4
 have g0 := blk_set HG65.out 0 (.slice A0 n0 c0)
 have g1 := blk_set g0 1 (.slice A3 (xs.length + 1) c3)
 refine ⟨_, _, rfl, ⟨?_, ?_, ?_, ?_, ?_, ?_⟩⟩
 ·exact Kd.R_set (Kd.R_set (Kd.R_set e1 HG65.out HE.out 0 _) g0 HE.out 1 _) g1 HE.out 2 _
 ·exact Kd.R_set (Kd.R_set (Kd.R_set HV2.out HG65.out (by decide) 0 _) g0 (by decide) 1 _) g1 (by decide) 2 _
 ·intro k hk h1 h2
  have hne : k ≠ w.heap.size + 1 := by omega
  rw [Below.heap_setCell _ _ _ k hne, Below.heap_setCell _ _ _ k hne, Below.heap_setCell _ _ _ k hne]
  exact HK5.out k hk h1 h2
 ·rcases e3 with h | ⟨q, h1, h2⟩
  ·exact .inl h
  ·exact .inr ⟨q, h1, by have := HS1.out; omega⟩
 ·rcases e4 with h | ⟨q, h1, h2⟩
  ·exact .inl h
  ·exact .inr ⟨q, h1, by have := HS1.out; have := HS2.out; have := HS3.out; omega⟩
 ·exact ((HB5.out.setCell (Nat.le_trans HBASE.out (Nat.le_succ _)) _).setCell (Nat.le_trans HBASE.out (Nat.le_succ _)) _).setCell (Nat.le_trans HBASE.out (Nat.le_succ _)) _
end Go.Proofs.YtekmiepdodaidaaDoor.X
end
