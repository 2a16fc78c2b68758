/- The reference's Miss: its errors are the program's, its search finds the same. -/
import Derived.Test.YtdkncfmlehcjmaaTS15
set_option linter.unusedVariables false
set_option linter.unusedSimpArgs false
namespace Go.Proofs.Ytdkncfmlehcjmaa.X
open Go.RowKit Go.Proofs.YtdkncfmlehcjmaaW.PrintWords
def offK (kd : Nat) : Nat := match kd with | 0 => 0 | 1 => 1 | 2 => 1 | _ => 2
/-- What the reference's 'changed' returns. -/
def chgM (kd : Nat) (l : List Int) (at_ : Nat) (d : Int) : List Int × Bool :=
  if l.length ≤ at_ + offK kd then ([], false)
  else if kd = 0 then (l.set at_ d, d != rd l (at_ : Int))
  else if kd = 2 then ((l.set at_ d).set (at_ + 1) d, (rd l (at_ : Int) == rd l ((at_ + 1 : Nat) : Int)) && (d != rd l (at_ : Int)))
  else ((l.set at_ (rd l ((at_ + offK kd : Nat) : Int))).set (at_ + offK kd) (rd l (at_ : Int)), rd l (at_ : Int) != rd l ((at_ + offK kd : Nat) : Int))
theorem with1 (l : List Int) (i : Nat) (x : Int) (h : i < l.length) : withN l (i : Int) [x] = l.set i x := by
  apply List.ext_getElem?
  intro j
  simp only [withN, Int.toNat_natCast, List.getElem?_append, List.length_take, List.getElem?_take, List.getElem?_drop, List.getElem?_set, List.length_cons, List.length_nil]
  rw [Nat.min_eq_left (by omega)]
  by_cases h1 : j < i
  · simp [h1, show ¬ i = j by omega]
  · by_cases h2 : i = j
    · subst h2; simp [h]
    · rw [if_neg h1, if_neg (by omega), if_neg h2]; congr 1; omega
theorem with2 (l : List Int) (i : Nat) (x y : Int) (h : i + 1 < l.length) : withN l (i : Int) [x, y] = (l.set i x).set (i + 1) y := by
  apply List.ext_getElem?
  intro j
  simp only [withN, Int.toNat_natCast, List.getElem?_append, List.length_take, List.getElem?_take, List.getElem?_drop, List.getElem?_set, List.length_cons, List.length_nil, List.length_set]
  rw [Nat.min_eq_left (by omega)]
  by_cases h1 : j < i
  · simp [h1, show ¬ i = j by omega, show ¬ i + 1 = j by omega]
  · by_cases h2 : i = j
    · subst h2; simp [show i < l.length by omega]
    · by_cases h3 : i + 1 = j
      · subst h3; simp [h, show ¬ (i + 1 < i) by omega]
      · rw [if_neg h1, if_neg (by omega), if_neg h2, if_neg h3]; congr 1; omega
theorem with3 (l : List Int) (i : Nat) (x z : Int) (h : i + 2 < l.length) : withN l (i : Int) [x, rd l ((i + 1 : Nat) : Int), z] = (l.set i x).set (i + 2) z := by
  apply List.ext_getElem?
  intro j
  simp only [withN, Int.toNat_natCast, List.getElem?_append, List.length_take, List.getElem?_take, List.getElem?_drop, List.getElem?_set, List.length_cons, List.length_nil, List.length_set]
  rw [Nat.min_eq_left (by omega), rd_nat l (i + 1) (by omega)]
  by_cases h1 : j < i
  · simp [h1, show ¬ i = j by omega, show ¬ i + 2 = j by omega]
  · by_cases h2 : i = j
    · subst h2; simp [show i < l.length by omega]
    · by_cases h3 : i + 2 = j
      · subst h3; simp [h, show i + 2 - i = 2 by omega, show ¬ (i + 2 < i) by omega]
      · by_cases h4 : j = i + 1
        · subst h4; simp [show i + 1 - i = 1 by omega, show i + 1 < l.length by omega]
        · rw [if_neg h1, if_neg (by omega), if_neg h2, if_neg h3]; congr 1; omega
/-- The changes at a position, for the digits before x. -/
def candAt (kd : Nat) (l : List Int) (at_ x : Nat) : List (List Int) := (List.range x).flatMap fun (d : Nat) => if (chgM kd l at_ (d : Int)).2 = true then [(chgM kd l at_ (d : Int)).1] else []
def candTo (kd : Nat) (l : List Int) (n i : Nat) : List (List Int) := (List.range i).flatMap fun i => candAt kd l i n
theorem errN_off (kd len : Nat) (hk : kd < 4) (i : Nat) : i < errN kd len ↔ i + offK kd < len := by
  have hc : kd = 0 ∨ kd = 1 ∨ kd = 2 ∨ kd = 3 := by omega
  rcases hc with rfl | rfl | rfl | rfl <;> simp only [errN, offK] <;> omega
theorem at_iff (kd : Nat) (hk : kd < 4) (l : List Int) (n i : Nat) (hn : 0 < n) (h : i < errN kd l.length) (m : List Int) : m ∈ candAt kd l i n ↔ m ∈ errAt kd l n i := by
  have ho := (errN_off kd l.length hk i).1 h
  have hc : kd = 0 ∨ kd = 1 ∨ kd = 2 ∨ kd = 3 := by omega
  unfold candAt
  rcases hc with rfl | rfl | rfl | rfl
  · simp only [offK] at ho
    simp only [errAt, chgM, offK, if_neg (show ¬ l.length ≤ i + 0 by omega), if_true, List.mem_flatMap, List.mem_range, bne_iff_ne]
    constructor
    · rintro ⟨d, hd, hm⟩
      refine ⟨d, hd, ?_⟩
      split at hm
      · rename_i he; rw [if_neg he, with1 l i _ (by omega)]; exact hm
      · simp at hm
    · rintro ⟨d, hd, hm⟩
      refine ⟨d, hd, ?_⟩
      split at hm
      · simp at hm
      · rename_i he; rw [if_pos he, ← with1 l i _ (by omega)]; exact hm
  · simp only [offK] at ho
    simp only [errAt, chgM, offK, if_neg (show ¬ l.length ≤ i + 1 by omega), List.mem_flatMap, List.mem_range, bne_iff_ne]
    simp only [show ¬ ((1 : Nat) = 0) by decide, show ¬ ((1 : Nat) = 2) by decide, if_false]
    constructor
    · rintro ⟨d, hd, hm⟩
      split at hm
      · rename_i he; rw [bne_iff_ne] at he; rw [if_neg he, with2 l i _ _ (by omega)]; exact hm
      · simp at hm
    · intro hm
      refine ⟨0, hn, ?_⟩
      split at hm
      · simp at hm
      · rename_i he; rw [if_pos (bne_iff_ne.2 he), ← with2 l i _ _ (by omega)]; exact hm
  · simp only [offK] at ho
    simp only [errAt, chgM, offK, if_neg (show ¬ l.length ≤ i + 1 by omega), List.mem_flatMap, List.mem_range]
    simp only [show ¬ ((2 : Nat) = 0) by decide, if_false, if_true]
    constructor
    · rintro ⟨d, hd, hm⟩
      refine ⟨d, hd, ?_⟩
      split at hm
      · rename_i he
        rw [Bool.and_eq_true, beq_iff_eq, bne_iff_ne] at he
        rw [if_pos he.1, if_neg (by rw [← he.1]; exact he.2), with2 l i _ _ (by omega)]; exact hm
      · simp at hm
    · rintro ⟨d, hd, hm⟩
      refine ⟨d, hd, ?_⟩
      split at hm
      · rename_i he
        split at hm
        · simp at hm
        · rename_i he2
          rw [if_pos (by rw [Bool.and_eq_true, beq_iff_eq, bne_iff_ne]; exact ⟨he, by rw [he]; exact he2⟩), ← with2 l i _ _ (by omega)]; exact hm
      · simp at hm
  · simp only [offK] at ho
    simp only [errAt, chgM, offK, if_neg (show ¬ l.length ≤ i + 2 by omega), List.mem_flatMap, List.mem_range, bne_iff_ne]
    simp only [show ¬ ((3 : Nat) = 0) by decide, show ¬ ((3 : Nat) = 2) by decide, if_false]
    constructor
    · rintro ⟨d, hd, hm⟩
      split at hm
      · rename_i he; rw [bne_iff_ne] at he; rw [if_neg he, with3 l i _ _ (by omega)]; exact hm
      · simp at hm
    · intro hm
      refine ⟨0, hn, ?_⟩
      split at hm
      · simp at hm
      · rename_i he; rw [if_pos (bne_iff_ne.2 he), ← with3 l i _ _ (by omega)]; exact hm
theorem at_none (kd : Nat) (hk : kd < 4) (l : List Int) (i x : Nat) (h : ¬ i < errN kd l.length) : candAt kd l i x = [] := by
  have ho : l.length ≤ i + offK kd := by have := errN_off kd l.length hk i; omega
  unfold candAt
  rw [List.flatMap_eq_nil_iff]
  intro d _
  simp [chgM, ho]
theorem cand_iff (kd : Nat) (hk : kd < 4) (l : List Int) (n : Nat) (hn : 0 < n) (m : List Int) : m ∈ candTo kd l n l.length ↔ m ∈ errsOf kd l n := by
  unfold candTo errsOf errTo
  simp only [List.mem_flatMap, List.mem_range]
  constructor
  · rintro ⟨i, hi, hm⟩
    by_cases h : i < errN kd l.length
    · exact ⟨i, h, (at_iff kd hk l n i hn h m).1 hm⟩
    · rw [at_none kd hk l i n h] at hm; simp at hm
  · rintro ⟨i, hi, hm⟩
    exact ⟨i, by have := (errN_off kd l.length hk i).1 hi; omega, (at_iff kd hk l n i hn hi m).2 hm⟩
theorem best_same (t : List (List Int)) (kd : Nat) (hk : kd < 4) (l : List Int) (n : Nat) (hn : 0 < n) (hd : digs l n = true) : bestOf t (candTo kd l n l.length) = bestOf t (errsOf kd l n) := by
  rcases Nat.eq_zero_or_pos l.length with h0 | h0
  · have e : errsOf kd l n = [] := by
      rw [List.eq_nil_iff_forall_not_mem]; intro m hm; have := errs_pos m hm; omega
    have e2 : candTo kd l n l.length = [] := by rw [h0]; rfl
    rw [e, e2]
  · refine best_congr t _ _ l.length h0 (fun m hm => ?_) (fun m => cand_iff kd hk l n hn m)
    exact (errs_ok hd hk m ((cand_iff kd hk l n hn m).1 hm)).2
theorem cand_ok (kd : Nat) (hk : kd < 4) (l : List Int) (n i d : Nat) (hn : 0 < n) (hd : digs l n = true) (hi : i < l.length) (hx : d < n) (hc : (chgM kd l i (d : Int)).2 = true) : digs (chgM kd l i (d : Int)).1 n = true ∧ (chgM kd l i (d : Int)).1.length = l.length := by
  have hm : (chgM kd l i (d : Int)).1 ∈ candTo kd l n l.length := by
    simp only [candTo, candAt, List.mem_flatMap, List.mem_range]
    exact ⟨i, hi, d, hx, by rw [if_pos hc]; simp⟩
  exact errs_ok hd hk _ ((cand_iff kd hk l n hn _).1 hm)
theorem j2_eq (l : List Int) (kd at_ : Nat) (d : Int) (hk : kd < 4) (ha : at_ < l.length) (k : Nat) : tickingref11_changed.j2 (k + 1) l kd at_ d l ((at_ + offK kd : Nat) : Int) = some (chgM kd l at_ d) := by
  have hc : kd = 0 ∨ kd = 1 ∨ kd = 2 ∨ kd = 3 := by omega
  simp only [tickingref11_changed.j2]
  unfold chgM
  by_cases hl : l.length ≤ at_ + offK kd
  · rw [if_pos (by omega), if_pos hl]
  · rw [if_neg (by omega), if_neg hl, if_pos (by omega), if_pos (by omega), if_pos (by omega), if_pos (by omega)]
    have ha1 : (at_ : Int) < (l.length : Int) := by omega
    have ha2 : ((at_ + offK kd : Nat) : Int) < (l.length : Int) := by omega
    rcases hc with rfl | rfl | rfl | rfl
    · rw [if_pos (by decide), if_pos ha1, if_pos rfl]; rfl
    · rw [if_neg (by decide), if_neg (by decide), if_pos ha1, if_pos ha2, if_neg (by decide), if_neg (by decide)]; rfl
    · rw [if_neg (by decide), if_pos (by decide), if_pos ha1, if_pos ha2, if_neg (by decide), if_pos rfl]
      simp only [Option.bind_some, offK, Int.toNat_natCast]
      by_cases he : rd l (at_ : Int) = rd l ((at_ + 1 : Nat) : Int)
      · rw [if_pos he, beq_iff_eq.2 he, Bool.true_and]
      · rw [if_neg he, beq_eq_false_iff_ne.2 he, Bool.false_and]
    · rw [if_neg (by decide), if_neg (by decide), if_pos ha1, if_pos ha2, if_neg (by decide), if_neg (by decide)]; rfl
theorem chgM_eq (l : List Int) (kd at_ : Nat) (d : Int) (hk : kd < 4) (ha : at_ < l.length) (hl : l.length ≤ 1000) (k : Nat) : tickingref11_changed.f (k + 3) l kd at_ d = some (chgM kd l at_ d) := by
  have hc : kd = 0 ∨ kd = 1 ∨ kd = 2 ∨ kd = 3 := by omega
  have e1 : wrap64 ((at_ : Int) + 1) = ((at_ + 1 : Nat) : Int) := by rw [w64 (by omega) (by omega)]; omega
  have e2 : wrap64 ((at_ : Int) + 2) = ((at_ + 2 : Nat) : Int) := by rw [w64 (by omega) (by omega)]; omega
  have hj := j2_eq l kd at_ d hk ha
  unfold tickingref11_changed.f
  rw [if_pos (by simp; omega)]
  simp only [List.nil_append, Option.bind_some]
  rcases hc with rfl | rfl | rfl | rfl
  · rw [if_neg (by decide)]
    simp only [tickingref11_changed.j0, tickingref11_changed.j1]
    rw [if_neg (by decide), if_neg (by decide)]
    exact hj k
  · rw [if_pos (by decide)]
    simp only [tickingref11_changed.j0, tickingref11_changed.j1]
    rw [if_pos trivial, if_neg (by decide), e1]
    exact hj k
  · rw [if_neg (by decide)]
    simp only [tickingref11_changed.j0, tickingref11_changed.j1]
    rw [if_pos (by decide), if_neg (by decide), e1]
    exact hj k
  · rw [if_neg (by decide)]
    simp only [tickingref11_changed.j0, tickingref11_changed.j1]
    rw [if_neg (by decide), if_pos (by decide), e2]
    exact hj k
theorem ev_chgM (l : List Int) (kd at_ : Nat) (d : Int) (hk : kd < 4) (ha : at_ < l.length) (hl : l.length ≤ 1000) : Ev (fun k => tickingref11_changed.f k l kd at_ d) (chgM kd l at_ d) :=
  ⟨3, fun k h => by obtain ⟨j, rfl⟩ : ∃ j, k = j + 3 := ⟨k - 3, by omega⟩; exact chgM_eq l kd at_ d hk ha hl j⟩
/-! ### The search -/
section
variable {t : List (List Int)} (ht : TabOk t) {kd : Nat} (hk : kd < 4)
theorem candAt_succ (l : List Int) (i x : Nat) : candAt kd l i (x + 1) = candAt kd l i x ++ (if (chgM kd l i (x : Int)).2 = true then [(chgM kd l i (x : Int)).1] else []) := by
  simp [candAt, List.range_succ]
theorem candTo_succ (l : List Int) (n i : Nat) : candTo kd l n (i + 1) = candTo kd l n i ++ candAt kd l i n := by
  simp [candTo, List.range_succ]
include ht hk
theorem ev_l3 (len v : Nat) (many : Int) (l : List Int) (hd : digs l t.length = true) (hll : l.length = len) (hlen : len ≤ 5) (i : Nat) (hi : i < len) (r : List Int × List Int × Bool)
    (h : Ev (fun k => tickingref11_Miss.l2 k t kd t.length many len v l (bestOf t (candTo kd l t.length (i + 1))) ((i + 1 : Nat) : Int)) r) (d : Nat) : ∀ x : Nat, x + d = t.length →
    Ev (fun k => tickingref11_Miss.l3 k t kd t.length many len v l (bestOf t (candTo kd l t.length i ++ candAt kd l i x)) i x) r := by
  have h12 := ht.2.1
  have h2 := ht.1
  induction d with
  | zero =>
    intro x hx
    obtain rfl : x = t.length := by omega
    rw [candTo_succ] at h
    refine Ev.step (fun k => ?_) h
    simp only [tickingref11_Miss.l3]
    rw [if_neg (by omega), w64 (by omega) (by omega)]; rfl
  | succ d ih =>
    intro x hx
    have h1 := ih (x + 1) (by omega)
    rw [candAt_succ, ← List.append_assoc] at h1
    obtain ⟨b, hb⟩ : ∃ b, bestOf t (candTo kd l t.length i ++ candAt kd l i x) = b := ⟨_, rfl⟩
    rw [hb]
    have hc := ev_chgM l kd i (x : Int) hk (by omega) (by omega)
    obtain ⟨c, hcc⟩ : ∃ c, chgM kd l i (x : Int) = c := ⟨_, rfl⟩
    have hok := cand_ok kd hk l t.length i x (by omega) hd (by omega) (by omega)
    rw [hcc] at hc hok h1
    have ex : wrap64 ((x : Int) + 1) = ((x + 1 : Nat) : Int) := by rw [w64 (by omega) (by omega)]; omega
    have split : bestOf t (candTo kd l t.length i ++ candAt kd l i x ++ (if c.2 = true then [c.1] else [])) = if c.2 = true then bstep t b c.1 else b := by
      by_cases h : c.2 = true
      · rw [if_pos h, if_pos h]; unfold bestOf; rw [List.foldl_append, List.foldl_cons, List.foldl_nil]; unfold bestOf at hb; rw [hb]
      · rw [if_neg h, if_neg h, List.append_nil, hb]
    rw [split] at h1
    by_cases hc2 : c.2 = true
    · obtain ⟨o1, o2⟩ := hok hc2
      rw [if_pos hc2] at h1
      have htr := ev_Trace ht c.1 o1 (by omega)
      have hbl : b = [] ∨ b.length = l.length := by
        rcases best_in t (candTo kd l t.length i ++ candAt kd l i x) with e | e
        · exact .inl (by rw [← hb]; exact e)
        · refine .inr ?_
          rw [hb] at e
          rcases List.mem_append.1 e with e | e
          · refine (errs_ok hd hk b ((cand_iff kd hk l t.length (by omega) b).1 ?_)).2
            simp only [candTo, List.mem_flatMap, List.mem_range] at e ⊢
            obtain ⟨j, hj, e⟩ := e
            exact ⟨j, by omega, e⟩
          · refine (errs_ok hd hk b ((cand_iff kd hk l t.length (by omega) b).1 ?_)).2
            simp only [candTo, candAt, List.mem_flatMap, List.mem_range] at e ⊢
            obtain ⟨j, hj, e⟩ := e
            exact ⟨i, by omega, j, by omega, e⟩
      by_cases h0 : traceP t 0 c.1 = 0
      · rcases hbl with rfl | hbl
        · rw [bstep_yes ⟨h0, .inl rfl⟩] at h1
          obtain ⟨K1, hc⟩ := hc; obtain ⟨K2, htr⟩ := htr; obtain ⟨K3, h1⟩ := h1
          dsimp only at hc htr h1
          refine ⟨max K1 (max K2 K3) + 1, fun k hk' => ?_⟩
          obtain ⟨k, rfl⟩ : ∃ j, k = j + 1 := ⟨k - 1, by omega⟩
          simp only [tickingref11_Miss.l3]
          rw [if_pos (by omega), hc k (by omega)]
          simp only [Option.bind_some]
          rw [if_pos hc2, htr k (by omega)]
          simp only [Option.bind_some]
          rw [if_pos h0, if_pos (by rfl), ex]
          exact h1 k (by omega)
        · by_cases hbn : b = []
          · subst hbn
            simp only [List.length_nil] at hbl
            omega
          · have hls := ev_less c.1 b (by omega) (by omega)
            have hb0 : ¬ ((b.length : Int) = 0) := by
              have := List.length_pos_iff.2 hbn; omega
            by_cases hlt : lexLt c.1 b = true
            · rw [bstep_yes ⟨h0, .inr hlt⟩] at h1
              rw [hlt] at hls
              obtain ⟨K1, hc⟩ := hc; obtain ⟨K2, htr⟩ := htr; obtain ⟨K3, h1⟩ := h1; obtain ⟨K4, hls⟩ := hls
              dsimp only at hc htr h1 hls
              refine ⟨max K1 (max K2 (max K3 K4)) + 1, fun k hk' => ?_⟩
              obtain ⟨k, rfl⟩ : ∃ j, k = j + 1 := ⟨k - 1, by omega⟩
              simp only [tickingref11_Miss.l3]
              rw [if_pos (by omega), hc k (by omega)]
              simp only [Option.bind_some]
              rw [if_pos hc2, htr k (by omega)]
              simp only [Option.bind_some]
              rw [if_pos h0, if_neg hb0, hls k (by omega)]
              simp only [Option.bind_some]
              rw [if_pos trivial, ex]
              exact h1 k (by omega)
            · have hlf : lexLt c.1 b = false := by simpa using hlt
              rw [bstep_no (fun h => h.2.elim hbn hlt)] at h1
              rw [hlf] at hls
              obtain ⟨K1, hc⟩ := hc; obtain ⟨K2, htr⟩ := htr; obtain ⟨K3, h1⟩ := h1; obtain ⟨K4, hls⟩ := hls
              dsimp only at hc htr h1 hls
              refine ⟨max K1 (max K2 (max K3 K4)) + 1, fun k hk' => ?_⟩
              obtain ⟨k, rfl⟩ : ∃ j, k = j + 1 := ⟨k - 1, by omega⟩
              simp only [tickingref11_Miss.l3]
              rw [if_pos (by omega), hc k (by omega)]
              simp only [Option.bind_some]
              rw [if_pos hc2, htr k (by omega)]
              simp only [Option.bind_some]
              rw [if_pos h0, if_neg hb0, hls k (by omega)]
              simp only [Option.bind_some]
              rw [if_neg (by decide), ex]
              exact h1 k (by omega)
      · rw [bstep_no (fun h => h0 h.1)] at h1
        obtain ⟨K1, hc⟩ := hc; obtain ⟨K2, htr⟩ := htr; obtain ⟨K3, h1⟩ := h1
        dsimp only at hc htr h1
        refine ⟨max K1 (max K2 K3) + 1, fun k hk' => ?_⟩
        obtain ⟨k, rfl⟩ : ∃ j, k = j + 1 := ⟨k - 1, by omega⟩
        simp only [tickingref11_Miss.l3]
        rw [if_pos (by omega), hc k (by omega)]
        simp only [Option.bind_some]
        rw [if_pos hc2, htr k (by omega)]
        simp only [Option.bind_some]
        rw [if_neg h0, ex]
        exact h1 k (by omega)
    · rw [if_neg hc2] at h1
      obtain ⟨K1, hc⟩ := hc; obtain ⟨K3, h1⟩ := h1
      dsimp only at hc h1
      refine ⟨max K1 K3 + 1, fun k hk' => ?_⟩
      obtain ⟨k, rfl⟩ : ∃ j, k = j + 1 := ⟨k - 1, by omega⟩
      simp only [tickingref11_Miss.l3]
      rw [if_pos (by omega), hc k (by omega)]
      simp only [Option.bind_some]
      rw [if_neg hc2, ex]
      exact h1 k (by omega)
theorem ev_l2 (len v : Nat) (many : Int) (l : List Int) (hd : digs l t.length = true) (hll : l.length = len) (hlen : len ≤ 5) (hv : v ≤ 1000000) (r : List Int × List Int × Bool)
    (h1 : bestOf t (errsOf kd l t.length) ≠ [] → r = (l, bestOf t (errsOf kd l t.length), true)) (h2 : bestOf t (errsOf kd l t.length) = [] → Ev (fun k => tickingref11_Miss.l1 k t kd t.length many len ((v + 1 : Nat) : Int)) r) (d : Nat) : ∀ i : Nat, i + d = len →
    Ev (fun k => tickingref11_Miss.l2 k t kd t.length many len v l (bestOf t (candTo kd l t.length i)) i) r := by
  have h12 := ht.2.1
  have h22 := ht.1
  induction d with
  | zero =>
    intro i hi
    obtain rfl : i = l.length := by omega
    rw [best_same t kd hk l t.length (by omega) hd]
    by_cases hb : bestOf t (errsOf kd l t.length) = []
    · refine Ev.step (fun k => ?_) (h2 hb)
      simp only [tickingref11_Miss.l2]
      rw [if_neg (by omega), hb, if_neg (by simp), w64 (by omega) (by omega)]; rfl
    · rw [h1 hb]
      refine Ev.step (f := fun _ => some (l, bestOf t (errsOf kd l t.length), true)) (fun k => ?_) (Ev.now _)
      simp only [tickingref11_Miss.l2]
      rw [if_neg (by omega), if_pos (by have := List.length_pos_iff.2 hb; omega)]
  | succ d ih =>
    intro i hi
    have h := ev_l3 ht hk len v many l hd hll hlen i (by omega) r (ih (i + 1) (by omega)) t.length 0 (by omega)
    rw [show candAt kd l i 0 = [] from rfl, List.append_nil] at h
    refine Ev.step (fun k => ?_) h
    simp only [tickingref11_Miss.l2]
    rw [if_pos (by omega)]; rfl
/-- What the search over a list of numbers brings: the first good one, or what comes behind. -/
def srch (t : List (List Int)) (kd : Nat) (ls : List (List Int)) (r : List Int × List Int × Bool) : List Int × List Int × Bool :=
  match ls.find? (goodM t kd) with
  | some l => (l, bestOf t (errsOf kd l t.length), true)
  | none => r
theorem ev_l1 (len : Nat) (hlen : len ≤ 5) (hp : t.length ^ len ≤ 100000) (r : List Int × List Int × Bool) (h : Ev (fun k => tickingref11_Miss.l0 k t kd t.length ((t.length ^ len : Nat) : Int) ((len + 1 : Nat) : Int)) r) (d : Nat) : ∀ v : Nat, v + d = t.length ^ len →
    Ev (fun k => tickingref11_Miss.l1 k t kd t.length ((t.length ^ len : Nat) : Int) len v) (srch t kd ((List.range' v d).map (digN t.length len)) r) := by
  have h12 := ht.2.1
  have h22 := ht.1
  obtain ⟨many, hm⟩ : ∃ m, t.length ^ len = m := ⟨_, rfl⟩
  rw [hm] at hp h ⊢
  induction d with
  | zero =>
    intro v hv
    obtain rfl : v = many := by omega
    refine Ev.step (fun k => ?_) h
    simp only [tickingref11_Miss.l1]
    rw [if_neg (by omega), w64 (by omega) (by omega)]; rfl
  | succ d ih =>
    intro v hv
    have h1 := ih (v + 1) (by omega)
    rw [List.range'_succ, List.map_cons]
    have hn := ev_number t.length len v (by omega) (by omega) (by omega)
    have hd := digN_digs t.length (by omega) len v
    have hl := digN_len t.length len v
    obtain ⟨l, hlv⟩ : ∃ l, digN t.length len v = l := ⟨_, rfl⟩
    rw [hlv] at hn hd hl ⊢
    have htr := ev_Trace ht l hd (by omega)
    have ev1 : wrap64 ((v : Int) + 1) = ((v + 1 : Nat) : Int) := by rw [w64 (by omega) (by omega)]; omega
    by_cases h0 : traceP t 0 l = 0
    · have h2 := ev_l2 ht hk len v many l hd hl hlen (by omega) (srch t kd (l :: (List.range' (v + 1) d).map (digN t.length len)) r) (fun hb => ?_) (fun hb => ?_) len 0 (by omega)
      · rw [show candTo kd l t.length 0 = [] from rfl, show bestOf t [] = [] from rfl] at h2
        obtain ⟨K1, hn⟩ := hn; obtain ⟨K2, htr⟩ := htr; obtain ⟨K3, h2⟩ := h2
        dsimp only at hn htr h2
        refine ⟨max K1 (max K2 K3) + 1, fun k hk' => ?_⟩
        obtain ⟨k, rfl⟩ : ∃ j, k = j + 1 := ⟨k - 1, by omega⟩
        simp only [tickingref11_Miss.l1]
        rw [if_pos (by omega), hn k (by omega)]
        simp only [Option.bind_some]
        rw [htr k (by omega)]
        simp only [Option.bind_some]
        rw [if_pos h0]
        exact h2 k (by omega)
      · have hg : goodM t kd l = true := by
          unfold goodM; rw [decide_eq_true h0]
          cases hh : bestOf t (errsOf kd l t.length) with
          | nil => exact absurd hh hb
          | cons a x => rfl
        unfold srch
        rw [List.find?_cons_of_pos hg]
      · have hg : ¬ goodM t kd l = true := by unfold goodM; rw [hb]; simp
        unfold srch at h1 ⊢
        rw [List.find?_cons_of_neg hg]
        exact h1
    · have hg : ¬ goodM t kd l = true := by unfold goodM; rw [decide_eq_false h0]; simp
      have e : srch t kd (l :: (List.range' (v + 1) d).map (digN t.length len)) r = srch t kd ((List.range' (v + 1) d).map (digN t.length len)) r := by
        unfold srch; rw [List.find?_cons_of_neg hg]
      rw [e]
      obtain ⟨K1, hn⟩ := hn; obtain ⟨K2, htr⟩ := htr; obtain ⟨K3, h1⟩ := h1
      dsimp only at hn htr h1
      refine ⟨max K1 (max K2 K3) + 1, fun k hk' => ?_⟩
      obtain ⟨k, rfl⟩ : ∃ j, k = j + 1 := ⟨k - 1, by omega⟩
      simp only [tickingref11_Miss.l1]
      rw [if_pos (by omega), hn k (by omega)]
      simp only [Option.bind_some]
      rw [htr k (by omega)]
      simp only [Option.bind_some]
      rw [if_neg h0, ev1]
      exact h1 k (by omega)
omit ht hk in
theorem srch_app (a b : List (List Int)) (r : List Int × List Int × Bool) : srch t kd (a ++ b) r = srch t kd a (srch t kd b r) := by
  unfold srch
  rw [List.find?_append]
  cases a.find? (goodM t kd) <;> rfl
theorem ev_l0 (h6 : t.length ≤ 6) (d : Nat) : ∀ len : Nat, len + d = 5 →
    Ev (fun k => tickingref11_Miss.l0 k t kd t.length ((t.length ^ len : Nat) : Int) ((len + 1 : Nat) : Int)) (srch t kd ((List.range' (len + 1) d).flatMap fun s => ext t.length s []) ([], [], false)) := by
  have h12 := ht.2.1
  have h22 := ht.1
  induction d with
  | zero =>
    intro len hl
    obtain rfl : len = 5 := by omega
    refine Ev.step (f := fun _ => some ([], [], false)) (fun k => ?_) (Ev.now _)
    simp only [tickingref11_Miss.l0]
    rw [if_neg (by omega)]
  | succ d ih =>
    intro len hl
    have hpow : t.length ^ (len + 1) ≤ 7776 := Nat.le_trans (Nat.pow_le_pow_left h6 _) (Nat.pow_le_pow_right (n := 6) (by omega) (show len + 1 ≤ 5 by omega))
    have hpow0 : t.length ^ len ≤ 7776 := Nat.le_trans (Nat.pow_le_pow_left h6 _) (Nat.pow_le_pow_right (n := 6) (by omega) (show len ≤ 5 by omega))
    have h := ev_l1 ht hk (len + 1) (by omega) (by omega) _ (ih (len + 1) (by omega)) (t.length ^ (len + 1)) 0 (by omega)
    rw [List.range'_succ, List.flatMap_cons, srch_app, ext_dig t.length (by omega) (len + 1), List.range_eq_range']
    refine Ev.step (fun k => ?_) h
    simp only [tickingref11_Miss.l0]
    have e : wrap64 (((t.length ^ len : Nat) : Int) * (t.length : Int)) = ((t.length ^ (len + 1) : Nat) : Int) := by
      rw [← Int.natCast_mul, ← Nat.pow_succ]; exact wnat _ (by show t.length ^ (len + 1) ≤ _; omega)
    rw [if_pos (by omega), e]; rfl
omit ht hk in
theorem good_nil : goodM t kd [] = false := by
  unfold goodM
  have e : errsOf kd ([] : List Int) t.length = [] := by
    rw [List.eq_nil_iff_forall_not_mem]; intro m hm; have := errs_pos m hm; simp at this
  rw [e]; simp [bestOf]
theorem ev_rMiss (h6 : t.length ≤ 6) : Ev (fun k => tickingref11_Miss.f k t kd) ((missV t kd).1, (missV t kd).2.1, decide ((missV t kd).2.2 = 0)) := by
  have h := ev_l0 ht hk h6 5 0 (by omega)
  have e : srch t kd ((List.range' (0 + 1) 5).flatMap fun s => ext t.length s []) ([], [], false) = ((missV t kd).1, (missV t kd).2.1, decide ((missV t kd).2.2 = 0)) := by
    have e6 : allTo t.length 6 = [] :: ((List.range' (0 + 1) 5).flatMap fun s => ext t.length s []) := rfl
    unfold missV srch
    rw [e6, List.find?_cons_of_neg (by rw [good_nil]; simp)]
    cases (List.flatMap (fun s => ext t.length s []) (List.range' (0 + 1) 5)).find? (goodM t kd) <;> simp
  rw [e] at h
  refine h.congr (fun k => ?_)
  unfold tickingref11_Miss.f
  simp
end
end Go.Proofs.Ytdkncfmlehcjmaa.X
