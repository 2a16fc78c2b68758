/- The reference's Miss in plain words: it goes through the same numbers, and finds the same first error. -/
import Derived.Test.YtdkncfmlehcjmaaTHMiss
import Derived.Test.YtdkncfmlehcjmaaTX52
set_option linter.unusedVariables false
set_option linter.unusedSimpArgs false
namespace Go.Proofs.Ytdkncfmlehcjmaa.X
open Go.RowKit Go.Proofs.YtdkncfmlehcjmaaW.PrintWords
/-! ### The order of lists -/
theorem lex_trans : ∀ (a b c : List Int), lexLt a b = true → lexLt b c = true → lexLt a c = true
  | [], _, _, h, _ => by simp [lexLt] at h
  | _ :: _, [], _, h, _ => by simp [lexLt] at h
  | _ :: _, _ :: _, [], _, h => by simp [lexLt] at h
  | x :: a, y :: b, z :: c, h1, h2 => by
    simp only [lexLt] at h1 h2 ⊢
    by_cases e1 : x = y
    · subst e1
      rw [if_pos rfl] at h1
      by_cases e2 : x = z
      · rw [if_pos e2] at h2 ⊢; exact lex_trans a b c h1 h2
      · rw [if_neg e2] at h2 ⊢; exact h2
    · rw [if_neg e1] at h1
      by_cases e2 : y = z
      · subst e2; rw [if_neg e1]; exact h1
      · rw [if_neg e2] at h2
        have := of_decide_eq_true h1
        have := of_decide_eq_true h2
        rw [if_neg (by omega)]; exact decide_eq_true (by omega)
theorem lex_tri : ∀ (a b : List Int), a.length = b.length → lexLt a b = false → lexLt b a = false → a = b
  | [], [], _, _, _ => rfl
  | [], _ :: _, h, _, _ => by simp at h
  | _ :: _, [], h, _, _ => by simp at h
  | x :: a, y :: b, hl, h1, h2 => by
    simp only [lexLt] at h1 h2
    by_cases e : x = y
    · subst e
      rw [if_pos rfl] at h1 h2
      rw [lex_tri a b (by simpa using hl) h1 h2]
    · rw [if_neg e] at h1
      rw [if_neg (fun h => e h.symm)] at h2
      have := of_decide_eq_false h1
      have := of_decide_eq_false h2
      omega
/-- What the best is: none, or the least. -/
def IsBest (t es : List (List Int)) (b : List Int) : Prop := (b = [] ∧ ∀ m ∈ es, traceP t 0 m ≠ 0) ∨ (b ∈ es ∧ traceP t 0 b = 0 ∧ ∀ m ∈ es, traceP t 0 m = 0 → lexLt m b = false)
theorem best_is (t : List (List Int)) : ∀ (es : List (List Int)), (∀ m ∈ es, m ≠ []) → IsBest t es (bestOf t es) := by
  have gen : ∀ (es done : List (List Int)) (b : List Int), (∀ m ∈ done ++ es, m ≠ []) → IsBest t done b → IsBest t (done ++ es) (es.foldl (bstep t) b) := by
    intro es
    induction es with
    | nil => intro done b _ h; simpa using h
    | cons e es ih =>
      intro done b hne hb
      rw [List.foldl_cons]
      have := ih (done ++ [e]) (bstep t b e) (by simpa using hne) ?_
      · simpa using this
      · unfold bstep
        by_cases h : traceP t 0 e = 0 ∧ (b = [] ∨ lexLt e b = true)
        · rw [if_pos h]
          refine .inr ⟨by simp, h.1, fun m hm h0 => ?_⟩
          rcases List.mem_append.1 hm with hm | hm
          · rcases hb with ⟨rfl, hb⟩ | ⟨hb1, hb2, hb3⟩
            · exact absurd h0 (hb m hm)
            · have hb0 : b ≠ [] := hne b (by simp [hb1])
              have hlt := h.2.resolve_left hb0
              cases hc : lexLt m e with
              | false => rfl
              | true => have := lex_trans m e b hc hlt; rw [hb3 m hm h0] at this; cases this
          · rw [List.mem_singleton] at hm
            subst hm
            have irr : ∀ (a : List Int), lexLt a a = false := by
              intro a
              induction a with
              | nil => rfl
              | cons x a ih => simp [lexLt, ih]
            exact irr m
        · rw [if_neg h]
          rcases hb with ⟨rfl, hb⟩ | ⟨hb1, hb2, hb3⟩
          · refine .inl ⟨rfl, fun m hm => ?_⟩
            rcases List.mem_append.1 hm with hm | hm
            · exact hb m hm
            · rw [List.mem_singleton] at hm; subst hm; exact fun h0 => h ⟨h0, .inl rfl⟩
          · refine .inr ⟨by simp [hb1], hb2, fun m hm h0 => ?_⟩
            rcases List.mem_append.1 hm with hm | hm
            · exact hb3 m hm h0
            · rw [List.mem_singleton] at hm
              subst hm
              cases hc : lexLt m b with
              | false => rfl
              | true => exact absurd ⟨h0, .inr hc⟩ h
  intro es hne
  have := gen es [] [] (by simpa using hne) (.inl ⟨rfl, by simp⟩)
  simpa [bestOf] using this
theorem best_congr (t es1 es2 : List (List Int)) (L : Nat) (hL : 0 < L) (h1 : ∀ m ∈ es1, m.length = L) (h : ∀ m, m ∈ es1 ↔ m ∈ es2) : bestOf t es1 = bestOf t es2 := by
  have ne1 : ∀ m ∈ es1, m ≠ [] := fun m hm e => by have := h1 m hm; subst e; simp at this; omega
  have b1 := best_is t es1 ne1
  have b2 := best_is t es2 (fun m hm => ne1 m ((h m).2 hm))
  rcases b1 with ⟨e1, a1⟩ | ⟨i1, z1, m1⟩
  · rcases b2 with ⟨e2, a2⟩ | ⟨i2, z2, m2⟩
    · rw [e1, e2]
    · exact absurd z2 (a1 _ ((h _).2 i2))
  · rcases b2 with ⟨e2, a2⟩ | ⟨i2, z2, m2⟩
    · exact absurd z1 (a2 _ ((h _).1 i1))
    · exact lex_tri _ _ (by rw [h1 _ i1, h1 _ ((h _).2 i2)]) (m2 _ ((h _).1 i1) z1) (m1 _ ((h _).2 i2) z2)
/-! ### The numbers -/
def digN (n : Nat) : Nat → Nat → List Int
  | 0, _ => []
  | s + 1, v => digN n s (v / n) ++ [((v % n : Nat) : Int)]
theorem ext_last (n : Nat) (s : Nat) : ∀ p, ext n (s + 1) p = (ext n s p).flatMap fun q => (List.range n).map fun (d : Nat) => q ++ [(d : Int)] := by
  induction s with
  | zero =>
    intro p
    simp only [ext, List.flatMap_cons, List.flatMap_nil, List.append_nil]
    induction List.range n with
    | nil => rfl
    | cons x xs ih => simp [ih]
  | succ s ih =>
    intro p
    rw [ext, show (fun (d : Nat) => ext n (s + 1) (p ++ [(d : Int)])) = fun (d : Nat) => (ext n s (p ++ [(d : Int)])).flatMap fun q => (List.range n).map fun (d : Nat) => q ++ [(d : Int)] from funext fun d => ih _]
    rw [ext, List.flatMap_assoc]
theorem range_mul (a n : Nat) : List.range (a * n) = (List.range a).flatMap fun v => (List.range n).map fun d => v * n + d := by
  induction a with
  | zero => simp
  | succ a ih =>
    rw [List.range_succ, List.flatMap_append, ← ih, Nat.add_mul, Nat.one_mul, List.range_add]
    simp
theorem ext_dig (n : Nat) (hn : 0 < n) (s : Nat) : ext n s [] = (List.range (n ^ s)).map (digN n s) := by
  induction s with
  | zero => simp [ext, digN]
  | succ s ih =>
    rw [ext_last, ih, Nat.pow_succ, range_mul, List.map_flatMap, List.flatMap_map]
    congr 1
    funext v
    rw [List.map_map]
    refine List.map_congr_left fun d hd => ?_
    have hd := List.mem_range.1 hd
    show _ = digN n s ((v * n + d) / n) ++ [(((v * n + d) % n : Nat) : Int)]
    rw [Nat.mul_comm v n, Nat.mul_add_div hn, Nat.div_eq_of_lt hd, Nat.add_zero, Nat.mul_add_mod, Nat.mod_eq_of_lt hd]
theorem digN_len (n s : Nat) : ∀ v, (digN n s v).length = s := by
  induction s with
  | zero => intro v; rfl
  | succ s ih => intro v; simp [digN, ih]
theorem digN_digs (n : Nat) (hn : 0 < n) (s : Nat) : ∀ v, digs (digN n s v) n = true := by
  induction s with
  | zero => intro v; rfl
  | succ s ih => intro v; exact digs_snoc (ih _) _ (Nat.mod_lt _ hn)
theorem wnat (q : Nat) (h : q ≤ 1000000000) : wrap64 (q : Int) = q := w64 (by omega) (by omega)
theorem ev_number_l (n : Nat) (hn : 0 < n) (c : Nat) : ∀ (v : Nat) (suf : List Int), v ≤ 1000000000 → c ≤ 1000 → Ev (fun k => tickingref11_number.l0 k n v (List.replicate c 0 ++ suf) ((c : Int) - 1)) (digN n c v ++ suf) := by
  induction c with
  | zero =>
    intro v suf hv hc
    refine Ev.step (f := fun _ => some suf) (fun k => ?_) (Ev.now _)
    simp only [tickingref11_number.l0]; rw [if_neg (by simp)]; rfl
  | succ c ih =>
    intro v suf hv hc
    have h := ih (v / n) (((v % n : Nat) : Int) :: suf) (Nat.le_trans (Nat.div_le_self _ _) hv) (by omega)
    have e : digN n (c + 1) v ++ suf = digN n c (v / n) ++ (((v % n : Nat) : Int) :: suf) := by simp [digN]
    rw [e]
    refine Ev.step (fun k => ?_) h
    simp only [tickingref11_number.l0]
    have ec : (((c + 1 : Nat) : Int) - 1) = (c : Int) := by omega
    rw [ec, if_pos (by omega), if_neg (by omega), if_pos (by omega), if_pos (by simp; omega)]
    have hq : Int.tdiv (v : Int) (n : Int) = ((v / n : Nat) : Int) := by rw [Int.tdiv_eq_ediv_of_nonneg (by omega)]; simp
    have hr : Int.tmod (v : Int) (n : Int) = ((v % n : Nat) : Int) := by rw [Int.tmod_eq_emod_of_nonneg (by omega)]; simp
    have hb : v / n ≤ v := Nat.div_le_self _ _
    rw [hq, hr, wnat _ (by omega), w64 (x := (c : Int) - 1) (by omega) (by omega)]
    have es : (List.replicate (c + 1) (0 : Int) ++ suf).set (c : Int).toNat ((v % n : Nat) : Int) = List.replicate c 0 ++ (((v % n : Nat) : Int) :: suf) := by
      rw [List.replicate_succ', Int.toNat_natCast, List.append_assoc, List.set_append_right _ _ (by simp)]
      simp
    rw [es]
theorem ev_number (n s v : Nat) (hn : 0 < n) (hv : v ≤ 1000000000) (hs : s ≤ 1000) : Ev (fun k => tickingref11_number.f k n s v) (digN n s v) := by
  have h := ev_number_l n hn s v [] hv hs
  rw [List.append_nil, List.append_nil] at h
  refine h.congr (fun k => ?_)
  unfold tickingref11_number.f
  rw [if_pos (by omega), if_pos (by simp; omega), Int.toNat_natCast, w64 (by omega) (by omega)]
/-! ### Comparing -/
theorem ev_less_l (a b : List Int) (hab : a.length = b.length) (hl : a.length ≤ 1000) (d : Nat) : ∀ i : Nat, i + d = a.length → Ev (fun k => tickingref11_less.l0 k a b i) (lexLt (a.drop i) (b.drop i)) := by
  induction d with
  | zero =>
    intro i hi
    obtain rfl : i = a.length := by omega
    refine Ev.step (f := fun _ => some (lexLt (a.drop a.length) (b.drop a.length))) (fun k => ?_) (Ev.now _)
    simp only [tickingref11_less.l0]; rw [if_neg (by omega), List.drop_of_length_le (Nat.le_refl _)]; simp [lexLt]
  | succ d ih =>
    intro i hi
    have h1 := ih (i + 1) (by omega)
    have ea : a.drop i = a[i] :: a.drop (i + 1) := List.drop_eq_getElem_cons (by omega)
    have eb : b.drop i = b[i] :: b.drop (i + 1) := List.drop_eq_getElem_cons (by omega)
    have ra := rd_nat a i (by omega)
    have rb := rd_nat b i (by omega)
    rw [ea, eb]
    by_cases he : a[i] = b[i]
    · rw [show lexLt (a[i] :: a.drop (i + 1)) (b[i] :: b.drop (i + 1)) = lexLt (a.drop (i + 1)) (b.drop (i + 1)) by simp [lexLt, he]]
      refine Ev.step (fun k => ?_) h1
      simp only [tickingref11_less.l0]
      rw [if_pos (by omega), if_pos (by omega), if_pos (by omega), ra, rb, if_pos he, w64 (by omega) (by omega)]; rfl
    · rw [show lexLt (a[i] :: a.drop (i + 1)) (b[i] :: b.drop (i + 1)) = decide (a[i] < b[i]) by simp [lexLt, he]]
      refine Ev.step (f := fun _ => some (decide (a[i] < b[i]))) (fun k => ?_) (Ev.now _)
      simp only [tickingref11_less.l0]
      rw [if_pos (by omega), if_pos (by omega), if_pos (by omega), ra, rb, if_neg he]
theorem ev_less (a b : List Int) (hab : a.length = b.length) (hl : a.length ≤ 1000) : Ev (fun k => tickingref11_less.f k a b) (lexLt a b) := by
  have := ev_less_l a b hab hl a.length 0 (by omega)
  simp only [List.drop_zero] at this
  exact this
end Go.Proofs.Ytdkncfmlehcjmaa.X
