/- Texts behind SerialKinds, part 28: contracts of the program's functions and the plain words for them. -/
import Derived.Deep.Matrix
import Derived.ProofKit
import Derived.OpenShut
import Derived.Lib.SmallJoins
import Derived.Test.YtdkncfmlehcjmaaTpaa
import Derived.Test.YtdkncfmlehcjmaaTpar
import Derived.Test.YtdkncfmlehcjmaaTpau
import Derived.Test.YtdkncfmlehcjmaaTpay
import Derived.Test.YtdkncfmlehcjmaaTpaz
import Derived.Test.YtdkncfmlehcjmaaTpba
section
/- Arguments as they come in, opened for the printed functions: a slice of ints, a slice of slices of ints, an array of two ints. -/
set_option linter.unusedVariables false
set_option linter.unusedSimpArgs false
namespace Go.Proofs.Ytdkncfmlehcjmaa.X
open Go.ChangeShapes Go.WideShapes Go.ChangeAt Go.RowKit Go.Proofs.YtdkncfmlehcjmaaW.PrintWords
section
variable {H : Type} {enc : TypeId × Value → H} {P : Program} {W : World} {base : Nat}
theorem open_ssl {t e q : TypeId} {k : IntKind} {v : Value} {d : DataW H} {p : List MemPlace} (ht : P.underlying t = some (.slice e)) (he : P.underlying e = some (.slice q)) (hq : P.underlying q = some (.int k)) (ce : P.cellsOf e = 1) (cq : P.cellsOf q = 1)
    (hv : Value.okWide P W .any base t v) (h : DataW.Trod enc P W 0 (fun _ => true) true t v d p) :
    ∃ (a : Option Addr) (l : List (List Int)) (cap : Nat), v = .slice a l.length cap ∧ l.length ≤ cap ∧ Kd.C (Kd.slice q (Kd.int k)) W a l.length l ∧ l.length ≤ maxLen ∧ ∀ r ∈ l, ∀ x ∈ r, (Lit.int k x).wf = true := by
  obtain ⟨a, len, cap, rfl⟩ := okWide_slice ht hv
  obtain ⟨fuel, hf⟩ := h
  rcases Go.Deep.open_int_rows ht he hq ce cq hf with ⟨hcs, _⟩ | ⟨a', len', cap', A, L, C, Z, hcs, _, hl, hm, _, hrow⟩
  · simp [Value.cells] at hcs
    obtain ⟨rfl, rfl, rfl⟩ := hcs
    exact ⟨none, [], 0, rfl, Nat.le_refl _, Kd.C_nil _ _, Nat.zero_le _, by simp⟩
  · simp [Value.cells] at hcs
    obtain ⟨rfl, rfl, rfl⟩ := hcs
    have hlen : ((List.range len).map fun r => (Z r).take (L r)).length = len := by simp
    refine ⟨some a', (List.range len).map fun r => (Z r).take (L r), cap, by rw [hlen], by rw [hlen]; exact hl, ?_, by rw [hlen]; exact Nat.le_trans hl hm, ?_⟩
    · refine ⟨rfl, by rw [hlen]; have := Nat.le_trans hl hm; simpa [maxLen] using this, fun hn => ⟨a', rfl, fun j pp hj => ?_⟩⟩
      rw [hlen] at hn
      have hj' : j < len := by
        rcases Nat.lt_or_ge j len with h | h
        · exact h
        · rw [List.getElem?_eq_none (by rw [hlen]; exact h)] at hj; cases hj
      rw [List.getElem?_eq_getElem (by rw [hlen]; exact hj')] at hj
      simp at hj
      subst hj
      obtain ⟨c0, c1, c2, c3, c4, c5, c6⟩ := hrow j (by omega)
      have hL : ((Z j).take (L j)).length = L j := by rw [List.length_take]; omega
      refine ⟨[.slice (A j) (L j) (C j)], rfl, ⟨A j, C j, by rw [hL], by rw [hL]; exact c1, ?_⟩, fun i u hu => ?_⟩
      · refine Kd.C_of_reads (d := (0 : Int)) (h1 := fun _ => rfl) ⟨rfl, by rw [hL]; have := Nat.le_trans c1 c2; simpa [maxLen] using this, fun hp => ?_⟩
        rw [hL] at hp
        cases hA : A j with
        | none => have := c5 hA; omega
        | some a2 =>
          refine ⟨a2, rfl, fun i hi => ?_⟩
          rw [hL] at hi
          rw [(c6 a2 hA).2 i (by omega)]
          simp [List.getD, List.getElem?_take, hi]
      · cases i with
        | zero =>
          have e : u = .slice (A j) (L j) (C j) := by simpa using hu.symm
          subst e
          show W.cell? (a'.add (j * 1 + 0)) = _
          rw [Nat.mul_one, Nat.add_zero]; exact c0
        | succ i => simp at hu
    · intro r hr x hx
      simp only [List.mem_map, List.mem_range] at hr
      obtain ⟨j, hj, rfl⟩ := hr
      obtain ⟨_, _, _, _, c4, _⟩ := hrow j (by omega)
      exact c4 x (List.mem_of_mem_take hx)
end
end Go.Proofs.Ytdkncfmlehcjmaa.X
end

section
/- The reference's Miss in plain words: it goes through the same numbers, and finds the same first error. -/
set_option linter.unusedVariables false
set_option linter.unusedSimpArgs false
namespace Go.Proofs.Ytdkncfmlehcjmaa.X
open Go.RowKit Go.Proofs.YtdkncfmlehcjmaaW.PrintWords
theorem lex_trans : ∀ (a b c : List Int), lexLt a b = true → lexLt b c = true → lexLt a c = true
  | [], _, _, h, _ => by simp [lexLt] at h
  | _ :: _, [], _, h, _ => by simp [lexLt] at h
  | _ :: _, _ :: _, [], _, h => by simp [lexLt] at h
  | x :: a, y :: b, z :: c, h1, h2 => by
    simp only [lexLt] at h1 h2 ⊢
    by_cases e1 : x = y
    · subst e1
      rw [if_pos rfl] at h1
      by_cases e2 : x = z
      · rw [if_pos e2] at h2 ⊢; exact lex_trans a b c h1 h2
      · rw [if_neg e2] at h2 ⊢; exact h2
    · rw [if_neg e1] at h1
      by_cases e2 : y = z
      · subst e2; rw [if_neg e1]; exact h1
      · rw [if_neg e2] at h2
        have := of_decide_eq_true h1
        have := of_decide_eq_true h2
        rw [if_neg (by omega)]; exact decide_eq_true (by omega)
/-- What the best is: none, or the least. -/
def IsBest (t es : List (List Int)) (b : List Int) : Prop := (b = [] ∧ ∀ m ∈ es, traceP t 0 m ≠ 0) ∨ (b ∈ es ∧ traceP t 0 b = 0 ∧ ∀ m ∈ es, traceP t 0 m = 0 → lexLt m b = false)
theorem best_is (t : List (List Int)) : ∀ (es : List (List Int)), (∀ m ∈ es, m ≠ []) → IsBest t es (bestOf t es) := by
  have gen : ∀ (es done : List (List Int)) (b : List Int), (∀ m ∈ done ++ es, m ≠ []) → IsBest t done b → IsBest t (done ++ es) (es.foldl (bstep t) b) := by
    intro es
    induction es with
    | nil => intro done b _ h; simpa using h
    | cons e es ih =>
      intro done b hne hb
      rw [List.foldl_cons]
      have := ih (done ++ [e]) (bstep t b e) (by simpa using hne) ?_
      · simpa using this
      · unfold bstep
        by_cases h : traceP t 0 e = 0 ∧ (b = [] ∨ lexLt e b = true)
        · rw [if_pos h]
          refine .inr ⟨by simp, h.1, fun m hm h0 => ?_⟩
          rcases List.mem_append.1 hm with hm | hm
          · rcases hb with ⟨rfl, hb⟩ | ⟨hb1, hb2, hb3⟩
            · exact absurd h0 (hb m hm)
            · have hb0 : b ≠ [] := hne b (by simp [hb1])
              have hlt := h.2.resolve_left hb0
              cases hc : lexLt m e with
              | false => rfl
              | true => have := lex_trans m e b hc hlt; rw [hb3 m hm h0] at this; cases this
          · rw [List.mem_singleton] at hm
            subst hm
            have irr : ∀ (a : List Int), lexLt a a = false := by
              intro a
              induction a with
              | nil => rfl
              | cons x a ih => simp [lexLt, ih]
            exact irr m
        · rw [if_neg h]
          rcases hb with ⟨rfl, hb⟩ | ⟨hb1, hb2, hb3⟩
          · refine .inl ⟨rfl, fun m hm => ?_⟩
            rcases List.mem_append.1 hm with hm | hm
            · exact hb m hm
            · rw [List.mem_singleton] at hm; subst hm; exact fun h0 => h ⟨h0, .inl rfl⟩
          · refine .inr ⟨by simp [hb1], hb2, fun m hm h0 => ?_⟩
            rcases List.mem_append.1 hm with hm | hm
            · exact hb3 m hm h0
            · rw [List.mem_singleton] at hm
              subst hm
              cases hc : lexLt m b with
              | false => rfl
              | true => exact absurd ⟨h0, .inr hc⟩ h
  intro es hne
  have := gen es [] [] (by simpa using hne) (.inl ⟨rfl, by simp⟩)
  simpa [bestOf] using this
def digN (n : Nat) : Nat → Nat → List Int
  | 0, _ => []
  | s + 1, v => digN n s (v / n) ++ [((v % n : Nat) : Int)]
theorem ext_last (n : Nat) (s : Nat) : ∀ p, ext n (s + 1) p = (ext n s p).flatMap fun q => (List.range n).map fun (d : Nat) => q ++ [(d : Int)] := by
  induction s with
  | zero =>
    intro p
    simp only [ext, List.flatMap_cons, List.flatMap_nil, List.append_nil]
    induction List.range n with
    | nil => rfl
    | cons x xs ih => simp [ih]
  | succ s ih =>
    intro p
    rw [ext, show (fun (d : Nat) => ext n (s + 1) (p ++ [(d : Int)])) = fun (d : Nat) => (ext n s (p ++ [(d : Int)])).flatMap fun q => (List.range n).map fun (d : Nat) => q ++ [(d : Int)] from funext fun d => ih _]
    rw [ext, List.flatMap_assoc]
theorem range_mul (a n : Nat) : List.range (a * n) = (List.range a).flatMap fun v => (List.range n).map fun d => v * n + d := by
  induction a with
  | zero => simp
  | succ a ih =>
    rw [List.range_succ, List.flatMap_append, ← ih, Nat.add_mul, Nat.one_mul, List.range_add]
    simp
theorem ext_dig (n : Nat) (hn : 0 < n) (s : Nat) : ext n s [] = (List.range (n ^ s)).map (digN n s) := by
  induction s with
  | zero => simp [ext, digN]
  | succ s ih =>
    rw [ext_last, ih, Nat.pow_succ, range_mul, List.map_flatMap, List.flatMap_map]
    congr 1
    funext v
    rw [List.map_map]
    refine List.map_congr_left fun d hd => ?_
    have hd := List.mem_range.1 hd
    show _ = digN n s ((v * n + d) / n) ++ [(((v * n + d) % n : Nat) : Int)]
    rw [Nat.mul_comm v n, Nat.mul_add_div hn, Nat.div_eq_of_lt hd, Nat.add_zero, Nat.mul_add_mod, Nat.mod_eq_of_lt hd]
theorem digN_len (n s : Nat) : ∀ v, (digN n s v).length = s := by
  induction s with
  | zero => intro v; rfl
  | succ s ih => intro v; simp [digN, ih]
theorem digN_digs (n : Nat) (hn : 0 < n) (s : Nat) : ∀ v, digs (digN n s v) n = true := by
  induction s with
  | zero => intro v; rfl
  | succ s ih => intro v; exact digs_snoc (ih _) _ (Nat.mod_lt _ hn)
end Go.Proofs.Ytdkncfmlehcjmaa.X
end

section
/- What errors make of a number, as changed digits; what Miss finds. -/
set_option linter.unusedVariables false
set_option linter.unusedSimpArgs false
namespace Go.Proofs.Ytdkncfmlehcjmaa.X
open Go.RowKit Go.Proofs.YtdkncfmlehcjmaaW.PrintWords
def offK (kd : Nat) : Nat := match kd with | 0 => 0 | 1 => 1 | 2 => 1 | _ => 2
theorem with1 (l : List Int) (i : Nat) (x : Int) (h : i < l.length) : withN l (i : Int) [x] = l.set i x := by
  apply List.ext_getElem?
  intro j
  simp only [withN, Int.toNat_natCast, List.getElem?_append, List.length_take, List.getElem?_take, List.getElem?_drop, List.getElem?_set, List.length_cons, List.length_nil]
  rw [Nat.min_eq_left (by omega)]
  by_cases h1 : j < i
  · simp [h1, show ¬ i = j by omega]
  · by_cases h2 : i = j
    · subst h2; simp [h]
    · rw [if_neg h1, if_neg (by omega), if_neg h2]; congr 1; omega
theorem with2 (l : List Int) (i : Nat) (x y : Int) (h : i + 1 < l.length) : withN l (i : Int) [x, y] = (l.set i x).set (i + 1) y := by
  apply List.ext_getElem?
  intro j
  simp only [withN, Int.toNat_natCast, List.getElem?_append, List.length_take, List.getElem?_take, List.getElem?_drop, List.getElem?_set, List.length_cons, List.length_nil, List.length_set]
  rw [Nat.min_eq_left (by omega)]
  by_cases h1 : j < i
  · simp [h1, show ¬ i = j by omega, show ¬ i + 1 = j by omega]
  · by_cases h2 : i = j
    · subst h2; simp [show i < l.length by omega]
    · by_cases h3 : i + 1 = j
      · subst h3; simp [h, show ¬ (i + 1 < i) by omega]
      · rw [if_neg h1, if_neg (by omega), if_neg h2, if_neg h3]; congr 1; omega
theorem with3 (l : List Int) (i : Nat) (x z : Int) (h : i + 2 < l.length) : withN l (i : Int) [x, rd l ((i + 1 : Nat) : Int), z] = (l.set i x).set (i + 2) z := by
  apply List.ext_getElem?
  intro j
  simp only [withN, Int.toNat_natCast, List.getElem?_append, List.length_take, List.getElem?_take, List.getElem?_drop, List.getElem?_set, List.length_cons, List.length_nil, List.length_set]
  rw [Nat.min_eq_left (by omega), rd_nat l (i + 1) (by omega)]
  by_cases h1 : j < i
  · simp [h1, show ¬ i = j by omega, show ¬ i + 2 = j by omega]
  · by_cases h2 : i = j
    · subst h2; simp [show i < l.length by omega]
    · by_cases h3 : i + 2 = j
      · subst h3; simp [h, show i + 2 - i = 2 by omega, show ¬ (i + 2 < i) by omega]
      · by_cases h4 : j = i + 1
        · subst h4; simp [show i + 1 - i = 1 by omega, show i + 1 < l.length by omega]
        · rw [if_neg h1, if_neg (by omega), if_neg h2, if_neg h3]; congr 1; omega
theorem errN_off (kd len : Nat) (hk : kd < 4) (i : Nat) : i < errN kd len ↔ i + offK kd < len := by
  have hc : kd = 0 ∨ kd = 1 ∨ kd = 2 ∨ kd = 3 := by omega
  rcases hc with rfl | rfl | rfl | rfl <;> simp only [errN, offK] <;> omega
theorem miss_yes {t : List (List Int)} {kd : Nat} (h : isTab t = true) (h6 : t.length ≤ 6) (hk : kd < 4) : serial_Miss.f t kd = some (missV t kd) := by
  unfold serial_Miss.f; rw [if_pos ⟨h, h6, by omega, by omega⟩]; rfl
theorem find_mem {t : List (List Int)} {kd : Nat} {l : List Int} (h : (allTo t.length 6).find? (goodM t kd) = some l) : goodM t kd l = true ∧ l ∈ allTo t.length 6 := ⟨List.find?_some h, List.mem_of_find?_eq_some h⟩
theorem allTo_ok {n : Nat} (hn : 0 < n) {l : List Int} (h : l ∈ allTo n 6) : digs l n = true ∧ l.length ≤ 5 := by
  unfold allTo at h
  obtain ⟨s, hs, h⟩ := List.mem_flatMap.1 h
  have hs := List.mem_range.1 hs
  rw [ext_dig n hn] at h
  obtain ⟨v, _, rfl⟩ := List.mem_map.1 h
  exact ⟨digN_digs n hn s v, by rw [digN_len]; omega⟩
/-- Either there is none, or there are two numbers that are as they should be. -/
theorem missV_cases {t : List (List Int)} (ht : TabOk t) {kd : Nat} (hk : kd < 4) : missV t kd = ([], [], 6) ∨ ∃ l, missV t kd = (l, bestOf t (errsOf kd l t.length), 0) ∧ traceP t 0 l = 0 ∧ digs l t.length = true ∧ l.length ≤ 5 ∧ bestOf t (errsOf kd l t.length) ∈ errsOf kd l t.length ∧ traceP t 0 (bestOf t (errsOf kd l t.length)) = 0 := by
  have hn : 0 < t.length := by have := ht.1; omega
  unfold missV
  cases h : (allTo t.length 6).find? (goodM t kd) with
  | none => exact .inl rfl
  | some l =>
    obtain ⟨h1, h2⟩ := find_mem h
    obtain ⟨h3, h4⟩ := allTo_ok hn h2
    unfold goodM at h1
    rw [Bool.and_eq_true, decide_eq_true_eq] at h1
    refine .inr ⟨l, rfl, h1.1, h3, h4, ?_⟩
    have hb := best_is t (errsOf kd l t.length) (fun m hm e => by have := (errs_ok h3 hk m hm).2; have := errs_pos m hm; subst e; simp at *; omega)
    rcases hb with ⟨e, _⟩ | ⟨e1, e2, _⟩
    · rw [e] at h1; simp at h1
    · exact ⟨e1, e2⟩
end Go.Proofs.Ytdkncfmlehcjmaa.X
end

section
/- Numbers and tables made from whatever comes in: mod, digits, tame. -/
set_option linter.unusedVariables false
set_option linter.unusedSimpArgs false
namespace Go.Proofs.Ytdkncfmlehcjmaa.X
open Go.RowKit Go.Proofs.YtdkncfmlehcjmaaW.PrintWords

theorem wrap_u64 (x : Int) : IntKind.u64.wrap x = x % 18446744073709551616 := by
  simp [IntKind.wrap, IntKind.bits, IntKind.signed]
def modN (x n : Int) : Int := (x % 18446744073709551616) % n
theorem modN_in (x n : Int) (h : 1 ≤ n) : 0 ≤ modN x n ∧ modN x n < n := by
  unfold modN; exact ⟨Int.emod_nonneg _ (by omega), Int.emod_lt_of_pos _ (by omega)⟩
theorem mod_eq (x n : Int) (h : 1 ≤ n) (h2 : n ≤ 1000000) : tickinglaw11_mod.f x n = some (modN x n) := by
  unfold tickinglaw11_mod.f
  have hn : IntKind.u64.wrap n = n := by rw [wrap_u64]; omega
  have hx0 : 0 ≤ x % 18446744073709551616 := Int.emod_nonneg _ (by omega)
  have := modN_in x n h
  rw [hn, if_neg (by omega), wrap_u64, Int.tmod_eq_emod_of_nonneg hx0]
  unfold modN at this ⊢
  rw [w64 (by omega) (by omega)]
/-- The numbers from 0 to n - 1 in some order. -/
def Order (names : List Int) (n : Nat) : Prop := names.length = n ∧ names.Nodup ∧ ∀ x ∈ names, 0 ≤ x ∧ x < n
theorem order_in {names : List Int} {i : Nat} (h : Order names i) (at_ : Nat) (ha : at_ ≤ i) : Order (names.take at_ ++ [(i : Int)] ++ names.drop at_) (i + 1) := by
  obtain ⟨h1, h2, h3⟩ := h
  refine ⟨by simp; omega, ?_, ?_⟩
  · have hp : (names.take at_ ++ [(i : Int)] ++ names.drop at_).Perm ((i : Int) :: names) := by
      have : names.take at_ ++ [(i : Int)] ++ names.drop at_ = names.take at_ ++ (i : Int) :: names.drop at_ := by simp
      rw [this]
      refine List.perm_middle.trans ?_
      rw [List.take_append_drop]
    rw [hp.nodup_iff, List.nodup_cons]
    exact ⟨fun hm => by have := h3 _ hm; omega, h2⟩
  · intro x hx
    simp only [List.mem_append, List.mem_singleton] at hx
    rcases hx with (hx | rfl) | hx
    · have := h3 x (List.mem_of_mem_take hx); omega
    · omega
    · have := h3 x (List.mem_of_mem_drop hx); omega
def orderRow (names : List Int) (n : Nat) (i : Int) : List Int := (List.range n).map fun (j : Nat) => rd names ((rd names i + (j : Int)) % (n : Int))
def orderT (names : List Int) (n : Nat) : List (List Int) := (List.range n).map fun (i : Nat) => orderRow names n (i : Int)
theorem order_rd {names : List Int} {n : Nat} (h : Order names n) (i : Int) (h0 : 0 ≤ i) (h1 : i < n) : 0 ≤ rd names i ∧ rd names i < n := by
  have hi : i.toNat < names.length := by have := h.1; omega
  have e := rd_nat names i.toNat hi
  rw [Int.toNat_of_nonneg h0] at e
  rw [e]; exact h.2.2 _ (List.getElem_mem hi)
theorem order_inj {names : List Int} {n : Nat} (h : Order names n) (i j : Int) (h0 : 0 ≤ i) (h1 : i < n) (j0 : 0 ≤ j) (j1 : j < n) (e : rd names i = rd names j) : i = j := by
  have hi : i.toNat < names.length := by have := h.1; omega
  have hj : j.toNat < names.length := by have := h.1; omega
  have ei := rd_nat names i.toNat hi
  have ej := rd_nat names j.toNat hj
  rw [Int.toNat_of_nonneg h0] at ei
  rw [Int.toNat_of_nonneg j0] at ej
  rw [ei, ej] at e
  have := (List.getElem_inj h.2.1).1 e
  omega
theorem orderT_len (names : List Int) (n : Nat) : (orderT names n).length = n := by simp [orderT]
theorem orderT_rd2 (names : List Int) (n : Nat) (i j : Nat) (hi : i < n) (hj : j < n) : rd2 (orderT names n) i j = rd names ((rd names (i : Int) + (j : Int)) % (n : Int)) := by
  unfold rd2
  rw [rdL_nat _ i (by simp [orderT]; omega)]
  have : (orderT names n)[i]'(by simp [orderT]; omega) = orderRow names n i := by simp [orderT]
  rw [this, rd_nat _ j (by simp [orderRow]; omega)]
  simp [orderRow]
theorem add_mod_inj {n a b c : Int} (hn : 0 < n) (ha0 : 0 ≤ a) (ha1 : a < n) (hb0 : 0 ≤ b) (hb1 : b < n) (e : (a + c) % n = (b + c) % n) : a = b := by
  have h : (a + c - (b + c)) % n = 0 := Int.emod_eq_emod_iff_emod_sub_eq_zero.1 e
  have h2 : (a - b) % n = 0 := by rw [show a - b = a + c - (b + c) by omega]; exact h
  obtain ⟨q, hq⟩ := Int.dvd_of_emod_eq_zero h2
  by_cases hq0 : q = 0
  · subst hq0; omega
  · exfalso
    rcases Int.lt_or_gt_of_ne hq0 with hl | hg
    · have : n * q ≤ n * (-1) := Int.mul_le_mul_of_nonneg_left (by omega) (by omega)
      omega
    · have : n * 1 ≤ n * q := Int.mul_le_mul_of_nonneg_left (by omega) (by omega)
      omega
theorem orderT_ok {names : List Int} {n : Nat} (h : Order names n) (h1 : 2 ≤ n) (h2 : n ≤ 12) : TabOk (orderT names n) := by
  have hl := orderT_len names n
  rw [tabOk_iff, hl]
  have hm : ∀ x : Int, 0 ≤ x % (n : Int) ∧ x % (n : Int) < n := fun x => ⟨Int.emod_nonneg _ (by omega), Int.emod_lt_of_pos _ (by omega)⟩
  refine ⟨h1, h2, fun a ha => ⟨?_, fun b hb => ?_⟩, ?_⟩
  · rw [rdL_nat _ a (by omega)]; simp [orderT, orderRow]
  · rw [hl] at hb ⊢
    rw [orderT_rd2 names n a b ha hb]
    have := hm (rd names a + b)
    have := order_rd h _ this.1 this.2
    omega
  · intro i hi j hj k hk
    rw [hl] at hi hj
    rw [orderT_rd2 names n i k hi (by omega), orderT_rd2 names n i j hi hj, orderT_rd2 names n k i (by omega) hi, orderT_rd2 names n j i hj hi]
    constructor
    · intro e
      have := order_inj h _ _ (hm _).1 (hm _).2 (hm _).1 (hm _).2 e
      rw [Int.add_comm (rd names i), Int.add_comm (rd names i)] at this
      have := add_mod_inj (by omega) (by omega) (by omega) (by omega) (by omega) this
      omega
    · intro e
      have e2 := order_inj h _ _ (hm _).1 (hm _).2 (hm _).1 (hm _).2 e
      have rk := order_rd h (k : Int) (by omega) (by omega)
      have rj := order_rd h (j : Int) (by omega) (by omega)
      have e3 := add_mod_inj (by omega) rk.1 rk.2 rj.1 rj.2 e2
      have := order_inj h _ _ (by omega) (by omega) (by omega) (by omega) e3
      omega
theorem ev_tame_2 (names : List Int) (n : Nat) (h : Order names n) (h1 : 2 ≤ n) (h2 : n ≤ 12) (i : Nat) (hi : i < n) (rows : List (List Int)) (hr : rows.length ≤ 1000) (r : List (List Int))
    (hn : Ev (fun k => tickinglaw11_tame.l1 k n names (rows ++ [orderRow names n i]) ((i : Int) + 1)) r) (d : Nat) : ∀ j : Nat, j + d = n → Ev (fun k => tickinglaw11_tame.l2 k n names rows i ((List.range j).map fun (j : Nat) => rd names ((rd names i + (j : Int)) % (n : Int))) j) r := by
  induction d with
  | zero =>
    intro j hj
    obtain rfl : j = n := by omega
    refine Ev.step (fun q => ?_) hn
    simp only [tickinglaw11_tame.l2]
    rw [if_neg (by omega), if_pos (by omega), w64 (by omega) (by omega)]; rfl
  | succ d ih =>
    intro j hj
    have hlen := h.1
    have hri := order_rd h (i : Int) (by omega) (by omega)
    have hm : Int.tmod (wrap64 ((rd names i) + (j : Int))) (n : Int) = (rd names i + (j : Int)) % (n : Int) := by
      rw [w64 (by omega) (by omega), Int.tmod_eq_emod_of_nonneg (by omega)]
    have hb : 0 ≤ (rd names i + (j : Int)) % (n : Int) ∧ (rd names i + (j : Int)) % (n : Int) < n := ⟨Int.emod_nonneg _ (by omega), Int.emod_lt_of_pos _ (by omega)⟩
    refine Ev.step (fun q => ?_) (ih (j + 1) (by omega))
    simp only [tickinglaw11_tame.l2]
    rw [hm, if_pos (by omega), if_pos (by omega), if_pos (by omega), if_neg (by omega), if_pos hb.1, if_pos (by omega), if_pos (by simp; omega), w64 (by omega) (by omega), List.range_succ, List.map_append]; rfl
theorem ev_tame_1 (names : List Int) (n : Nat) (h : Order names n) (h1 : 2 ≤ n) (h2 : n ≤ 12) (d : Nat) : ∀ i : Nat, i + d = n → Ev (fun k => tickinglaw11_tame.l1 k n names ((List.range i).map fun (i : Nat) => orderRow names n (i : Int)) i) (orderT names n) := by
  induction d with
  | zero =>
    intro i hi
    obtain rfl : i = n := by omega
    refine Ev.step (f := fun _ => some (orderT names i)) (fun q => ?_) (Ev.now _)
    simp only [tickinglaw11_tame.l1]; rw [if_neg (by omega)]; rfl
  | succ d ih =>
    intro i hi
    have h3 := ih (i + 1) (by omega)
    rw [List.range_succ, List.map_append] at h3
    refine Ev.step (fun q => ?_) (ev_tame_2 names n h h1 h2 i (by omega) ((List.range i).map fun (i : Nat) => orderRow names n (i : Int)) (by simp; omega) _ (by simpa using h3) n 0 (by omega))
    simp only [tickinglaw11_tame.l1]; rw [if_pos (by omega)]; rfl
theorem ev_tame_0 (t : List (List Int)) (n : Nat) (h1 : 2 ≤ n) (h2 : n ≤ 12) (d : Nat) : ∀ (i : Nat) (names : List Int), i + d = n → Order names i → ∃ x, TabOk x ∧ x.length = n ∧ Ev (fun k => tickinglaw11_tame.l0 k t n names i) x := by
  induction d with
  | zero =>
    intro i names hi h
    obtain rfl : i = n := by omega
    refine ⟨orderT names i, orderT_ok h h1 h2, orderT_len _ _, Ev.step (fun q => ?_) (ev_tame_1 names i h h1 h2 i 0 (by omega))⟩
    simp only [tickinglaw11_tame.l0]; rw [if_neg (by omega)]; rfl
  | succ d ih =>
    intro i names hi h
    have hlen := h.1
    have hold : ∀ at_ : Nat, at_ ≤ i → ∃ x, TabOk x ∧ x.length = n ∧ Ev (fun k => tickinglaw11_tame.l0 k t n (names.take at_ ++ [(i : Int)] ++ names.drop at_) ((i + 1 : Nat) : Int)) x := fun at_ ha => ih (i + 1) _ (by omega) (order_in h at_ ha)
    by_cases hr : i < t.length
    · by_cases hz : 0 < (rd_L1 t (i : Int)).length
      · have hm := modN_in (rd (rd_L1 t (i : Int)) 0) ((i : Int) + 1) (by omega)
        obtain ⟨x, hx1, hx2, hx⟩ := hold (modN (rd (rd_L1 t (i : Int)) 0) ((i : Int) + 1)).toNat (by omega)
        refine ⟨x, hx1, hx2, Ev.step (fun q => ?_) hx⟩
        simp only [tickinglaw11_tame.l0]
        rw [if_pos (by omega), if_pos (by omega), if_pos (by omega), if_pos (by omega), if_pos (by omega), w64 (by omega) (by omega), mod_eq _ _ (by omega) (by omega)]
        simp only [Option.bind_some, List.nil_append, List.length_nil, Nat.zero_add]
        rw [if_pos (by omega), if_pos (by omega), if_pos (by simp; omega), if_pos (by simp; omega), if_pos (by simp; omega)]; rfl
      · obtain ⟨x, hx1, hx2, hx⟩ := hold i (Nat.le_refl _)
        refine ⟨x, hx1, hx2, Ev.step (fun q => ?_) hx⟩
        simp only [tickinglaw11_tame.l0]
        rw [if_pos (by omega), if_pos (by omega), if_pos (by omega), if_neg (by omega), if_pos (by omega), w64 (by omega) (by omega)]
        simp only [Option.bind_some, List.nil_append, List.length_nil, Nat.zero_add, Int.toNat_natCast]
        rw [if_pos (by simp; omega), if_pos (by simp; omega), if_pos (by simp; omega)]; rfl
    · obtain ⟨x, hx1, hx2, hx⟩ := hold i (Nat.le_refl _)
      refine ⟨x, hx1, hx2, Ev.step (fun q => ?_) hx⟩
      simp only [tickinglaw11_tame.l0]
      rw [if_pos (by omega), if_neg (by omega), if_pos (by omega), if_pos (by omega), w64 (by omega) (by omega)]
      simp only [Option.bind_some, List.nil_append, List.length_nil, Nat.zero_add, Int.toNat_natCast]
      rw [if_pos (by simp; omega), if_pos (by simp; omega), if_pos (by simp; omega)]; rfl
theorem ev_tame_j (t x5 : List (List Int)) (most : Int) (h1 : 2 ≤ most) (h2 : most ≤ 12) (hl : t.length ≤ maxLen) : ∃ x, TabOk x ∧ (x.length : Int) ≤ most ∧ Ev (fun k => tickinglaw11_tame.j0 k t most x5 false) x := by
  have hm := modN_in (t.length : Int) (most - 1) (by omega)
  obtain ⟨x, hx1, hx2, hx⟩ := ev_tame_0 t (2 + modN (t.length : Int) (most - 1)).toNat (by omega) (by omega) (2 + modN (t.length : Int) (most - 1)).toNat 0 [] (by omega) ⟨rfl, List.nodup_nil, by simp⟩
  rw [Int.toNat_of_nonneg (by omega)] at hx
  refine ⟨x, hx1, by omega, Ev.step (fun q => ?_) hx⟩
  simp only [tickinglaw11_tame.j0, Bool.false_eq_true, if_false]
  rw [w64 (by omega) (by omega), mod_eq _ _ (by omega) (by omega)]
  simp only [Option.bind_some]
  rw [w64 (by omega) (by omega)]; rfl
theorem ev_tame (t : List (List Int)) (most : Int) (h1 : 2 ≤ most) (h2 : most ≤ 12) (hl : t.length ≤ maxLen) : ∃ x, TabOk x ∧ (x.length : Int) ≤ most ∧ Ev (fun k => tickinglaw11_tame.f k t most) x := by
  by_cases h : isTab (tabOf t) = true ∧ ((tabOf t).length : Int) ≤ most
  · refine ⟨tabOf t, of_decide_eq_true h.1, h.2, ?_⟩
    refine Ev.bind (ev_table t) (Ev.bind (ev_Table _) ?_)
    simp only [h.1, if_true, decide_eq_true h.2]
    exact Ev.step (f := fun _ => some (tabOf t)) (fun q => by simp [tickinglaw11_tame.j0]) (Ev.now _)
  · obtain ⟨x, hx1, hx2, hx⟩ := ev_tame_j t (tabOf t) most h1 h2 hl
    refine ⟨x, hx1, hx2, ?_⟩
    refine Ev.bind (ev_table t) (Ev.bind (ev_Table _) ?_)
    cases hb : isTab (tabOf t) with
    | true =>
      have : ¬ ((tabOf t).length : Int) ≤ most := fun h' => h ⟨hb, h'⟩
      simp only [if_true, decide_eq_false this]
      exact hx
    | false => simp only [Bool.false_eq_true, if_false]; exact hx
end Go.Proofs.Ytdkncfmlehcjmaa.X
end

section
/- The cells of a table, the search for a zero in a row, and the searches for three elements that weigh alike and for a group. -/
set_option linter.unusedVariables false
set_option linter.unusedSimpArgs false
namespace Go.Proofs.Ytdkncfmlehcjmaa.X
open Go.RowKit Go.Proofs.YtdkncfmlehcjmaaW.PrintWords

theorem isTabOk {t : List (List Int)} (h : TabOk t) : isTab t = true := decide_eq_true h
/-- A table's cells as a function, with rows and columns of distinct numbers. -/
structure Cells (t : List (List Int)) (n : Nat) (q : Nat → Nat → Nat) : Prop where
  n2 : 2 ≤ n
  n12 : n ≤ 12
  len : t.length = n
  row : ∀ a, a < n → (rd_L1 t (a : Int)).length = n
  at_ : ∀ a b, a < n → b < n → rd (rd_L1 t (a : Int)) (b : Int) = (q a b : Int)
  lt : ∀ a b, a < n → b < n → q a b < n
  r : ∀ a i j, a < n → i < n → j < n → q a i = q a j → i = j
  c : ∀ a i j, a < n → i < n → j < n → q i a = q j a → i = j
theorem TabOk.cells {t : List (List Int)} (ht : TabOk t) : ∃ n q, Cells t n q := by
  have hb : ∀ a b : Nat, a < t.length → b < t.length → 0 ≤ rd2 t a b ∧ rd2 t a b < t.length := fun a b ha hb => tab_cell ht a b (by omega) (by omega) (by omega) (by omega)
  have hL := ((tabOk_iff t).1 ht).2.2.2
  refine ⟨t.length, fun a b => (rd2 t a b).toNat, ht.1, ht.2.1, rfl, fun a ha => tab_row ht a (by omega) (by omega), fun a b ha hb' => ?_, fun a b ha hb' => ?_, fun a i j ha hi hj e => ?_, fun a i j ha hi hj e => ?_⟩
  · have := hb a b ha hb'; show rd2 t a b = _; omega
  · have := hb a b ha hb'; omega
  · have h1 := hb a i ha hi
    have h2 := hb a j ha hj
    rcases Nat.lt_trichotomy i j with h | h | h
    · exact absurd (by omega) (hL a ha j hj i h).1
    · exact h
    · exact absurd (by omega) (hL a ha i hi j h).1
  · have h1 := hb i a hi ha
    have h2 := hb j a hj ha
    rcases Nat.lt_trichotomy i j with h | h | h
    · exact absurd (by omega) (hL a ha j hj i h).2
    · exact h
    · exact absurd (by omega) (hL a ha i hi j h).2

section
variable {t : List (List Int)} {n : Nat} {q : Nat → Nat → Nat} (C : Cells t n q)
include C
end
end Go.Proofs.Ytdkncfmlehcjmaa.X
end

section
/- What one changed digit and two changed places do to a trace. -/
set_option linter.unusedVariables false
set_option linter.unusedSimpArgs false
namespace Go.Proofs.Ytdkncfmlehcjmaa.X
open Go.RowKit Go.Proofs.YtdkncfmlehcjmaaW.PrintWords
theorem col_inj {t : List (List Int)} (ht : TabOk t) (x y d : Int) (x0 : 0 ≤ x) (x1 : x < t.length) (y0 : 0 ≤ y) (y1 : y < t.length) (d0 : 0 ≤ d) (d1 : d < t.length) (e : rd (rd_L1 t x) d = rd (rd_L1 t y) d) : x = y := by
  obtain ⟨n, q, C⟩ := ht.cells
  have hl := C.len
  have a1 := C.at_ x.toNat d.toNat (by omega) (by omega)
  have a2 := C.at_ y.toNat d.toNat (by omega) (by omega)
  rw [Int.toNat_of_nonneg x0, Int.toNat_of_nonneg d0] at a1
  rw [Int.toNat_of_nonneg y0, Int.toNat_of_nonneg d0] at a2
  have := C.c d.toNat x.toNat y.toNat (by omega) (by omega) (by omega) (by omega)
  omega
theorem row_inj {t : List (List Int)} (ht : TabOk t) (x c d : Int) (x0 : 0 ≤ x) (x1 : x < t.length) (c0 : 0 ≤ c) (c1 : c < t.length) (d0 : 0 ≤ d) (d1 : d < t.length) (e : rd (rd_L1 t x) c = rd (rd_L1 t x) d) : c = d := by
  obtain ⟨n, q, C⟩ := ht.cells
  have hl := C.len
  have a1 := C.at_ x.toNat c.toNat (by omega) (by omega)
  have a2 := C.at_ x.toNat d.toNat (by omega) (by omega)
  rw [Int.toNat_of_nonneg x0, Int.toNat_of_nonneg c0] at a1
  rw [Int.toNat_of_nonneg x0, Int.toNat_of_nonneg d0] at a2
  have := C.r x.toNat c.toNat d.toNat (by omega) (by omega) (by omega) (by omega)
  omega
theorem digs_cons {l : List Int} {n d : Int} : digs (d :: l) n = true ↔ (0 ≤ d ∧ d < n) ∧ digs l n = true := by
  unfold digs; simp
theorem traceP_app (t : List (List Int)) (x : Int) (l r : List Int) : traceP t x (l ++ r) = traceP t (traceP t x l) r := by simp [traceP, List.foldl_append]
theorem traceP_cons (t : List (List Int)) (x d : Int) (l : List Int) : traceP t x (d :: l) = traceP t (rd (rd_L1 t x) d) l := rfl
theorem trace_inj {t : List (List Int)} (ht : TabOk t) (l : List Int) : ∀ x y : Int, digs l t.length = true → 0 ≤ x → x < t.length → 0 ≤ y → y < t.length → traceP t x l = traceP t y l → x = y := by
  induction l with
  | nil => intro x y _ _ _ _ _ e; exact e
  | cons d l ih =>
    intro x y hl x0 x1 y0 y1 e
    rw [digs_cons] at hl
    have c1 := tab_cell ht x d x0 x1 hl.1.1 hl.1.2
    have c2 := tab_cell ht y d y0 y1 hl.1.1 hl.1.2
    exact col_inj ht x y d x0 x1 y0 y1 hl.1.1 hl.1.2 (ih _ _ hl.2 c1.1 c1.2 c2.1 c2.2 e)
/-- One digit changed: the trace stays only if the digit does. -/
theorem trace_one {t : List (List Int)} (ht : TabOk t) (A B : List Int) (c d : Int) (hA : digs A t.length = true) (hB : digs B t.length = true) (c0 : 0 ≤ c) (c1 : c < t.length) (d0 : 0 ≤ d) (d1 : d < t.length) : traceP t 0 (A ++ c :: B) = traceP t 0 (A ++ d :: B) ↔ c = d := by
  have n2 := ht.1
  have hi := trace_in ht A hA 0 (by omega) (by omega)
  have h1 := tab_cell ht _ c hi.1 hi.2 c0 c1
  have h2 := tab_cell ht _ d hi.1 hi.2 d0 d1
  constructor
  · intro e
    rw [traceP_app, traceP_app, traceP_cons, traceP_cons] at e
    exact row_inj ht _ c d hi.1 hi.2 c0 c1 d0 d1 (trace_inj ht B _ _ hB h1.1 h1.2 h2.1 h2.2 e)
  · rintro rfl; rfl
/-- Two neighbours exchanged: the trace stays only if they are alike, where no three weigh alike. -/
theorem trace_two {t : List (List Int)} (ht : TabOk t) (A B : List Int) (c d : Int) (hA : digs A t.length = true) (hB : digs B t.length = true) (c0 : 0 ≤ c) (c1 : c < t.length) (d0 : 0 ≤ d) (d1 : d < t.length)
    (hw : ∀ x : Int, 0 ≤ x → x < t.length → rd (rd_L1 t (rd (rd_L1 t x) c)) d = rd (rd_L1 t (rd (rd_L1 t x) d)) c → c = d) : traceP t 0 (A ++ c :: d :: B) = traceP t 0 (A ++ d :: c :: B) ↔ c = d := by
  have n2 := ht.1
  have hi := trace_in ht A hA 0 (by omega) (by omega)
  have h1 := tab_cell ht _ c hi.1 hi.2 c0 c1
  have h2 := tab_cell ht _ d hi.1 hi.2 d0 d1
  have h3 := tab_cell ht _ d h1.1 h1.2 d0 d1
  have h4 := tab_cell ht _ c h2.1 h2.2 c0 c1
  constructor
  · intro e
    rw [traceP_app, traceP_app, traceP_cons, traceP_cons, traceP_cons, traceP_cons] at e
    exact hw _ hi.1 hi.2 (trace_inj ht B _ _ hB h3.1 h3.2 h4.1 h4.2 e)
  · rintro rfl; rfl
theorem split_one (l : List Int) (i : Nat) (h : i < l.length) : l = l.take i ++ l[i] :: l.drop (i + 1) := by
  rw [← List.drop_eq_getElem_cons h, List.take_append_drop]
theorem split_two (l : List Int) (i : Nat) (h : i + 1 < l.length) : l = l.take i ++ l[i] :: l[i + 1] :: l.drop (i + 2) := by
  rw [← List.drop_eq_getElem_cons h, ← List.drop_eq_getElem_cons (by omega : i < l.length), List.take_append_drop]
theorem set_one (l : List Int) (i : Nat) (h : i < l.length) (v : Int) : l.set i v = l.take i ++ v :: l.drop (i + 1) := List.set_eq_take_append_cons_drop .. |>.trans (by rw [if_pos h])
theorem set_two (l : List Int) (i : Nat) (h : i + 1 < l.length) (u v : Int) : (l.set i u).set (i + 1) v = l.take i ++ u :: v :: l.drop (i + 2) := by
  have hl := split_two l i h
  have hA : (l.take i).length = i := by simp; omega
  generalize l.take i = A at *
  generalize l.drop (i + 2) = B at *
  generalize l[i] = c at *
  generalize l[i + 1] = d at *
  subst hl
  subst hA
  simp [List.set_append]
theorem ev_sTrace' {t : List (List Int)} (ht : TabOk t) (l : List Int) (hl : digs l t.length = true) (hn : l.length ≤ 24) : Ev (fun k => serial_Trace.f k t l) (traceP t 0 l, 0) := by
  have := sTrace_eq t l (by omega) (by have := ht.2.1; omega)
  rwa [isTabOk ht, hl, decide_eq_true (show (l.length : Int) ≤ 24 by omega), if_pos (by rfl)] at this
end Go.Proofs.Ytdkncfmlehcjmaa.X
end

section
/- What Weak's 'no' means; what an error changes; what Miss finds for single errors and neighbors. -/
set_option linter.unusedVariables false
set_option linter.unusedSimpArgs false
namespace Go.Proofs.Ytdkncfmlehcjmaa.X
open Go.RowKit Go.Proofs.YtdkncfmlehcjmaaW.PrintWords
section
variable {t : List (List Int)} {n : Nat} {q : Nat → Nat → Nat} (C : Cells t n q)
def Wk (t : List (List Int)) (q : Nat → Nat → Nat) (x c e : Nat) : Prop := rd (rd_L1 t ((q x c : Nat) : Int)) (e : Int) = rd (rd_L1 t ((q x e : Nat) : Int)) (c : Int)
include C
theorem wk_2 (P : Prop) (x c : Nat) (hx : x < n) (hc : c < n)
    (hn : ∃ r : Int × Int × Int × Bool, Ev (fun k => serial_table_weak.l1 k t x n x n ((c + 1 : Nat) : Int)) r ∧ (r.2.2.2 = false → P)) (d : Nat) :
    ∀ e : Nat, e + d = n → ∃ r : Int × Int × Int × Bool, Ev (fun k => serial_table_weak.l2 k t x c e n x n c) r ∧ (r.2.2.2 = false → P ∧ ∀ e', e ≤ e' → e' < n → ¬ Wk t q x c e') := by
  have n12 := C.n12
  have hl := C.len
  induction d with
  | zero =>
    intro e he
    obtain ⟨r, h2, h3⟩ := hn
    refine ⟨r, Ev.step (fun k => ?_) h2, fun hr => ⟨h3 hr, fun e' h1 h2 => by omega⟩⟩
    simp only [serial_table_weak.l2]; rw [if_neg (by omega), w64 (by omega) (by omega)]; rfl
  | succ d ih =>
    intro e he
    have hrx := C.row x hx
    have a1 := C.at_ x c hx hc
    have a2 := C.at_ x e hx (by omega)
    have b1 := C.lt x c hx hc
    have b2 := C.lt x e hx (by omega)
    have r1 := C.row _ b1
    have r2 := C.row _ b2
    by_cases hw : rd (rd_L1 t ((q x c : Nat) : Int)) e = rd (rd_L1 t ((q x e : Nat) : Int)) c
    · refine ⟨(x, c, e, true), Ev.step (f := fun _ => some ((x : Int), (c : Int), (e : Int), true)) (fun k => ?_) (Ev.now _), fun h => by cases h⟩
      simp only [serial_table_weak.l2]
      rw [a1, a2, r1, r2, hrx, hl]
      rw [if_pos (by omega), if_pos (by omega), if_pos (by omega), if_pos (by omega), if_pos (by omega), if_pos (by omega), if_pos (by omega), if_pos (by omega), if_pos (by omega), if_pos (by omega), if_pos (by omega), if_pos (by omega), if_pos (by omega), if_pos hw]
    · obtain ⟨r, h2, h3⟩ := ih (e + 1) (by omega)
      refine ⟨r, Ev.step (fun k => ?_) h2, fun hr => ⟨(h3 hr).1, fun e' h1 h4 => ?_⟩⟩
      · simp only [serial_table_weak.l2]
        rw [a1, a2, r1, r2, hrx, hl]
        rw [if_pos (by omega), if_pos (by omega), if_pos (by omega), if_pos (by omega), if_pos (by omega), if_pos (by omega), if_pos (by omega), if_pos (by omega), if_pos (by omega), if_pos (by omega), if_pos (by omega), if_pos (by omega), if_pos (by omega), if_neg hw, w64 (by omega) (by omega)]; rfl
      · rcases Nat.lt_or_ge e e' with h | h
        · exact (h3 hr).2 e' h h4
        · obtain rfl : e = e' := by omega
          exact hw
theorem wk_1 (P : Prop) (x : Nat) (hx : x < n)
    (hn : ∃ r : Int × Int × Int × Bool, Ev (fun k => serial_table_weak.l0 k t n ((x + 1 : Nat) : Int)) r ∧ (r.2.2.2 = false → P)) (d : Nat) :
    ∀ c : Nat, c + d = n → ∃ r : Int × Int × Int × Bool, Ev (fun k => serial_table_weak.l1 k t x n x n c) r ∧ (r.2.2.2 = false → P ∧ ∀ c', c ≤ c' → c' < n → ∀ e', c' < e' → e' < n → ¬ Wk t q x c' e') := by
  have n12 := C.n12
  induction d with
  | zero =>
    intro c hc
    obtain ⟨r, h2, h3⟩ := hn
    refine ⟨r, Ev.step (fun k => ?_) h2, fun hr => ⟨h3 hr, fun c' h1 h2 => by omega⟩⟩
    simp only [serial_table_weak.l1]; rw [if_neg (by omega), w64 (by omega) (by omega)]; rfl
  | succ d ih =>
    intro c hc
    obtain ⟨r, h2, h3⟩ := wk_2 C _ x c hx (by omega) (ih (c + 1) (by omega)) d (c + 1) (by omega)
    refine ⟨r, Ev.step (fun k => ?_) h2, fun hr => ⟨(h3 hr).1.1, fun c' h1 h4 e' h5 h6 => ?_⟩⟩
    · simp only [serial_table_weak.l1]; rw [if_pos (by omega), w64 (by omega) (by omega)]; rfl
    · rcases Nat.lt_or_ge c c' with h | h
      · exact (h3 hr).1.2 c' h h4 e' h5 h6
      · obtain rfl : c = c' := by omega
        exact (h3 hr).2 e' h5 h6
theorem wk_0 (d : Nat) : ∀ x : Nat, x + d = n → ∃ r : Int × Int × Int × Bool, Ev (fun k => serial_table_weak.l0 k t n x) r ∧ (r.2.2.2 = false → ∀ x', x ≤ x' → x' < n → ∀ c', c' < n → ∀ e', c' < e' → e' < n → ¬ Wk t q x' c' e') := by
  have hl := C.len
  induction d with
  | zero =>
    intro x hx
    refine ⟨(0, 0, 0, false), Ev.step (f := fun _ => some (0, 0, 0, false)) (fun k => ?_) (Ev.now _), fun _ x' h1 h2 => by omega⟩
    simp only [serial_table_weak.l0]; rw [if_neg (by omega)]
  | succ d ih =>
    intro x hx
    obtain ⟨r, h2, h3⟩ := wk_1 C _ x (by omega) (ih (x + 1) (by omega)) n 0 (by omega)
    refine ⟨r, Ev.step (fun k => ?_) h2, fun hr x' h1 h4 c' h5 e' h6 h7 => ?_⟩
    · simp only [serial_table_weak.l0]; rw [if_pos (by omega), hl]; rfl
    · rcases Nat.lt_or_ge x x' with h | h
      · exact (h3 hr).1 x' h h4 c' h5 e' h6 h7
      · obtain rfl : x = x' := by omega
        exact (h3 hr).2 c' (Nat.zero_le _) h5 e' h6 h7
end
/-- Weak's answer, and what a 'no' says. -/
theorem ev_sWeak_means {t : List (List Int)} (ht : TabOk t) : ∃ a b c e : Int, Ev (fun k => serial_Weak.f k t) (a, b, c, e) ∧ (e = 6 → ∀ x c d : Int, 0 ≤ x → x < t.length → 0 ≤ c → c < t.length → 0 ≤ d → d < t.length → rd (rd_L1 t (rd (rd_L1 t x) c)) d = rd (rd_L1 t (rd (rd_L1 t x) d)) c → c = d) := by
  obtain ⟨n, q, C⟩ := ht.cells
  obtain ⟨r, h1, h2⟩ := wk_0 C n 0 (by omega)
  have hl := C.len
  have hf : Ev (fun k => serial_table_weak.f k t) r := by
    refine h1.congr (fun k => ?_)
    unfold serial_table_weak.f; rw [hl]; rfl
  have hw : Ev (fun k => serial_Weak.f k t) (if r.2.2.2 then (r.1, r.2.1, r.2.2.1, 0) else (0, 0, 0, 6)) := by
    refine Ev.congr (f := fun k => (serial_table_weak.f k t).bind fun bt232 => (if bt232.2.2.2 = true then (some (bt232.1, bt232.2.1, bt232.2.2.1, 0)) else (some (0, 0, 0, 6)))) (fun k => ?_) (Ev.bind hf ?_)
    · unfold serial_Weak.f serial_isTable.f; rw [isTabOk ht]; rfl
    · cases r.2.2.2 with
      | true => exact Ev.now _
      | false => exact Ev.now _
  cases hr : r.2.2.2 with
  | true => rw [hr] at hw; exact ⟨_, _, _, _, hw, fun h => by cases h⟩
  | false =>
    rw [hr] at hw
    refine ⟨_, _, _, _, hw, fun _ x c d x0 x1 c0 c1 d0 d1 he => ?_⟩
    obtain ⟨x, rfl⟩ : ∃ m : Nat, x = m := ⟨x.toNat, by omega⟩
    obtain ⟨c, rfl⟩ : ∃ m : Nat, c = m := ⟨c.toNat, by omega⟩
    obtain ⟨d, rfl⟩ : ∃ m : Nat, d = m := ⟨d.toNat, by omega⟩
    rw [C.at_ x c (by omega) (by omega), C.at_ x d (by omega) (by omega)] at he
    rcases Nat.lt_trichotomy c d with h | h | h
    · exact absurd he (h2 hr x (Nat.zero_le _) (by omega) c (by omega) d h (by omega))
    · rw [h]
    · exact absurd he.symm (h2 hr x (Nat.zero_le _) (by omega) d (by omega) c h (by omega))
/-- Every error changes the number. -/
theorem errs_ne {l : List Int} {n kd : Nat} (hk : kd < 4) {m : List Int} (h : m ∈ errsOf kd l n) : m ≠ l := by
  unfold errsOf errTo at h
  obtain ⟨i, hi, hm⟩ := List.mem_flatMap.1 h
  have hi := List.mem_range.1 hi
  have ho := (errN_off kd l.length hk i).1 hi
  have key : ∀ (x : Int) (l2 : List Int), l2[i]? = some x → x ≠ rd l (i : Int) → l2 ≠ l := by
    intro x l2 h1 h2 e
    subst e
    rw [List.getElem?_eq_getElem (by omega)] at h1
    injection h1 with h1
    rw [rd_nat l2 i (by omega)] at h2
    exact h2 h1.symm
  have hc : kd = 0 ∨ kd = 1 ∨ kd = 2 ∨ kd = 3 := by omega
  rcases hc with rfl | rfl | rfl | rfl
  · simp only [offK] at ho
    obtain ⟨x, hx, hm⟩ := List.mem_flatMap.1 hm
    split at hm
    · simp at hm
    · rename_i he
      rw [List.mem_singleton] at hm
      subst hm
      rw [with1 l i _ (by omega)]
      exact key (x : Int) _ (by simp [show i < l.length by omega]) he
  · simp only [offK] at ho
    simp only [errAt] at hm
    split at hm
    · simp at hm
    · rename_i he
      rw [List.mem_singleton] at hm
      subst hm
      rw [with2 l i _ _ (by omega)]
      exact key (rd l ((i + 1 : Nat) : Int)) _ (by rw [List.getElem?_set_ne (by omega), List.getElem?_set_self (by omega)]) (fun h => he h.symm)
  · simp only [offK] at ho
    obtain ⟨x, hx, hm⟩ := List.mem_flatMap.1 hm
    split at hm
    · split at hm
      · simp at hm
      · rename_i he1 he
        rw [List.mem_singleton] at hm
        subst hm
        rw [with2 l i _ _ (by omega)]
        exact key (x : Int) _ (by rw [List.getElem?_set_ne (by omega), List.getElem?_set_self (by omega)]) (by rw [he1]; exact he)
    · simp at hm
  · simp only [offK] at ho
    simp only [errAt] at hm
    split at hm
    · simp at hm
    · rename_i he
      rw [List.mem_singleton] at hm
      subst hm
      rw [with3 l i _ _ (by omega)]
      exact key (rd l ((i + 2 : Nat) : Int)) _ (by rw [List.getElem?_set_ne (by omega), List.getElem?_set_self (by omega)]) (fun h => he h.symm)
theorem digs_take' {l : List Int} {n : Int} (h : digs l n = true) (i : Nat) : digs (l.take i) n = true := by
  rw [digs_iff] at h ⊢; exact fun x hx => h x (List.mem_of_mem_take hx)
theorem digs_drop' {l : List Int} {n : Int} (h : digs l n = true) (i : Nat) : digs (l.drop i) n = true := by
  rw [digs_iff] at h ⊢; exact fun x hx => h x (List.mem_of_mem_drop hx)
/-- A single error changes the trace. -/
theorem single_trace {t : List (List Int)} (ht : TabOk t) {l m : List Int} (hd : digs l t.length = true) (h : m ∈ errsOf 0 l t.length) : traceP t 0 m ≠ traceP t 0 l := by
  unfold errsOf errTo at h
  obtain ⟨i, hi, hm⟩ := List.mem_flatMap.1 h
  have hi := List.mem_range.1 hi
  simp only [errN] at hi
  obtain ⟨x, hx, hm⟩ := List.mem_flatMap.1 hm
  have hx := List.mem_range.1 hx
  split at hm
  · simp at hm
  · rename_i he
    rw [List.mem_singleton] at hm
    subst hm
    intro e
    have hr := rd_digs hd i hi
    rw [with1 l i _ hi, set_one l i hi] at e
    rw [rd_nat l i hi] at he hr
    have e2 : traceP t 0 (l.take i ++ (x : Int) :: l.drop (i + 1)) = traceP t 0 (l.take i ++ l[i] :: l.drop (i + 1)) := by rw [e, ← split_one l i hi]
    exact he ((trace_one ht _ _ _ _ (digs_take' hd i) (digs_drop' hd (i + 1)) (by omega) (by omega) hr.1 hr.2).1 e2)
/-- Where no place is weak, an exchange of neighbors changes the trace. -/
theorem neighbor_trace {t : List (List Int)} (ht : TabOk t) (hw : ∀ x c d : Int, 0 ≤ x → x < t.length → 0 ≤ c → c < t.length → 0 ≤ d → d < t.length → rd (rd_L1 t (rd (rd_L1 t x) c)) d = rd (rd_L1 t (rd (rd_L1 t x) d)) c → c = d) {l m : List Int} (hd : digs l t.length = true) (h : m ∈ errsOf 1 l t.length) : traceP t 0 m ≠ traceP t 0 l := by
  unfold errsOf errTo at h
  obtain ⟨i, hi, hm⟩ := List.mem_flatMap.1 h
  have hi := List.mem_range.1 hi
  simp only [errN] at hi
  simp only [errAt] at hm
  split at hm
  · simp at hm
  · rename_i he
    rw [List.mem_singleton] at hm
    subst hm
    intro e
    have h0 := rd_digs hd i (by omega)
    have h1 := rd_digs hd (i + 1) (by omega)
    rw [with2 l i _ _ (by omega), set_two l i (by omega)] at e
    rw [rd_nat l i (by omega)] at he h0 e
    rw [rd_nat l (i + 1) (by omega)] at he h1 e
    have e2 : traceP t 0 (l.take i ++ l[i + 1] :: l[i] :: l.drop (i + 2)) = traceP t 0 (l.take i ++ l[i] :: l[i + 1] :: l.drop (i + 2)) := by rw [e, ← split_two l i (by omega)]
    exact he ((trace_two ht _ _ _ _ (digs_take' hd i) (digs_drop' hd (i + 2)) h1.1 h1.2 h0.1 h0.2 (fun x x0 x1 hh => hw x _ _ x0 x1 h1.1 h1.2 h0.1 h0.2 hh)).1 e2).symm
end Go.Proofs.Ytdkncfmlehcjmaa.X
end

section
/- SerialKinds: Miss has nothing for single errors, nothing for neighbors where no place is weak, and what it returns are two different sound numbers of the same length. -/
set_option linter.unusedVariables false
set_option linter.unusedSimpArgs false
namespace Go.Proofs.Ytdkncfmlehcjmaa.X
open Go.RowKit Go.Proofs.YtdkncfmlehcjmaaW.PrintWords
theorem missV_0 {t : List (List Int)} (ht : TabOk t) : missV t 0 = ([], [], 6) := by
  rcases missV_cases ht (kd := 0) (by omega) with e | ⟨l, _, h1, h2, h3, h4, h5⟩
  · exact e
  · exact absurd (h5.trans h1.symm) (single_trace ht h2 h4)
theorem missV_1 {t : List (List Int)} (ht : TabOk t) (hw : ∀ x c d : Int, 0 ≤ x → x < t.length → 0 ≤ c → c < t.length → 0 ≤ d → d < t.length → rd (rd_L1 t (rd (rd_L1 t x) c)) d = rd (rd_L1 t (rd (rd_L1 t x) d)) c → c = d) : missV t 1 = ([], [], 6) := by
  rcases missV_cases ht (kd := 1) (by omega) with e | ⟨l, _, h1, h2, h3, h4, h5⟩
  · exact e
  · exact absurd (h5.trans h1.symm) (neighbor_trace ht hw h2 h4)
theorem ev_kinds_j0 {t : List (List Int)} (ht : TabOk t) (h6 : t.length ≤ 6) {kd : Nat} (hk : kd < 4) : Ev (fun k => tickinglaw11_SerialKinds.j0 k kd t false) true := by
  refine Ev.step (fun k => by simp only [tickinglaw11_SerialKinds.j0]; rfl) ?_
  rw [miss_yes (isTabOk ht) h6 hk]
  simp only [Option.bind_some, Bool.false_eq_true, if_false]
  rcases missV_cases ht hk with e | ⟨l, e, h1, h2, h3, h4, h5⟩
  · rw [e]; simp; exact ev_awake
  · rw [e]
    obtain ⟨m, hm⟩ : ∃ m, bestOf t (errsOf kd l t.length) = m := ⟨_, rfl⟩
    rw [hm] at h4 h5 ⊢
    have hok := errs_ok h2 hk m h4
    have hne := errs_ne hk h4
    simp only [if_true]
    refine Ev.bind (ev_sTrace' ht l h2 (by omega)) (Ev.bind (ev_sTrace' ht m hok.1 (by omega)) ?_)
    have hi := ev_ints l m (by omega)
    rw [decide_eq_false (fun e => hne e.symm)] at hi
    simp only [h1, h5, if_true, hok.2, show (l.length : Int) ≤ 5 by omega]
    refine Ev.bind hi ?_
    simp; exact ev_awake
theorem ev_SerialKinds (l0 : List (List Int)) (a1 : Int) (hl : l0.length ≤ maxLen) : Ev (fun k => tickinglaw11_SerialKinds.f k l0 a1) true := by
  obtain ⟨t, ht, h5, htm⟩ := ev_tame l0 5 (by omega) (by omega) hl
  have hmod := modN_in a1 4 (by omega)
  obtain ⟨kd, hkd⟩ : ∃ kd : Nat, modN a1 4 = kd := ⟨(modN a1 4).toNat, by omega⟩
  refine Ev.bind htm ?_
  rw [mod_eq a1 4 (by omega) (by omega), hkd]
  have m0 : serial_Miss.f t 0 = some (missV t 0) := miss_yes (kd := 0) (isTabOk ht) (by omega) (by omega)
  have m1 : serial_Miss.f t 1 = some (missV t 1) := miss_yes (kd := 1) (isTabOk ht) (by omega) (by omega)
  rw [m0, m1, missV_0 ht]
  simp only [Option.bind_some, if_true]
  obtain ⟨a, b, c, e, hw, hm⟩ := ev_sWeak_means ht
  have hj := ev_kinds_j0 ht (by omega) (kd := kd) (by omega)
  refine Ev.bind hw ?_
  by_cases he : e = 6
  · rw [missV_1 ht (hm he)]
    simp only [he, if_true]
    exact hj
  · simp only [he, if_false]
    exact hj
end Go.Proofs.Ytdkncfmlehcjmaa.X
namespace Go.Proofs.Ytdkncfmlehcjmaa.Pure
open Go.Proofs.Ytdkncfmlehcjmaa.X Go.Proofs.YtdkncfmlehcjmaaW.PrintWords
theorem SerialKinds : ∀ (l0 : List (List Int)) (a1 : Int), l0.length ≤ maxLen → (∀ r ∈ l0, ∀ x ∈ r, (Lit.int .i64 x).wf = true) → (Lit.int .i64 a1).wf = true → ∃ k, tickinglaw11_SerialKinds.f k l0 a1 = some true := fun l0 a1 h _ _ => by
  obtain ⟨k, hk⟩ := ev_SerialKinds l0 a1 h
  exact ⟨k, hk k (Nat.le_refl _)⟩
end Go.Proofs.Ytdkncfmlehcjmaa.Pure
end
