/- Texts behind SerialOwn, part 33: contracts of the program's functions and the plain words for them. -/
import Derived.Deep.Matrix
import Derived.ProofKit
import Derived.OpenShut
import Derived.Lib.SmallJoins
import Derived.Test.YtdkncfmlehcjmaaTpaa
import Derived.Test.YtdkncfmlehcjmaaTpat
import Derived.Test.YtdkncfmlehcjmaaTpax
import Derived.Test.YtdkncfmlehcjmaaTpba
import Derived.Test.YtdkncfmlehcjmaaTpbb
import Derived.Test.YtdkncfmlehcjmaaTpbc
import Derived.Test.YtdkncfmlehcjmaaTpbd
import Derived.Test.YtdkncfmlehcjmaaTpbe
import Derived.Test.YtdkncfmlehcjmaaTpbf
section
/- Arguments as they come in, opened for the printed functions: a slice of ints, a slice of slices of ints, an array of two ints. -/
set_option linter.unusedVariables false
set_option linter.unusedSimpArgs false
namespace Go.Proofs.Ytdkncfmlehcjmaa.X
open Go.ChangeShapes Go.WideShapes Go.ChangeAt Go.RowKit Go.Proofs.YtdkncfmlehcjmaaW.PrintWords
section
variable {H : Type} {enc : TypeId × Value → H} {P : Program} {W : World} {base : Nat}
theorem open_sl {t e : TypeId} {k : IntKind} {v : Value} {d : DataW H} {p : List MemPlace} (ht : P.underlying t = some (.slice e)) (he : P.underlying e = some (.int k)) (ce : P.cellsOf e = 1)
    (hv : Value.okWide P W .any base t v) (h : DataW.Trod enc P W 0 (fun _ => true) true t v d p) :
    ∃ (a : Option Addr) (l : List Int) (cap : Nat), v = .slice a l.length cap ∧ l.length ≤ cap ∧ Kd.C (Kd.int k) W a l.length l ∧ l.length ≤ maxLen ∧ ∀ x ∈ l, (Lit.int k x).wf = true := by
  obtain ⟨a, len, cap, rfl⟩ := okWide_slice ht hv
  obtain ⟨fuel, hf⟩ := h
  have hz : ∃ zs : List Int, (a = none ∧ len = 0 ∧ cap = 0 ∧ zs = []) ∨ ∃ x, a = some x ∧ len ≤ cap ∧ cap ≤ maxLen ∧ zs.length = cap ∧ (∀ i, i < zs.length → W.cell? (x.add i) = some (.int k (zs.getD i 0))) ∧ ∀ n ∈ zs, (Lit.int k n).wf = true := by
    rcases open_ints ht he ce hf with ⟨hcs, _⟩ | ⟨x, l, c, zs, hcs, _, hl, hm, hz, _, hcell, hwz⟩
    · simp [Value.cells] at hcs
      obtain ⟨rfl, rfl, rfl⟩ := hcs
      exact ⟨[], .inl ⟨rfl, rfl, rfl, rfl⟩⟩
    · simp [Value.cells] at hcs
      obtain ⟨rfl, rfl, rfl⟩ := hcs
      exact ⟨zs, .inr ⟨_, rfl, hl, hm, by simpa using hz, hcell, hwz⟩⟩
  obtain ⟨zs, hz⟩ := hz
  obtain ⟨l, rfl, h1, h2, h3, h4⟩ := ReadsInt.ofRowC hz
  exact ⟨a, l, cap, rfl, h4, Kd.C_of_reads (d := (0 : Int)) (h1 := fun _ => rfl) h1, h2, h3⟩
theorem open_ssl {t e q : TypeId} {k : IntKind} {v : Value} {d : DataW H} {p : List MemPlace} (ht : P.underlying t = some (.slice e)) (he : P.underlying e = some (.slice q)) (hq : P.underlying q = some (.int k)) (ce : P.cellsOf e = 1) (cq : P.cellsOf q = 1)
    (hv : Value.okWide P W .any base t v) (h : DataW.Trod enc P W 0 (fun _ => true) true t v d p) :
    ∃ (a : Option Addr) (l : List (List Int)) (cap : Nat), v = .slice a l.length cap ∧ l.length ≤ cap ∧ Kd.C (Kd.slice q (Kd.int k)) W a l.length l ∧ l.length ≤ maxLen ∧ ∀ r ∈ l, ∀ x ∈ r, (Lit.int k x).wf = true := by
  obtain ⟨a, len, cap, rfl⟩ := okWide_slice ht hv
  obtain ⟨fuel, hf⟩ := h
  rcases Go.Deep.open_int_rows ht he hq ce cq hf with ⟨hcs, _⟩ | ⟨a', len', cap', A, L, C, Z, hcs, _, hl, hm, _, hrow⟩
  · simp [Value.cells] at hcs
    obtain ⟨rfl, rfl, rfl⟩ := hcs
    exact ⟨none, [], 0, rfl, Nat.le_refl _, Kd.C_nil _ _, Nat.zero_le _, by simp⟩
  · simp [Value.cells] at hcs
    obtain ⟨rfl, rfl, rfl⟩ := hcs
    have hlen : ((List.range len).map fun r => (Z r).take (L r)).length = len := by simp
    refine ⟨some a', (List.range len).map fun r => (Z r).take (L r), cap, by rw [hlen], by rw [hlen]; exact hl, ?_, by rw [hlen]; exact Nat.le_trans hl hm, ?_⟩
    · refine ⟨rfl, by rw [hlen]; have := Nat.le_trans hl hm; simpa [maxLen] using this, fun hn => ⟨a', rfl, fun j pp hj => ?_⟩⟩
      rw [hlen] at hn
      have hj' : j < len := by
        rcases Nat.lt_or_ge j len with h | h
        · exact h
        · rw [List.getElem?_eq_none (by rw [hlen]; exact h)] at hj; cases hj
      rw [List.getElem?_eq_getElem (by rw [hlen]; exact hj')] at hj
      simp at hj
      subst hj
      obtain ⟨c0, c1, c2, c3, c4, c5, c6⟩ := hrow j (by omega)
      have hL : ((Z j).take (L j)).length = L j := by rw [List.length_take]; omega
      refine ⟨[.slice (A j) (L j) (C j)], rfl, ⟨A j, C j, by rw [hL], by rw [hL]; exact c1, ?_⟩, fun i u hu => ?_⟩
      · refine Kd.C_of_reads (d := (0 : Int)) (h1 := fun _ => rfl) ⟨rfl, by rw [hL]; have := Nat.le_trans c1 c2; simpa [maxLen] using this, fun hp => ?_⟩
        rw [hL] at hp
        cases hA : A j with
        | none => have := c5 hA; omega
        | some a2 =>
          refine ⟨a2, rfl, fun i hi => ?_⟩
          rw [hL] at hi
          rw [(c6 a2 hA).2 i (by omega)]
          simp [List.getD, List.getElem?_take, hi]
      · cases i with
        | zero =>
          have e : u = .slice (A j) (L j) (C j) := by simpa using hu.symm
          subst e
          show W.cell? (a'.add (j * 1 + 0)) = _
          rw [Nat.mul_one, Nat.add_zero]; exact c0
        | succ i => simp at hu
    · intro r hr x hx
      simp only [List.mem_map, List.mem_range] at hr
      obtain ⟨j, hj, rfl⟩ := hr
      obtain ⟨_, _, _, _, c4, _⟩ := hrow j (by omega)
      exact c4 x (List.mem_of_mem_take hx)
end
end Go.Proofs.Ytdkncfmlehcjmaa.X
end

section
/- The reference's Miss in plain words: it goes through the same numbers, and finds the same first error. -/
set_option linter.unusedVariables false
set_option linter.unusedSimpArgs false
namespace Go.Proofs.Ytdkncfmlehcjmaa.X
open Go.RowKit Go.Proofs.YtdkncfmlehcjmaaW.PrintWords
theorem lex_trans : ∀ (a b c : List Int), lexLt a b = true → lexLt b c = true → lexLt a c = true
  | [], _, _, h, _ => by simp [lexLt] at h
  | _ :: _, [], _, h, _ => by simp [lexLt] at h
  | _ :: _, _ :: _, [], _, h => by simp [lexLt] at h
  | x :: a, y :: b, z :: c, h1, h2 => by
    simp only [lexLt] at h1 h2 ⊢
    by_cases e1 : x = y
    · subst e1
      rw [if_pos rfl] at h1
      by_cases e2 : x = z
      · rw [if_pos e2] at h2 ⊢; exact lex_trans a b c h1 h2
      · rw [if_neg e2] at h2 ⊢; exact h2
    · rw [if_neg e1] at h1
      by_cases e2 : y = z
      · subst e2; rw [if_neg e1]; exact h1
      · rw [if_neg e2] at h2
        have := of_decide_eq_true h1
        have := of_decide_eq_true h2
        rw [if_neg (by omega)]; exact decide_eq_true (by omega)
/-- What the best is: none, or the least. -/
def IsBest (t es : List (List Int)) (b : List Int) : Prop := (b = [] ∧ ∀ m ∈ es, traceP t 0 m ≠ 0) ∨ (b ∈ es ∧ traceP t 0 b = 0 ∧ ∀ m ∈ es, traceP t 0 m = 0 → lexLt m b = false)
theorem best_is (t : List (List Int)) : ∀ (es : List (List Int)), (∀ m ∈ es, m ≠ []) → IsBest t es (bestOf t es) := by
  have gen : ∀ (es done : List (List Int)) (b : List Int), (∀ m ∈ done ++ es, m ≠ []) → IsBest t done b → IsBest t (done ++ es) (es.foldl (bstep t) b) := by
    intro es
    induction es with
    | nil => intro done b _ h; simpa using h
    | cons e es ih =>
      intro done b hne hb
      rw [List.foldl_cons]
      have := ih (done ++ [e]) (bstep t b e) (by simpa using hne) ?_
      · simpa using this
      · unfold bstep
        by_cases h : traceP t 0 e = 0 ∧ (b = [] ∨ lexLt e b = true)
        · rw [if_pos h]
          refine .inr ⟨by simp, h.1, fun m hm h0 => ?_⟩
          rcases List.mem_append.1 hm with hm | hm
          · rcases hb with ⟨rfl, hb⟩ | ⟨hb1, hb2, hb3⟩
            · exact absurd h0 (hb m hm)
            · have hb0 : b ≠ [] := hne b (by simp [hb1])
              have hlt := h.2.resolve_left hb0
              cases hc : lexLt m e with
              | false => rfl
              | true => have := lex_trans m e b hc hlt; rw [hb3 m hm h0] at this; cases this
          · rw [List.mem_singleton] at hm
            subst hm
            have irr : ∀ (a : List Int), lexLt a a = false := by
              intro a
              induction a with
              | nil => rfl
              | cons x a ih => simp [lexLt, ih]
            exact irr m
        · rw [if_neg h]
          rcases hb with ⟨rfl, hb⟩ | ⟨hb1, hb2, hb3⟩
          · refine .inl ⟨rfl, fun m hm => ?_⟩
            rcases List.mem_append.1 hm with hm | hm
            · exact hb m hm
            · rw [List.mem_singleton] at hm; subst hm; exact fun h0 => h ⟨h0, .inl rfl⟩
          · refine .inr ⟨by simp [hb1], hb2, fun m hm h0 => ?_⟩
            rcases List.mem_append.1 hm with hm | hm
            · exact hb3 m hm h0
            · rw [List.mem_singleton] at hm
              subst hm
              cases hc : lexLt m b with
              | false => rfl
              | true => exact absurd ⟨h0, .inr hc⟩ h
  intro es hne
  have := gen es [] [] (by simpa using hne) (.inl ⟨rfl, by simp⟩)
  simpa [bestOf] using this
def digN (n : Nat) : Nat → Nat → List Int
  | 0, _ => []
  | s + 1, v => digN n s (v / n) ++ [((v % n : Nat) : Int)]
theorem ext_last (n : Nat) (s : Nat) : ∀ p, ext n (s + 1) p = (ext n s p).flatMap fun q => (List.range n).map fun (d : Nat) => q ++ [(d : Int)] := by
  induction s with
  | zero =>
    intro p
    simp only [ext, List.flatMap_cons, List.flatMap_nil, List.append_nil]
    induction List.range n with
    | nil => rfl
    | cons x xs ih => simp [ih]
  | succ s ih =>
    intro p
    rw [ext, show (fun (d : Nat) => ext n (s + 1) (p ++ [(d : Int)])) = fun (d : Nat) => (ext n s (p ++ [(d : Int)])).flatMap fun q => (List.range n).map fun (d : Nat) => q ++ [(d : Int)] from funext fun d => ih _]
    rw [ext, List.flatMap_assoc]
theorem range_mul (a n : Nat) : List.range (a * n) = (List.range a).flatMap fun v => (List.range n).map fun d => v * n + d := by
  induction a with
  | zero => simp
  | succ a ih =>
    rw [List.range_succ, List.flatMap_append, ← ih, Nat.add_mul, Nat.one_mul, List.range_add]
    simp
theorem ext_dig (n : Nat) (hn : 0 < n) (s : Nat) : ext n s [] = (List.range (n ^ s)).map (digN n s) := by
  induction s with
  | zero => simp [ext, digN]
  | succ s ih =>
    rw [ext_last, ih, Nat.pow_succ, range_mul, List.map_flatMap, List.flatMap_map]
    congr 1
    funext v
    rw [List.map_map]
    refine List.map_congr_left fun d hd => ?_
    have hd := List.mem_range.1 hd
    show _ = digN n s ((v * n + d) / n) ++ [(((v * n + d) % n : Nat) : Int)]
    rw [Nat.mul_comm v n, Nat.mul_add_div hn, Nat.div_eq_of_lt hd, Nat.add_zero, Nat.mul_add_mod, Nat.mod_eq_of_lt hd]
theorem digN_len (n s : Nat) : ∀ v, (digN n s v).length = s := by
  induction s with
  | zero => intro v; rfl
  | succ s ih => intro v; simp [digN, ih]
theorem digN_digs (n : Nat) (hn : 0 < n) (s : Nat) : ∀ v, digs (digN n s v) n = true := by
  induction s with
  | zero => intro v; rfl
  | succ s ih => intro v; exact digs_snoc (ih _) _ (Nat.mod_lt _ hn)
end Go.Proofs.Ytdkncfmlehcjmaa.X
end

section
/- What errors make of a number, as changed digits; what Miss finds. -/
set_option linter.unusedVariables false
set_option linter.unusedSimpArgs false
namespace Go.Proofs.Ytdkncfmlehcjmaa.X
open Go.RowKit Go.Proofs.YtdkncfmlehcjmaaW.PrintWords
theorem miss_yes {t : List (List Int)} {kd : Nat} (h : isTab t = true) (h6 : t.length ≤ 6) (hk : kd < 4) : serial_Miss.f t kd = some (missV t kd) := by
  unfold serial_Miss.f; rw [if_pos ⟨h, h6, by omega, by omega⟩]; rfl
theorem find_mem {t : List (List Int)} {kd : Nat} {l : List Int} (h : (allTo t.length 6).find? (goodM t kd) = some l) : goodM t kd l = true ∧ l ∈ allTo t.length 6 := ⟨List.find?_some h, List.mem_of_find?_eq_some h⟩
theorem allTo_ok {n : Nat} (hn : 0 < n) {l : List Int} (h : l ∈ allTo n 6) : digs l n = true ∧ l.length ≤ 5 := by
  unfold allTo at h
  obtain ⟨s, hs, h⟩ := List.mem_flatMap.1 h
  have hs := List.mem_range.1 hs
  rw [ext_dig n hn] at h
  obtain ⟨v, _, rfl⟩ := List.mem_map.1 h
  exact ⟨digN_digs n hn s v, by rw [digN_len]; omega⟩
/-- Either there is none, or there are two numbers that are as they should be. -/
theorem missV_cases {t : List (List Int)} (ht : TabOk t) {kd : Nat} (hk : kd < 4) : missV t kd = ([], [], 6) ∨ ∃ l, missV t kd = (l, bestOf t (errsOf kd l t.length), 0) ∧ traceP t 0 l = 0 ∧ digs l t.length = true ∧ l.length ≤ 5 ∧ bestOf t (errsOf kd l t.length) ∈ errsOf kd l t.length ∧ traceP t 0 (bestOf t (errsOf kd l t.length)) = 0 := by
  have hn : 0 < t.length := by have := ht.1; omega
  unfold missV
  cases h : (allTo t.length 6).find? (goodM t kd) with
  | none => exact .inl rfl
  | some l =>
    obtain ⟨h1, h2⟩ := find_mem h
    obtain ⟨h3, h4⟩ := allTo_ok hn h2
    unfold goodM at h1
    rw [Bool.and_eq_true, decide_eq_true_eq] at h1
    refine .inr ⟨l, rfl, h1.1, h3, h4, ?_⟩
    have hb := best_is t (errsOf kd l t.length) (fun m hm e => by have := (errs_ok h3 hk m hm).2; have := errs_pos m hm; subst e; simp at *; omega)
    rcases hb with ⟨e, _⟩ | ⟨e1, e2, _⟩
    · rw [e] at h1; simp at h1
    · exact ⟨e1, e2⟩
end Go.Proofs.Ytdkncfmlehcjmaa.X
end

section
/- Numbers and tables made from whatever comes in: mod, digits, tame. -/
set_option linter.unusedVariables false
set_option linter.unusedSimpArgs false
namespace Go.Proofs.Ytdkncfmlehcjmaa.X
open Go.RowKit Go.Proofs.YtdkncfmlehcjmaaW.PrintWords

theorem wrap_u64 (x : Int) : IntKind.u64.wrap x = x % 18446744073709551616 := by
  simp [IntKind.wrap, IntKind.bits, IntKind.signed]
def modN (x n : Int) : Int := (x % 18446744073709551616) % n
theorem modN_in (x n : Int) (h : 1 ≤ n) : 0 ≤ modN x n ∧ modN x n < n := by
  unfold modN; exact ⟨Int.emod_nonneg _ (by omega), Int.emod_lt_of_pos _ (by omega)⟩
theorem mod_eq (x n : Int) (h : 1 ≤ n) (h2 : n ≤ 1000000) : tickinglaw11_mod.f x n = some (modN x n) := by
  unfold tickinglaw11_mod.f
  have hn : IntKind.u64.wrap n = n := by rw [wrap_u64]; omega
  have hx0 : 0 ≤ x % 18446744073709551616 := Int.emod_nonneg _ (by omega)
  have := modN_in x n h
  rw [hn, if_neg (by omega), wrap_u64, Int.tmod_eq_emod_of_nonneg hx0]
  unfold modN at this ⊢
  rw [w64 (by omega) (by omega)]
def digitsOf (l : List Int) (most : Nat) (n : Int) : List Int := (l.take most).map fun d => modN d n
theorem ev_digits_l (l : List Int) (most : Nat) (n : Int) (hm : most ≤ 1000) (h : 1 ≤ n) (h2 : n ≤ 1000000) (d : Nat) : ∀ i, i + d = l.length → Ev (fun k => tickinglaw11_digits.l0 k l most n ((l.take (min i most)).map fun d => modN d n) (min i most : Nat)) (digitsOf l most n) := by
  induction d with
  | zero =>
    intro i hi
    refine Ev.step (f := fun _ => some (digitsOf l most n)) (fun k => ?_) (Ev.now _)
    simp only [tickinglaw11_digits.l0]
    by_cases h : i < most
    · rw [show min i most = i by omega, if_neg (by omega)]
      unfold digitsOf; rw [List.take_of_length_le (by omega), List.take_of_length_le (by omega)]
    · rw [show min i most = most by omega]
      by_cases h2 : l.length = most
      · rw [if_neg (by omega)]; rfl
      · rw [if_pos (by omega), if_neg (by omega)]; rfl
  | succ d ih =>
    intro i hi
    by_cases h : i < most
    · have h1 := ih (i + 1) (by omega)
      rw [show min (i + 1) most = i + 1 by omega] at h1
      rw [show min i most = i by omega]
      refine Ev.step (fun k => ?_) h1
      simp only [tickinglaw11_digits.l0]
      rw [if_pos (by omega), if_pos (by omega), if_pos (by omega), rd_nat l i (by omega), mod_eq _ _ (by omega) h2]
      simp only [Option.bind_some]
      have hc : ((l.take i).map fun d => modN d n).length < 17592186044416 := by rw [List.length_map, List.length_take]; omega
      rw [if_pos hc, w64 (by omega) (by omega), List.take_succ_eq_append_getElem (show i < l.length by omega), List.map_append]; rfl
    · have h1 := ih (i + 1) (by omega)
      rw [show min (i + 1) most = most by omega] at h1
      rw [show min i most = most by omega]
      exact h1
theorem ev_digits (l : List Int) (most : Nat) (n : Int) (hm : most ≤ 1000) (h : 1 ≤ n) (h2 : n ≤ 1000000) : Ev (fun k => tickinglaw11_digits.f k l most n) (digitsOf l most n) := by
  have := ev_digits_l l most n hm h h2 l.length 0 (by omega)
  simp only [Nat.zero_le, Nat.min_eq_left, List.take_zero, List.map_nil] at this
  exact this
theorem digitsOf_len (l : List Int) (most : Nat) (n : Int) : (digitsOf l most n).length ≤ most := by simp [digitsOf]; omega
theorem digitsOf_digs (l : List Int) (most : Nat) (n : Int) (h : 1 ≤ n) : digs (digitsOf l most n) n = true := by
  unfold digs digitsOf
  rw [List.all_eq_true]
  intro x hx
  simp only [List.mem_map] at hx
  obtain ⟨y, _, rfl⟩ := hx
  have := modN_in y n h
  simpa using this

/-- The numbers from 0 to n - 1 in some order. -/
def Order (names : List Int) (n : Nat) : Prop := names.length = n ∧ names.Nodup ∧ ∀ x ∈ names, 0 ≤ x ∧ x < n
theorem order_in {names : List Int} {i : Nat} (h : Order names i) (at_ : Nat) (ha : at_ ≤ i) : Order (names.take at_ ++ [(i : Int)] ++ names.drop at_) (i + 1) := by
  obtain ⟨h1, h2, h3⟩ := h
  refine ⟨by simp; omega, ?_, ?_⟩
  · have hp : (names.take at_ ++ [(i : Int)] ++ names.drop at_).Perm ((i : Int) :: names) := by
      have : names.take at_ ++ [(i : Int)] ++ names.drop at_ = names.take at_ ++ (i : Int) :: names.drop at_ := by simp
      rw [this]
      refine List.perm_middle.trans ?_
      rw [List.take_append_drop]
    rw [hp.nodup_iff, List.nodup_cons]
    exact ⟨fun hm => by have := h3 _ hm; omega, h2⟩
  · intro x hx
    simp only [List.mem_append, List.mem_singleton] at hx
    rcases hx with (hx | rfl) | hx
    · have := h3 x (List.mem_of_mem_take hx); omega
    · omega
    · have := h3 x (List.mem_of_mem_drop hx); omega
def orderRow (names : List Int) (n : Nat) (i : Int) : List Int := (List.range n).map fun (j : Nat) => rd names ((rd names i + (j : Int)) % (n : Int))
def orderT (names : List Int) (n : Nat) : List (List Int) := (List.range n).map fun (i : Nat) => orderRow names n (i : Int)
theorem order_rd {names : List Int} {n : Nat} (h : Order names n) (i : Int) (h0 : 0 ≤ i) (h1 : i < n) : 0 ≤ rd names i ∧ rd names i < n := by
  have hi : i.toNat < names.length := by have := h.1; omega
  have e := rd_nat names i.toNat hi
  rw [Int.toNat_of_nonneg h0] at e
  rw [e]; exact h.2.2 _ (List.getElem_mem hi)
theorem order_inj {names : List Int} {n : Nat} (h : Order names n) (i j : Int) (h0 : 0 ≤ i) (h1 : i < n) (j0 : 0 ≤ j) (j1 : j < n) (e : rd names i = rd names j) : i = j := by
  have hi : i.toNat < names.length := by have := h.1; omega
  have hj : j.toNat < names.length := by have := h.1; omega
  have ei := rd_nat names i.toNat hi
  have ej := rd_nat names j.toNat hj
  rw [Int.toNat_of_nonneg h0] at ei
  rw [Int.toNat_of_nonneg j0] at ej
  rw [ei, ej] at e
  have := (List.getElem_inj h.2.1).1 e
  omega
theorem orderT_len (names : List Int) (n : Nat) : (orderT names n).length = n := by simp [orderT]
theorem orderT_rd2 (names : List Int) (n : Nat) (i j : Nat) (hi : i < n) (hj : j < n) : rd2 (orderT names n) i j = rd names ((rd names (i : Int) + (j : Int)) % (n : Int)) := by
  unfold rd2
  rw [rdL_nat _ i (by simp [orderT]; omega)]
  have : (orderT names n)[i]'(by simp [orderT]; omega) = orderRow names n i := by simp [orderT]
  rw [this, rd_nat _ j (by simp [orderRow]; omega)]
  simp [orderRow]
theorem add_mod_inj {n a b c : Int} (hn : 0 < n) (ha0 : 0 ≤ a) (ha1 : a < n) (hb0 : 0 ≤ b) (hb1 : b < n) (e : (a + c) % n = (b + c) % n) : a = b := by
  have h : (a + c - (b + c)) % n = 0 := Int.emod_eq_emod_iff_emod_sub_eq_zero.1 e
  have h2 : (a - b) % n = 0 := by rw [show a - b = a + c - (b + c) by omega]; exact h
  obtain ⟨q, hq⟩ := Int.dvd_of_emod_eq_zero h2
  by_cases hq0 : q = 0
  · subst hq0; omega
  · exfalso
    rcases Int.lt_or_gt_of_ne hq0 with hl | hg
    · have : n * q ≤ n * (-1) := Int.mul_le_mul_of_nonneg_left (by omega) (by omega)
      omega
    · have : n * 1 ≤ n * q := Int.mul_le_mul_of_nonneg_left (by omega) (by omega)
      omega
theorem orderT_ok {names : List Int} {n : Nat} (h : Order names n) (h1 : 2 ≤ n) (h2 : n ≤ 12) : TabOk (orderT names n) := by
  have hl := orderT_len names n
  rw [tabOk_iff, hl]
  have hm : ∀ x : Int, 0 ≤ x % (n : Int) ∧ x % (n : Int) < n := fun x => ⟨Int.emod_nonneg _ (by omega), Int.emod_lt_of_pos _ (by omega)⟩
  refine ⟨h1, h2, fun a ha => ⟨?_, fun b hb => ?_⟩, ?_⟩
  · rw [rdL_nat _ a (by omega)]; simp [orderT, orderRow]
  · rw [hl] at hb ⊢
    rw [orderT_rd2 names n a b ha hb]
    have := hm (rd names a + b)
    have := order_rd h _ this.1 this.2
    omega
  · intro i hi j hj k hk
    rw [hl] at hi hj
    rw [orderT_rd2 names n i k hi (by omega), orderT_rd2 names n i j hi hj, orderT_rd2 names n k i (by omega) hi, orderT_rd2 names n j i hj hi]
    constructor
    · intro e
      have := order_inj h _ _ (hm _).1 (hm _).2 (hm _).1 (hm _).2 e
      rw [Int.add_comm (rd names i), Int.add_comm (rd names i)] at this
      have := add_mod_inj (by omega) (by omega) (by omega) (by omega) (by omega) this
      omega
    · intro e
      have e2 := order_inj h _ _ (hm _).1 (hm _).2 (hm _).1 (hm _).2 e
      have rk := order_rd h (k : Int) (by omega) (by omega)
      have rj := order_rd h (j : Int) (by omega) (by omega)
      have e3 := add_mod_inj (by omega) rk.1 rk.2 rj.1 rj.2 e2
      have := order_inj h _ _ (by omega) (by omega) (by omega) (by omega) e3
      omega
theorem ev_tame_2 (names : List Int) (n : Nat) (h : Order names n) (h1 : 2 ≤ n) (h2 : n ≤ 12) (i : Nat) (hi : i < n) (rows : List (List Int)) (hr : rows.length ≤ 1000) (r : List (List Int))
    (hn : Ev (fun k => tickinglaw11_tame.l1 k n names (rows ++ [orderRow names n i]) ((i : Int) + 1)) r) (d : Nat) : ∀ j : Nat, j + d = n → Ev (fun k => tickinglaw11_tame.l2 k n names rows i ((List.range j).map fun (j : Nat) => rd names ((rd names i + (j : Int)) % (n : Int))) j) r := by
  induction d with
  | zero =>
    intro j hj
    obtain rfl : j = n := by omega
    refine Ev.step (fun q => ?_) hn
    simp only [tickinglaw11_tame.l2]
    rw [if_neg (by omega), if_pos (by omega), w64 (by omega) (by omega)]; rfl
  | succ d ih =>
    intro j hj
    have hlen := h.1
    have hri := order_rd h (i : Int) (by omega) (by omega)
    have hm : Int.tmod (wrap64 ((rd names i) + (j : Int))) (n : Int) = (rd names i + (j : Int)) % (n : Int) := by
      rw [w64 (by omega) (by omega), Int.tmod_eq_emod_of_nonneg (by omega)]
    have hb : 0 ≤ (rd names i + (j : Int)) % (n : Int) ∧ (rd names i + (j : Int)) % (n : Int) < n := ⟨Int.emod_nonneg _ (by omega), Int.emod_lt_of_pos _ (by omega)⟩
    refine Ev.step (fun q => ?_) (ih (j + 1) (by omega))
    simp only [tickinglaw11_tame.l2]
    rw [hm, if_pos (by omega), if_pos (by omega), if_pos (by omega), if_neg (by omega), if_pos hb.1, if_pos (by omega), if_pos (by simp; omega), w64 (by omega) (by omega), List.range_succ, List.map_append]; rfl
theorem ev_tame_1 (names : List Int) (n : Nat) (h : Order names n) (h1 : 2 ≤ n) (h2 : n ≤ 12) (d : Nat) : ∀ i : Nat, i + d = n → Ev (fun k => tickinglaw11_tame.l1 k n names ((List.range i).map fun (i : Nat) => orderRow names n (i : Int)) i) (orderT names n) := by
  induction d with
  | zero =>
    intro i hi
    obtain rfl : i = n := by omega
    refine Ev.step (f := fun _ => some (orderT names i)) (fun q => ?_) (Ev.now _)
    simp only [tickinglaw11_tame.l1]; rw [if_neg (by omega)]; rfl
  | succ d ih =>
    intro i hi
    have h3 := ih (i + 1) (by omega)
    rw [List.range_succ, List.map_append] at h3
    refine Ev.step (fun q => ?_) (ev_tame_2 names n h h1 h2 i (by omega) ((List.range i).map fun (i : Nat) => orderRow names n (i : Int)) (by simp; omega) _ (by simpa using h3) n 0 (by omega))
    simp only [tickinglaw11_tame.l1]; rw [if_pos (by omega)]; rfl
theorem ev_tame_0 (t : List (List Int)) (n : Nat) (h1 : 2 ≤ n) (h2 : n ≤ 12) (d : Nat) : ∀ (i : Nat) (names : List Int), i + d = n → Order names i → ∃ x, TabOk x ∧ x.length = n ∧ Ev (fun k => tickinglaw11_tame.l0 k t n names i) x := by
  induction d with
  | zero =>
    intro i names hi h
    obtain rfl : i = n := by omega
    refine ⟨orderT names i, orderT_ok h h1 h2, orderT_len _ _, Ev.step (fun q => ?_) (ev_tame_1 names i h h1 h2 i 0 (by omega))⟩
    simp only [tickinglaw11_tame.l0]; rw [if_neg (by omega)]; rfl
  | succ d ih =>
    intro i names hi h
    have hlen := h.1
    have hold : ∀ at_ : Nat, at_ ≤ i → ∃ x, TabOk x ∧ x.length = n ∧ Ev (fun k => tickinglaw11_tame.l0 k t n (names.take at_ ++ [(i : Int)] ++ names.drop at_) ((i + 1 : Nat) : Int)) x := fun at_ ha => ih (i + 1) _ (by omega) (order_in h at_ ha)
    by_cases hr : i < t.length
    · by_cases hz : 0 < (rd_L1 t (i : Int)).length
      · have hm := modN_in (rd (rd_L1 t (i : Int)) 0) ((i : Int) + 1) (by omega)
        obtain ⟨x, hx1, hx2, hx⟩ := hold (modN (rd (rd_L1 t (i : Int)) 0) ((i : Int) + 1)).toNat (by omega)
        refine ⟨x, hx1, hx2, Ev.step (fun q => ?_) hx⟩
        simp only [tickinglaw11_tame.l0]
        rw [if_pos (by omega), if_pos (by omega), if_pos (by omega), if_pos (by omega), if_pos (by omega), w64 (by omega) (by omega), mod_eq _ _ (by omega) (by omega)]
        simp only [Option.bind_some, List.nil_append, List.length_nil, Nat.zero_add]
        rw [if_pos (by omega), if_pos (by omega), if_pos (by simp; omega), if_pos (by simp; omega), if_pos (by simp; omega)]; rfl
      · obtain ⟨x, hx1, hx2, hx⟩ := hold i (Nat.le_refl _)
        refine ⟨x, hx1, hx2, Ev.step (fun q => ?_) hx⟩
        simp only [tickinglaw11_tame.l0]
        rw [if_pos (by omega), if_pos (by omega), if_pos (by omega), if_neg (by omega), if_pos (by omega), w64 (by omega) (by omega)]
        simp only [Option.bind_some, List.nil_append, List.length_nil, Nat.zero_add, Int.toNat_natCast]
        rw [if_pos (by simp; omega), if_pos (by simp; omega), if_pos (by simp; omega)]; rfl
    · obtain ⟨x, hx1, hx2, hx⟩ := hold i (Nat.le_refl _)
      refine ⟨x, hx1, hx2, Ev.step (fun q => ?_) hx⟩
      simp only [tickinglaw11_tame.l0]
      rw [if_pos (by omega), if_neg (by omega), if_pos (by omega), if_pos (by omega), w64 (by omega) (by omega)]
      simp only [Option.bind_some, List.nil_append, List.length_nil, Nat.zero_add, Int.toNat_natCast]
      rw [if_pos (by simp; omega), if_pos (by simp; omega), if_pos (by simp; omega)]; rfl
theorem ev_tame_j (t x5 : List (List Int)) (most : Int) (h1 : 2 ≤ most) (h2 : most ≤ 12) (hl : t.length ≤ maxLen) : ∃ x, TabOk x ∧ (x.length : Int) ≤ most ∧ Ev (fun k => tickinglaw11_tame.j0 k t most x5 false) x := by
  have hm := modN_in (t.length : Int) (most - 1) (by omega)
  obtain ⟨x, hx1, hx2, hx⟩ := ev_tame_0 t (2 + modN (t.length : Int) (most - 1)).toNat (by omega) (by omega) (2 + modN (t.length : Int) (most - 1)).toNat 0 [] (by omega) ⟨rfl, List.nodup_nil, by simp⟩
  rw [Int.toNat_of_nonneg (by omega)] at hx
  refine ⟨x, hx1, by omega, Ev.step (fun q => ?_) hx⟩
  simp only [tickinglaw11_tame.j0, Bool.false_eq_true, if_false]
  rw [w64 (by omega) (by omega), mod_eq _ _ (by omega) (by omega)]
  simp only [Option.bind_some]
  rw [w64 (by omega) (by omega)]; rfl
theorem ev_tame (t : List (List Int)) (most : Int) (h1 : 2 ≤ most) (h2 : most ≤ 12) (hl : t.length ≤ maxLen) : ∃ x, TabOk x ∧ (x.length : Int) ≤ most ∧ Ev (fun k => tickinglaw11_tame.f k t most) x := by
  by_cases h : isTab (tabOf t) = true ∧ ((tabOf t).length : Int) ≤ most
  · refine ⟨tabOf t, of_decide_eq_true h.1, h.2, ?_⟩
    refine Ev.bind (ev_table t) (Ev.bind (ev_Table _) ?_)
    simp only [h.1, if_true, decide_eq_true h.2]
    exact Ev.step (f := fun _ => some (tabOf t)) (fun q => by simp [tickinglaw11_tame.j0]) (Ev.now _)
  · obtain ⟨x, hx1, hx2, hx⟩ := ev_tame_j t (tabOf t) most h1 h2 hl
    refine ⟨x, hx1, hx2, ?_⟩
    refine Ev.bind (ev_table t) (Ev.bind (ev_Table _) ?_)
    cases hb : isTab (tabOf t) with
    | true =>
      have : ¬ ((tabOf t).length : Int) ≤ most := fun h' => h ⟨hb, h'⟩
      simp only [if_true, decide_eq_false this]
      exact hx
    | false => simp only [Bool.false_eq_true, if_false]; exact hx
end Go.Proofs.Ytdkncfmlehcjmaa.X
end

section
/- The cells of a table, the search for a zero in a row, and the searches for three elements that weigh alike and for a group. -/
set_option linter.unusedVariables false
set_option linter.unusedSimpArgs false
namespace Go.Proofs.Ytdkncfmlehcjmaa.X
open Go.RowKit Go.Proofs.YtdkncfmlehcjmaaW.PrintWords

theorem isTabOk {t : List (List Int)} (h : TabOk t) : isTab t = true := decide_eq_true h
/-- A table's cells as a function, with rows and columns of distinct numbers. -/
structure Cells (t : List (List Int)) (n : Nat) (q : Nat → Nat → Nat) : Prop where
  n2 : 2 ≤ n
  n12 : n ≤ 12
  len : t.length = n
  row : ∀ a, a < n → (rd_L1 t (a : Int)).length = n
  at_ : ∀ a b, a < n → b < n → rd (rd_L1 t (a : Int)) (b : Int) = (q a b : Int)
  lt : ∀ a b, a < n → b < n → q a b < n
  r : ∀ a i j, a < n → i < n → j < n → q a i = q a j → i = j
  c : ∀ a i j, a < n → i < n → j < n → q i a = q j a → i = j
theorem TabOk.cells {t : List (List Int)} (ht : TabOk t) : ∃ n q, Cells t n q := by
  have hb : ∀ a b : Nat, a < t.length → b < t.length → 0 ≤ rd2 t a b ∧ rd2 t a b < t.length := fun a b ha hb => tab_cell ht a b (by omega) (by omega) (by omega) (by omega)
  have hL := ((tabOk_iff t).1 ht).2.2.2
  refine ⟨t.length, fun a b => (rd2 t a b).toNat, ht.1, ht.2.1, rfl, fun a ha => tab_row ht a (by omega) (by omega), fun a b ha hb' => ?_, fun a b ha hb' => ?_, fun a i j ha hi hj e => ?_, fun a i j ha hi hj e => ?_⟩
  · have := hb a b ha hb'; show rd2 t a b = _; omega
  · have := hb a b ha hb'; omega
  · have h1 := hb a i ha hi
    have h2 := hb a j ha hj
    rcases Nat.lt_trichotomy i j with h | h | h
    · exact absurd (by omega) (hL a ha j hj i h).1
    · exact h
    · exact absurd (by omega) (hL a ha i hi j h).1
  · have h1 := hb i a hi ha
    have h2 := hb j a hj ha
    rcases Nat.lt_trichotomy i j with h | h | h
    · exact absurd (by omega) (hL a ha j hj i h).2
    · exact h
    · exact absurd (by omega) (hL a ha i hi j h).2

theorem nodup_le (n : Nat) : ∀ l : List Nat, l.Nodup → (∀ x ∈ l, x < n) → l.length ≤ n := by
  induction n with
  | zero => intro l _ h; cases l with
    | nil => simp
    | cons a l => exact absurd (h a (by simp)) (by omega)
  | succ n ih =>
    intro l h1 h2
    have h3 := ih (l.erase n) (h1.erase n) (fun x hx => by
      rw [h1.mem_erase_iff] at hx
      have := h2 x hx.2
      omega)
    have h4 : (l.erase n).length = if n ∈ l then l.length - 1 else l.length := List.length_erase
    split at h4 <;> omega
theorem Cells.zero {t n q} (C : Cells t n q) (a : Nat) (ha : a < n) : ∃ j, j < n ∧ q a j = 0 := by
  have n2 := C.n2
  refine Classical.byContradiction fun h => ?_
  have h0 : ∀ j, j < n → q a j ≠ 0 := fun j hj e => h ⟨j, hj, e⟩
  have h1 := nodup_le (n - 1) ((List.range n).map fun j => q a j - 1) (by
    rw [List.Nodup, List.pairwise_map, range_pairwise]
    intro i j hij hj e
    have a1 := h0 i (by omega)
    have a2 := h0 j hj
    have := C.r a i j ha (by omega) hj (by omega)
    omega) (by
    intro x hx
    simp only [List.mem_map, List.mem_range] at hx
    obtain ⟨j, hj, rfl⟩ := hx
    have a1 := h0 j hj
    have := C.lt a j ha hj
    omega)
  simp at h1; omega
theorem ev_Index {t n q} (C : Cells t n q) (a j : Nat) (ha : a < n) (hj : j < n) (hz : q a j = 0) (d : Nat) : ∀ i : Nat, i + d = j → Ev (fun k => slices_Index_int_int.l0 k (rd_L1 t (a : Int)) 0 n i) j := by
  have n12 := C.n12
  have hr := C.row a ha
  induction d with
  | zero =>
    intro i hi
    obtain rfl : i = j := by omega
    refine Ev.step (f := fun _ => some (i : Int)) (fun k => ?_) (Ev.now _)
    simp only [slices_Index_int_int.l0]
    rw [if_pos (by omega), if_pos (by omega), if_pos (by omega), C.at_ a i ha hj, if_pos (by omega)]
  | succ d ih =>
    intro i hi
    have : q a i ≠ 0 := fun e => by have := C.r a i j ha (by omega) hj (by omega); omega
    refine Ev.step (fun k => ?_) (ih (i + 1) (by omega))
    simp only [slices_Index_int_int.l0]
    rw [if_pos (by omega), if_pos (by omega), if_pos (by omega), C.at_ a i ha (by omega), if_neg (by omega), w64 (by omega) (by omega)]; rfl
theorem ev_rDigit {t n q} (C : Cells t n q) (a j : Nat) (ha : a < n) (hj : j < n) (hz : q a j = 0) (d : Nat) : ∀ i : Nat, i + d = j → Ev (fun k => tickingref11_Digit.l0 k t a i) j := by
  have n12 := C.n12
  have hr := C.row a ha
  have hl := C.len
  induction d with
  | zero =>
    intro i hi
    obtain rfl : i = j := by omega
    refine Ev.step (f := fun _ => some (i : Int)) (fun k => ?_) (Ev.now _)
    simp only [tickingref11_Digit.l0]
    rw [if_pos (by omega), if_pos (by omega), if_pos (by omega), if_pos (by omega), C.at_ a i ha hj, if_pos (by omega)]
  | succ d ih =>
    intro i hi
    have : q a i ≠ 0 := fun e => by have := C.r a i j ha (by omega) hj (by omega); omega
    refine Ev.step (fun k => ?_) (ih (i + 1) (by omega))
    simp only [tickingref11_Digit.l0]
    rw [if_pos (by omega), if_pos (by omega), if_pos (by omega), if_pos (by omega), C.at_ a i ha (by omega), if_neg (by omega), w64 (by omega) (by omega)]; rfl
/-- The digit that brings a trace to 0: the program's and the reference's. -/
theorem digit_both {t : List (List Int)} (ht : TabOk t) (l : List Int) (hl : digs l t.length = true) (hn : l.length ≤ 1000000) : ∃ j : Int, 0 ≤ j ∧ j < t.length ∧ rd (rd_L1 t (traceP t 0 l)) j = 0 ∧ Ev (fun k => (serial_table_trace.f k t l).bind fun t454 => (if 0 ≤ t454 then (if t454 < (t.length : Int) then ((slices_Index_int_int.f k (rd_L1 t t454) 0).bind fun t456 => some (t456, (0 : Int))) else none) else none)) (j, 0) ∧ Ev (fun k => tickingref11_Digit.f k t l) j := by
  obtain ⟨n, q, C⟩ := ht.cells
  have hln := C.len
  have n2 := C.n2
  have n12 := C.n12
  have hi := trace_in ht l hl 0 (by omega) (by omega)
  have htr := ev_trace ht l hl hn
  have hTr := ev_Trace ht l hl hn
  obtain ⟨a, ha⟩ : ∃ a : Nat, (a : Int) = traceP t 0 l := ⟨(traceP t 0 l).toNat, by omega⟩
  rw [← ha] at hi htr hTr ⊢
  obtain ⟨j, hj, hz⟩ := C.zero a (by omega)
  refine ⟨j, by omega, by omega, by rw [C.at_ a j (by omega) hj, hz]; rfl, ?_, ?_⟩
  · refine Ev.bind htr ?_
    simp only [hi.1, hi.2, if_true]
    have h2 : Ev (fun k => slices_Index_int_int.f k (rd_L1 t (a : Int)) 0) (j : Int) := by
      have := ev_Index C a j (by omega) hj hz j 0 (by omega)
      unfold slices_Index_int_int.f
      rw [C.row a (by omega)]; exact this
    exact Ev.bind h2 (Ev.now _)
  · exact Ev.bind hTr (ev_rDigit C a j (by omega) hj hz j 0 (by omega))
theorem ev_sDigit_yes {t : List (List Int)} (ht : TabOk t) (l : List Int) (hl : digs l t.length = true) (hn : l.length ≤ 23) : ∃ j : Int, 0 ≤ j ∧ j < t.length ∧ rd (rd_L1 t (traceP t 0 l)) j = 0 ∧ Ev (fun k => serial_Digit.f k t l) (j, 0) ∧ Ev (fun k => tickingref11_Digit.f k t l) j := by
  have n12 := ht.2.1
  obtain ⟨j, h0, h1, h2, h3, h4⟩ := digit_both ht l hl (by omega)
  refine ⟨j, h0, h1, h2, ?_, h4⟩
  refine Ev.congr (f := fun k => serial_Digit.j0 k t l false) (fun k => ?_) (Ev.step (fun k => ?_) h3)
  · unfold serial_Digit.f serial_isTable.f serial_isNumber.f
    simp only [Option.bind_some]
    rw [isNum_eq l t.length 23 (by omega) (by omega), isTabOk ht, hl, decide_eq_true (by omega)]; simp
  · simp only [serial_Digit.j0, Bool.false_eq_true, if_false]
section
variable {t : List (List Int)} {n : Nat} {q : Nat → Nat → Nat} (C : Cells t n q)
include C
end
end Go.Proofs.Ytdkncfmlehcjmaa.X
end

section
/- The reference's Weights: its table of what can be reached, and the first weights read off it. -/
set_option linter.unusedVariables false
set_option linter.unusedSimpArgs false
set_option linter.unusedSectionVars false
namespace Go.Proofs.Ytdkncfmlehcjmaa.X
open Go.RowKit Go.Proofs.YtdkncfmlehcjmaaW.PrintWords
def ent (T : List Bool) (M r v : Nat) : Bool := rdOf false T ((r * M + v : Nat) : Int)
theorem idx_lt {n M r v : Nat} (hr : r < n) (hv : v < M) : r * M + v < n * M := by
  have : (r + 1) * M ≤ n * M := Nat.mul_le_mul_right M hr
  rw [Nat.add_mul, Nat.one_mul] at this; omega
theorem idx_inj {M r v r' v' : Nat} (hv : v < M) (hv' : v' < M) (h : r * M + v = r' * M + v') : r = r' ∧ v = v' := by
  rcases Nat.lt_trichotomy r r' with h1 | h1 | h1
  · have : (r + 1) * M ≤ r' * M := Nat.mul_le_mul_right M h1
    rw [Nat.add_mul, Nat.one_mul] at this; omega
  · subst h1; omega
  · have : (r' + 1) * M ≤ r * M := Nat.mul_le_mul_right M h1
    rw [Nat.add_mul, Nat.one_mul] at this; omega
theorem ent_set (T : List Bool) (M r v r' v' : Nat) (b : Bool) (hv : v < M) (hv' : v' < M) (hl : r * M + v < T.length) : ent (T.set (r * M + v) b) M r' v' = if r' = r ∧ v' = v then b else ent T M r' v' := by
  unfold ent rdOf
  simp only [Int.toNat_natCast, List.getD_eq_getElem?_getD, List.getElem?_set]
  by_cases h : r * M + v = r' * M + v'
  · obtain ⟨rfl, rfl⟩ := idx_inj hv hv' h
    simp [hl]
  · rw [if_neg h, if_neg (fun e => h (by rw [e.1, e.2]))]
/-- What an entry of the table must be. -/
def G (M r v : Nat) (b : Bool) : Prop := (v = 0 → b = false) ∧ (M % 2 = 1 → (v = 1 ∨ v = 2) → b = true) ∧ (M % 2 = 0 → 1 ≤ r → b = false) ∧ (M % 2 = 0 → r = 0 → v = 1 → b = true) ∧ (M % 2 = 0 → r = 0 → b = true → v % 2 = 1)
structure Inv (n M : Nat) (T : List Bool) (r v : Nat) : Prop where
  len : T.length = n * M
  done : ∀ r' v', r' < n → v' < M → (r' < r ∨ r' = r ∧ v' < v) → G M r' v' (ent T M r' v')
  rest : ∀ r' v', r' < n → v' < M → ¬ (r' < r ∨ r' = r ∧ v' < v) → ent T M r' v' = false
theorem Inv.set {n M : Nat} {T : List Bool} {r v : Nat} (h : Inv n M T r v) (hr : r < n) (hv : v < M) (b : Bool) (hb : G M r v b) : Inv n M (T.set (r * M + v) b) r (v + 1) := by
  have hl : r * M + v < T.length := by rw [h.len]; exact idx_lt hr hv
  refine ⟨by rw [List.length_set]; exact h.len, fun r' v' hr' hv' hd => ?_, fun r' v' hr' hv' hd => ?_⟩
  · rw [ent_set T M r v r' v' b hv hv' hl]
    by_cases e : r' = r ∧ v' = v
    · rw [if_pos e]; obtain ⟨rfl, rfl⟩ := e; exact hb
    · rw [if_neg e]; exact h.done r' v' hr' hv' (by omega)
  · rw [ent_set T M r v r' v' b hv hv' hl, if_neg (by omega)]
    exact h.rest r' v' hr' hv' (by omega)
theorem Inv.skip {n M : Nat} {T : List Bool} {r v : Nat} (h : Inv n M T r v) (hr : r < n) (hv : v < M) (hb : G M r v false) : Inv n M T r (v + 1) := by
  refine ⟨h.len, fun r' v' hr' hv' hd => ?_, fun r' v' hr' hv' hd => h.rest r' v' hr' hv' (by omega)⟩
  by_cases e : r' = r ∧ v' = v
  · obtain ⟨rfl, rfl⟩ := e
    rw [h.rest r' v' hr' hv' (by omega)]; exact hb
  · exact h.done r' v' hr' hv' (by omega)
theorem Inv.row {n M : Nat} {T : List Bool} {r : Nat} (h : Inv n M T r M) : Inv n M T (r + 1) 0 :=
  ⟨h.len, fun r' v' hr' hv' hd => h.done r' v' hr' hv' (by omega), fun r' v' hr' hv' hd => h.rest r' v' hr' hv' (by omega)⟩
theorem unit_of {v M : Nat} (hv : v < M) : unitB (v : Int) (M : Int) = decide (Int.gcd (v : Int) (M : Int) = 1) := by
  unfold unitB
  rw [decide_eq_true (show (0 : Int) ≤ (v : Int) by omega), decide_eq_true (show (v : Int) < (M : Int) by omega)]; rfl
theorem even_gcd {a : Int} {M : Nat} (ha : a % 2 = 0) (hM : M % 2 = 0) : Int.gcd a (M : Int) ≠ 1 := by
  intro e
  have h1 : (2 : Int) ∣ a := Int.dvd_of_emod_eq_zero ha
  have h2 : (2 : Int) ∣ (M : Int) := Int.dvd_of_emod_eq_zero (by omega)
  have := Int.dvd_gcd h1 h2
  rw [e] at this
  exact absurd this (by decide)
section
variable {n M : Nat} (hn : n ≤ 24) (h2 : 2 ≤ M) (h97 : M ≤ 97)
include hn h2 h97
theorem prod_bd (r : Nat) (hr : r ≤ n) : r * M ≤ 2328 := Nat.le_trans (Nat.mul_le_mul (Nat.le_trans hr hn) h97) (by decide)
/-- The index, as the program reckons it. -/
theorem idx_w (r v : Nat) (hr : r ≤ n) (hv : v ≤ M) : wrap64 (wrap64 ((r : Int) * (M : Int)) + (v : Int)) = ((r * M + v : Nat) : Int) := by
  have hb := prod_bd hn h2 h97 r hr
  have e : ((r : Int) * (M : Int)) = ((r * M : Nat) : Int) := (Int.natCast_mul r M).symm
  rw [e, w64 (x := ((r * M : Nat) : Int)) (by omega) (by omega), w64 (by omega) (by omega)]; rfl
theorem not_unit_G (r v : Nat) (hv : v < M) (hu : ¬ Int.gcd (v : Int) (M : Int) = 1) : G M r v false := by
  refine ⟨fun _ => rfl, fun hM hv12 => ?_, fun _ _ => rfl, fun hM hr hv1 => ?_, fun _ _ h => by cases h⟩
  · exfalso
    rcases hv12 with rfl | rfl
    · exact hu Int.one_gcd
    · exact hu (gcd_two M (by omega) hM)
  · subst hv1; exact absurd Int.one_gcd hu
theorem unit_G0 (v : Nat) (hv : v < M) (hu : Int.gcd (v : Int) (M : Int) = 1) : G M 0 v true := by
  refine ⟨fun h => ?_, fun _ _ => rfl, fun _ h => by omega, fun _ _ _ => rfl, fun hM _ _ => ?_⟩
  · subst h; rw [show ((0 : Nat) : Int) = 0 from rfl, Int.gcd_zero_left] at hu; simp at hu; omega
  · refine Classical.byContradiction fun h => even_gcd (a := (v : Int)) (by omega) hM hu
theorem unit_G1 {T : List Bool} {r v : Nat} (hI : Inv n M T (r + 1) v) (hr : r + 1 < n) (hv : v < M) (hu : Int.gcd (v : Int) (M : Int) = 1) (b : Bool) (hb : b = true ↔ ∃ u, u < M ∧ (ent T M r u = true ∧ Int.gcd ((v : Int) - (u : Int)) (M : Int) = 1)) : G M (r + 1) v b := by
  have hd : ∀ u, u < M → G M r u (ent T M r u) := fun u hu => hI.done r u (by omega) hu (by omega)
  refine ⟨fun h => ?_, fun hM hv12 => ?_, fun hM _ => ?_, fun _ h => by omega, fun _ h => by omega⟩
  · exfalso; subst h; rw [show ((0 : Nat) : Int) = 0 from rfl, Int.gcd_zero_left] at hu; simp at hu; omega
  · rw [hb]
    rcases hv12 with rfl | rfl
    · refine ⟨2, by omega, (hd 2 (by omega)).2.1 hM (.inr rfl), ?_⟩
      show Int.gcd (-1) (M : Int) = 1
      rw [Int.neg_gcd]; exact Int.one_gcd
    · exact ⟨1, by omega, (hd 1 (by omega)).2.1 hM (.inl rfl), Int.one_gcd⟩
  · cases hbb : b with
    | false => rfl
    | true =>
      exfalso
      obtain ⟨u, hu1, hu2, hu3⟩ := hb.1 hbb
      by_cases h0 : r = 0
      · subst h0
        have h5 := (hd u hu1).2.2.2.2 hM rfl hu2
        have h6 : v % 2 = 1 := Classical.byContradiction fun h => even_gcd (a := (v : Int)) (by omega) hM hu
        exact even_gcd (a := (v : Int) - (u : Int)) (by omega) hM hu3
      · have := (hd u hu1).2.2.1 hM (by omega)
        rw [this] at hu2; cases hu2
theorem mx_gcd (a b : Nat) (ha : a ≤ 1000) (hb : b ≤ 1000) : ((mx (wrap64 ((a : Int) - (b : Int))) (wrap64 ((b : Int) - (a : Int)))) = (((a : Int) - (b : Int)).natAbs : Int)) := by
  rw [w64 (x := (a : Int) - b) (by omega) (by omega), w64 (x := (b : Int) - a) (by omega) (by omega), show (b : Int) - (a : Int) = -((a : Int) - (b : Int)) by omega, mx_neg]
theorem gcd_abs (x m : Int) : Int.gcd ((x.natAbs : Nat) : Int) m = Int.gcd x m := by simp [Int.gcd]
theorem ev_wl2_true (T : List Bool) (r v u : Nat) (hl : T.length = n * M) (hr : r < n) (hv : v < M) (res : List Int × Bool) (hc : Ev (fun k => tickingref11_Weights.l1 k n M (T.set (r * M + v) true) r ((v + 1 : Nat) : Int)) res) : Ev (fun k => tickingref11_Weights.l2 k n M T r v true u) res := by
  have hi := idx_w hn h2 h97 r v (by omega) (by omega)
  have hlt := idx_lt hr hv
  have hv1 : wrap64 ((v : Int) + 1) = ((v + 1 : Nat) : Int) := w64 (by omega) (by omega)
  refine Ev.step (fun k => ?_) hc
  simp only [tickingref11_Weights.l2, if_true]
  rw [hi, hv1, Int.toNat_natCast, if_pos (Int.natCast_nonneg _), if_pos (show ((r * M + v : Nat) : Int) < (T.length : Int) by rw [hl]; exact Int.ofNat_lt.2 hlt)]
  split <;> rfl
omit hn h2 h97 in
theorem wrap_pred (r : Nat) (hr : r ≤ 1000) : wrap64 (((r + 1 : Nat) : Int) - 1) = (r : Int) := by rw [w64 (by omega) (by omega)]; omega
theorem ev_wl2 (T : List Bool) (r v : Nat) (hl : T.length = n * M) (hr : r + 1 < n) (hv : v < M) (res : List Int × Bool)
    (hc : ∀ b, (b = true ↔ ∃ u, u < M ∧ (ent T M r u = true ∧ Int.gcd ((v : Int) - (u : Int)) (M : Int) = 1)) → Ev (fun k => tickingref11_Weights.l1 k n M (T.set ((r + 1) * M + v) b) ((r + 1 : Nat) : Int) ((v + 1 : Nat) : Int)) res) (d : Nat) :
    ∀ u : Nat, u + d = M → (∀ u', u' < u → ¬ (ent T M r u' = true ∧ Int.gcd ((v : Int) - (u' : Int)) (M : Int) = 1)) → Ev (fun k => tickingref11_Weights.l2 k n M T ((r + 1 : Nat) : Int) v false u) res := by
  have HI := Aside0.mk (idx_w hn h2 h97 (r + 1) v (by omega) (by omega))
  have hlt := idx_lt hr hv
  have HV := Aside0.mk (wrap_succ v (by omega))
  induction d with
  | zero =>
    intro u hu hall
    refine Ev.step (fun k => ?_) (hc false ⟨(fun h => by cases h), (fun ⟨u', h1, h2⟩ => absurd h2 (hall u' (by omega)))⟩)
    simp only [tickingref11_Weights.l2]
    rw [if_neg (by omega), HI.out, HV.out, Int.toNat_natCast, if_pos (Int.natCast_nonneg _), if_pos (show (((r + 1) * M + v : Nat) : Int) < (T.length : Int) by rw [hl]; exact Int.ofNat_lt.2 hlt)]
  | succ d ih =>
    intro u hu hall
    have huM : (u : Int) < (M : Int) := by omega
    have hRr := Aside0.mk (show r < n by omega)
    have hUu := Aside0.mk (show u < M by omega)
    have HR1 := Aside0.mk (wrap_pred r (by omega))
    have HU1 := Aside0.mk (wrap_succ u (by omega))
    have HMX := Aside0.mk (mx_gcd hn h2 h97 v u (by omega) (by omega))
    have hge := ev_Gcd (((v : Int) - (u : Int)).natAbs : Int) (M : Int) (Int.natCast_nonneg _) (Int.natCast_nonneg _)
    rw [gcd_abs hn h2 h97] at hge
    have HGE := Aside0.mk hge
    clear hge
    have hltu : ((r * M + u : Nat) : Int) < (T.length : Int) := by rw [hl]; exact Int.ofNat_lt.2 (idx_lt hRr.out hUu.out)
    have HLT := Aside0.mk hltu
    clear hltu
    have HIU := Aside0.mk (idx_w hn h2 h97 r u (Nat.le_of_lt hRr.out) (Nat.le_of_lt hUu.out))
    by_cases he : ent T M r u = true
    · by_cases hgg : Int.gcd ((v : Int) - (u : Int)) (M : Int) = 1
      · have ht := hc true ⟨fun _ => ⟨u, by omega, he, hgg⟩, fun _ => rfl⟩
        have h3 := ev_wl2_true hn h2 h97 T (r + 1) v (u + 1) hl hr hv res ht
        refine Ev.step (f := fun k => (tickingref11_Gcd.f k (((v : Int) - (u : Int)).natAbs : Int) M).bind fun t645 => tickingref11_Weights.l2 k n M T ((r + 1 : Nat) : Int) v (t645 == 1) ((u + 1 : Nat) : Int)) (fun k => ?_) (Ev.bind HGE.out ?_)
        · simp only [tickingref11_Weights.l2, Bool.false_eq_true, if_false]
          rw [if_pos huM, HR1.out, HIU.out, HU1.out, HMX.out, if_pos (Int.natCast_nonneg _), if_pos HLT.out, if_pos (show rdOf false T ((r * M + u : Nat) : Int) = true from he)]
        · rw [hgg]; exact h3
      · have h3 := ih (u + 1) (by omega) (fun u' hu' => by
          by_cases e : u' = u
          · subst e; exact fun h => hgg h.2
          · exact hall u' (by omega))
        refine Ev.step (f := fun k => (tickingref11_Gcd.f k (((v : Int) - (u : Int)).natAbs : Int) M).bind fun t645 => tickingref11_Weights.l2 k n M T ((r + 1 : Nat) : Int) v (t645 == 1) ((u + 1 : Nat) : Int)) (fun k => ?_) (Ev.bind HGE.out ?_)
        · simp only [tickingref11_Weights.l2, Bool.false_eq_true, if_false]
          rw [if_pos huM, HR1.out, HIU.out, HU1.out, HMX.out, if_pos (Int.natCast_nonneg _), if_pos HLT.out, if_pos (show rdOf false T ((r * M + u : Nat) : Int) = true from he)]
        · have : (((Int.gcd ((v : Int) - (u : Int)) (M : Int) : Nat) : Int) == 1) = false := beq_eq_false_iff_ne.2 (fun e => hgg (by omega))
          rw [this]; exact h3
    · have h3 := ih (u + 1) (by omega) (fun u' hu' => by
        by_cases e : u' = u
        · subst e; exact fun h => he h.1
        · exact hall u' (by omega))
      refine Ev.step (fun k => ?_) h3
      simp only [tickingref11_Weights.l2, Bool.false_eq_true, if_false]
      rw [if_pos huM, HR1.out, HIU.out, HU1.out, if_pos (Int.natCast_nonneg _), if_pos HLT.out, if_neg (show ¬ rdOf false T ((r * M + u : Nat) : Int) = true from he)]
theorem ev_wl1 (r : Nat) (hr : r < n) (res : List Int × Bool) (hc : ∀ T, Inv n M T (r + 1) 0 → Ev (fun k => tickingref11_Weights.l0 k n M T ((r + 1 : Nat) : Int)) res) (d : Nat) :
    ∀ (v : Nat) (T : List Bool), v + d = M → Inv n M T r v → Ev (fun k => tickingref11_Weights.l1 k n M T r v) res := by
  induction d with
  | zero =>
    intro v T hv hI
    obtain rfl : v = M := by omega
    have hr1 : wrap64 ((r : Int) + 1) = ((r + 1 : Nat) : Int) := w64 (by omega) (by omega)
    refine Ev.step (fun k => ?_) (hc T hI.row)
    simp only [tickingref11_Weights.l1]; rw [if_neg (by omega), hr1]
  | succ d ih =>
    intro v T hv hI
    have hv1 : wrap64 ((v : Int) + 1) = ((v + 1 : Nat) : Int) := w64 (by omega) (by omega)
    have hP := ev_Prime (v : Int) (M : Int) (by omega) (by omega)
    rw [unit_of (by omega)] at hP
    refine Ev.step (f := fun k => (tickingref11_Prime.f k v M).bind fun t642 => (if t642 = true then (tickingref11_Weights.l2 k n M T r v ((r : Int) == 0) 0) else (tickingref11_Weights.l1 k n M T r ((v + 1 : Nat) : Int)))) (fun k => ?_) (Ev.bind hP ?_)
    · simp only [tickingref11_Weights.l1]; rw [if_pos (by omega), hv1]
    · by_cases hu : Int.gcd (v : Int) (M : Int) = 1
      · rw [decide_eq_true hu]
        simp only [if_true]
        cases r with
        | zero =>
          exact ev_wl2_true hn h2 h97 T 0 v 0 hI.len hr (by omega) res (ih (v + 1) _ (by omega) (hI.set hr (by omega) true (unit_G0 hn h2 h97 v (by omega) hu)))
        | succ r =>
          have hz : (((r + 1 : Nat) : Int) == 0) = false := beq_eq_false_iff_ne.2 (by omega)
          rw [hz]
          exact ev_wl2 hn h2 h97 T r v hI.len hr (by omega) res (fun b hb => ih (v + 1) _ (by omega) (hI.set hr (by omega) b (unit_G1 hn h2 h97 hI hr (by omega) hu b hb))) M 0 (by omega) (by intro u' hu'; omega)
      · rw [decide_eq_false hu]
        simp only [Bool.false_eq_true, if_false]
        exact ih (v + 1) T (by omega) (hI.skip hr (by omega) (not_unit_G hn h2 h97 r v (by omega) hu))
theorem ev_wl0 (res : List Int × Bool) (hc : ∀ T, Inv n M T n 0 → Ev (fun k => tickingref11_Weights.l3 k n M T [] 0) res) (d : Nat) :
    ∀ (r : Nat) (T : List Bool), r + d = n → Inv n M T r 0 → Ev (fun k => tickingref11_Weights.l0 k n M T r) res := by
  induction d with
  | zero =>
    intro r T hr hI
    obtain rfl : r = n := by omega
    refine Ev.step (fun k => ?_) (hc T hI)
    simp only [tickingref11_Weights.l0]; rw [if_neg (by omega)]
  | succ d ih =>
    intro r T hr hI
    refine Ev.step (fun k => ?_) (ev_wl1 hn h2 h97 r (by omega) res (fun T' hT' => ih (r + 1) T' (by omega) hT') M 0 T (by omega) hI)
    simp only [tickingref11_Weights.l0]; rw [if_pos (by omega)]; rfl
end
end Go.Proofs.Ytdkncfmlehcjmaa.X
end

section
/- The reference's Weights in plain words (the same proof stands in the text of SerialLets). -/
set_option linter.unusedVariables false
set_option linter.unusedSimpArgs false
set_option linter.unusedSectionVars false
namespace Go.Proofs.Ytdkncfmlehcjmaa.X.W18
open Go.RowKit Go.Proofs.YtdkncfmlehcjmaaW.PrintWords Go.Proofs.Ytdkncfmlehcjmaa.X
section
variable {n M : Nat} (hn : n ≤ 24) (h2 : 2 ≤ M) (h97 : M ≤ 97) (T : List Bool) (hI : Inv n M T n 0)
include hn h2 h97 hI
theorem row_w (i : Nat) (hi : i < n) : wrap64 (wrap64 ((n : Int) - 1) - (i : Int)) = ((n - 1 - i : Nat) : Int) := by
  rw [w64 (x := (n : Int) - 1) (by omega) (by omega), w64 (by omega) (by omega)]; omega
theorem l4_head (x11 : List Int) (i v : Nat) (hi : i < n) (hv : v < M) (k : Nat) : tickingref11_Weights.l4 (k + 1) n M T x11 i v = if ent T M (n - 1 - i) v = true then (if (i : Int) = 0 then (tickingref11_Weights.j5 k n M T x11 i v (!true)) else (if 0 ≤ (wrap64 ((i : Int) - 1)) then (if (wrap64 ((i : Int) - 1)) < (x11.length : Int) then ((tickingref11_Gcd.f k (mx (wrap64 ((v : Int) - (rd x11 (wrap64 ((i : Int) - 1))))) (wrap64 ((rd x11 (wrap64 ((i : Int) - 1))) - v))) M).bind fun t650 => (tickingref11_Weights.j5 k n M T x11 i v (!(t650 == 1)))) else (none)) else (none))) else (tickingref11_Weights.j5 k n M T x11 i v (!false)) := by
  have hvM : (v : Int) < (M : Int) := by omega
  have hr := row_w hn h2 h97 T hI i hi
  have hix := idx_w hn h2 h97 (n - 1 - i) v (by omega) (by omega)
  have hlt : (((n - 1 - i) * M + v : Nat) : Int) < (T.length : Int) := by rw [hI.len]; exact Int.ofNat_lt.2 (idx_lt (by omega) hv)
  simp only [tickingref11_Weights.l4]
  rw [if_pos hvM, hr, hix, if_pos (Int.natCast_nonneg _), if_pos hlt]; rfl
theorem j5_next (x11 : List Int) (i v : Nat) (hv : v < M) (res : List Int × Bool) (h : Ev (fun k => tickingref11_Weights.l4 k n M T x11 i ((v + 1 : Nat) : Int)) res) : Ev (fun k => tickingref11_Weights.j5 k n M T x11 i v true) res :=
  Ev.step (fun k => by simp only [tickingref11_Weights.j5, if_true]; rw [wrap_succ v (by omega)]) h
theorem j5_take (x11 : List Int) (hx : x11.length ≤ 24) (i v : Nat) (hi : i < n) (hv : v < M) (res : List Int × Bool) (h : Ev (fun k => tickingref11_Weights.l3 k n M T (x11 ++ [(v : Int)]) ((i + 1 : Nat) : Int)) res) : Ev (fun k => tickingref11_Weights.j5 k n M T x11 i v false) res := by
  have hne : ¬ (v : Int) = (M : Int) := by omega
  have h44 : x11.length < 17592186044416 := by omega
  have hw := wrap_succ i (by omega)
  exact Ev.step (fun k => by simp only [tickingref11_Weights.j5, Bool.false_eq_true, if_false]; rw [if_neg hne, if_pos h44, hw]) h
theorem l4_skip (x11 : List Int) (i v : Nat) (hi : i < n) (hv : v < M) (he : ent T M (n - 1 - i) v = false) (res : List Int × Bool) (h : Ev (fun k => tickingref11_Weights.l4 k n M T x11 i ((v + 1 : Nat) : Int)) res) : Ev (fun k => tickingref11_Weights.l4 k n M T x11 i v) res := by
  refine Ev.step (fun k => ?_) (j5_next hn h2 h97 T hI x11 i v hv res h)
  rw [l4_head hn h2 h97 T hI x11 i v hi hv k, he]; rfl
theorem l4_take0 (v : Nat) (hi : 0 < n) (hv : v < M) (he : ent T M (n - 1) v = true) (res : List Int × Bool) (h : Ev (fun k => tickingref11_Weights.l3 k n M T [(v : Int)] 1) res) : Ev (fun k => tickingref11_Weights.l4 k n M T [] 0 v) res := by
  refine Ev.step (fun k => ?_) (j5_take hn h2 h97 T hI [] (by simp) 0 v hi hv res h)
  have := l4_head hn h2 h97 T hI [] 0 v hi hv k
  rw [show n - 1 - 0 = n - 1 by omega, he] at this
  exact this
theorem l4_gcd (x11 : List Int) (i v last : Nat) (hi : i + 1 < n) (hx : x11.length = i + 1) (hl : rd x11 (i : Int) = last) (hlast : last ≤ 1000) (hv : v < M) (he : ent T M (n - 1 - (i + 1)) v = true) (res : List Int × Bool)
    (h : if Int.gcd ((v : Int) - (last : Int)) (M : Int) = 1 then Ev (fun k => tickingref11_Weights.l3 k n M T (x11 ++ [(v : Int)]) ((i + 1 + 1 : Nat) : Int)) res else Ev (fun k => tickingref11_Weights.l4 k n M T x11 ((i + 1 : Nat) : Int) ((v + 1 : Nat) : Int)) res) : Ev (fun k => tickingref11_Weights.l4 k n M T x11 ((i + 1 : Nat) : Int) v) res := by
  have hmx := mx_gcd hn h2 h97 v last (by omega) hlast
  have hge := ev_Gcd (((v : Int) - (last : Int)).natAbs : Int) (M : Int) (Int.natCast_nonneg _) (Int.natCast_nonneg _)
  rw [gcd_abs hn h2 h97] at hge
  have hw := wrap_pred i (by omega)
  have hp : (i : Int) < (x11.length : Int) := by rw [hx]; omega
  have hi0 : ¬ ((i + 1 : Nat) : Int) = 0 := by omega
  refine Ev.step (f := fun k => (tickingref11_Gcd.f k (((v : Int) - (last : Int)).natAbs : Int) M).bind fun t650 => tickingref11_Weights.j5 k n M T x11 ((i + 1 : Nat) : Int) v (!(t650 == 1))) (fun k => ?_) (Ev.bind hge ?_)
  · rw [l4_head hn h2 h97 T hI x11 (i + 1) v hi hv k, if_pos he, if_neg hi0, hw, hl, hmx, if_pos (Int.natCast_nonneg _), if_pos hp]
  · by_cases hg : Int.gcd ((v : Int) - (last : Int)) (M : Int) = 1
    · rw [if_pos hg] at h
      rw [hg]
      exact j5_take hn h2 h97 T hI x11 (by omega) (i + 1) v hi hv res h
    · rw [if_neg hg] at h
      rw [show (((Int.gcd ((v : Int) - (last : Int)) (M : Int) : Nat) : Int) == 1) = false from beq_eq_false_iff_ne.2 (fun e => hg (by omega))]
      exact j5_next hn h2 h97 T hI x11 (i + 1) v hv res h
theorem ev_l3_good (hg : good n (M : Int)) (hn1 : 1 ≤ n) (d : Nat) : ∀ i : Nat, i + d = n → Ev (fun k => tickingref11_Weights.l3 k n M T (pat i) i) (pat n, true) := by
  have hd : ∀ i v, i < n → v < M → G M (n - 1 - i) v (ent T M (n - 1 - i) v) := fun i v hi hv => hI.done (n - 1 - i) v (by omega) hv (by omega)
  induction d with
  | zero =>
    intro i hi
    obtain rfl : i = n := by omega
    refine Ev.step (f := fun _ => some (pat i, true)) (fun k => ?_) (Ev.now _)
    simp only [tickingref11_Weights.l3]; rw [if_neg (by omega)]
  | succ d ih =>
    intro i hi
    have hI3 := ih (i + 1) (by omega)
    rw [pat_succ] at hI3
    have hlt : (i : Int) < (n : Int) := by omega
    have e0 : ent T M (n - 1 - i) 0 = false := (hd i 0 (by omega) (by omega)).1 rfl
    have e1 : ent T M (n - 1 - i) 1 = true := by
      have h := hd i 1 (by omega) (by omega)
      by_cases hM : M % 2 = 1
      · exact h.2.1 hM (.inl rfl)
      · unfold good at hg
        exact h.2.2.2.1 (by omega) (by omega) rfl
    refine Ev.step (fun k => ?_) (l4_skip hn h2 h97 T hI (pat i) i 0 (by omega) (by omega) e0 (pat n, true) ?_)
    · simp only [tickingref11_Weights.l3]; rw [if_pos hlt]; rfl
    · cases i with
      | zero => exact l4_take0 hn h2 h97 T hI 1 (by omega) (by omega) e1 _ hI3
      | succ i =>
        have hM : M % 2 = 1 := by unfold good at hg; omega
        have e2 : ent T M (n - 1 - (i + 1)) 2 = true := (hd (i + 1) 2 (by omega) (by omega)).2.1 hM (.inr rfl)
        have hrd := pat_rd (i + 1) i (by omega)
        have hpl := pat_len (i + 1)
        by_cases hp : i % 2 = 0
        · have a1 : patA i = 1 := by unfold patA; rw [if_pos hp]
          have a2 : patA (i + 1) = 2 := by unfold patA; rw [if_neg (by omega)]
          rw [a2] at hI3
          rw [a1] at hrd
          refine l4_gcd hn h2 h97 T hI (pat (i + 1)) i 1 1 (by omega) hpl hrd (by omega) (by omega) e1 _ ?_
          rw [if_neg (by rw [show ((1 : Nat) : Int) - ((1 : Nat) : Int) = 0 from rfl, Int.gcd_zero_left]; simp; omega)]
          refine l4_gcd hn h2 h97 T hI (pat (i + 1)) i 2 1 (by omega) hpl hrd (by omega) (by omega) e2 _ ?_
          rw [if_pos (show Int.gcd (((2 : Nat) : Int) - ((1 : Nat) : Int)) (M : Int) = 1 from Int.one_gcd)]
          exact hI3
        · have a1 : patA i = 2 := by unfold patA; rw [if_neg hp]
          have a2 : patA (i + 1) = 1 := by unfold patA; rw [if_pos (by omega)]
          rw [a2] at hI3
          rw [a1] at hrd
          refine l4_gcd hn h2 h97 T hI (pat (i + 1)) i 1 2 (by omega) hpl hrd (by omega) (by omega) e1 _ ?_
          rw [if_pos (show Int.gcd (((1 : Nat) : Int) - ((2 : Nat) : Int)) (M : Int) = 1 by rw [show ((1 : Nat) : Int) - ((2 : Nat) : Int) = -1 from rfl, Int.neg_gcd]; exact Int.one_gcd)]
          exact hI3
theorem ev_l4_none (hM : M % 2 = 0) (hn2 : 2 ≤ n) (d : Nat) : ∀ v : Nat, v + d = M → Ev (fun k => tickingref11_Weights.l4 k n M T [] 0 v) ([], false) := by
  induction d with
  | zero =>
    intro v hv
    obtain rfl : v = M := by omega
    refine Ev.step (f := fun k => tickingref11_Weights.j5 k n v T [] 0 v false) (fun k => ?_) (Ev.step (f := fun _ => some ([], false)) (fun k => ?_) (Ev.now _))
    · simp only [tickingref11_Weights.l4]; rw [if_neg (by omega)]
    · simp [tickingref11_Weights.j5]
  | succ d ih =>
    intro v hv
    have he : ent T M (n - 1 - 0) v = false := (hI.done (n - 1 - 0) v (by omega) (by omega) (by omega)).2.2.1 hM (by omega)
    exact l4_skip hn h2 h97 T hI [] 0 v (by omega) (by omega) he _ (ih (v + 1) (by omega))
end
theorem inv_start (n M : Nat) : Inv n M (List.replicate (n * M) false) 0 0 := by
  refine ⟨by simp, fun r' v' _ _ h => by omega, fun r' v' hr' hv' _ => ?_⟩
  unfold ent rdOf
  simp only [Int.toNat_natCast, List.getD_eq_getElem?_getD, List.getElem?_replicate]
  split <;> rfl
theorem ev_rWeights (n M : Nat) (hn1 : 1 ≤ n) (hn : n ≤ 24) (h2 : 2 ≤ M) (h97 : M ≤ 97) : Ev (fun k => tickingref11_Weights.f k n M) (if M % 2 = 0 ∧ 1 < n then ([], false) else (pat n, true)) := by
  have hb := prod_bd hn h2 h97 n (Nat.le_refl _)
  have hw : wrap64 ((n : Int) * (M : Int)) = ((n * M : Nat) : Int) := by
    rw [← Int.natCast_mul, w64 (by omega) (by omega)]
  refine Ev.congr (f := fun k => tickingref11_Weights.l0 k n M (List.replicate (n * M) false) 0) (fun k => ?_) (ev_wl0 hn h2 h97 _ (fun T hI => ?_) n 0 _ (by omega) (inv_start n M))
  · unfold tickingref11_Weights.f
    rw [hw, Int.toNat_natCast, if_pos (Int.natCast_nonneg _), if_pos (Nat.le_trans hb (by decide))]
  · by_cases hc : M % 2 = 0 ∧ 1 < n
    · rw [if_pos hc]
      refine Ev.step (fun k => ?_) (ev_l4_none hn h2 h97 T hI hc.1 (by omega) M 0 (by omega))
      simp only [tickingref11_Weights.l3]; rw [if_pos (by omega)]; rfl
    · rw [if_neg hc]
      exact ev_l3_good hn h2 h97 T hI (by unfold good; omega) hn1 n 0 (by omega)

end Go.Proofs.Ytdkncfmlehcjmaa.X.W18
end

section
/- SerialOwn: what Miss and Weights return is new memory, and no function changes its arguments. -/
set_option linter.unusedVariables false
set_option linter.unusedSimpArgs false
namespace Go.Proofs.Ytdkncfmlehcjmaa.X
open Go.RowKit Go.Proofs.YtdkncfmlehcjmaaW.PrintWords
theorem own_rw (M : Nat) (h3 : 3 ≤ M) (h97 : M ≤ 97) (hM : M % 2 = 1) : Ev (fun k => tickingref11_Weights.f k 6 (M : Int)) (pat 6, true) := by
  have hr := W18.ev_rWeights 6 M (by omega) (by omega) (by omega) h97
  rw [if_neg (by omega), show ((6 : Nat) : Int) = 6 from rfl] at hr
  exact hr
theorem own_sw (M : Nat) (h3 : 3 ≤ M) (h97 : M ≤ 97) (hM : M % 2 = 1) : serial_Weights.f 6 (M : Int) = some (pat 6, 0) := by
  unfold serial_Weights.f
  rw [if_neg (by omega), if_neg (by omega)]; rfl
section
variable {t : List (List Int)} (ht : TabOk t)
include ht
theorem own_table : tabOf t = t := by
  have h12 := ht.2.1
  unfold tabOf
  rw [List.take_of_length_le (by omega)]
  have : t.map (fun r => r.take 25) = t.map id := by
    refine List.map_congr_left fun r hr => ?_
    obtain ⟨i, hi, rfl⟩ := List.getElem_of_mem hr
    have := tab_row ht (i : Int) (by omega) (by omega)
    rw [rdL_nat t i hi] at this
    exact List.take_of_length_le (by omega)
  rw [this, List.map_id]
theorem ev_own_l2 (d : Nat) : ∀ i : Nat, i + d = t.length → Ev (fun k => tickinglaw11_SerialOwn.l2 k t t i) true := by
  have h12 := ht.2.1
  induction d with
  | zero =>
    intro i hi
    refine Ev.step (f := fun k => (tickinglaw11_awake.f k).bind fun t => some t) (fun k => ?_) (Ev.bind ev_awake (Ev.now true))
    simp only [tickinglaw11_SerialOwn.l2]; rw [if_neg (by omega)]
  | succ d ih =>
    intro i hi
    have hr := tab_row ht (i : Int) (by omega) (by omega)
    have he := ev_ints (rd_L1 t (i : Int)) (rd_L1 t (i : Int)) (by omega)
    rw [decide_eq_true rfl] at he
    refine Ev.step (f := fun k => (tickinglaw11_ints.f k (rd_L1 t (i : Int)) (rd_L1 t (i : Int))).bind fun t861 => if t861 = true then tickinglaw11_SerialOwn.l2 k t t ((i + 1 : Nat) : Int) else some false) (fun k => ?_) (Ev.bind he ?_)
    · simp only [tickinglaw11_SerialOwn.l2]
      rw [if_pos (by omega), if_pos (by omega), if_pos (by omega), w64 (by omega) (by omega)]; rfl
    · simp only [if_true]; exact ih (i + 1) (by omega)
theorem ev_own_j2 : Ev (fun k => tickinglaw11_SerialOwn.j2 k t t false) true := by
  refine Ev.step (fun k => ?_) (ev_own_l2 ht t.length 0 (by omega))
  simp only [tickinglaw11_SerialOwn.j2, Bool.false_eq_true, if_false]; rfl
theorem ev_own_l1 (M : Nat) (h3 : 3 ≤ M) (h97 : M ≤ 97) (hM : M % 2 = 1) (l : List Int) (hl : l.length ≤ 1000) (e : Int) (he : e = 0 ∨ e = 6) (d : Nat) : ∀ (i : Nat) (x14 : List Int), i + d = x14.length → x14.length ≤ 1000 → Ev (fun k => tickinglaw11_SerialOwn.l1 k M t t l l e x14 0 0 i) true := by
  induction d with
  | zero =>
    intro i x14 hi hx
    have hw := own_sw M h3 h97 hM
    have hr := own_rw M h3 h97 hM
    have i1 := ev_ints l l (by omega)
    have i2 := ev_ints (pat 6) (pat 6) (by rw [pat_len]; omega)
    rw [decide_eq_true rfl] at i1 i2
    have hj := ev_own_j2 ht
    have hb : ((t.length : Int) != (t.length : Int)) = false := by simp
    have key : Ev (fun k => (tickingref11_Weights.f k 6 (M : Int)).bind fun bt850 => (tickinglaw11_ints.f k l l).bind fun t854 => (if t854 = true then ((tickinglaw11_ints.f k (pat 6) bt850.1).bind fun t855 => (if t855 = true then (tickinglaw11_SerialOwn.j2 k t t ((t.length : Int) != (t.length : Int))) else (tickinglaw11_SerialOwn.j2 k t t true))) else (tickinglaw11_SerialOwn.j2 k t t true))) true := by
      refine Ev.bind hr (Ev.bind i1 ?_)
      simp only [if_true]
      refine Ev.bind i2 ?_
      simp only [if_true, hb]
      exact hj
    refine Ev.step (fun k => ?_) key
    simp only [tickinglaw11_SerialOwn.l1]
    rw [if_neg (by omega), hw]
    rw [Option.bind_some]
    rcases he with rfl | rfl
    · simp only [eq_self, if_true]
    · simp only [eq_self, if_true, show ¬ ((6 : Int) = 0) by decide, if_false]
  | succ d ih =>
    intro i x14 hi hx
    have h := ih (i + 1) (x14.set i (-7)) (by rw [List.length_set]; omega) (by rw [List.length_set]; omega)
    refine Ev.step (fun k => ?_) h
    simp only [tickinglaw11_SerialOwn.l1]
    rw [if_pos (by omega), if_pos (by omega), w64 (by omega) (by omega), Int.toNat_natCast]; rfl
theorem ev_own_l0 (M : Nat) (h3 : 3 ≤ M) (h97 : M ≤ 97) (hM : M % 2 = 1) (l : List Int) (hl : l.length ≤ 1000) (e : Int) (he : e = 0 ∨ e = 6) (x14 : List Int) (hx : x14.length ≤ 1000) (d : Nat) : ∀ (i : Nat) (x11 : List Int), i + d = x11.length → x11.length ≤ 1000 → Ev (fun k => tickinglaw11_SerialOwn.l0 k M t t l l x11 e x14 0 0 i) true := by
  induction d with
  | zero =>
    intro i x11 hi hx1
    refine Ev.step (fun k => ?_) (ev_own_l1 ht M h3 h97 hM l hl e he x14.length 0 x14 (by omega) hx)
    simp only [tickinglaw11_SerialOwn.l0]
    rw [if_neg (by omega)]; rfl
  | succ d ih =>
    intro i x11 hi hx1
    have h := ih (i + 1) (x11.set i (-7)) (by rw [List.length_set]; omega) (by rw [List.length_set]; omega)
    refine Ev.step (fun k => ?_) h
    simp only [tickinglaw11_SerialOwn.l0]
    rw [if_pos (by omega), if_pos (by omega), w64 (by omega) (by omega), Int.toNat_natCast]; rfl
end
theorem ev_SerialOwn (l0 : List (List Int)) (l1 : List Int) (a2 : Int) (hl : l0.length ≤ maxLen) : Ev (fun k => tickinglaw11_SerialOwn.f k l0 l1 a2) true := by
  obtain ⟨t, ht, h5, htm⟩ := ev_tame l0 5 (by omega) (by omega) hl
  have h22 := ht.1
  have h12 := ht.2.1
  have hmod := modN_in a2 40 (by omega)
  obtain ⟨q, hq⟩ : ∃ q : Nat, modN a2 40 = q := ⟨(modN a2 40).toNat, by omega⟩
  have htb := ev_table t
  rw [own_table ht] at htb
  have hdg := ev_digits l1 23 (t.length : Int) (by omega) (by omega) (by omega)
  have hdl := digitsOf_len l1 23 (t.length : Int)
  have hdd := digitsOf_digs l1 23 (t.length : Int) (by omega)
  refine Ev.bind htm (Ev.bind htb (Ev.bind hdg ?_))
  obtain ⟨l, hle⟩ : ∃ l, digitsOf l1 23 (t.length : Int) = l := ⟨_, rfl⟩
  rw [hle] at hdl hdd ⊢
  have e3 : tickinglaw11_list.f l = some l := (show tickinglaw11_list.f l = some (l.take 25) from rfl).trans (by rw [List.take_of_length_le (by omega)])
  have m2 : serial_Miss.f t 2 = some (missV t 2) := miss_yes (kd := 2) (isTabOk ht) (by omega) (by omega)
  have ew : wrap64 (3 + wrap64 (2 * (q : Int))) = ((3 + 2 * q : Nat) : Int) := by
    rw [w64 (x := 2 * (q : Int)) (by omega) (by omega), w64 (by omega) (by omega)]; omega
  have hw : serial_Weights.f 6 ((3 + 2 * q : Nat) : Int) = some (pat 6, 0) := by
    unfold serial_Weights.f
    rw [if_neg (by omega), if_neg (by omega)]; rfl
  rw [e3, mod_eq a2 40 (by omega) (by omega), hq, m2]
  simp only [Option.bind_some]
  rw [ew, hw]
  simp only [Option.bind_some]
  obtain ⟨j, _, _, _, hj, _⟩ := ev_sDigit_yes ht l hdd (by omega)
  refine Ev.bind hj ?_
  rcases missV_cases ht (kd := 2) (by omega) with e | ⟨x, e, _, _, hx, _⟩
  · rw [e]
    exact ev_own_l0 ht (3 + 2 * q) (by omega) (by omega) (by omega) l (by omega) 6 (.inr rfl) (pat 6) (by rw [pat_len]; omega) 0 0 [] rfl (by simp)
  · rw [e]
    exact ev_own_l0 ht (3 + 2 * q) (by omega) (by omega) (by omega) l (by omega) 0 (.inl rfl) (pat 6) (by rw [pat_len]; omega) x.length 0 x (by simp) (by omega)
end Go.Proofs.Ytdkncfmlehcjmaa.X
namespace Go.Proofs.Ytdkncfmlehcjmaa.Pure
open Go.Proofs.Ytdkncfmlehcjmaa.X Go.Proofs.YtdkncfmlehcjmaaW.PrintWords
theorem SerialOwn : ∀ (l0 : List (List Int)) (l1 : List Int) (a2 : Int), l0.length ≤ maxLen → (∀ r ∈ l0, ∀ x ∈ r, (Lit.int .i64 x).wf = true) → l1.length ≤ maxLen → (∀ x ∈ l1, (Lit.int .i64 x).wf = true) → (Lit.int .i64 a2).wf = true → ∃ k, tickinglaw11_SerialOwn.f k l0 l1 a2 = some true := fun l0 l1 a2 h _ _ _ _ => by
  obtain ⟨k, hk⟩ := ev_SerialOwn l0 l1 a2 h
  exact ⟨k, hk k (Nat.le_refl _)⟩
end Go.Proofs.Ytdkncfmlehcjmaa.Pure
end
