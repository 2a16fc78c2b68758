/- Numbers and tables made from whatever comes in: mod, digits, tame. -/
import Derived.Test.YtdkncfmlehcjmaaTS2
import Derived.Test.YtdkncfmlehcjmaaTX17
import Derived.Test.YtdkncfmlehcjmaaTX18
set_option linter.unusedVariables false
set_option linter.unusedSimpArgs false
namespace Go.Proofs.Ytdkncfmlehcjmaa.X
open Go.RowKit Go.Proofs.YtdkncfmlehcjmaaW.PrintWords

/-! ### mod -/
theorem wrap_u64 (x : Int) : IntKind.u64.wrap x = x % 18446744073709551616 := by
  simp [IntKind.wrap, IntKind.bits, IntKind.signed]
def modN (x n : Int) : Int := (x % 18446744073709551616) % n
theorem modN_in (x n : Int) (h : 1 ≤ n) : 0 ≤ modN x n ∧ modN x n < n := by
  unfold modN; exact ⟨Int.emod_nonneg _ (by omega), Int.emod_lt_of_pos _ (by omega)⟩
theorem mod_eq (x n : Int) (h : 1 ≤ n) (h2 : n ≤ 1000000) : tickinglaw11_mod.f x n = some (modN x n) := by
  unfold tickinglaw11_mod.f
  have hn : IntKind.u64.wrap n = n := by rw [wrap_u64]; omega
  have hx0 : 0 ≤ x % 18446744073709551616 := Int.emod_nonneg _ (by omega)
  have := modN_in x n h
  rw [hn, if_neg (by omega), wrap_u64, Int.tmod_eq_emod_of_nonneg hx0]
  unfold modN at this ⊢
  rw [w64 (by omega) (by omega)]
theorem modN_id (x n : Int) (h0 : 0 ≤ x) (h1 : x < n) (h2 : n ≤ 1000000) : modN x n = x := by
  unfold modN; rw [Int.emod_eq_of_lt h0 (by omega), Int.emod_eq_of_lt h0 h1]

/-! ### digits -/
def digitsOf (l : List Int) (most : Nat) (n : Int) : List Int := (l.take most).map fun d => modN d n
theorem ev_digits_l (l : List Int) (most : Nat) (n : Int) (hm : most ≤ 1000) (h : 1 ≤ n) (h2 : n ≤ 1000000) (d : Nat) : ∀ i, i + d = l.length → Ev (fun k => tickinglaw11_digits.l0 k l most n ((l.take (min i most)).map fun d => modN d n) (min i most : Nat)) (digitsOf l most n) := by
  induction d with
  | zero =>
    intro i hi
    refine Ev.step (f := fun _ => some (digitsOf l most n)) (fun k => ?_) (Ev.now _)
    simp only [tickinglaw11_digits.l0]
    by_cases h : i < most
    · rw [show min i most = i by omega, if_neg (by omega)]
      unfold digitsOf; rw [List.take_of_length_le (by omega), List.take_of_length_le (by omega)]
    · rw [show min i most = most by omega]
      by_cases h2 : l.length = most
      · rw [if_neg (by omega)]; rfl
      · rw [if_pos (by omega), if_neg (by omega)]; rfl
  | succ d ih =>
    intro i hi
    by_cases h : i < most
    · have h1 := ih (i + 1) (by omega)
      rw [show min (i + 1) most = i + 1 by omega] at h1
      rw [show min i most = i by omega]
      refine Ev.step (fun k => ?_) h1
      simp only [tickinglaw11_digits.l0]
      rw [if_pos (by omega), if_pos (by omega), if_pos (by omega), rd_nat l i (by omega), mod_eq _ _ (by omega) h2]
      simp only [Option.bind_some]
      have hc : ((l.take i).map fun d => modN d n).length < 17592186044416 := by rw [List.length_map, List.length_take]; omega
      rw [if_pos hc, w64 (by omega) (by omega), List.take_succ_eq_append_getElem (show i < l.length by omega), List.map_append]; rfl
    · have h1 := ih (i + 1) (by omega)
      rw [show min (i + 1) most = most by omega] at h1
      rw [show min i most = most by omega]
      exact h1
theorem ev_digits (l : List Int) (most : Nat) (n : Int) (hm : most ≤ 1000) (h : 1 ≤ n) (h2 : n ≤ 1000000) : Ev (fun k => tickinglaw11_digits.f k l most n) (digitsOf l most n) := by
  have := ev_digits_l l most n hm h h2 l.length 0 (by omega)
  simp only [Nat.zero_le, Nat.min_eq_left, List.take_zero, List.map_nil] at this
  exact this
theorem digitsOf_len (l : List Int) (most : Nat) (n : Int) : (digitsOf l most n).length ≤ most := by simp [digitsOf]; omega
theorem digitsOf_digs (l : List Int) (most : Nat) (n : Int) (h : 1 ≤ n) : digs (digitsOf l most n) n = true := by
  unfold digs digitsOf
  rw [List.all_eq_true]
  intro x hx
  simp only [List.mem_map] at hx
  obtain ⟨y, _, rfl⟩ := hx
  have := modN_in y n h
  simpa using this

/-! ### tame -/
/-- The numbers from 0 to n - 1 in some order. -/
def Order (names : List Int) (n : Nat) : Prop := names.length = n ∧ names.Nodup ∧ ∀ x ∈ names, 0 ≤ x ∧ x < n
theorem order_in {names : List Int} {i : Nat} (h : Order names i) (at_ : Nat) (ha : at_ ≤ i) : Order (names.take at_ ++ [(i : Int)] ++ names.drop at_) (i + 1) := by
  obtain ⟨h1, h2, h3⟩ := h
  refine ⟨by simp; omega, ?_, ?_⟩
  · have hp : (names.take at_ ++ [(i : Int)] ++ names.drop at_).Perm ((i : Int) :: names) := by
      have : names.take at_ ++ [(i : Int)] ++ names.drop at_ = names.take at_ ++ (i : Int) :: names.drop at_ := by simp
      rw [this]
      refine List.perm_middle.trans ?_
      rw [List.take_append_drop]
    rw [hp.nodup_iff, List.nodup_cons]
    exact ⟨fun hm => by have := h3 _ hm; omega, h2⟩
  · intro x hx
    simp only [List.mem_append, List.mem_singleton] at hx
    rcases hx with (hx | rfl) | hx
    · have := h3 x (List.mem_of_mem_take hx); omega
    · omega
    · have := h3 x (List.mem_of_mem_drop hx); omega
def orderRow (names : List Int) (n : Nat) (i : Int) : List Int := (List.range n).map fun (j : Nat) => rd names ((rd names i + (j : Int)) % (n : Int))
def orderT (names : List Int) (n : Nat) : List (List Int) := (List.range n).map fun (i : Nat) => orderRow names n (i : Int)
theorem order_rd {names : List Int} {n : Nat} (h : Order names n) (i : Int) (h0 : 0 ≤ i) (h1 : i < n) : 0 ≤ rd names i ∧ rd names i < n := by
  have hi : i.toNat < names.length := by have := h.1; omega
  have e := rd_nat names i.toNat hi
  rw [Int.toNat_of_nonneg h0] at e
  rw [e]; exact h.2.2 _ (List.getElem_mem hi)
theorem order_inj {names : List Int} {n : Nat} (h : Order names n) (i j : Int) (h0 : 0 ≤ i) (h1 : i < n) (j0 : 0 ≤ j) (j1 : j < n) (e : rd names i = rd names j) : i = j := by
  have hi : i.toNat < names.length := by have := h.1; omega
  have hj : j.toNat < names.length := by have := h.1; omega
  have ei := rd_nat names i.toNat hi
  have ej := rd_nat names j.toNat hj
  rw [Int.toNat_of_nonneg h0] at ei
  rw [Int.toNat_of_nonneg j0] at ej
  rw [ei, ej] at e
  have := (List.getElem_inj h.2.1).1 e
  omega
theorem orderT_len (names : List Int) (n : Nat) : (orderT names n).length = n := by simp [orderT]
theorem orderT_rd2 (names : List Int) (n : Nat) (i j : Nat) (hi : i < n) (hj : j < n) : rd2 (orderT names n) i j = rd names ((rd names (i : Int) + (j : Int)) % (n : Int)) := by
  unfold rd2
  rw [rdL_nat _ i (by simp [orderT]; omega)]
  have : (orderT names n)[i]'(by simp [orderT]; omega) = orderRow names n i := by simp [orderT]
  rw [this, rd_nat _ j (by simp [orderRow]; omega)]
  simp [orderRow]
theorem add_mod_inj {n a b c : Int} (hn : 0 < n) (ha0 : 0 ≤ a) (ha1 : a < n) (hb0 : 0 ≤ b) (hb1 : b < n) (e : (a + c) % n = (b + c) % n) : a = b := by
  have h : (a + c - (b + c)) % n = 0 := Int.emod_eq_emod_iff_emod_sub_eq_zero.1 e
  have h2 : (a - b) % n = 0 := by rw [show a - b = a + c - (b + c) by omega]; exact h
  obtain ⟨q, hq⟩ := Int.dvd_of_emod_eq_zero h2
  by_cases hq0 : q = 0
  · subst hq0; omega
  · exfalso
    rcases Int.lt_or_gt_of_ne hq0 with hl | hg
    · have : n * q ≤ n * (-1) := Int.mul_le_mul_of_nonneg_left (by omega) (by omega)
      omega
    · have : n * 1 ≤ n * q := Int.mul_le_mul_of_nonneg_left (by omega) (by omega)
      omega
theorem orderT_ok {names : List Int} {n : Nat} (h : Order names n) (h1 : 2 ≤ n) (h2 : n ≤ 12) : TabOk (orderT names n) := by
  have hl := orderT_len names n
  rw [tabOk_iff, hl]
  have hm : ∀ x : Int, 0 ≤ x % (n : Int) ∧ x % (n : Int) < n := fun x => ⟨Int.emod_nonneg _ (by omega), Int.emod_lt_of_pos _ (by omega)⟩
  refine ⟨h1, h2, fun a ha => ⟨?_, fun b hb => ?_⟩, ?_⟩
  · rw [rdL_nat _ a (by omega)]; simp [orderT, orderRow]
  · rw [hl] at hb ⊢
    rw [orderT_rd2 names n a b ha hb]
    have := hm (rd names a + b)
    have := order_rd h _ this.1 this.2
    omega
  · intro i hi j hj k hk
    rw [hl] at hi hj
    rw [orderT_rd2 names n i k hi (by omega), orderT_rd2 names n i j hi hj, orderT_rd2 names n k i (by omega) hi, orderT_rd2 names n j i hj hi]
    constructor
    · intro e
      have := order_inj h _ _ (hm _).1 (hm _).2 (hm _).1 (hm _).2 e
      rw [Int.add_comm (rd names i), Int.add_comm (rd names i)] at this
      have := add_mod_inj (by omega) (by omega) (by omega) (by omega) (by omega) this
      omega
    · intro e
      have e2 := order_inj h _ _ (hm _).1 (hm _).2 (hm _).1 (hm _).2 e
      have rk := order_rd h (k : Int) (by omega) (by omega)
      have rj := order_rd h (j : Int) (by omega) (by omega)
      have e3 := add_mod_inj (by omega) rk.1 rk.2 rj.1 rj.2 e2
      have := order_inj h _ _ (by omega) (by omega) (by omega) (by omega) e3
      omega
theorem ev_tame_2 (names : List Int) (n : Nat) (h : Order names n) (h1 : 2 ≤ n) (h2 : n ≤ 12) (i : Nat) (hi : i < n) (rows : List (List Int)) (hr : rows.length ≤ 1000) (r : List (List Int))
    (hn : Ev (fun k => tickinglaw11_tame.l1 k n names (rows ++ [orderRow names n i]) ((i : Int) + 1)) r) (d : Nat) : ∀ j : Nat, j + d = n → Ev (fun k => tickinglaw11_tame.l2 k n names rows i ((List.range j).map fun (j : Nat) => rd names ((rd names i + (j : Int)) % (n : Int))) j) r := by
  induction d with
  | zero =>
    intro j hj
    obtain rfl : j = n := by omega
    refine Ev.step (fun q => ?_) hn
    simp only [tickinglaw11_tame.l2]
    rw [if_neg (by omega), if_pos (by omega), w64 (by omega) (by omega)]; rfl
  | succ d ih =>
    intro j hj
    have hlen := h.1
    have hri := order_rd h (i : Int) (by omega) (by omega)
    have hm : Int.tmod (wrap64 ((rd names i) + (j : Int))) (n : Int) = (rd names i + (j : Int)) % (n : Int) := by
      rw [w64 (by omega) (by omega), Int.tmod_eq_emod_of_nonneg (by omega)]
    have hb : 0 ≤ (rd names i + (j : Int)) % (n : Int) ∧ (rd names i + (j : Int)) % (n : Int) < n := ⟨Int.emod_nonneg _ (by omega), Int.emod_lt_of_pos _ (by omega)⟩
    refine Ev.step (fun q => ?_) (ih (j + 1) (by omega))
    simp only [tickinglaw11_tame.l2]
    rw [hm, if_pos (by omega), if_pos (by omega), if_pos (by omega), if_neg (by omega), if_pos hb.1, if_pos (by omega), if_pos (by simp; omega), w64 (by omega) (by omega), List.range_succ, List.map_append]; rfl
theorem ev_tame_1 (names : List Int) (n : Nat) (h : Order names n) (h1 : 2 ≤ n) (h2 : n ≤ 12) (d : Nat) : ∀ i : Nat, i + d = n → Ev (fun k => tickinglaw11_tame.l1 k n names ((List.range i).map fun (i : Nat) => orderRow names n (i : Int)) i) (orderT names n) := by
  induction d with
  | zero =>
    intro i hi
    obtain rfl : i = n := by omega
    refine Ev.step (f := fun _ => some (orderT names i)) (fun q => ?_) (Ev.now _)
    simp only [tickinglaw11_tame.l1]; rw [if_neg (by omega)]; rfl
  | succ d ih =>
    intro i hi
    have h3 := ih (i + 1) (by omega)
    rw [List.range_succ, List.map_append] at h3
    refine Ev.step (fun q => ?_) (ev_tame_2 names n h h1 h2 i (by omega) ((List.range i).map fun (i : Nat) => orderRow names n (i : Int)) (by simp; omega) _ (by simpa using h3) n 0 (by omega))
    simp only [tickinglaw11_tame.l1]; rw [if_pos (by omega)]; rfl
theorem ev_tame_0 (t : List (List Int)) (n : Nat) (h1 : 2 ≤ n) (h2 : n ≤ 12) (d : Nat) : ∀ (i : Nat) (names : List Int), i + d = n → Order names i → ∃ x, TabOk x ∧ x.length = n ∧ Ev (fun k => tickinglaw11_tame.l0 k t n names i) x := by
  induction d with
  | zero =>
    intro i names hi h
    obtain rfl : i = n := by omega
    refine ⟨orderT names i, orderT_ok h h1 h2, orderT_len _ _, Ev.step (fun q => ?_) (ev_tame_1 names i h h1 h2 i 0 (by omega))⟩
    simp only [tickinglaw11_tame.l0]; rw [if_neg (by omega)]; rfl
  | succ d ih =>
    intro i names hi h
    have hlen := h.1
    have hold : ∀ at_ : Nat, at_ ≤ i → ∃ x, TabOk x ∧ x.length = n ∧ Ev (fun k => tickinglaw11_tame.l0 k t n (names.take at_ ++ [(i : Int)] ++ names.drop at_) ((i + 1 : Nat) : Int)) x := fun at_ ha => ih (i + 1) _ (by omega) (order_in h at_ ha)
    by_cases hr : i < t.length
    · by_cases hz : 0 < (rd_L1 t (i : Int)).length
      · have hm := modN_in (rd (rd_L1 t (i : Int)) 0) ((i : Int) + 1) (by omega)
        obtain ⟨x, hx1, hx2, hx⟩ := hold (modN (rd (rd_L1 t (i : Int)) 0) ((i : Int) + 1)).toNat (by omega)
        refine ⟨x, hx1, hx2, Ev.step (fun q => ?_) hx⟩
        simp only [tickinglaw11_tame.l0]
        rw [if_pos (by omega), if_pos (by omega), if_pos (by omega), if_pos (by omega), if_pos (by omega), w64 (by omega) (by omega), mod_eq _ _ (by omega) (by omega)]
        simp only [Option.bind_some, List.nil_append, List.length_nil, Nat.zero_add]
        rw [if_pos (by omega), if_pos (by omega), if_pos (by simp; omega), if_pos (by simp; omega), if_pos (by simp; omega)]; rfl
      · obtain ⟨x, hx1, hx2, hx⟩ := hold i (Nat.le_refl _)
        refine ⟨x, hx1, hx2, Ev.step (fun q => ?_) hx⟩
        simp only [tickinglaw11_tame.l0]
        rw [if_pos (by omega), if_pos (by omega), if_pos (by omega), if_neg (by omega), if_pos (by omega), w64 (by omega) (by omega)]
        simp only [Option.bind_some, List.nil_append, List.length_nil, Nat.zero_add, Int.toNat_natCast]
        rw [if_pos (by simp; omega), if_pos (by simp; omega), if_pos (by simp; omega)]; rfl
    · obtain ⟨x, hx1, hx2, hx⟩ := hold i (Nat.le_refl _)
      refine ⟨x, hx1, hx2, Ev.step (fun q => ?_) hx⟩
      simp only [tickinglaw11_tame.l0]
      rw [if_pos (by omega), if_neg (by omega), if_pos (by omega), if_pos (by omega), w64 (by omega) (by omega)]
      simp only [Option.bind_some, List.nil_append, List.length_nil, Nat.zero_add, Int.toNat_natCast]
      rw [if_pos (by simp; omega), if_pos (by simp; omega), if_pos (by simp; omega)]; rfl
theorem ev_tame_j (t x5 : List (List Int)) (most : Int) (h1 : 2 ≤ most) (h2 : most ≤ 12) (hl : t.length ≤ maxLen) : ∃ x, TabOk x ∧ (x.length : Int) ≤ most ∧ Ev (fun k => tickinglaw11_tame.j0 k t most x5 false) x := by
  have hm := modN_in (t.length : Int) (most - 1) (by omega)
  obtain ⟨x, hx1, hx2, hx⟩ := ev_tame_0 t (2 + modN (t.length : Int) (most - 1)).toNat (by omega) (by omega) (2 + modN (t.length : Int) (most - 1)).toNat 0 [] (by omega) ⟨rfl, List.nodup_nil, by simp⟩
  rw [Int.toNat_of_nonneg (by omega)] at hx
  refine ⟨x, hx1, by omega, Ev.step (fun q => ?_) hx⟩
  simp only [tickinglaw11_tame.j0, Bool.false_eq_true, if_false]
  rw [w64 (by omega) (by omega), mod_eq _ _ (by omega) (by omega)]
  simp only [Option.bind_some]
  rw [w64 (by omega) (by omega)]; rfl
theorem ev_tame (t : List (List Int)) (most : Int) (h1 : 2 ≤ most) (h2 : most ≤ 12) (hl : t.length ≤ maxLen) : ∃ x, TabOk x ∧ (x.length : Int) ≤ most ∧ Ev (fun k => tickinglaw11_tame.f k t most) x := by
  by_cases h : isTab (tabOf t) = true ∧ ((tabOf t).length : Int) ≤ most
  · refine ⟨tabOf t, of_decide_eq_true h.1, h.2, ?_⟩
    refine Ev.bind (ev_table t) (Ev.bind (ev_Table _) ?_)
    simp only [h.1, if_true, decide_eq_true h.2]
    exact Ev.step (f := fun _ => some (tabOf t)) (fun q => by simp [tickinglaw11_tame.j0]) (Ev.now _)
  · obtain ⟨x, hx1, hx2, hx⟩ := ev_tame_j t (tabOf t) most h1 h2 hl
    refine ⟨x, hx1, hx2, ?_⟩
    refine Ev.bind (ev_table t) (Ev.bind (ev_Table _) ?_)
    cases hb : isTab (tabOf t) with
    | true =>
      have : ¬ ((tabOf t).length : Int) ≤ most := fun h' => h ⟨hb, h'⟩
      simp only [if_true, decide_eq_false this]
      exact hx
    | false => simp only [Bool.false_eq_true, if_false]; exact hx
end Go.Proofs.Ytdkncfmlehcjmaa.X
