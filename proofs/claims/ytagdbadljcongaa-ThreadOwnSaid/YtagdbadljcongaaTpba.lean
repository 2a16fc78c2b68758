/- Texts behind ThreadOwn, part 27: contracts of the program's functions and the plain words for them. -/
import Derived.WalkKit
import Derived.ProofKit
import Derived.OpenShut
import Derived.ShutString
import Derived.ChangeOld
import Derived.Lib.SmallJoins
import Derived.SliceStrings
import Derived.Test.YtagdbadljcongaaTpae
import Derived.Test.YtagdbadljcongaaTpas
import Derived.Test.YtagdbadljcongaaTpat
import Derived.Test.YtagdbadljcongaaTpau
import Derived.Test.YtagdbadljcongaaTpav
import Derived.Test.YtagdbadljcongaaTpax
import Derived.Test.YtagdbadljcongaaTpay
import Derived.Test.YtagdbadljcongaaTpaz
section
/- The reference's Minimal in plain Lean: the minimal words in their order. -/
set_option linter.unusedVariables false
set_option linter.unusedSimpArgs false
namespace Go.Proofs.Ytagdbadljcongaa.X
open Go Go.RowKit Go.Proofs Go.Proofs.YtagdbadljcongaaW.PrintWords Go.Proofs.YtagdbadljcongaaW.PrintLast Go.Proofs.YtagdbadljcongaaW.PrintMore
/-- From some rounds on, the answer. -/
def Ev {α : Type} (g : Nat → Option α) (r : α) : Prop := ∃ K, ∀ k, K ≤ k → g k = some r
theorem Ev.step {α : Type} {g h : Nat → Option α} {r : α} (K0 : Nat) (e : ∀ k, K0 ≤ k → g (k + 1) = h k) (hh : Ev h r) : Ev g r := by
  obtain ⟨K, hK⟩ := hh
  refine ⟨K + K0 + 1, fun k hk => ?_⟩
  obtain ⟨k, rfl⟩ : ∃ j, k = j + 1 := ⟨k - 1, by omega⟩
  rw [e k (by omega)]
  exact hK k (by omega)
theorem Ev.now {α : Type} {g : Nat → Option α} {r : α} (e : ∀ k, g (k + 1) = some r) : Ev g r := ⟨1, fun k hk => by
  obtain ⟨k, rfl⟩ : ∃ j, k = j + 1 := ⟨k - 1, by omega⟩
  exact e k⟩
/-- Whether a word comes before another one. -/
def lsB (a b : ByteArray) : Bool := if a.size = b.size then Op.bytesLess a.toList b.toList else decide (a.size < b.size)
theorem less_f (a b : ByteArray) : tickingref03_Less.f a b = some (lsB a b) := by
  unfold tickingref03_Less.f lsB
  by_cases h : a.size = b.size
  · rw [if_pos (by omega), if_pos h]
  · rw [if_neg (by omega), if_neg h]
    congr 1
    rw [decide_eq_decide]
    omega
theorem lsB_iff {a b : ByteArray} (ha : Ltr 4 (bl a)) (hb : Ltr 4 (bl b)) : lsB a b = true ↔ key (bl a) < key (bl b) := by
  unfold lsB
  split
  · rename_i h
    rw [bytesLess_bl]
    exact key_less _ _ (by rw [bl_length, bl_length]; exact h) ha hb
  · rename_i h
    rw [decide_eq_true_iff]
    constructor
    · intro h1
      rcases Nat.lt_or_ge (key (bl a)) (key (bl b)) with h2 | h2
      · exact h2
      · have := key_len hb ha h2
        rw [bl_length, bl_length] at this
        omega
    · intro h1
      have := key_len ha hb (by omega)
      rw [bl_length, bl_length] at this
      omega
/-- Where a word is put in. -/
def posI (x : ByteArray) (out : List ByteArray) : Nat → Nat → Nat
  | 0, p => p
  | e + 1, p => if lsB (out.getD p ByteArray.empty) x then posI x out e (p + 1) else p
def insI (x : ByteArray) (out : List ByteArray) (p : Nat) : List ByteArray := out.take p ++ [x] ++ out.drop p
theorem posI_ok (x : ByteArray) (out : List ByteArray) : ∀ e p, p + e = out.length → p ≤ posI x out e p ∧ posI x out e p ≤ out.length ∧ (∀ j, p ≤ j → j < posI x out e p → lsB (out.getD j ByteArray.empty) x = true) ∧ (posI x out e p < out.length → lsB (out.getD (posI x out e p) ByteArray.empty) x = false)
  | 0, p, h => ⟨Nat.le_refl _, by unfold posI; omega, fun j h1 h2 => by unfold posI at h2; omega, fun h1 => by unfold posI at h1; omega⟩
  | e + 1, p, h => by
    unfold posI
    split
    · rename_i hl
      obtain ⟨a, b, c, d⟩ := posI_ok x out e (p + 1) (by omega)
      exact ⟨by omega, b, fun j h1 h2 => by
        by_cases e : j = p
        · subst e; exact hl
        · exact c j (by omega) h2, d⟩
    · rename_i hl
      exact ⟨Nat.le_refl _, by omega, fun j h1 h2 => by omega, fun _ => by simpa using hl⟩
/-- Whether the i-th word is kept, seen from the j-th on. -/
def kpE (l : List ByteArray) (i j : Nat) : Bool := !(subB (l.getD j ByteArray.empty) (l.getD i ByteArray.empty) && (decide (l.getD j ByteArray.empty ≠ l.getD i ByteArray.empty) || decide (j < i)))
def kpB (l : List ByteArray) (i : Nat) : Nat → Nat → Bool
  | 0, _ => true
  | e + 1, j => kpE l i j && kpB l i e (j + 1)
theorem kpB_iff (l : List ByteArray) (i : Nat) : ∀ e j, kpB l i e j = true ↔ ∀ q, j ≤ q → q < j + e → kpE l i q = true
  | 0, j => by
    unfold kpB
    exact iff_of_true rfl fun q h1 h2 => by omega
  | e + 1, j => by
    unfold kpB
    rw [Bool.and_eq_true, kpB_iff l i e (j + 1)]
    constructor
    · rintro ⟨h1, h2⟩ q h3 h4
      by_cases e : q = j
      · subst e; exact h1
      · exact h2 q (by omega) (by omega)
    · exact fun h => ⟨h j (by omega) (by omega), fun q h1 h2 => h q (by omega) (by omega)⟩
def rmF (l : List ByteArray) : Nat → List ByteArray → Nat → List ByteArray
  | 0, out, _ => out
  | d + 1, out, i => rmF l d (if kpB l i l.length 0 then insI (l.getD i ByteArray.empty) out (posI (l.getD i ByteArray.empty) out out.length 0) else out) (i + 1)
theorem w1n (i : Nat) (h : i ≤ 1000000) : wrap64 ((i : Int) + 1) = ((i + 1 : Nat) : Int) := by unfold wrap64; omega
theorem rdOf_c (l : List ByteArray) (i : Nat) : rdOf ByteArray.empty l (i : Int) = l.getD i ByteArray.empty := by unfold rdOf; rw [Int.toNat_natCast]
theorem min_l2 (l out : List ByteArray) (i : Nat) (hl : l.length ≤ 1000) (ho : out.length ≤ 1000) (hi : i < l.length) (r : List ByteArray) : ∀ e p, p + e = out.length → Ev (fun k => tickingref03_Minimal.l0 k l (insI (l.getD i ByteArray.empty) out (posI (l.getD i ByteArray.empty) out e p)) ((i + 1 : Nat) : Int)) r → Ev (fun k => tickingref03_Minimal.l2 k l out (i : Int) (p : Int)) r
  | 0, p, hp, h => by
    refine h.step 0 fun k _ => ?_
    unfold tickingref03_Minimal.l2 posI insI
    rw [if_neg (by omega), if_pos (by omega), if_pos (by omega)]
    have e1 : (out.take p).length < 8796093022208 := by rw [List.length_take]; omega
    have e2 : (out.take p ++ [rdOf ByteArray.empty l (i : Int)]).length + (out.drop p).length < 8796093022208 := by simp [List.length_append, List.length_take]; omega
    simp only [Option.bind_some, Int.toNat_natCast, List.nil_append, List.length_nil, Nat.zero_add]
    rw [if_pos e1, if_pos (show 0 ≤ (i : Int) by omega), if_pos (show (i : Int) < (l.length : Int) by omega), if_pos (show (out.take p).length < 8796093022208 from e1), if_pos e2, w1n i (by omega)]
    rfl
  | e + 1, p, hp, h => by
    have hpl : p < out.length := by omega
    unfold posI at h
    cases hls : lsB (out.getD p ByteArray.empty) (l.getD i ByteArray.empty) with
    | true =>
      rw [if_pos hls] at h
      refine (min_l2 l out i hl ho hi r e (p + 1) (by omega) h).step 0 fun k _ => ?_
      show tickingref03_Minimal.l2 (k + 1) l out (i : Int) (p : Int) = _
      conv => lhs; unfold tickingref03_Minimal.l2
      rw [if_pos (by omega), if_pos (by omega), if_pos (by omega), if_pos (by omega), less_f, rdOf_c, rdOf_c, hls, Option.bind_some, if_pos rfl, w1n p (by omega)]
    | false =>
      rw [if_neg (by rw [hls]; decide)] at h
      refine h.step 0 fun k _ => ?_
      have e1 : (out.take p).length < 8796093022208 := by rw [List.length_take]; omega
      have e2 : (out.take p ++ [rdOf ByteArray.empty l (i : Int)]).length + (out.drop p).length < 8796093022208 := by simp [List.length_append, List.length_take]; omega
      show tickingref03_Minimal.l2 (k + 1) l out (i : Int) (p : Int) = _
      unfold tickingref03_Minimal.l2
      rw [if_pos (by omega), if_pos (by omega), if_pos (by omega), if_pos (by omega), less_f, rdOf_c, rdOf_c, hls, Option.bind_some, if_neg (by decide), if_pos (by omega)]
      simp only [Option.bind_some, Int.toNat_natCast, List.nil_append, List.length_nil, Nat.zero_add]
      rw [rdOf_c] at e2
      rw [if_pos e1, if_pos e1, if_pos e2, w1n i (by omega)]
      rfl
theorem within_f (u s : ByteArray) (hu : u.size ≤ 1000) (hs : s.size ≤ 1000) (k : Nat) (hk : 3000 ≤ k) : ∃ xs, tickingref03_Within.f k u s = some (xs, subB u s) := by
  have h := within_ev u s (by omega) (by omega) u.size 0 k 0 [] (by omega) (by omega) (by simp) (by omega)
  rw [List.drop_zero] at h
  unfold tickingref03_Within.f
  rw [show ((0 : Nat) : Int) = 0 from rfl] at h
  rw [h]
  unfold wthI subB
  cases wth (bl s) 0 (bl u) <;> exact ⟨_, rfl⟩
theorem min_l1 (l out : List ByteArray) (i : Nat) (hl : l.length ≤ 1000) (hi : i < l.length) (hs : ∀ x ∈ l, x.size ≤ 1000) (r : List ByteArray) : ∀ e j b, j + e = l.length → ((b && kpB l i e j) = true → Ev (fun k => tickingref03_Minimal.l2 k l out (i : Int) ((0 : Nat) : Int)) r) → ((b && kpB l i e j) = false → Ev (fun k => tickingref03_Minimal.l0 k l out ((i + 1 : Nat) : Int)) r) → Ev (fun k => tickingref03_Minimal.l1 k l out (i : Int) b (j : Int)) r
  | 0, j, b, hj, h1, h2 => by
    cases b with
    | true =>
      refine (h1 rfl).step 0 fun k _ => ?_
      show tickingref03_Minimal.l1 (k + 1) l out (i : Int) true (j : Int) = _
      conv => lhs; unfold tickingref03_Minimal.l1
      rw [if_neg (by omega), if_pos rfl]
      rfl
    | false =>
      refine (h2 rfl).step 0 fun k _ => ?_
      show tickingref03_Minimal.l1 (k + 1) l out (i : Int) false (j : Int) = _
      conv => lhs; unfold tickingref03_Minimal.l1
      rw [if_neg (by omega), if_neg (by decide), w1n i (by omega)]
  | e + 1, j, b, hj, h1, h2 => by
    have hjl : j < l.length := by omega
    have ex : ∀ q, q < l.length → (l.getD q ByteArray.empty).size ≤ 1000 := fun q hq => by
      rw [List.getD_eq_getElem?_getD, List.getElem?_eq_getElem hq]
      exact hs _ (List.getElem_mem hq)
    have e0 : (b && kpB l i (e + 1) j) = ((b && kpE l i j) && kpB l i e (j + 1)) := by
      show (b && (kpE l i j && kpB l i e (j + 1))) = _
      rw [Bool.and_assoc]
    rw [e0] at h1 h2
    refine (min_l1 l out i hl hi hs r e (j + 1) (b && kpE l i j) (by omega) h1 h2).step 3000 fun k hk => ?_
    show tickingref03_Minimal.l1 (k + 1) l out (i : Int) b (j : Int) = _
    conv => lhs; unfold tickingref03_Minimal.l1
    obtain ⟨xs, hw⟩ := within_f (l.getD j ByteArray.empty) (l.getD i ByteArray.empty) (ex j hjl) (ex i hi) k hk
    rw [if_pos (by omega), if_pos (by omega), if_pos (by omega), if_pos (by omega), rdOf_c, rdOf_c, hw, Option.bind_some, w1n j (by omega)]
    unfold kpE
    cases hb : subB (l.getD j ByteArray.empty) (l.getD i ByteArray.empty) with
    | false => simp
    | true =>
      by_cases e1 : l.getD j ByteArray.empty = l.getD i ByteArray.empty
      · by_cases e2 : j < i
        · rw [if_pos rfl, if_pos (by rw [e1]), if_pos (by omega)]
          simp [e2]
        · rw [if_pos rfl, if_pos (by rw [e1]), if_neg (by omega)]
          rw [decide_eq_false (fun h => h e1), decide_eq_false e2]
          simp
      · rw [if_pos rfl, if_neg (fun h => e1 (toList_inj h)), decide_eq_true e1]
        simp
theorem insI_len (x : ByteArray) (out : List ByteArray) (p : Nat) (hp : p ≤ out.length) : (insI x out p).length = out.length + 1 := by
  unfold insI
  simp [List.length_append, List.length_take]
  omega
theorem min_l0 (l : List ByteArray) (hl : l.length ≤ 1000) (hs : ∀ x ∈ l, x.size ≤ 1000) : ∀ d i out, i + d = l.length → out.length ≤ i → Ev (fun k => tickingref03_Minimal.l0 k l out (i : Int)) (rmF l d out i)
  | 0, i, out, hi, ho => Ev.now fun k => by
    unfold tickingref03_Minimal.l0
    rw [if_neg (by omega)]
    rfl
  | d + 1, i, out, hi, ho => by
    have h1 : ∀ k, 0 ≤ k → (fun k => tickingref03_Minimal.l0 k l out (i : Int)) (k + 1) = (fun k => tickingref03_Minimal.l1 k l out (i : Int) true ((0 : Nat) : Int)) k := fun k _ => by
      show tickingref03_Minimal.l0 (k + 1) l out (i : Int) = _
      conv => lhs; unfold tickingref03_Minimal.l0
      rw [if_pos (by omega)]
      rfl
    refine Ev.step 0 h1 ?_
    refine min_l1 l out i hl (by omega) hs _ l.length 0 true (by omega) (fun h => ?_) (fun h => ?_)
    · rw [Bool.true_and] at h
      refine min_l2 l out i hl (by omega) (by omega) _ out.length 0 (by omega) ?_
      have hp := (posI_ok (l.getD i ByteArray.empty) out out.length 0 (by omega)).2.1
      have := min_l0 l hl hs d (i + 1) (insI (l.getD i ByteArray.empty) out (posI (l.getD i ByteArray.empty) out out.length 0)) (by omega) (by rw [insI_len _ _ _ hp]; omega)
      unfold rmF
      rw [if_pos h]
      exact this
    · rw [Bool.true_and] at h
      have := min_l0 l hl hs d (i + 1) out (by omega) (by omega)
      unfold rmF
      rw [h]
      exact this
/-- What the loop holds. -/
structure RmTo (ws : List ByteArray) (i : Nat) (out : List ByteArray) : Prop where
  mem : ∀ x, x ∈ out ↔ isMin ws x ∧ ∃ j, ∃ h : j < ws.length, j < i ∧ ws[j] = x
  srt : out.Pairwise (fun x y => key (bl x) < key (bl y))
theorem RmTo.keep {ws out : List ByteArray} {i : Nat} (h : RmTo ws i out) (hw : ∀ x ∈ ws, Ltr 4 (bl x)) (hi : i < ws.length) (hk : kpB ws i ws.length 0 = true) : RmTo ws (i + 1) (insI (ws.getD i ByteArray.empty) out (posI (ws.getD i ByteArray.empty) out out.length 0)) := by
  have gd : ∀ q, ∀ hq : q < ws.length, ws.getD q ByteArray.empty = ws[q] := fun q hq => by rw [List.getD_eq_getElem?_getD, List.getElem?_eq_getElem hq]; rfl
  rw [gd i hi]
  obtain ⟨x, hx⟩ : ∃ x, ws[i] = x := ⟨_, rfl⟩
  rw [hx]
  have hkp : ∀ q, ∀ hq : q < ws.length, subB ws[q] x = true → ws[q] = x ∧ ¬ q < i := fun q hq hs => by
    have := (kpB_iff ws i ws.length 0).1 hk q (Nat.zero_le _) (by omega)
    unfold kpE at this
    rw [gd q hq, gd i hi, hx, hs] at this
    simp at this
    exact ⟨this.1, by omega⟩
  have hxm : x ∈ ws := by rw [← hx]; exact List.getElem_mem hi
  have hmin : isMin ws x := ⟨hxm, fun t ht hs => by
    obtain ⟨q, hq, rfl⟩ := List.getElem_of_mem ht
    exact (hkp q hq ((subB_iff _ _).2 hs)).1⟩
  have hno : x ∉ out := fun hm => by
    obtain ⟨_, j, hj, hji, e⟩ := (h.mem x).1 hm
    exact (hkp j hj ((subB_iff _ _).2 (by rw [e]; exact List.Sublist.refl _))).2 hji
  have hLx := hw x hxm
  have hLo : ∀ y ∈ out, Ltr 4 (bl y) := fun y hy => hw y ((h.mem y).1 hy).1.1
  obtain ⟨p, hp⟩ : ∃ p, posI x out out.length 0 = p := ⟨_, rfl⟩
  obtain ⟨_, p1, p2, p3⟩ := posI_ok x out out.length 0 (by omega)
  rw [hp] at p1 p2 p3 ⊢
  have go : ∀ q, ∀ hq : q < out.length, out.getD q ByteArray.empty = out[q] := fun q hq => by rw [List.getD_eq_getElem?_getD, List.getElem?_eq_getElem hq]; rfl
  have ha : ∀ y ∈ out.take p, key (bl y) < key (bl x) := fun y hy => by
    obtain ⟨q, hq, rfl⟩ := List.getElem_of_mem hy
    rw [List.length_take] at hq
    have h1 := p2 q (Nat.zero_le _) (by omega)
    rw [go q (by omega)] at h1
    rw [List.getElem_take]
    exact (lsB_iff (hLo _ (List.getElem_mem _)) hLx).1 h1
  have hb : ∀ y ∈ out.drop p, key (bl x) < key (bl y) := fun y hy => by
    obtain ⟨q, hq, rfl⟩ := List.getElem_of_mem hy
    rw [List.length_drop] at hq
    have h1 := p3 (by omega)
    rw [go p (by omega)] at h1
    have h2 : key (bl x) ≤ key (bl (out[p]'(by omega))) := by
      rcases Nat.lt_or_ge (key (bl (out[p]'(by omega)))) (key (bl x)) with h3 | h3
      · rw [(lsB_iff (hLo _ (List.getElem_mem _)) hLx).2 h3] at h1; cases h1
      · exact h3
    have h4 : key (bl x) ≠ key (bl (out[p]'(by omega))) := fun e => hno (by
      rw [bl_inj (key_inj _ _ _ rfl hLx (hLo _ (List.getElem_mem _)) e)]
      exact List.getElem_mem _)
    rw [List.getElem_drop]
    rcases Nat.eq_zero_or_pos q with h5 | h5
    · subst h5; simp only [Nat.add_zero]; omega
    · have := List.pairwise_iff_getElem.1 h.srt p (p + q) (by omega) (by omega) (by omega)
      omega
  refine ⟨fun y => ?_, ?_⟩
  · unfold insI
    have e : y ∈ out.take p ++ [x] ++ out.drop p ↔ y ∈ out ∨ y = x := by
      rw [List.mem_append, List.mem_append, List.mem_singleton]
      have : y ∈ out ↔ y ∈ out.take p ∨ y ∈ out.drop p := by rw [← List.mem_append, List.take_append_drop]
      rw [this]
      constructor
      · rintro ((h | h) | h)
        · exact .inl (.inl h)
        · exact .inr h
        · exact .inl (.inr h)
      · rintro ((h | h) | h)
        · exact .inl (.inl h)
        · exact .inr h
        · exact .inl (.inr h)
    rw [e, h.mem]
    constructor
    · rintro (⟨a, j, b, c, d⟩ | rfl)
      · exact ⟨a, j, b, by omega, d⟩
      · exact ⟨hmin, i, hi, by omega, hx⟩
    · rintro ⟨a, j, b, c, d⟩
      by_cases e : j = i
      · subst e; exact .inr (by rw [← d, hx])
      · exact .inl ⟨a, j, b, by omega, d⟩
  · unfold insI
    rw [List.pairwise_append, List.pairwise_append]
    refine ⟨⟨h.srt.sublist (List.take_sublist _ _), by simp, fun a h1 b h2 => ?_⟩, h.srt.sublist (List.drop_sublist _ _), fun a h1 b h2 => ?_⟩
    · rw [List.mem_singleton] at h2
      subst h2; exact ha a h1
    · rcases List.mem_append.1 h1 with h1 | h1
      · exact Nat.lt_trans (ha a h1) (hb b h2)
      · rw [List.mem_singleton] at h1
        subst h1; exact hb b h2
theorem RmTo.skip {ws out : List ByteArray} {i : Nat} (h : RmTo ws i out) (hi : i < ws.length) (hk : kpB ws i ws.length 0 = false) : RmTo ws (i + 1) out := by
  have gd : ∀ q, ∀ hq : q < ws.length, ws.getD q ByteArray.empty = ws[q] := fun q hq => by rw [List.getD_eq_getElem?_getD, List.getElem?_eq_getElem hq]; rfl
  refine ⟨fun x => (h.mem x).trans ⟨fun ⟨a, j, b, c, d⟩ => ⟨a, j, b, by omega, d⟩, fun ⟨a, j, b, c, d⟩ => ?_⟩, h.srt⟩
  by_cases e : j = i
  · subst e
    have hq : ¬ ∀ q, 0 ≤ q → q < 0 + ws.length → kpE ws j q = true := fun h2 => by rw [(kpB_iff ws j ws.length 0).2 h2] at hk; cases hk
    simp only [Classical.not_forall] at hq
    obtain ⟨q, _, hql, hqn⟩ := hq
    have hql : q < ws.length := by omega
    unfold kpE at hqn
    rw [gd q hql, gd j b, d] at hqn
    simp at hqn
    have h1 := a.2 _ (List.getElem_mem hql) ((subB_iff _ _).1 hqn.1)
    exact ⟨a, q, hql, by have := hqn.2 h1; omega, h1⟩
  · exact ⟨a, j, b, by omega, d⟩
theorem rmF_ok (ws : List ByteArray) (hw : ∀ x ∈ ws, Ltr 4 (bl x)) : ∀ d i out, i + d = ws.length → RmTo ws i out → MinOk ws (rmF ws d out i)
  | 0, i, out, hi, h => by
    have e : i = ws.length := by omega
    subst e
    unfold rmF
    refine ⟨fun x => (h.mem x).trans ⟨fun a => a.1, fun a => ⟨a, ?_⟩⟩, h.srt⟩
    obtain ⟨j, hj, e⟩ := List.getElem_of_mem a.1
    exact ⟨j, hj, hj, e⟩
  | d + 1, i, out, hi, h => by
    unfold rmF
    cases hk : kpB ws i ws.length 0 with
    | true => exact rmF_ok ws hw d (i + 1) _ (by omega) (h.keep hw (by omega) hk)
    | false => exact rmF_ok ws hw d (i + 1) _ (by omega) (h.skip (by omega) hk)
/-- The reference's Minimal. -/
theorem rmin_any (ws ms : List ByteArray) (A : Option Addr) (c : Nat) (w : World) (hl : ws.length ≤ 1000) (hw : ∀ x ∈ ws, Ltr 4 (bl x) ∧ x.size ≤ 1000) (hm : MinOk ws ms) (hC : Kd.C Kd.string w A ws.length ws) (hc : ws.length ≤ c) :
    Calls Try.prog 46 #[.slice A ws.length c] w fun e w' => ∃ B d, e = .returned (.slice B ms.length d) ∧ Aside0 (ms.length ≤ d ∧ Kd.C Kd.string w' B ms.length ms) ∧ Below w.heap.size w w' := by
  obtain ⟨K, hK⟩ := min_l0 ws hl (fun x hx => (hw x hx).2) ws.length 0 [] (by omega) (Nat.le_refl _)
  have h1 := hK K (Nat.le_refl _)
  have h2 := rmF_ok ws (fun x hx => (hw x hx).1) ws.length 0 [] (by omega) ⟨fun x => by simp, List.Pairwise.nil⟩
  rw [h2.eq hm] at h1
  refine (tickingref03_Minimal.calls K A c ws ms w hC hc h1).mono ?_
  rintro e w' ⟨v, rfl, hr, hb⟩
  obtain ⟨B, d, rfl⟩ := Kd.R_slice hr
  exact ⟨B, d, rfl, ⟨(Kd.R_reads' hr).2⟩, hb⟩
end Go.Proofs.Ytagdbadljcongaa.X
end

section
namespace Go.Proofs.Ytagdbadljcongaa.X
open Go.RowKit Go.Proofs.YtagdbadljcongaaW.PrintWords Go.Proofs.YtagdbadljcongaaW.PrintLast Go.Proofs.YtagdbadljcongaaW.PrintMore
attribute [local go_sem] max2_int min2_int max_two min_two max_three min_three max_four min_four   -- for this text's walks alone
set_option linter.unusedVariables false
set_option linter.unusedSimpArgs false

def tickinglaw03_family.l0 : Nat → List ByteArray → List ByteArray → Int → Option (List ByteArray)
 | 0, _, _, _ => none
 | k + 1, x0, x3, x4 => if x4 < (x0.length : Int) then (if x4 < 6 then (if 0 ≤ x4 then ((tickinglaw03_short.f (rdOf ByteArray.empty x0 x4)).bind fun t221 => (if x3.length < 8796093022208 then (tickinglaw03_family.l0 k x0 (x3 ++ [t221]) (wrap64 (x4 + 1))) else (none))) else (none)) else (some x3)) else (some x3)
def tickinglaw03_family.f (k : Nat) (l0 : List ByteArray) : Option (List ByteArray) := tickinglaw03_family.l0 k l0 ([] : List ByteArray) 0
set_option maxHeartbeats 8000000 in
set_option maxRecDepth 100000 in
theorem tickinglaw03_family.calls (k : Nat) (A0 : Option Addr) (c0 : Nat) (l0 : List ByteArray) (r : List ByteArray) (w : World) (hr0 : Kd.C Kd.string w A0 l0.length l0) (hc0 : l0.length ≤ c0) (h : tickinglaw03_family.f k l0 = some r) :
  Calls Try.prog 41 #[.slice A0 l0.length c0] w fun e w' => ∃ v0_ : Value, e = .returned (v0_) ∧ Kd.R Kd.string 9 w' w.heap.size (fun _ => True) v0_ r ∧ Below w.heap.size w w' := by
 have HR0 := Aside0.mk hr0
 have HC0 := Aside0.mk hc0
 clear hr0 hc0
 have HB := Aside0.mk (Below.refl w.heap.size w)
 have H : (tickinglaw03_family.l0 k l0 ([] : List ByteArray) 0) = some r := h
 clear h
 have H' := Aside0.mk H
 clear H
 go_enter Try.func41, Try.ntmps41
 go_wp2
 go_loopg [3, 4] k (fun kq v3 v4 w' => ∃ (x3_1 : List ByteArray) (x4_1 : Int), v4 = .int .i64 x4_1 ∧ Aside0 (tickinglaw03_family.l0 kq l0 x3_1 x4_1 = some r) ∧ Aside0 (kq ≤ k) ∧ Aside0 (Kd.R Kd.string 9 w' w.heap.size (fun _ => True) v3 x3_1) ∧ Aside0 (Below w.heap.size w w'))
 case atStart => exact ⟨(([] : List ByteArray)), (0), (by first | rfl | (simp; done) | (simp [*]; done)), H', ⟨Nat.le_refl _⟩, ⟨by first | exact Kd.R_nil _ _ _ _ _ | exact Kd.N_nil _ _ _ _ _ | exact Kd.V_nil _ _ _ _ _ | exact Kd.Q_nil _ _ _ _ _ | exact Kd.S_nil _ _ _ _ _⟩, ⟨by repeat (first | (with_reducible first | exact HB.out | apply below_alloc | apply pw_below_drewN | apply below_drew1) | exact HB.out)⟩⟩
 case round =>
  clear H'
  obtain ⟨x3_1, x4_1, rfl, HA, HK1, HO_3, HB⟩ := hrel
  cases gk with
  | zero => exact absurd HA.out (by simp [tickinglaw03_family.l0])
  | succ k1 =>
   have H := HA.out
   clear HA
   simp only [tickinglaw03_family.l0] at H
   by_cases c2 : x4_1 < (l0.length : Int)
   ·rw [if_pos c2] at H
    have c2b0 : decide (x4_1 < (l0.length : Int)) = true := decide_eq_true c2
    clear c2
    by_cases c3 : x4_1 < 6
    ·rw [if_pos c3] at H
     have c3b0 : decide (x4_1 < 6) = true := decide_eq_true c3
     clear c3
     by_cases c4 : 0 ≤ x4_1
     ·rw [if_pos c4] at H
      have c4b0 : decide (0 ≤ x4_1) = true := decide_eq_true c4
      clear c4
      replace H := Option.bind_eq_some_iff.mp H
      obtain ⟨t221, A50, H⟩ := H
      replace H : (if x3_1.length < 8796093022208 then (tickinglaw03_family.l0 k1 l0 (x3_1 ++ [t221]) (wrap64 (x4_1 + 1))) else (none)) = some r := H
      have A5 := Aside0.mk A50
      clear A50
      by_cases c6 : x3_1.length < 8796093022208
      ·rw [if_pos c6] at H
       have LMc6 := Aside0.mk c6
       clear c6
       obtain ⟨y222, hy222⟩ : ∃ y_ : List ByteArray, y_ = (x3_1 ++ [t221]) := ⟨_, rfl⟩
       replace H : (tickinglaw03_family.l0 k1 l0 y222 (wrap64 (x4_1 + 1))) = some r := by first | (rw [hy222]; with_reducible exact H) | (have H2_ := (Option.bind_some _ _).symm.trans H; rw [hy222]; with_reducible exact H2_) | (have H2_ := (Option.bind_some _ _).symm.trans H; with_reducible exact H2_) | with_reducible exact H | (rw [hy222]; exact H) | exact H
       have Ny222 := Aside0.mk hy222
       clear hy222
       have H' := Aside0.mk H
       clear H
       have p220 : 0 ≤ (x4_1 : Int) := of_decide_eq_true az
       have q220 : x4_1 < (l0.length : Int) := of_decide_eq_true az
       obtain ⟨ad220, e220, hx220_0⟩ := Kd.at_string HR0.out x4_1 p220 q220
       cases e220
       replace hx220_0 := (HB.out.cell (World.block_lt_of_cell? w _ hx220_0)).trans hx220_0
       replace p220 := eq_true p220
       replace q220 := eq_true q220
       go_wp2_with (first | ((with_reducible refine gate_callee (f := 17) rfl ?_); refine goesL_ (some 20) rfl rfl Try.func17 (by kernel_rfl) rfl #[.string (rdOf ByteArray.empty l0 x4_1)] rfl dz ?_; (with_reducible refine (tickinglaw03_short.calls (rdOf ByteArray.empty l0 x4_1) t221 _ A5.out).mono ?_); rintro e w7 ⟨rfl, hb⟩; refine ⟨_, rfl, ?_⟩; have n0_ := Aside0.mk (Kd.R_below (rz HO_3.out) hb); have n1_ := Aside0.mk (below_step bz hb); clear HO_3; clear HB; have HO_3 := n0_; have HB := n1_; clear n0_ n1_; (try clear hb); (try clear hb2); (try clear hk); (try clear hi)) | ((with_reducible refine gate_builtin (b := .append) (xs := #[.tmp 15, .tmp 21]) rfl ?_); at_builtin; refine Kd.R_append Kd.string (w0 := w) w.heap.size rfl (.tmp 15) (.tmp 21) 53 9 (.string ⟨#[]⟩) 16 rfl Try.underlying53 info9 rfl (by decide) (by omega) u3 x3_1 t221 [.string t221] (fun _ => True) (fun _ => False) rfl rfl ?aP (fun _ hk => hk.elim) ?aF ?aO ?aB ?aS ?aL ?_; (case aP => exact rfl); (case aB => exact bz); (case aF => exact (fun _ _ => trivial)); (case aO => exact (rz HO_3.out)); (case aS => exact (below_size bz)); (case aL => have := LMc6.out; omega); intro v223 w8 ho hb hg hat; rw [← Ny222.out] at ho; have n0_ := Aside0.mk (hb); have n1_ := Aside0.mk (ho); clear HB; clear HO_3; have HB := n0_; have HO224 := n1_; clear n0_ n1_; clear ho hb hg hat))
       go_roundg k1
       case measure => have := HK1.out; omega
       case rel => exact ⟨(y222), (wrap64 (x4_1 + 1)), (by first | rfl | (simp; done) | (simp [*]; done)), H', ⟨by have := HK1.out; omega⟩, ⟨by (with_reducible repeat (first | apply Kd.R_alloc | apply Kd.R_drewN | apply Kd.R_drew)); exact HO224.out⟩, ⟨by repeat (first | (with_reducible first | exact HB.out | apply below_alloc | apply pw_below_drewN | apply below_drew1) | exact HB.out)⟩⟩
      ·rw [if_neg c6] at H
       exact absurd H (by simp)
     ·rw [if_neg c4] at H
      exact absurd H (by simp)
    ·rw [if_neg c3] at H
     have c3b0 : decide (x4_1 < 6) = false := decide_eq_false c3
     clear c3
     obtain rfl := Option.some.inj H
     go_wp2
     go_ret
     exact ⟨_, by first | rfl | (simp [errW_none, errW_some] <;> rfl) | (simp [*, errW_none, errW_some] <;> rfl), by (with_reducible repeat (first | apply Kd.R_alloc | apply Kd.R_drewN | apply Kd.R_drew)); exact HO_3.out, by repeat (first | (with_reducible first | exact HB.out | apply below_alloc | apply pw_below_drewN | apply below_drew1) | exact HB.out)⟩
   ·rw [if_neg c2] at H
    have c2b0 : decide (x4_1 < (l0.length : Int)) = false := decide_eq_false c2
    clear c2
    obtain rfl := Option.some.inj H
    go_wp2
    go_ret
    exact ⟨_, by first | rfl | (simp [errW_none, errW_some] <;> rfl) | (simp [*, errW_none, errW_some] <;> rfl), by (with_reducible repeat (first | apply Kd.R_alloc | apply Kd.R_drewN | apply Kd.R_drew)); exact HO_3.out, by repeat (first | (with_reducible first | exact HB.out | apply below_alloc | apply pw_below_drewN | apply below_drew1) | exact HB.out)⟩

end Go.Proofs.Ytagdbadljcongaa.X
end

section
namespace Go.Proofs.Ytagdbadljcongaa.X
open Go.RowKit Go.Proofs.YtagdbadljcongaaW.PrintWords Go.Proofs.YtagdbadljcongaaW.PrintLast Go.Proofs.YtagdbadljcongaaW.PrintMore
attribute [local go_sem] max2_int min2_int max_two min_two max_three min_three max_four min_four   -- for this text's walks alone
set_option linter.unusedVariables false
set_option linter.unusedSimpArgs false

def tickinglaw03_texts.l0 : Nat → List ByteArray → List ByteArray → Int → Option (Bool)
 | 0, _, _, _ => none
 | k + 1, x0, x1, x5 => if x5 < (x0.length : Int) then (if 0 ≤ x5 then (if x5 < (x1.length : Int) then (if (rdOf ByteArray.empty x0 x5).toList = (rdOf ByteArray.empty x1 x5).toList then (tickinglaw03_texts.l0 k x0 x1 (wrap64 (x5 + 1))) else (some false)) else (none)) else (none)) else (some true)
def tickinglaw03_texts.f (k : Nat) (l0 : List ByteArray) (l1 : List ByteArray) : Option (Bool) := if (l0.length : Int) = (l1.length : Int) then (tickinglaw03_texts.l0 k l0 l1 0) else (some false)
set_option maxHeartbeats 8000000 in
set_option maxRecDepth 100000 in
theorem tickinglaw03_texts.calls (k : Nat) (A0 : Option Addr) (c0 : Nat) (l0 : List ByteArray) (A1 : Option Addr) (c1 : Nat) (l1 : List ByteArray) (r : Bool) (w : World) (hr0 : Kd.C Kd.string w A0 l0.length l0) (hc0 : l0.length ≤ c0) (hr1 : Kd.C Kd.string w A1 l1.length l1) (hc1 : l1.length ≤ c1) (h : tickinglaw03_texts.f k l0 l1 = some r) :
  Calls Try.prog 45 #[.slice A0 l0.length c0, .slice A1 l1.length c1] w fun e w' => e = .returned (.bool r) ∧ Drawn0 w w' := by
 have HR0 := Aside0.mk hr0
 have HC0 := Aside0.mk hc0
 clear hr0 hc0
 have HR1 := Aside0.mk hr1
 have HC1 := Aside0.mk hc1
 clear hr1 hc1
 have H : (if (l0.length : Int) = (l1.length : Int) then (tickinglaw03_texts.l0 k l0 l1 0) else (some false)) = some r := h
 clear h
 by_cases c3 : (l0.length : Int) = (l1.length : Int)
 ·rw [if_pos c3] at H
  have c3b0 : ((l0.length : Int) == (l1.length : Int)) = true := beq_iff_eq.mpr c3
  have c3b1 : ((l0.length : Int) != (l1.length : Int)) = false := bne_eq_false_iff_eq.mpr c3
  have c3b2 : (l0.length == l1.length) = true := by first | simpa using c3 | (simp at c3 ⊢; omega)
  clear c3
  have H' := Aside0.mk H
  clear H
  go_enter Try.func45, Try.ntmps45
  go_wp2
  repeat (go_quiet (fail); try go_wp2)
  go_loopg [5] k (fun kq v5 w' => ∃ (x5_1 : Int), v5 = .int .i64 x5_1 ∧ Aside0 (tickinglaw03_texts.l0 kq l0 l1 x5_1 = some r) ∧ Aside0 (kq ≤ k) ∧ Drawn0 w w')
  case atStart => exact ⟨(0), (by first | rfl | (simp; done) | (simp [*]; done)), H', ⟨Nat.le_refl _⟩, by repeat (first | exact Drawn0.refl _ | apply Drawn0.step)⟩
  case round =>
   clear H'
   try clear c1
   try clear p2
   try clear c3
   try clear c3b0
   try clear c3b1
   try clear c3b2
   obtain ⟨x5_1, rfl, HA, HK1, ⟨m1, rfl⟩⟩ := hrel
   cases gk with
   | zero => exact absurd HA.out (by simp [tickinglaw03_texts.l0])
   | succ k1 =>
    have H := HA.out
    clear HA
    simp only [tickinglaw03_texts.l0] at H
    by_cases c4 : x5_1 < (l0.length : Int)
    ·rw [if_pos c4] at H
     have c4b0 : decide (x5_1 < (l0.length : Int)) = true := decide_eq_true c4
     clear c4
     by_cases c5 : 0 ≤ x5_1
     ·rw [if_pos c5] at H
      have c5b0 : decide (0 ≤ x5_1) = true := decide_eq_true c5
      clear c5
      by_cases c6 : x5_1 < (l1.length : Int)
      ·rw [if_pos c6] at H
       have c6b0 : decide (x5_1 < (l1.length : Int)) = true := decide_eq_true c6
       clear c6
       by_cases c7 : (rdOf ByteArray.empty l0 x5_1).toList = (rdOf ByteArray.empty l1 x5_1).toList
       ·rw [if_pos c7] at H
        have c7b0 : ((rdOf ByteArray.empty l0 x5_1).toList == (rdOf ByteArray.empty l1 x5_1).toList) = true := beq_iff_eq.mpr c7
        have c7b1 : ((rdOf ByteArray.empty l0 x5_1).toList != (rdOf ByteArray.empty l1 x5_1).toList) = false := bne_eq_false_iff_eq.mpr c7
        clear c7
        have H' := Aside0.mk H
        clear H
        have p255 : 0 ≤ (x5_1 : Int) := of_decide_eq_true az
        have q255 : x5_1 < (l0.length : Int) := of_decide_eq_true az
        obtain ⟨ad255, e255, hx255_0⟩ := Kd.at_string HR0.out x5_1 p255 q255
        cases e255
        replace p255 := eq_true p255
        replace q255 := eq_true q255
        have p256 : 0 ≤ (x5_1 : Int) := of_decide_eq_true az
        have q256 : x5_1 < (l1.length : Int) := of_decide_eq_true az
        obtain ⟨ad256, e256, hx256_0⟩ := Kd.at_string HR1.out x5_1 p256 q256
        cases e256
        replace p256 := eq_true p256
        replace q256 := eq_true q256
        go_wp2
        repeat (go_quiet (fail); try go_wp2)
        go_roundg k1
        case measure => have := HK1.out; omega
        case rel => exact ⟨(wrap64 (x5_1 + 1)), (by first | rfl | (simp; done) | (simp [*]; done)), H', ⟨by have := HK1.out; omega⟩, by repeat (first | exact Drawn0.refl _ | apply Drawn0.step)⟩
       ·rw [if_neg c7] at H
        have c7b0 : ((rdOf ByteArray.empty l0 x5_1).toList == (rdOf ByteArray.empty l1 x5_1).toList) = false := beq_eq_false_iff_ne.mpr c7
        have c7b1 : ((rdOf ByteArray.empty l0 x5_1).toList != (rdOf ByteArray.empty l1 x5_1).toList) = true := bne_iff_ne.mpr c7
        obtain rfl := Option.some.inj H
        have p255 : 0 ≤ (x5_1 : Int) := of_decide_eq_true az
        have q255 : x5_1 < (l0.length : Int) := of_decide_eq_true az
        obtain ⟨ad255, e255, hx255_0⟩ := Kd.at_string HR0.out x5_1 p255 q255
        cases e255
        replace p255 := eq_true p255
        replace q255 := eq_true q255
        have p256 : 0 ≤ (x5_1 : Int) := of_decide_eq_true az
        have q256 : x5_1 < (l1.length : Int) := of_decide_eq_true az
        obtain ⟨ad256, e256, hx256_0⟩ := Kd.at_string HR1.out x5_1 p256 q256
        cases e256
        replace p256 := eq_true p256
        replace q256 := eq_true q256
        go_wp2
        repeat (go_quiet (fail); try go_wp2)
        go_ret
        exact ⟨by first | rfl | (simp; done) | (simp [*]; done), by repeat (first | exact Drawn0.refl _ | apply Drawn0.step)⟩
      ·rw [if_neg c6] at H
       exact absurd H (by simp)
     ·rw [if_neg c5] at H
      exact absurd H (by simp)
    ·rw [if_neg c4] at H
     have c4b0 : decide (x5_1 < (l0.length : Int)) = false := decide_eq_false c4
     clear c4
     obtain rfl := Option.some.inj H
     go_wp2
     repeat (go_quiet (fail); try go_wp2)
     go_ret
     exact ⟨by first | rfl | (simp; done) | (simp [*]; done), by repeat (first | exact Drawn0.refl _ | apply Drawn0.step)⟩
 ·rw [if_neg c3] at H
  have c3b0 : ((l0.length : Int) == (l1.length : Int)) = false := beq_eq_false_iff_ne.mpr c3
  have c3b1 : ((l0.length : Int) != (l1.length : Int)) = true := bne_iff_ne.mpr c3
  have c3b2 : (l0.length == l1.length) = false := by first | simpa using c3 | (simp at c3 ⊢; omega)
  obtain rfl := Option.some.inj H
  go_enter Try.func45, Try.ntmps45
  go_wp2
  repeat (go_quiet (fail); try go_wp2)
  go_ret
  exact ⟨by first | rfl | (simp; done) | (simp [*]; done), by repeat (first | exact Drawn0.refl _ | apply Drawn0.step)⟩

end Go.Proofs.Ytagdbadljcongaa.X
end

section
/- family and texts. -/
set_option linter.unusedVariables false
set_option linter.unusedSimpArgs false
namespace Go.Proofs.Ytagdbadljcongaa.X
open Go Go.RowKit Go.Proofs Go.Proofs.YtagdbadljcongaaW.PrintWords Go.Proofs.YtagdbadljcongaaW.PrintLast Go.Proofs.YtagdbadljcongaaW.PrintMore
def shB (s : ByteArray) : ByteArray := s.extract 0 (mn (s.size : Int) 61).toNat
theorem short_f (s : ByteArray) : tickinglaw03_short.f s = some (shB s) := by
  have h0 : 0 ≤ mn (s.size : Int) 61 := by unfold mn; split <;> omega
  have h1 : mn (s.size : Int) 61 ≤ (s.size : Int) := by unfold mn; split <;> omega
  unfold tickinglaw03_short.f shB
  rw [if_pos h0, if_pos h1]
theorem shB_id {s : ByteArray} (h : s.size ≤ 61) : shB s = s := by
  unfold shB
  have : mn (s.size : Int) 61 = (s.size : Int) := by unfold mn; split <;> omega
  rw [this, Int.toNat_natCast]
  exact ByteArray.extract_zero_size
/-- What family returns. -/
def fam6 (l : List ByteArray) : List ByteArray := (l.take 6).map shB
theorem fam6_id {l : List ByteArray} (hl : l.length ≤ 6) (h : ∀ x ∈ l, x.size ≤ 61) : fam6 l = l := by
  unfold fam6
  rw [List.take_of_length_le hl]
  exact (List.map_congr_left fun x hx => shB_id (h x hx)).trans (List.map_id _)
theorem family_ev (l : List ByteArray) : ∀ d i, i + d = 6 → Ev (fun k => tickinglaw03_family.l0 k l ((l.take i).map shB) (i : Int)) (fam6 l)
  | 0, i, hi => Ev.now fun k => by
    obtain rfl : i = 6 := by omega
    unfold tickinglaw03_family.l0
    rw [if_neg (show ¬ ((6 : Nat) : Int) < 6 by omega)]
    split <;> rfl
  | d + 1, i, hi => by
    by_cases h : i < l.length
    · refine (family_ev l d (i + 1) (by omega)).step 0 fun k _ => ?_
      show tickinglaw03_family.l0 (k + 1) l ((l.take i).map shB) (i : Int) = _
      conv => lhs; unfold tickinglaw03_family.l0
      have hl : ((l.take i).map shB).length < 8796093022208 := by rw [List.length_map, List.length_take]; omega
      rw [if_pos (by omega), if_pos (by omega), if_pos (by omega), short_f, Option.bind_some, if_pos hl, w1n i (by omega), List.take_succ_eq_append_getElem h, List.map_append, rdOf_c]
      simp [List.getD_eq_getElem?_getD, h]
    · refine Ev.now fun k => ?_
      unfold tickinglaw03_family.l0 fam6
      rw [if_neg (by omega), List.take_of_length_le (by omega), List.take_of_length_le (by omega)]
theorem family_any (l : List ByteArray) (A : Option Addr) (c : Nat) (w : World) (hC : Kd.C Kd.string w A l.length l) (hc : l.length ≤ c) :
    Calls Try.prog 41 #[.slice A l.length c] w fun e w' => ∃ B d, e = .returned (.slice B (fam6 l).length d) ∧ Aside0 (Kd.R Kd.string 9 w' w.heap.size (fun _ => True) (.slice B (fam6 l).length d) (fam6 l)) ∧ Below w.heap.size w w' := by
  obtain ⟨K, hK⟩ := family_ev l 6 0 rfl
  refine (tickinglaw03_family.calls K A c l (fam6 l) w hC hc (hK K (Nat.le_refl _))).mono ?_
  rintro e w' ⟨v, rfl, hr, hb⟩
  obtain ⟨B, d, rfl⟩ := Kd.R_slice hr
  exact ⟨B, d, rfl, ⟨hr⟩, hb⟩
/-- Equal lists of strings. -/
theorem texts_ev (l : List ByteArray) (hl : l.length ≤ 1000000) : ∀ d i, i + d = l.length → tickinglaw03_texts.l0 (d + 1) l l (i : Int) = some true
  | 0, i, h => by
    unfold tickinglaw03_texts.l0
    rw [if_neg (by omega)]
  | d + 1, i, h => by
    unfold tickinglaw03_texts.l0
    rw [if_pos (by omega), if_pos (by omega), if_pos (by omega), if_pos rfl, w1n i (by omega)]
    exact texts_ev l hl d (i + 1) (by omega)
theorem texts_yes (A0 : Option Addr) (c0 : Nat) (A1 : Option Addr) (c1 : Nat) (l : List ByteArray) (w : World) (hl : l.length ≤ 1000000) (h0 : Kd.C Kd.string w A0 l.length l) (hc0 : l.length ≤ c0) (h1 : Kd.C Kd.string w A1 l.length l) (hc1 : l.length ≤ c1) :
    Calls Try.prog 45 #[.slice A0 l.length c0, .slice A1 l.length c1] w fun e w' => e = .returned (.bool true) ∧ Drawn0 w w' := by
  refine tickinglaw03_texts.calls (l.length + 1) A0 c0 l A1 c1 l true w h0 hc0 h1 hc1 ?_
  unfold tickinglaw03_texts.f
  rw [if_pos rfl]
  exact texts_ev l hl l.length 0 (by omega)
end Go.Proofs.Ytagdbadljcongaa.X
end

section
namespace Go.Proofs.Ytagdbadljcongaa.X
open Go.RowKit Go.Proofs.YtagdbadljcongaaW.PrintWords Go.Proofs.YtagdbadljcongaaW.PrintLast Go.Proofs.YtagdbadljcongaaW.PrintMore
attribute [local go_sem] max2_int min2_int max_two min_two max_three min_three max_four min_four   -- for this text's walks alone
set_option linter.unusedVariables false
set_option linter.unusedSimpArgs false

theorem eqA88 (d : Nat) (w : World) (x0 y0 : Int) (x1 y1 : Int) :
    (Op.equalIn (d + 2) 88 (.agg #[.int .i64 x0, .int .i64 x1]) (.agg #[.int .i64 y0, .int .i64 y1])).run Try.prog w = .ok (x0 == y0 && (x1 == y1)) w := by
  refine eqA_of Try.underlying88 (by kernel_rfl) ?_
  refine eqf_cons (by rfl) (by go_simp; rfl) (by go_simp; rfl) (by go_simp) ?_
  exact eqf_last (by rfl) (by go_simp; rfl) (by go_simp; rfl) (by go_simp)
end Go.Proofs.Ytagdbadljcongaa.X
end

section
/- tickingref03.Parted. -/
set_option linter.unusedVariables false
set_option linter.unusedSimpArgs false
namespace Go.Proofs.Ytagdbadljcongaa.X
open Go Go.RowKit Go.Proofs Go.Proofs.YtagdbadljcongaaW.PrintWords Go.Proofs.YtagdbadljcongaaW.PrintLast Go.Proofs.YtagdbadljcongaaW.PrintMore
def rnP (r : Rn) : S88 := ⟨r.a, r.b⟩
/-- What Parted holds. -/
structure PtAt (w : World) (R : List Rn) (A : Option Addr) (c : Nat) (B : Option Addr) (d : Nat) (ws : List ByteArray) (V : World) : Prop where
  row : Kd.R k88 88 V w.heap.size (fun _ => True) (.slice A R.length c) (R.map rnP)
  wds : Kd.R Kd.string 9 V w.heap.size (fun k => True) (.slice B R.length d) ws
  same : ws.map bl = R.map Rn.wd
  bel : Below w.heap.size w V
theorem PtAt.below {w : World} {R : List Rn} {A : Option Addr} {c : Nat} {B : Option Addr} {d : Nat} {ws : List ByteArray} {V V' : World} (h : PtAt w R A c B d ws V) (hb : Below V.heap.size V V') : PtAt w R A c B d ws V' :=
  ⟨Kd.R_below h.row hb, Kd.R_below h.wds hb, h.same, below_step h.bel hb⟩
theorem PtAt.len {w : World} {R : List Rn} {A : Option Addr} {c : Nat} {B : Option Addr} {d : Nat} {ws : List ByteArray} {V : World} (h : PtAt w R A c B d ws V) : ws.length = R.length := by
  have := congrArg List.length h.same
  simpa using this
/-- An entry's places. -/
theorem PtAt.places {w : World} {R : List Rn} {A : Option Addr} {c : Nat} {B : Option Addr} {d : Nat} {ws : List ByteArray} {V : World} (h : PtAt w R A c B d ws V) (q : Nat) (hq : q < R.length) : ∃ g, A = some ⟨g, 0, none⟩ ∧ V.cell? ⟨g, q * 2, none⟩ = some (.int .i64 (R[q]).a) ∧ V.cell? ⟨g, q * 2 + 1, none⟩ = some (.int .i64 (R[q]).b) := by
  obtain ⟨g, cap, hv, _⟩ := Kd.R_form h.row (by rw [List.length_map]; omega)
  injection hv with hv1 hv2 hv3
  subst hv1
  have hC := (Kd.R_reads' h.row).2.2
  obtain ⟨ad, e, h1, h2⟩ := at_T88 hC (q : Int) (by omega) (by simpa using hq)
  injection e with e
  subst e
  have er : rd_T88 (R.map rnP) (q : Int) = rnP R[q] := by unfold rd_T88; simp [List.getD_eq_getElem?_getD, hq]
  rw [er] at h1 h2
  have ea : (⟨g, 0, none⟩ : Addr).add ((q : Int).toNat * 2) = ⟨g, q * 2, none⟩ := by rw [show (q : Int).toNat = q by omega]; exact add_plain g (q * 2)
  rw [ea] at h1 h2
  exact ⟨g, rfl, h1, h2⟩
/-- An entry's word. -/
theorem PtAt.word {w : World} {R : List Rn} {A : Option Addr} {c : Nat} {B : Option Addr} {d : Nat} {ws : List ByteArray} {V : World} (h : PtAt w R A c B d ws V) (q : Nat) (hq : q < R.length) : ∃ g s, B = some ⟨g, 0, none⟩ ∧ V.cell? ⟨g, q, none⟩ = some (.string s) ∧ bl s = (R[q]).wd := by
  have hl := h.len
  obtain ⟨g, cap, hv, _⟩ := Kd.R_form h.wds (by omega)
  injection hv with hv1 hv2 hv3
  subst hv1
  have hC := (Kd.R_reads' h.wds).2.2
  obtain ⟨ad, e, h1⟩ := Kd.at_string hC (q : Int) (by omega) (by omega)
  injection e with e
  subst e
  rw [Int.toNat_natCast, add_plain g q] at h1
  have hq2 : q < ws.length := by omega
  rw [rdOf_nat ws q hq2] at h1
  refine ⟨g, ws[q], rfl, h1, ?_⟩
  have h2 : (ws.map bl)[q]'(by simpa using hq2) = (R.map Rn.wd)[q]'(by simpa using hq) := by simp only [h.same]
  simpa using h2
/-- The reference's list. -/
structure RnOk (u w : List Nat) (R : List Rn) : Prop where
  rng : ∀ r ∈ R, -1 ≤ r.a ∧ r.a ≤ u.length ∧ -1 ≤ r.b ∧ r.b ≤ w.length ∧ r.wd.length ≤ 61
  nd : R.Pairwise (fun x y => ¬ (x.a = y.a ∧ x.b = y.b))
theorem RnOk.start (u w : List Nat) : RnOk u w [⟨0, 0, []⟩] := ⟨fun r hr => by rw [List.mem_singleton] at hr; subst hr; simp, by simp⟩
theorem RnOk.size {u w : List Nat} {R : List Rn} (h : RnOk u w R) (hu : u.length ≤ 60) (hw : w.length ≤ 60) : R.length ≤ 3844 := by
  have h1 := nodup_le (R.map fun r => ((r.a + 1).toNat) * 62 + (r.b + 1).toNat) (List.range 3844) (by
    rw [List.pairwise_map]
    refine h.nd.imp_of_mem fun {a b} ha hb hab e => hab ?_
    have := h.rng a ha; have := h.rng b hb
    omega) (fun x hx => by
    obtain ⟨e, he, rfl⟩ := List.mem_map.1 hx
    have := h.rng e he
    exact List.mem_range.2 (by omega))
  simpa using h1
theorem RnOk.add {u w : List Nat} {R : List Rn} (h : RnOk u w R) {p : Ent} {c : Nat} (hp : p.i ≤ u.length ∧ p.j ≤ w.length ∧ p.wd.length ≤ 60) : RnOk u w (addK R (kid u w p c)) := by
  unfold addK
  split
  · exact h
  · rename_i hn
    refine ⟨fun r hr => ?_, ?_⟩
    · rcases List.mem_append.1 hr with hr | hr
      · exact h.rng r hr
      · rw [List.mem_singleton] at hr
        subst hr
        have h1 := nx_le u p.i (97 + c) hp.1
        have h2 := nx_le w p.j (97 + c) hp.2.1
        unfold kid nxP
        refine ⟨?_, ?_, ?_, ?_, ?_⟩
        · dsimp only; split <;> omega
        · dsimp only; split <;> omega
        · dsimp only; split <;> omega
        · dsimp only; split <;> omega
        · simp; omega
    · rw [List.pairwise_append]
      refine ⟨h.nd, by simp, fun a ha b hb e => hn ?_⟩
      rw [List.mem_singleton] at hb
      subst hb
      exact List.any_eq_true.2 ⟨a, ha, by simp [e.1, e.2]⟩
theorem PtAt.start (w : World) : PtAt w [⟨0, 0, []⟩] (some ⟨w.heap.size + 1, 0, none⟩) 1 (some ⟨w.heap.size, 0, none⟩) 1 [⟨#[]⟩] ((w.alloc (.cells #[.string ⟨#[]⟩] 9)).alloc (.cells #[.int .i64 0, .int .i64 0] 88)) := by
  have s0 : (w.alloc (.cells #[.string ⟨#[]⟩] 9)).heap.size = w.heap.size + 1 := World.size_alloc _ _
  refine ⟨?_, ?_, rfl, below_alloc (below_alloc (Below.refl _ _) _) _⟩
  · refine ⟨fun k _ => trivial, ?_⟩
    have h := OwnRow.lit (R := k88.M ((w.alloc (.cells #[.string ⟨#[]⟩] 9)).alloc (.cells #[.int .i64 0, .int .i64 0] 88)) w.heap.size (fun k => True ∧ some k ≠ some (w.heap.size + 1))) (e := 88) (w.alloc (.cells #[.string ⟨#[]⟩] 9)) w.heap.size (Reps.c2 (k88_mkM _ _ _ ⟨0, 0⟩) (Reps.none _ 2)) (by omega) (by simp)
    rw [s0] at h
    exact h
  · have h : Kd.R Kd.string 9 (w.alloc (.cells #[.string ⟨#[]⟩] 9)) w.heap.size (fun _ => True) (.slice (some ⟨w.heap.size, 0, none⟩) 1 1) [⟨#[]⟩] :=
      ⟨fun k _ => trivial, OwnRow.lit (R := Kd.string.M (w.alloc (.cells #[.string ⟨#[]⟩] 9)) w.heap.size (fun k => True ∧ some k ≠ some w.heap.size)) (e := 9) w w.heap.size (Reps.one rfl (Reps.none _ 1)) (by omega) (by simp)⟩
    exact Kd.R_below h (below_alloc (Below.refl _ _) _)
end Go.Proofs.Ytagdbadljcongaa.X
end

section
/- The reference's Arches and Absent in plain Lean. -/
set_option linter.unusedVariables false
set_option linter.unusedSimpArgs false
namespace Go.Proofs.Ytagdbadljcongaa.X
open Go.RowKit Go.Proofs.YtagdbadljcongaaW.PrintWords
theorem nxl_is (c : Nat) : ∀ x : List Nat, nxl x c < x.length → x[nxl x c]? = some c
  | [], h => absurd h (by simp)
  | b :: x, h => by
    rw [nxl_cons] at h ⊢
    by_cases e : b = c
    · rw [if_pos e]; simp [e]
    · rw [if_neg e] at h ⊢
      rw [List.getElem?_cons_succ]
      exact nxl_is c x (by simpa using h)
theorem nxl_first (c : Nat) : ∀ (x : List Nat) (p : Nat), x[p]? = some c → nxl x c ≤ p
  | [], p, h => by simp at h
  | b :: x, 0, h => by
    simp at h
    rw [nxl_cons, if_pos h]; omega
  | b :: x, p + 1, h => by
    rw [nxl_cons]
    split
    · omega
    · have := nxl_first c x p (by simpa using h)
      omega
theorem nx_is {l : List Nat} {i c : Nat} (hi : i ≤ l.length) (h : nx l i c < l.length) : l[nx l i c]? = some c := by
  have := nxl_is c (l.drop i) (by unfold nx at h; rw [List.length_drop]; omega)
  rwa [List.getElem?_drop] at this
theorem nx_first {l : List Nat} {i c p : Nat} (hip : i ≤ p) (he : l[p]? = some c) : nx l i c ≤ p := by
  have := nxl_first c (l.drop i) (p - i) (by rw [List.getElem?_drop, show i + (p - i) = p by omega]; exact he)
  unfold nx; omega
/-- How many of the first K letters stand between two places. -/
def cN (l : List Nat) (j i : Nat) : Nat → Nat
  | 0 => 0
  | K + 1 => cN l j i K + if nx l j (97 + K) < i then 1 else 0
theorem cN_le (l : List Nat) (j i : Nat) : ∀ K, cN l j i K ≤ K
  | 0 => Nat.le_refl _
  | K + 1 => by
    have := cN_le l j i K
    unfold cN
    split <;> omega
theorem cN_full (l : List Nat) (j i : Nat) : ∀ K, cN l j i K = K ↔ ∀ c, c < K → nx l j (97 + c) < i
  | 0 => by simp [cN]
  | K + 1 => by
    have h1 := cN_full l j i K
    have h2 := cN_le l j i K
    unfold cN
    constructor
    · intro h c hc
      split at h
      · rename_i h3
        by_cases e : c = K
        · subst e; exact h3
        · exact h1.1 (by omega) c (by omega)
      · omega
    · intro h
      rw [if_pos (h K (by omega)), h1.2 fun c hc => h c (by omega)]
theorem cN_same (l : List Nat) (i : Nat) : ∀ K, i ≤ l.length → cN l i i K = 0
  | 0, _ => rfl
  | K + 1, h => by
    unfold cN
    rw [cN_same l i K h, if_neg (by have := (nx_le l i (97 + K) h).1; omega)]
theorem nx_step1 {l : List Nat} {j i d : Nat} (hj : j ≤ i) (hi : i < l.length) (hd : l[i]? = some (97 + d)) (c : Nat) : nx l j (97 + c) < i + 1 ↔ nx l j (97 + c) < i ∨ c = d := by
  constructor
  · intro h
    by_cases e : c = d
    · exact .inr e
    · left
      rcases Nat.lt_or_ge (nx l j (97 + c)) i with h1 | h1
      · exact h1
      · exfalso
        have e2 : nx l j (97 + c) = i := by omega
        have := nx_is (l := l) (i := j) (c := 97 + c) (by omega) (by omega)
        rw [e2, hd] at this
        injection this with this
        omega
  · rintro (h | rfl)
    · omega
    · have := nx_first hj hd
      omega
theorem cN_step {l : List Nat} {j i d : Nat} (hj : j ≤ i) (hi : i < l.length) (hd : l[i]? = some (97 + d)) : ∀ K, cN l j (i + 1) K = cN l j i K + if d < K ∧ ¬ nx l j (97 + d) < i then 1 else 0
  | 0 => by simp [cN]
  | K + 1 => by
    unfold cN
    rw [cN_step hj hi hd K]
    by_cases e : K = d
    · subst e
      rw [if_pos ((nx_step1 hj hi hd K).2 (.inr rfl)), if_neg (by omega)]
      by_cases h : nx l j (97 + K) < i
      · rw [if_pos h, if_neg (by omega)]
      · rw [if_neg h, if_pos ⟨by omega, h⟩]
    · have h1 : (nx l j (97 + K) < i + 1) = (nx l j (97 + K) < i) := propext ((nx_step1 hj hi hd K).trans ⟨fun h => h.elim id (fun h => absurd h e), .inl⟩)
      have h2 : (d < K + 1 ∧ ¬ nx l j (97 + d) < i) = (d < K ∧ ¬ nx l j (97 + d) < i) := propext ⟨fun h => ⟨by omega, h.2⟩, fun h => ⟨by omega, h.2⟩⟩
      simp only [h1, h2]
      omega
theorem all_amx {l : List Nat} {k j i : Nat} (hk : 1 ≤ k) : (∀ c, c < k → nx l j (97 + c) < i) ↔ amx l k j < i := by
  constructor
  · intro h
    obtain ⟨c, h1, h2⟩ := maxF_mem (fun c => nx l j (97 + c)) (k - 1)
    have := h c (by omega)
    unfold amx
    omega
  · intro h c hc
    have := nx_amx (l := l) (i := j) hc
    omega
/-- A letter that ends an arch. -/
theorem arch_ends {l : List Nat} {k j i d : Nat} (hk : 1 ≤ k) (hj : j ≤ i) (hi : i < l.length) (hd : l[i]? = some (97 + d)) (h0 : cN l j i k < k) (h1 : cN l j (i + 1) k = k) : arch l k j = i :: arch l k (i + 1) := by
  have a1 := (all_amx hk).1 ((cN_full l j (i + 1) k).1 h1)
  have a2 : ¬ amx l k j < i := fun h => by have := (cN_full l j i k).2 ((all_amx hk).2 h); omega
  have e : amx l k j = i := by omega
  rw [arch_eq (by omega), e, if_pos hi]
theorem arch_stop {l : List Nat} {k j : Nat} (hk : 1 ≤ k) (hj : j ≤ l.length) (h0 : cN l j l.length k < k) : arch l k j = [] := by
  have a2 : ¬ amx l k j < l.length := fun h => by have := (cN_full l j l.length k).2 ((all_amx hk).2 h); omega
  rw [arch_eq hj, if_neg a2]
end Go.Proofs.Ytagdbadljcongaa.X
end

section
/- tickingref03.Letters, Arches, Absent. -/
set_option linter.unusedVariables false
set_option linter.unusedSimpArgs false
namespace Go.Proofs.Ytagdbadljcongaa.X
open Go Go.RowKit Go.Proofs Go.Proofs.YtagdbadljcongaaW.PrintWords Go.Proofs.YtagdbadljcongaaW.PrintLast Go.Proofs.YtagdbadljcongaaW.PrintMore
/-- The box of what has been seen. -/
def b4 (f : Nat → Bool) : Array Value := #[.bool (f 0), .bool (f 1), .bool (f 2), .bool (f 3)]
theorem b4_at (f : Nat → Bool) (d : Nat) (h : d < 4) : (b4 f)[d]? = some (.bool (f d)) := by
  have : d = 0 ∨ d = 1 ∨ d = 2 ∨ d = 3 := by omega
  rcases this with rfl | rfl | rfl | rfl <;> rfl
theorem b4_set (f : Nat → Bool) (d : Nat) (h : d < 4) (v : Bool) : (b4 f).setIfInBounds d (.bool v) = b4 (fun x => if x = d then v else f x) := by
  have : d = 0 ∨ d = 1 ∨ d = 2 ∨ d = 3 := by omega
  rcases this with rfl | rfl | rfl | rfl <;> rfl
structure RaAt (w : World) (g : Nat) (f : Nat → Bool) (A : Option Addr) (c : Nat) (xs : List Int) (W : World) : Prop where
  box : W.heap[g]? = some (.cells (b4 f) 83 (0, 0))
  row : Kd.R (Kd.int .i64) 3 W w.heap.size (fun _ => True) (.slice A xs.length c) xs
  bel : Below w.heap.size w W
theorem RaAt.below {w : World} {g : Nat} {f : Nat → Bool} {A : Option Addr} {c : Nat} {xs : List Int} {W W' : World} (h : RaAt w g f A c xs W) (hb : Below W.heap.size W W') : RaAt w g f A c xs W' :=
  ⟨blk_below h.box hb, Kd.R_below h.row hb, below_step h.bel hb⟩
theorem RaAt.put {w : World} {g : Nat} {f f' : Nat → Bool} {A : Option Addr} {c : Nat} {xs : List Int} {W W' : World} (h : RaAt w g f A c xs W) (hother : ∀ k, k ≠ g → W'.heap[k]? = W.heap[k]?) (hbox : W'.heap[g]? = some (.cells (b4 f') 83 (0, 0))) (hbel : Below w.heap.size w W') : RaAt w g f' A c xs W' := by
  refine ⟨hbox, ?_, hbel⟩
  refine Kd.R_mono (Kd.R_move (Kd.R_bound h.row) (fun k hkk => ?_)) (fun k hkk => hkk.1)
  obtain ⟨_, _, _, t, ht, cells, hc⟩ := hkk
  have ht9 : t = 3 := by have hE : (Kd.int .i64).E = [] := rfl; simpa [hE] using ht
  subst ht9
  exact hother k (blk_ne hc h.box (by decide))
theorem RaAt.set {w : World} {g : Nat} {f : Nat → Bool} {A : Option Addr} {c : Nat} {xs : List Int} {W : World} (h : RaAt w g f A c xs W) (hg : w.heap.size ≤ g) (d : Nat) (hd : d < 4) (v : Bool) : RaAt w g (fun x => if x = d then v else f x) A c xs (W.setCell ⟨g, d, none⟩ (.bool v)) :=
  h.put (fun k hk => Below.heap_setCell W _ _ k hk) (by rw [blk_set h.box, b4_set f d hd]) (h.bel.setCell hg _)
theorem RaAt.zero {w : World} {g : Nat} {f : Nat → Bool} {A : Option Addr} {c : Nat} {xs : List Int} {W : World} (h : RaAt w g f A c xs W) (hg : w.heap.size ≤ g) : RaAt w g (fun _ => false) A c xs ((((W.setCell ⟨g, 0, none⟩ (.bool false)).setCell ⟨g, 1, none⟩ (.bool false)).setCell ⟨g, 2, none⟩ (.bool false)).setCell ⟨g, 3, none⟩ (.bool false)) := by
  have h4 := (((h.set hg 0 (by omega) false).set hg 1 (by omega) false).set hg 2 (by omega) false).set hg 3 (by omega) false
  exact ⟨h4.box.trans rfl, h4.row, h4.bel⟩
theorem RaAt.there {w : World} {g : Nat} {f : Nat → Bool} {A : Option Addr} {c : Nat} {xs : List Int} {W : World} (h : RaAt w g f A c xs W) (d : Nat) (hd : d < 4) : W.cell? ⟨g, d, none⟩ = some (.bool (f d)) ∧ W.frozen? ⟨g, d, none⟩ = false :=
  ⟨(blk_cell h.box d).trans (b4_at f d hd), blk_frozen h.box d⟩
/-- What the letter's places say. -/
def seenF (l : List Nat) (j i : Nat) (c : Nat) : Bool := decide (nx l j (97 + c) < i)
theorem seenF_same (l : List Nat) (i : Nat) (hi : i ≤ l.length) : (fun _ => false) = seenF l i i := by
  funext c
  unfold seenF
  rw [decide_eq_false]
  have := (nx_le l i (97 + c) hi).1
  omega
theorem seenF_step {l : List Nat} {j i d : Nat} (hj : j ≤ i) (hi : i < l.length) (hd : l[i]? = some (97 + d)) : (fun x => if x = d then true else seenF l j i x) = seenF l j (i + 1) := by
  funext c
  unfold seenF
  have h := nx_step1 hj hi hd c
  by_cases e : c = d
  · rw [if_pos e, decide_eq_true (h.2 (.inr e))]
  · rw [if_neg e]
    by_cases h2 : nx l j (97 + c) < i
    · rw [decide_eq_true h2, decide_eq_true (h.2 (.inl h2))]
    · rw [decide_eq_false h2, decide_eq_false (fun h3 => (h.1 h3).elim h2 e)]
theorem seenF_keep {l : List Nat} {j i d : Nat} (hj : j ≤ i) (hi : i < l.length) (hd : l[i]? = some (97 + d)) (hs : seenF l j i d = true) : seenF l j i = seenF l j (i + 1) := by
  rw [← seenF_step hj hi hd]
  funext c
  split
  · rename_i e; rw [e, hs]
  · rfl
/-- A round's invariant. -/
structure RaL (l : List Nat) (k : Nat) (R : List Nat) (i j m : Nat) (xs : List Int) : Prop where
  ji : j ≤ i
  il : i ≤ l.length
  cn : cN l j i k = m
  mlt : m < k
  res : ∃ pre : List Nat, xs = pre.map (fun (n : Nat) => (n : Int)) ∧ pre ++ arch l k j = R
  xl : xs.length ≤ i
set_option maxHeartbeats 8000000 in
set_option maxRecDepth 1000000 in
theorem rarches_any (s : ByteArray) (k : Nat) (w : World) (hs : Tame s 60 k) (hk : 1 ≤ k) (hk4 : k ≤ 4) (R : List Nat) (hR : arch (bl s) k 0 = R) : Calls Try.prog 24 #[.string s, .int .i64 (k : Int)] w fun e w' => ∃ A c, e = .returned (.slice A R.length c) ∧ Aside0 (R.length ≤ c ∧ Kd.C (Kd.int .i64) w' A R.length (R.map fun (n : Nat) => (n : Int))) ∧ Below w.heap.size w w' := by
  have HS := Aside0.mk hs
  have HK := Aside0.mk hk
  have HK4 := Aside0.mk hk4
  have HRR := Aside0.mk hR
  have hs60 : (s.size : Int) ≤ 60 := by have := hs.size; omega
  have hkI : (k : Int) ≤ 4 := by omega
  clear hs hk hk4 hR
  go_enter Try.func24, Try.ntmps24
  go_wp2
  have hbx : (w.alloc (.cells #[.bool false, .bool false, .bool false, .bool false] 83)).heap[w.heap.size]? = some (.cells #[.bool false, .bool false, .bool false, .bool false] 83 (0, 0)) := blk_new w _
  have H0 := Aside0.mk (show RaAt w w.heap.size (seenF (bl s) 0 0) none 0 [] (w.alloc (.cells #[.bool false, .bool false, .bool false, .bool false] 83)) from by
    rw [← seenF_same (bl s) 0 (Nat.zero_le _)]
    exact ⟨hbx, Kd.R_nil _ _ _ _ _, below_alloc (Below.refl _ _) _⟩)
  clear hbx
  obtain ⟨g, hg⟩ : ∃ g, w.heap.size = g := ⟨_, rfl⟩
  have HG := Aside0.mk (show w.heap.size ≤ g by omega)
  obtain ⟨W0, hW0⟩ : ∃ W0, w.alloc (.cells #[.bool false, .bool false, .bool false, .bool false] 83) = W0 := ⟨_, rfl⟩
  rw [hW0] at H0 ⊢
  replace H0 := Aside0.mk (show RaAt w g (seenF (bl s) 0 0) none 0 [] W0 by rw [← hg]; exact H0.out)
  rw [hg]
  clear hW0 hg
  go_loopw [5, 7, 8, 9] (fun v5 v7 v8 v9 wr => ∃ (i j m : Nat) (A : Option Addr) (c : Nat) (xs : List Int), v5 = .slice A xs.length c ∧ v7 = .int .i64 m ∧ v8 = .int .i64 i ∧ i ≤ s.size ∧ Aside0 (RaL (bl s) k R i j m xs) ∧ Aside0 (RaAt w g (seenF (bl s) j i) A c xs wr)) (fun _ _ v8 _ _ => s.size - (intOf v8).toNat)
  case atStart => exact ⟨0, 0, 0, none, 0, [], rfl, rfl, rfl, Nat.zero_le _, ⟨⟨Nat.le_refl _, Nat.zero_le _, cN_same _ _ _ (Nat.zero_le _), HK.out, ⟨[], rfl, HRR.out⟩, by simp⟩⟩, H0⟩
  case round =>
    clear H0 HRR
    obtain ⟨i, j, m, A, c, xs, rfl, rfl, rfl, hi, HL, HA⟩ := hrel
    have hmk : (m : Int) < (k : Int) := by have := HL.out.mlt; omega
    by_cases hlt : i < s.size
    · have hltI : (i : Int) < (s.size : Int) := by omega
      have hi0 : (0 : Int) ≤ (i : Int) := by omega
      have hil : i < (bl s).length := by rw [bl_length]; exact hlt
      obtain ⟨d, hd, hdk⟩ : ∃ d, (bl s)[i] = 97 + d ∧ d < k := by
        have := HS.out.let_ _ (List.getElem_mem hil)
        exact ⟨(bl s)[i] - 97, by omega, by omega⟩
      have hd? : (bl s)[i]? = some (97 + d) := by rw [List.getElem?_eq_getElem hil, hd]
      have hx : ∀ h : i < s.size, ((s[i]'h).toNat : Int) = 97 + (d : Int) := fun h => by rw [← bl_get s i h]; rw [hd]; omega
      have c1 : (97 : Int) + (d : Int) - 97 = (d : Int) := by omega
      have c2 : (d : Int) < 4 := by omega
      have c3 : (0 : Int) ≤ (d : Int) := by omega
      have hd4 : d < 4 := by have := HK4.out; omega
      obtain ⟨t0, f0⟩ := HA.out.there d hd4
      have HD := Aside0.mk hd?
      have HIL := Aside0.mk hil
      have HLT := Aside0.mk hlt
      have HD4 := Aside0.mk hd4
      have HDK := Aside0.mk hdk
      have hst := cN_step HL.out.ji hil hd? k
      cases hb : seenF (bl s) j i d with
      | true =>
        rw [hb] at t0
        have hn : nx (bl s) j (97 + d) < i := of_decide_eq_true hb
        rw [if_neg (fun h => h.2 hn), Nat.add_zero, HL.out.cn] at hst
        have HST := Aside0.mk hst
        have HSB := Aside0.mk (seenF_keep HL.out.ji hil hd? hb)
        have hne : ((m : Int) == (k : Int)) = false := beq_eq_false_iff_ne.mpr (by omega)
        have hne2 : (m == k) = false := beq_eq_false_iff_ne.mpr (by omega)
        clear hd hd? hil hlt hd4 hdk hst hb hn hi
        go_wp2
        go_roundw
        case rel => exact ⟨i + 1, j, m, A, c, xs, rfl, rfl, by go_num, by have := HLT.out; omega, ⟨⟨by have := HL.out.ji; omega, by have := HIL.out; omega, HST.out, HL.out.mlt, HL.out.res, by have := HL.out.xl; omega⟩⟩, ⟨by rw [← HSB.out]; exact HA.out⟩⟩
        case measure => simp [intOf]; have := HLT.out; omega
      | false =>
        rw [hb] at t0
        have hn : ¬ nx (bl s) j (97 + d) < i := of_decide_eq_false hb
        rw [if_pos ⟨hdk, hn⟩, HL.out.cn] at hst
        have HST := Aside0.mk hst
        have HSF := Aside0.mk (seenF_step HL.out.ji hil hd?)
        by_cases hfull : m + 1 = k
        · have HFU := Aside0.mk hfull
          have hne : ((m : Int) + 1 == (k : Int)) = true := beq_iff_eq.mpr (by omega)
          have hne2 : (m + 1 == k) = true := beq_iff_eq.mpr (by omega)
          have HW3 := Aside0.mk (HA.out.set HG.out d HD4.out true)
          obtain ⟨W3, hW3⟩ : ∃ W3, wr.setCell ⟨g, d, none⟩ (.bool true) = W3 := ⟨_, rfl⟩
          have HE := Aside0.mk (arch_ends HK.out HL.out.ji hil hd? (by rw [HL.out.cn]; exact HL.out.mlt) (by rw [HST.out]; exact hfull))
          clear hd hd? hil hlt hd4 hdk hst hb hn hi hfull
          go_upto_region 12 with (fail)
          rw [hW3] at HW3
          clear hW3 t0 f0
          have KEY := Aside0.mk (app_int (x := (i : Int)) HW3.out.row HW3.out.bel HW3.out.bel.size (fun _ _ => trivial) (by have := HL.out.xl; have := HLT.out; have := HS.out.size; omega) 31 33)
          go_upto_region 13 with (at_builtin; refine KEY.out _ _ _ _ _ rfl rfl rfl rfl ?_; intro A2 c2 w4 hr3 hb3 hg3 hat3; have HR3 := Aside0.mk hr3; have HB3 := Aside0.mk hb3; have HX3 := Aside0.mk (blk_grown HW3.out.box hg3 (Kd.R_ne HW3.out.row HW3.out.box (by decide))); clear hr3 hb3 hg3 hat3)
          obtain ⟨F, hF⟩ : ∃ F : Nat → Bool, (fun x => if x = d then true else seenF (bl s) j i x) = F := ⟨_, rfl⟩
          have HA4 := Aside0.mk (show RaAt w g F A2 c2 (xs ++ [(i : Int)]) w4 from ⟨by rw [← hF]; exact HX3.out, by rw [List.length_append]; exact HR3.out, HB3.out⟩)
          clear hF
          have u0 := HA4.out.there 0 (by omega)
          have u1 := HA4.out.there 1 (by omega)
          have u2 := HA4.out.there 2 (by omega)
          have u3 := HA4.out.there 3 (by omega)
          obtain ⟨t0, f0⟩ := u0
          obtain ⟨t1, f1⟩ := u1
          obtain ⟨t2, f2⟩ := u2
          obtain ⟨t3, f3⟩ := u3
          clear HR3 HB3 HX3 HW3 KEY
          have HA5 := Aside0.mk (HA4.out.zero HG.out)
          go_wp2
          go_roundw
          case rel => exact ⟨i + 1, i + 1, 0, A2, c2, xs ++ [(i : Int)], by rw [List.length_append]; rfl, rfl, by go_num, by have := HLT.out; omega, ⟨⟨Nat.le_refl _, by have := HIL.out; omega, cN_same _ _ _ (by have := HIL.out; omega), HK.out, by
            obtain ⟨pre, h1, h2⟩ := HL.out.res
            exact ⟨pre ++ [i], by rw [h1]; simp, by rw [← h2, HE.out]; simp⟩, by have := HL.out.xl; simp; omega⟩⟩, ⟨by rw [← seenF_same (bl s) (i + 1) (by have := HIL.out; omega)]; exact HA5.out⟩⟩
          case measure => simp [intOf]; have := HLT.out; omega
        · have HNF := Aside0.mk hfull
          have hne : ((m : Int) + 1 == (k : Int)) = false := beq_eq_false_iff_ne.mpr (by omega)
          have hne2 : (m + 1 == k) = false := beq_eq_false_iff_ne.mpr (by omega)
          have HW3 := Aside0.mk (HA.out.set HG.out d HD4.out true)
          clear hd hd? hil hlt hd4 hdk hst hb hn hi hfull
          go_wp2
          go_roundw
          case rel => exact ⟨i + 1, j, m + 1, A, c, xs, rfl, by go_num, by go_num, by have := HLT.out; omega, ⟨⟨by have := HL.out.ji; omega, by have := HIL.out; omega, HST.out, by have := HL.out.mlt; have := HNF.out; omega, HL.out.res, by have := HL.out.xl; omega⟩⟩, ⟨by rw [← HSF.out]; exact HW3.out⟩⟩
          case measure => simp [intOf]; have := HLT.out; omega
    · have hltI : ¬ ((i : Int) < (s.size : Int)) := by omega
      have hie : i = s.size := by omega
      have HIE := Aside0.mk hie
      clear hlt hie hi
      go_wp2
      go_ret
      obtain ⟨pre, h1, h2⟩ := HL.out.res
      have h3 := HL.out.cn
      have h4 := HL.out.mlt
      rw [HIE.out, ← bl_length] at h3
      rw [arch_stop HK.out (by have := HL.out.ji; have := HL.out.il; omega) (by rw [h3]; exact h4), List.append_nil] at h2
      subst h2
      have hl : xs.length = pre.length := by rw [h1, List.length_map]
      refine ⟨A, c, by rw [hl]; rfl, ?_, HA.out.bel⟩
      constructor
      have hC := (Kd.R_reads' HA.out.row).2
      rw [hl, h1] at hC
      exact hC
end Go.Proofs.Ytagdbadljcongaa.X
end

section
/- The law ThreadOwn, walked. -/
set_option linter.unusedVariables false
set_option linter.unusedSimpArgs false
namespace Go.Proofs.Ytagdbadljcongaa.X
open Go Go.RowKit Go.Proofs Go.Proofs.YtagdbadljcongaaW.PrintWords Go.Proofs.YtagdbadljcongaaW.PrintLast Go.Proofs.YtagdbadljcongaaW.PrintMore
theorem arches_v (x : ByteArray) (hx : Tame x 30 3) (xs : List Int) (hxs : (arch (bl x) 3 0).map (fun (n : Nat) => (n : Int)) = xs) (W : World) : Calls Try.prog 18 #[.string x, .int .i64 3] W fun e w' => ∃ A c, e = .returned (.tuple #[.slice A xs.length c, .int .i64 0]) ∧ Aside0 (Kd.R (Kd.int .i64) 3 w' W.heap.size (fun _ => True) (.slice A xs.length c) xs) ∧ Below W.heap.size W w' := by
  have h := arches_ok x 3 W (hx.isW (by decide) (by decide)) (by decide) (by decide) hx.ovr _ rfl
  refine h.mono ?_
  rintro e w' ⟨v, rfl, hr, hb⟩
  rw [hxs] at hr
  obtain ⟨A, c, rfl⟩ := Kd.R_slice hr
  exact ⟨A, c, rfl, ⟨hr⟩, hb⟩
theorem rarches_v (x : ByteArray) (hx : Tame x 30 3) (xs : List Int) (hxs : (arch (bl x) 3 0).map (fun (n : Nat) => (n : Int)) = xs) (W : World) : Calls Try.prog 24 #[.string x, .int .i64 3] W fun e w' => ∃ A c, e = .returned (.slice A xs.length c) ∧ Aside0 (xs.length ≤ c ∧ Kd.C (Kd.int .i64) w' A xs.length xs) ∧ Below W.heap.size W w' := by
  have h := rarches_any x 3 W ⟨Nat.le_trans hx.size (by decide), hx.let_⟩ (by decide) (by decide) _ rfl
  have e1 : (arch (bl x) 3 0).length = xs.length := by rw [← hxs, List.length_map]
  rw [hxs, e1] at h
  exact h
theorem wth_len2 (l : List Nat) : ∀ (u : List Nat) (i : Nat) (xs : List Nat), wth l i u = some xs → xs.length = u.length
  | [], i, xs, h => by
    unfold wth at h
    injection h with h
    subst h; rfl
  | c :: u, i, xs, h => by
    unfold wth at h
    split at h
    · obtain ⟨ys, h1, rfl⟩ := Option.map_eq_some_iff.1 h
      rw [List.length_cons, List.length_cons, wth_len2 l u _ ys h1]
    · cases h
theorem within_v (x : ByteArray) (hx : isW (bl x) = true) (W : World) : ∃ ys : List Int, ys.length ≤ 60 ∧ Calls Try.prog 32 #[.string x, .string x] W fun e w' => ∃ A c, e = .returned (.tuple #[.slice A ys.length c, .int .i64 0]) ∧ Aside0 (Kd.R (Kd.int .i64) 3 w' W.heap.size (fun _ => True) (.slice A ys.length c) ys) ∧ Below W.heap.size W w' := by
  have h1 := (wth_sub0 (bl x) (bl x)).2 (List.Sublist.refl _)
  obtain ⟨r, hr⟩ := Option.isSome_iff_exists.1 h1
  refine ⟨r.map fun (n : Nat) => (n : Int), ?_, ?_⟩
  · rw [List.length_map, wth_len2 _ _ _ _ hr]
    exact ((isW_iff _).1 hx).1
  · refine (within_ok x x W hx hx _ hr).mono ?_
    rintro e w' ⟨v, ⟨rfl, h2⟩, hb⟩
    obtain ⟨A, c, rfl⟩ := Kd.R_slice h2
    exact ⟨A, c, rfl, ⟨h2⟩, hb⟩
set_option maxHeartbeats 8000000 in
set_option maxRecDepth 1000000 in
theorem ThreadOwn_calls (a0 : ByteArray) (A : Option Addr) (c : Nat) (ws : List ByteArray) (w : World) (hC : Kd.C Kd.string w A ws.length ws) : Calls Try.prog 16 #[.string a0, .slice A ws.length c] w fun e w' => e = .returned (.bool true) ∧ Below w.heap.size w w' := by
  have TA := Aside0.mk (fun (s : ByteArray) W => show Calls Try.prog 26 #[.string s, .int .i64 6, .int .i64 4] W fun e w' => ∃ x, e = .returned (.string x) ∧ Aside0 (Tame x 6 4) ∧ Below W.heap.size W w' from tame_any s 6 4 W (by decide) (by decide) (by decide))
  have TX := Aside0.mk (show Calls Try.prog 26 #[.string a0, .int .i64 30, .int .i64 3] w fun e w' => ∃ x, e = .returned (.string x) ∧ Aside0 (Tame x 30 3) ∧ Below w.heap.size w w' from tame_any a0 30 3 w (by decide) (by decide) (by decide))
  have hwm : (ws.length : Int) ≤ 9223372036854775807 := by have := Kd.C_max hC; omega
  have HC := Aside0.mk hC
  clear hC
  go_enter Try.func16, Try.ntmps16
  go_upto_region 2 with (go_at_call 26; (with_reducible refine TX.out.mono ?_); rintro e w1 ⟨x, rfl, HX, hb⟩; have HB1 := Aside0.mk hb; clear hb)
  have HC1 := Aside0.mk (Kd.C_below HC.out HB1.out)
  clear TX HC
  go_wp2
  go_loopw [5, 6] (fun v5 v6 wr => ∃ (i : Nat) (A2 : Option Addr) (c2 : Nat) (ls : List ByteArray), v6 = .int .i64 i ∧ v5 = .slice A2 ls.length c2 ∧ Aside0 (ls.length = i ∧ i ≤ ws.length ∧ (ls.length = 0 → A2 = none)) ∧ Aside0 (Fam6 ls) ∧ Aside0 (Kd.R Kd.string 9 wr w1.heap.size (fun _ => True) (.slice A2 ls.length c2) ls) ∧ Aside0 (Below w1.heap.size w1 wr)) (fun _ v6 _ => ws.length - (intOf v6).toNat)
  case atStart => exact ⟨0, none, 0, [], rfl, rfl, Aside0.mk ⟨rfl, Nat.zero_le _, fun _ => rfl⟩, ⟨Fam6.nil⟩, ⟨Kd.R_nil _ _ _ _ _⟩, ⟨Below.refl _ _⟩⟩
  case round =>
    obtain ⟨i, A2, c2, ls, rfl, rfl, HI, HF, HR, HB⟩ := hrel
    by_cases hlt : i < ws.length ∧ i < 4
    · have hltI : (i : Int) < (ws.length : Int) := by omega
      have hlt4 : (i : Int) < 4 := by omega
      have hi0 : (0 : Int) ≤ (i : Int) := by omega
      obtain ⟨ad, e, hx⟩ := Kd.at_string (Kd.C_below HC1.out HB.out) (i : Int) hi0 hltI
      cases e
      rw [rdOf_nat ws i hlt.1, Int.toNat_natCast] at hx
      obtain ⟨s, hs⟩ : ∃ s, ws[i]'hlt.1 = s := ⟨_, rfl⟩
      rw [hs] at hx
      have HIL := Aside0.mk (show ls.length = i ∧ ls.length < 4 from ⟨HI.out.1, by rw [HI.out.1]; exact hlt.2⟩)
      clear hlt hs
      go_wp2_with (first | (go_at_call 26; (with_reducible refine (TA.out _ _).mono ?_); rintro e w2 ⟨t, rfl, HT, hb⟩; have HB2 := Aside0.mk (below_step HB.out hb); have HR2 := Aside0.mk (Kd.R_below HR.out hb); have KEY := Aside0.mk (app_str (x := t) HR2.out HB2.out HB2.out.size (fun _ _ => trivial) (by have := HIL.out; omega) 33 39); clear hb) | (at_builtin; refine KEY.out _ _ _ _ _ rfl rfl rfl rfl ?_; intro A3 c3 w3 hr3 hb3 hg3 hat3; have HR3 := Aside0.mk hr3; have HB3 := Aside0.mk hb3; clear hr3 hb3 hg3 hat3))
      go_roundw
      case rel => exact ⟨i + 1, A3, c3, ls ++ [t], by go_num, by rw [List.length_append]; rfl, Aside0.mk ⟨by rw [List.length_append, HIL.out.1]; rfl, by have := hltI; omega, fun h => by rw [List.length_append] at h; simp at h⟩, ⟨HF.out.snoc HT.out HIL.out.2⟩, ⟨by rw [List.length_append]; exact HR3.out⟩, HB3⟩
      case measure => simp [intOf]; omega
    · have HI2 := Aside0.mk (show ls.length = 0 → A2 = none from HI.out.2.2)
      have h12 : ¬ ((i : Int) < (ws.length : Int)) ∨ (i : Int) < (ws.length : Int) ∧ ¬ ((i : Int) < 4) := by omega
      clear hlt HI HC1
      have HCL := Aside0.mk (Kd.R_reads' HR.out)
      have HFI := Aside0.mk (show fam6 ls = ls from fam6_id (by have := HF.out.len; omega) (fun t ht => by have := (HF.out.tm t ht).size; omega))
      have FY := Aside0.mk (show Calls Try.prog 41 #[.slice A2 ls.length c2] wr fun e w' => ∃ B d, e = .returned (.slice B ls.length d) ∧ Aside0 (Kd.R Kd.string 9 w' wr.heap.size (fun _ => True) (.slice B ls.length d) ls) ∧ Below wr.heap.size wr w' by
        have h := family_any ls A2 c2 wr HCL.out.2.2 HCL.out.2.1
        rw [HFI.out] at h
        exact h)
      have HSP := Aside0.mk (spot_of HR.out HI2.out)
      have MIN := Aside0.mk (fun W (hb : Below wr.heap.size wr W) => minimal_ok ls A2 c2 W HF.out.len HF.out.fam HSP.out (Kd.C_below HCL.out.2.2 hb))
      obtain ⟨xs, hxs⟩ : ∃ xs, (arch (bl x) 3 0).map (fun (n : Nat) => (n : Int)) = xs := ⟨_, rfl⟩
      have AV := Aside0.mk (arches_v x HX.out xs hxs)
      have RV := Aside0.mk (rarches_v x HX.out xs hxs)
      have hxl : xs.length ≤ 1000000 := by
        have h1 := lst_arch (bl x) 3
        have h2 := lst_le (bl x) 3 0
        have h3 := HX.out.size
        rw [bl_length] at h2
        rw [← hxs, List.length_map]
        omega
      have HXL := Aside0.mk hxl
      have HXW := Aside0.mk (HX.out.isW (by decide) (by decide))
      have HXS := Aside0.mk hxs
      clear hxs hxl
      rcases h12 with h1 | ⟨h1, h2⟩
      all_goals
        go_upto_region 9 with (first | (go_at_call 41; (with_reducible refine FY.out.mono ?_); rintro e w3 ⟨B, d, rfl, HRB, hb⟩; have HB3 := Aside0.mk hb; clear hb) | (go_at_call 18; (with_reducible refine (AV.out _).mono ?_); rintro e w4 ⟨A4, c4, rfl, HRX, hb⟩; have HB34 := Aside0.mk hb; clear hb))
        obtain ⟨ys, hy60, hwi⟩ := within_v x HXW.out w4
        have WI := Aside0.mk hwi
        have HY60 := Aside0.mk hy60
        clear hwi hy60
        go_upto_region 12 with (first | (go_at_call 32; (with_reducible refine WI.out.mono ?_); rintro e w5 ⟨A5, c5, rfl, HRY, hb⟩; have HB45 := Aside0.mk hb; clear hb) | (go_at_call 42; (with_reducible refine (MIN.out _ (below_step HB3.out (below_step HB34.out HB45.out))).mono ?_); rintro e w6 ⟨A6, c6, ms, rfl, HMS, HRM, hb⟩; have HB56 := Aside0.mk hb; clear hb))
        have HRXB := Aside0.mk (show Kd.R (Kd.int .i64) 3 w6 w3.heap.size (fun k => w3.heap.size ≤ k ∧ k < w4.heap.size) (.slice A4 xs.length c4) xs from Kd.R_below (Kd.R_mono (Kd.R_bound HRX.out) (fun k hk => ⟨hk.2.1, hk.2.2.1⟩)) (below_step HB45.out HB56.out))
        have HRYB := Aside0.mk (show Kd.R (Kd.int .i64) 3 w6 w4.heap.size (fun k => w4.heap.size ≤ k ∧ k < w5.heap.size) (.slice A5 ys.length c5) ys from Kd.R_below (Kd.R_mono (Kd.R_bound HRY.out) (fun k hk => ⟨hk.2.1, hk.2.2.1⟩)) HB56.out)
        have HRMB := Aside0.mk (show Kd.R Kd.string 9 w6 w5.heap.size (fun k => w5.heap.size ≤ k) (.slice A6 ms.length c6) ms from Kd.R_mono (Kd.R_bound HRM.out) (fun k hk => hk.2.1))
        have HB36 := Aside0.mk (show Below w3.heap.size w3 w6 from below_step HB34.out (below_step HB45.out HB56.out))
        have HS45 := Aside0.mk (show w3.heap.size ≤ w4.heap.size ∧ w4.heap.size ≤ w5.heap.size from ⟨HB34.out.size, HB45.out.size⟩)
        have hxI : (xs.length : Int) ≤ 1000000 := by have := HXL.out; omega
        have hyI : (ys.length : Int) ≤ 60 := by have := HY60.out; omega
        have hmI : (ms.length : Int) ≤ 4 := by have := HMS.out.len4; have := HF.out.len; omega
        have HL3 := Aside0.mk (show Kd.C Kd.string w3 A2 ls.length ls from Kd.C_below HCL.out.2.2 HB3.out)
        have HLB3 := Aside0.mk (Kd.R_reads' HRB.out)
        have HBF := Aside0.mk (show Below w.heap.size w w3 from below_step (below_step HB1.out HB.out) HB3.out)
        have MIN3 := Aside0.mk (fun W (hb : Below w3.heap.size w3 W) => minimal_ok ls A2 c2 W HF.out.len HF.out.fam HSP.out (Kd.C_below HL3.out hb))
        clear HRX HRY HRM FY WI MIN HRB HR HB HB1
        go_wp2
        go_loopw [14] (fun v14 wz => ∃ (p : Nat) (zs : List Int), v14 = .int .i64 p ∧ p ≤ xs.length ∧ Aside0 (Kd.R (Kd.int .i64) 3 wz w3.heap.size (fun k => w3.heap.size ≤ k ∧ k < w4.heap.size) (.slice A4 xs.length c4) zs) ∧ Aside0 (Kd.R (Kd.int .i64) 3 wz w4.heap.size (fun k => w4.heap.size ≤ k ∧ k < w5.heap.size) (.slice A5 ys.length c5) ys) ∧ Aside0 (Kd.R Kd.string 9 wz w5.heap.size (fun k => w5.heap.size ≤ k) (.slice A6 ms.length c6) ms) ∧ Aside0 (Below w3.heap.size w3 wz)) (fun v14 _ => xs.length - (intOf v14).toNat)
        case atStart => exact ⟨0, xs, rfl, Nat.zero_le _, HRXB, HRYB, HRMB, HB36⟩
        case round =>
          clear HRXB HRYB HRMB
          obtain ⟨p, zs, rfl, hp, HRZ, HRY, HRM, HBZ⟩ := hrel
          by_cases hpl : p < xs.length
          · have hpI : (p : Int) < (xs.length : Int) := by omega
            have hp0 : (0 : Int) ≤ (p : Int) := by omega
            have HPL := Aside0.mk hpl
            have hzl := (Kd.R_reads' HRZ.out).1
            obtain ⟨g, cc, eo, gb, gl, _⟩ := Kd.R_form HRZ.out (by omega)
            injection eo with ea el ec
            clear el
            subst ea ec
            have hgok := HRZ.out.1 g rfl
            obtain ⟨hx0, hf0⟩ := Kd.R_celln (0 : Int) HRZ.out (p : Int) hp0 hpI
            have HP := Aside0.mk (Kd.R_putg HRZ.out (p : Int) (-1))
            rw [Int.toNat_natCast] at hx0 hf0
            have HP1 := Aside0.mk (show Kd.R (Kd.int .i64) 3 (wr.setCell ⟨g, p, none⟩ (.int .i64 (-1))) w3.heap.size (fun k => w3.heap.size ≤ k ∧ k < w4.heap.size) (.slice (some ⟨g, 0, none⟩) xs.length c4) (zs.set p (-1)) by
              have h := HP.out.1
              rw [Int.toNat_natCast] at h
              exact h)
            have HRY2 := Aside0.mk (Kd.R_far HRY.out (p := ⟨g, p, none⟩) (fun k hk => by have := hgok; show k ≠ g; omega) (.int .i64 (-1)))
            have HRM2 := Aside0.mk (Kd.R_far HRM.out (p := ⟨g, p, none⟩) (fun k hk => by have := hgok; have := HS45.out; show k ≠ g; omega) (.int .i64 (-1)))
            have HBZ2 := Aside0.mk (show Below w3.heap.size w3 (wr.setCell ⟨g, p, none⟩ (.int .i64 (-1))) from below_set HBZ.out hgok.1)
            clear hgok HP hpl hp hzl gb gl
            go_wp2
            go_roundw
            case rel => exact ⟨p + 1, zs.set p (-1), by go_num, by have := HPL.out; omega, HP1, HRY2, HRM2, HBZ2⟩
            case measure => simp [intOf]; have := HPL.out; omega
          · have hpI : ¬ (p : Int) < (xs.length : Int) := by omega
            clear hpl hp HRZ
            go_upto_region 16 with (fail)
            go_loopw [15] (fun v15 wz => ∃ (p : Nat) (zs : List Int), v15 = .int .i64 p ∧ p ≤ ys.length ∧ Aside0 (Kd.R (Kd.int .i64) 3 wz w4.heap.size (fun k => w4.heap.size ≤ k ∧ k < w5.heap.size) (.slice A5 ys.length c5) zs) ∧ Aside0 (Kd.R Kd.string 9 wz w5.heap.size (fun k => w5.heap.size ≤ k) (.slice A6 ms.length c6) ms) ∧ Aside0 (Below w3.heap.size w3 wz)) (fun v15 _ => ys.length - (intOf v15).toNat)
            case atStart => exact ⟨0, ys, rfl, Nat.zero_le _, HRY, HRM, HBZ⟩
            case round =>
              clear HRY HRM HBZ
              obtain ⟨q, zs, rfl, hp, HRZ, HRM, HBZ⟩ := hrel
              by_cases hpl : q < ys.length
              · have hqI : (q : Int) < (ys.length : Int) := by omega
                have hp0 : (0 : Int) ≤ (q : Int) := by omega
                have HPL := Aside0.mk hpl
                have hzl := (Kd.R_reads' HRZ.out).1
                obtain ⟨g, cc, eo, gb, gl, _⟩ := Kd.R_form HRZ.out (by omega)
                injection eo with ea el ec
                clear el
                subst ea ec
                have hgok := HRZ.out.1 g rfl
                obtain ⟨hx0, hf0⟩ := Kd.R_celln (0 : Int) HRZ.out (q : Int) hp0 hqI
                have HP := Aside0.mk (Kd.R_putg HRZ.out (q : Int) (-1))
                rw [Int.toNat_natCast] at hx0 hf0
                have HP1 := Aside0.mk (show Kd.R (Kd.int .i64) 3 (wr.setCell ⟨g, q, none⟩ (.int .i64 (-1))) w4.heap.size (fun k => w4.heap.size ≤ k ∧ k < w5.heap.size) (.slice (some ⟨g, 0, none⟩) ys.length c5) (zs.set q (-1)) by
                  have h := HP.out.1
                  rw [Int.toNat_natCast] at h
                  exact h)
                have HRM2 := Aside0.mk (Kd.R_far HRM.out (p := ⟨g, q, none⟩) (fun k hk => by have := hgok; show k ≠ g; omega) (.int .i64 (-1)))
                have HBZ2 := Aside0.mk (show Below w3.heap.size w3 (wr.setCell ⟨g, q, none⟩ (.int .i64 (-1))) from below_set HBZ.out (by have := hgok; have := HS45.out; omega))
                clear hgok HP hpl hp hzl gb gl
                go_wp2
                go_roundw
                case rel => exact ⟨q + 1, zs.set q (-1), by go_num, by have := HPL.out; omega, HP1, HRM2, HBZ2⟩
                case measure => simp [intOf]; have := HPL.out; omega
              · have hqI : ¬ (q : Int) < (ys.length : Int) := by omega
                clear hpl hp HRZ
                go_upto_region 20 with (fail)
                go_loopw [16] (fun v16 wz => ∃ (p : Nat) (zs : List ByteArray), v16 = .int .i64 p ∧ p ≤ ms.length ∧ Aside0 (Kd.R Kd.string 9 wz w5.heap.size (fun k => w5.heap.size ≤ k) (.slice A6 ms.length c6) zs) ∧ Aside0 (Below w3.heap.size w3 wz)) (fun v16 _ => ms.length - (intOf v16).toNat)
                case atStart => exact ⟨0, ms, rfl, Nat.zero_le _, HRM, HBZ⟩
                case round =>
                  clear HRM HBZ
                  obtain ⟨n, zs, rfl, hp, HRZ, HBZ⟩ := hrel
                  by_cases hpl : n < ms.length
                  · have hnI : (n : Int) < (ms.length : Int) := by omega
                    have hp0 : (0 : Int) ≤ (n : Int) := by omega
                    have HPL := Aside0.mk hpl
                    have hzl := (Kd.R_reads' HRZ.out).1
                    obtain ⟨g, cc, eo, gb, gl, _⟩ := Kd.R_form HRZ.out (by omega)
                    injection eo with ea el ec
                    clear el
                    subst ea ec
                    have hgok := HRZ.out.1 g rfl
                    obtain ⟨hx0, hf0⟩ := Kd.R_celln ByteArray.empty HRZ.out (n : Int) hp0 hnI
                    have HP := Aside0.mk (Kd.R_putg HRZ.out (n : Int) (⟨#[120]⟩ : ByteArray))
                    rw [Int.toNat_natCast] at hx0 hf0
                    have HP1 := Aside0.mk (show Kd.R Kd.string 9 (wr.setCell ⟨g, n, none⟩ (.string ⟨#[120]⟩)) w5.heap.size (fun k => w5.heap.size ≤ k) (.slice (some ⟨g, 0, none⟩) ms.length c6) (zs.set n (⟨#[120]⟩ : ByteArray)) by
                      have h := HP.out.1
                      rw [Int.toNat_natCast] at h
                      exact h)
                    have HBZ2 := Aside0.mk (show Below w3.heap.size w3 (wr.setCell ⟨g, n, none⟩ (.string ⟨#[120]⟩)) from below_set HBZ.out (by have := hgok; have := HS45.out; omega))
                    clear hgok HP hpl hp hzl gb gl
                    go_wp2
                    go_roundw
                    case rel => exact ⟨n + 1, zs.set n (⟨#[120]⟩ : ByteArray), by go_num, by have := HPL.out; omega, HP1, HBZ2⟩
                    case measure => simp [intOf]; have := HPL.out; omega
                  · have hnI : ¬ (n : Int) < (ms.length : Int) := by omega
                    clear hpl hp HRZ
                    go_upto_region 24 with (go_at_call 18; (with_reducible refine (AV.out _).mono ?_); rintro e w7 ⟨A7, c7, rfl, HR7, hb⟩; have HB7 := Aside0.mk (below_step HBZ.out hb); clear hb)
                    have MIN7 := Aside0.mk (MIN3.out w7 HB7.out)
                    go_upto_region 25 with (go_at_call 42; (with_reducible refine MIN7.out.mono ?_); rintro e w8 ⟨A8, c8, ms2, rfl, HMS2, HR8, hb⟩; have HB8 := Aside0.mk (below_step HB7.out hb); have HR78 := Aside0.mk (Kd.R_reads' (Kd.R_below HR7.out hb)); have HR88 := Aside0.mk (Kd.R_reads' HR8.out); clear hb)
                    obtain rfl : ms2 = ms := HMS2.out.eq HMS.out
                    have TY1 := Aside0.mk (texts_yes A2 c2 B d ls w8 (by have := HF.out.len; omega) (Kd.C_below HL3.out HB8.out) HCL.out.2.1 (Kd.C_below HLB3.out.2.2 HB8.out) HLB3.out.2.1)
                    have IY := Aside0.mk (fun W A9 c9 (hb : Below w8.heap.size w8 W) (h : xs.length ≤ c9 ∧ Kd.C (Kd.int .i64) W A9 xs.length xs) => ints_yes A7 c7 A9 c9 xs W HXL.out (Kd.C_below HR78.out.2.2 hb) HR78.out.2.1 h.2 h.1)
                    have RM := Aside0.mk (fun W (hb : Below w8.heap.size w8 W) => rmin_any ls ms2 B d W (by have := HF.out.len; omega) (fun t ht => ⟨ltr4 ((isW_iff _).1 (HF.out.isW t ht)).2, by have := (HF.out.tm t ht).size; omega⟩) HMS.out (Kd.C_below HLB3.out.2.2 (below_step HB8.out hb)) HLB3.out.2.1)
                    have TY2 := Aside0.mk (fun W A9 c9 (hb : Below w8.heap.size w8 W) (h : ms2.length ≤ c9 ∧ Kd.C Kd.string W A9 ms2.length ms2) => texts_yes A8 c8 A9 c9 ms2 W (by have := hmI; omega) (Kd.C_below HR88.out.2.2 hb) HR88.out.2.1 h.2 h.1)
                    clear MIN3 MIN7 HR7 HR8 HB7
                    go_wp2_with (first | (go_at_call 45; (with_reducible refine TY1.out.mono ?_); rintro e w9 ⟨rfl, hd⟩; have HB9 := Aside0.mk hd.below; clear hd) | (go_at_call 24; (with_reducible refine (RV.out _).mono ?_); rintro e w10 ⟨A9, c9, rfl, HR9, hb⟩; have HB10 := Aside0.mk (below_step HB9.out hb); clear hb) | (go_at_call 23; (with_reducible refine (IY.out _ _ _ HB10.out HR9.out).mono ?_); rintro e w11 ⟨rfl, hd⟩; have HB11 := Aside0.mk (below_step HB10.out hd.below); clear hd) | (go_at_call 46; (with_reducible refine (RM.out _ HB11.out).mono ?_); rintro e w12 ⟨A10, c10, rfl, HR10, hb⟩; have HB12 := Aside0.mk (below_step HB11.out hb); clear hb) | (go_at_call 45; (with_reducible refine (TY2.out _ _ _ HB12.out HR10.out).mono ?_); rintro e w13 ⟨rfl, hd⟩; have HB13 := Aside0.mk (below_step HB12.out hd.below); clear hd) | (go_at_call 22; (with_reducible refine (awake_ok _).mono ?_); rintro e w14 ⟨rfl, hb⟩; have HB14 := Aside0.mk (below_step HBF.out (below_step (below_step HB8.out HB13.out) hb)); clear hb))
                    go_ret
                    exact ⟨rfl, HB14.out⟩
end Go.Proofs.Ytagdbadljcongaa.X
end

section
/- Arguments as they come in: a slice of strings. -/
set_option linter.unusedVariables false
set_option linter.unusedSimpArgs false
namespace Go.Proofs.Ytagdbadljcongaa.X
open Go Go.ChangeShapes Go.WideShapes Go.ChangeAt Go.RowKit Go.Proofs.YtagdbadljcongaaW.PrintWords
section
variable {H : Type} {enc : TypeId × Value → H} {P : Program} {W : World} {base : Nat}
theorem open_ss {t e : TypeId} {v : Value} {d : DataW H} {p : List MemPlace} (ht : P.underlying t = some (.slice e)) (he : P.underlying e = some .string) (ce : P.cellsOf e = 1)
    (hv : Value.okWide P W .any base t v) (h : DataW.Trod enc P W 0 (fun _ => true) true t v d p) :
    ∃ (a : Option Addr) (l : List ByteArray) (cap : Nat), v = .slice a l.length cap ∧ l.length ≤ cap ∧ Kd.C Kd.string W a l.length l := by
  obtain ⟨a, len, cap, rfl⟩ := okWide_slice ht hv
  obtain ⟨fuel, hf⟩ := h
  rcases open_strings ht he ce hf with ⟨hcs, _⟩ | ⟨x, l, c, ss, hcs, _, hl, hm, hz, _, hcell, hwz⟩
  · simp [Value.cells] at hcs
    obtain ⟨rfl, rfl, rfl⟩ := hcs
    exact ⟨none, [], 0, rfl, Nat.le_refl _, Kd.C_nil _ _⟩
  · simp [Value.cells] at hcs
    obtain ⟨rfl, rfl, rfl⟩ := hcs
    have hz2 : ss.length = cap := by simpa using hz
    have hlen : (ss.take len).length = len := by rw [List.length_take]; omega
    refine ⟨some x, ss.take len, cap, by rw [hlen], by rw [hlen]; exact hl, ?_⟩
    refine Kd.C_of_reads (d := ByteArray.empty) (h1 := fun _ => rfl) ⟨rfl, by rw [hlen]; have := Nat.le_trans hl hm; simpa [maxLen] using this, fun hp => ⟨x, rfl, fun j hj => ?_⟩⟩
    rw [hlen] at hj
    rw [hcell j (by omega)]
    simp [List.getD, List.getElem?_take, hj]
end
end Go.Proofs.Ytagdbadljcongaa.X
end
