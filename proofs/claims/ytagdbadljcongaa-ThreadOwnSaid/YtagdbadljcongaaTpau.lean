/- Texts behind ThreadOwn, part 21: contracts of the program's functions and the plain words for them. -/
import Derived.Maps.OwnSet
import Derived.Maps.RangeWalk
import Derived.DeepKeys3
import Derived.WideKeyPair
import Derived.WideKeyEntry
import Derived.OrdersIn
import Derived.Sort.CutIn
import Derived.Test.YtagdbadljcongaaTpae
import Derived.Test.YtagdbadljcongaaTpas
import Derived.Test.YtagdbadljcongaaTpat
section
/- The first word that is no subsequence, as the program reckons it. -/
set_option linter.unusedVariables false
set_option linter.unusedSimpArgs false
namespace Go.Proofs.Ytagdbadljcongaa.X
open Go.RowKit Go.Proofs.YtagdbadljcongaaW.PrintWords
/-- How many letters are needed from place i on. -/
def lst (l : List Nat) (k i : Nat) : Nat := if i ≤ l.length then (arch l k i).length + 1 else 0
theorem lst_eq {l : List Nat} {k i : Nat} (h : i ≤ l.length) : lst l k i = 1 + lst l k (amx l k i + 1) := by
  have h1 := amx_le (k := k) h
  unfold lst
  rw [if_pos h, arch_eq h]
  by_cases h2 : amx l k i < l.length
  · rw [if_pos h2, if_pos (by omega), List.length_cons]; omega
  · rw [if_neg h2, if_neg (by omega)]; rfl
theorem arch_len {l : List Nat} {k : Nat} : ∀ (n i : Nat), l.length - i = n → (arch l k i).length + i ≤ l.length ∨ l.length ≤ i := by
  intro n
  induction n using Nat.strongRecOn with
  | _ n ih =>
    intro i hn
    by_cases hi : i < l.length
    · left
      have h1 := amx_le (k := k) (show i ≤ l.length by omega)
      rw [arch_eq (by omega)]
      split
      · rw [List.length_cons]
        rcases ih (l.length - (amx l k i + 1)) (by omega) (amx l k i + 1) rfl with h | h
        · omega
        · have e : amx l k i + 1 = l.length := by omega
          rw [e, arch_eq (Nat.le_refl _), if_neg (by have := amx_le (l := l) (k := k) (Nat.le_refl _); omega)]
          simp; omega
      · simp; omega
    · exact .inr (by omega)
theorem lst_le (l : List Nat) (k i : Nat) : lst l k i ≤ l.length + 1 := by
  unfold lst
  split
  · rcases arch_len (l := l) (k := k) _ i rfl with h | h
    · omega
    · have e : i = l.length := by omega
      subst e
      rw [arch_eq (Nat.le_refl _), if_neg (by have := amx_le (l := l) (k := k) (Nat.le_refl _); omega)]
      simp
  · omega
/-- Whether a letter leads to the least. -/
def good (l : List Nat) (k i c : Nat) : Bool := decide (1 + lst l k (nx l i (97 + c) + 1) = lst l k i)
theorem good_ex {l : List Nat} {k i : Nat} (h : i ≤ l.length) (hk : 1 ≤ k) : ∃ c, c < k ∧ good l k i c = true := by
  obtain ⟨c, h1, h2⟩ := maxF_mem (fun c => nx l i (97 + c)) (k - 1)
  refine ⟨c, by omega, ?_⟩
  unfold good
  rw [← show amx l k i = nx l i (97 + c) from h2, lst_eq h]
  simp
/-- The first such letter. -/
def gpick (l : List Nat) (k i : Nat) : Nat := ((List.range k).find? (good l k i)).getD 0
theorem gpick_is {l : List Nat} {k i c : Nat} (hc : c < k) (h : good l k i c = true) (hb : ∀ d, d < c → good l k i d = false) : gpick l k i = c := by
  unfold gpick
  have : (List.range k).find? (good l k i) = some c := by
    rw [List.find?_range_eq_some]
    exact ⟨h, by simpa using hc, fun d hd => by simpa using hb d hd⟩
  rw [this]; rfl
def absF (l : List Nat) (k : Nat) : Nat → Nat → List Nat
  | 0, _ => []
  | f + 1, i => if i ≤ l.length then (97 + gpick l k i) :: absF l k f (nx l i (97 + gpick l k i) + 1) else []
def abs_ (l : List Nat) (k i : Nat) : List Nat := absF l k (l.length + 1 - i) i
theorem absF_enough (l : List Nat) (k : Nat) : ∀ (f i : Nat), l.length + 1 - i ≤ f → absF l k f i = absF l k (l.length + 1 - i) i
  | 0, i, hf => by rw [show l.length + 1 - i = 0 by omega]
  | f + 1, i, hf => by
    by_cases h : i ≤ l.length
    · obtain ⟨g, hg⟩ : ∃ g, l.length + 1 - i = g + 1 := ⟨l.length - i, by omega⟩
      rw [hg]
      show (if i ≤ l.length then _ else _) = (if i ≤ l.length then _ else _)
      rw [if_pos h, if_pos h]
      have h1 := (nx_le l i (97 + gpick l k i) h).1
      rw [absF_enough l k f _ (by omega), absF_enough l k g _ (by omega)]
    · rw [show l.length + 1 - i = 0 by omega]
      show (if i ≤ l.length then _ else _) = _
      rw [if_neg h]; rfl
theorem abs_end {l : List Nat} {k i : Nat} (h : ¬ i ≤ l.length) : abs_ l k i = [] := by
  unfold abs_; rw [show l.length + 1 - i = 0 by omega]; rfl
theorem abs_step {l : List Nat} {k i c : Nat} (hi : i ≤ l.length) (hc : c < k) (h : good l k i c = true) (hb : ∀ d, d < c → good l k i d = false) : abs_ l k i = (97 + c) :: abs_ l k (nx l i (97 + c) + 1) := by
  have hp := gpick_is hc h hb
  unfold abs_
  obtain ⟨g, hg⟩ : ∃ g, l.length + 1 - i = g + 1 := ⟨l.length - i, by omega⟩
  rw [hg]
  show (if i ≤ l.length then _ else _) = _
  rw [if_pos hi, hp]
  have h1 := (nx_le l i (97 + c) hi).1
  rw [absF_enough l k g _ (by omega)]
end Go.Proofs.Ytagdbadljcongaa.X
end

section
/- Arches and the first absent word: what holds of them. -/
set_option linter.unusedVariables false
set_option linter.unusedSimpArgs false
namespace Go.Proofs.Ytagdbadljcongaa.X
open Go.RowKit Go.Proofs.YtagdbadljcongaaW.PrintWords
theorem nx_amx {l : List Nat} {k i c : Nat} (hc : c < k) : nx l i (97 + c) ≤ amx l k i := maxF_ge (fun c => nx l i (97 + c)) (k - 1) c (by omega)
theorem lst_arch (l : List Nat) (k : Nat) : lst l k 0 = (arch l k 0).length + 1 := by unfold lst; rw [if_pos (Nat.zero_le _)]
end Go.Proofs.Ytagdbadljcongaa.X
end

section
/- The reference's search through pairs of places, and that it finds what the program finds. -/
set_option linter.unusedVariables false
set_option linter.unusedSimpArgs false
namespace Go.Proofs.Ytagdbadljcongaa.X
open Go.RowKit Go.Proofs.YtagdbadljcongaaW.PrintWords
/-- An entry of the reference: a word, and the places behind it in the two words; -1: it is none of their subsequences. -/
structure Rn where
  a : Int
  b : Int
  wd : List Nat
/-- The place behind a letter, or -1. -/
def nxP (l : List Nat) (i c : Nat) : Int := if nx l i c < l.length then ((nx l i c + 1 : Nat) : Int) else -1
def emb (e : Ent) : Rn := ⟨e.i, e.j, e.wd⟩
def dif (r : Rn) : Bool := decide (r.a < 0) != decide (r.b < 0)
def ins (r : Rn) : Bool := decide (0 ≤ r.a) && decide (0 ≤ r.b)
def hasP (R : List Rn) (a b : Int) : Bool := R.any fun r => r.a == a && r.b == b
/-- One letter's child. -/
def kid (u w : List Nat) (p : Ent) (c : Nat) : Rn := ⟨nxP u p.i (97 + c), nxP w p.j (97 + c), p.wd ++ [97 + c]⟩
def addK (R : List Rn) (k : Rn) : List Rn := if hasP R k.a k.b then R else R ++ [k]
def kids (u w : List Nat) (p : Ent) : List Nat → List Rn → List Rn
  | [], R => R
  | c :: cs, R => kids u w p cs (addK R (kid u w p c))
/-- The reference's list is the program's queue, and entries that lead nowhere. -/
structure Like (Q : List Ent) (R : List Rn) : Prop where
  eq : R.filter ins = Q.map emb
  no : ∀ r ∈ R, dif r = false
  len : R.length = Q.length + (if hasP R (-1) (-1) then 1 else 0)
theorem nxP_in {l : List Nat} {i c : Nat} (h : nx l i c < l.length) : nxP l i c = ((nx l i c + 1 : Nat) : Int) := by unfold nxP; rw [if_pos h]
theorem nxP_out {l : List Nat} {i c : Nat} (h : ¬ nx l i c < l.length) : nxP l i c = -1 := by unfold nxP; rw [if_neg h]
theorem Like.has {Q : List Ent} {R : List Rn} (h : Like Q R) (i j : Nat) : hasP R (i : Int) (j : Int) = knownB Q i j := by
  rw [Bool.eq_iff_iff, knownB_iff]
  unfold hasP
  rw [List.any_eq_true]
  constructor
  · rintro ⟨r, hr, he⟩
    simp at he
    have hm : r ∈ R.filter ins := List.mem_filter.2 ⟨hr, by unfold ins; rw [he.1, he.2]; simp⟩
    rw [h.eq] at hm
    obtain ⟨e, he1, rfl⟩ := List.mem_map.1 hm
    refine ⟨e, he1, ?_, ?_⟩
    · have := he.1; unfold emb at this; dsimp only at this; omega
    · have := he.2; unfold emb at this; dsimp only at this; omega
  · rintro ⟨e, he, rfl, rfl⟩
    have hm : emb e ∈ R.filter ins := by rw [h.eq]; exact List.mem_map.2 ⟨e, he, rfl⟩
    exact ⟨emb e, (List.mem_filter.1 hm).1, by simp [emb]⟩
theorem Like.out {Q : List Ent} {R : List Rn} (h : Like Q R) (wd : List Nat) : Like Q (addK R ⟨-1, -1, wd⟩) := by
  unfold addK
  split
  · exact h
  · rename_i hn
    refine ⟨by rw [List.filter_append, h.eq]; simp [ins], fun r hr => ?_, ?_⟩
    · rcases List.mem_append.1 hr with hr | hr
      · exact h.no r hr
      · rw [List.mem_singleton] at hr; subst hr; rfl
    · have hl := h.len
      rw [if_neg hn] at hl
      have : hasP (R ++ [⟨-1, -1, wd⟩]) (-1) (-1) = true := by unfold hasP; rw [List.any_append]; simp
      rw [if_pos this, List.length_append, hl]; rfl
theorem Like.push {Q : List Ent} {R : List Rn} (h : Like Q R) (i j : Nat) (wd : List Nat) (hk : knownB Q i j = false) : Like (Q ++ [⟨i, j, wd⟩]) (addK R ⟨i, j, wd⟩) := by
  unfold addK
  rw [if_neg (by show ¬ hasP R (i : Int) (j : Int) = true; rw [h.has, hk]; decide)]
  refine ⟨by rw [List.filter_append, h.eq, List.map_append]; simp [ins, emb], fun r hr => ?_, ?_⟩
  · rcases List.mem_append.1 hr with hr | hr
    · exact h.no r hr
    · rw [List.mem_singleton] at hr
      subst hr
      unfold dif
      simp
      omega
  · have hl := h.len
    have : hasP (R ++ [⟨(i : Int), (j : Int), wd⟩]) (-1) (-1) = hasP R (-1) (-1) := by
      unfold hasP
      rw [List.any_append]
      have : ((i : Int) == -1) = false := beq_eq_false_iff_ne.mpr (by omega)
      simp [this]
    rw [this, List.length_append, List.length_append, hl]
    simp only [List.length_cons, List.length_nil]
    omega
end Go.Proofs.Ytagdbadljcongaa.X
end

section
/- The reference's search by places finds the first word that is a subsequence of one of two words: first by length, then by letters. -/
set_option linter.unusedVariables false
set_option linter.unusedSimpArgs false
namespace Go.Proofs.Ytagdbadljcongaa.X
open Go.RowKit Go.Proofs.YtagdbadljcongaaW.PrintWords
/-- A number for a word: the order of the numbers is that of the words. -/
def key (x : List Nat) : Nat := x.foldl (fun a b => a * 5 + (b - 96)) 0
theorem key_app (x : List Nat) (c : Nat) : key (x ++ [c]) = key x * 5 + (c - 96) := by unfold key; rw [List.foldl_append]; rfl
theorem key_from (x : List Nat) : ∀ a : Nat, x.foldl (fun a b => a * 5 + (b - 96)) a = a * 5 ^ x.length + key x := by
  induction x with
  | nil => intro a; simp [key]
  | cons b x ih =>
    intro a
    show x.foldl _ (a * 5 + (b - 96)) = a * 5 ^ (x.length + 1) + x.foldl _ (0 * 5 + (b - 96))
    rw [ih, ih (0 * 5 + (b - 96)), Nat.pow_succ, Nat.add_mul, Nat.add_mul, Nat.zero_mul, Nat.zero_add, Nat.mul_assoc, Nat.mul_comm 5, Nat.add_assoc]
theorem key_cons (b : Nat) (x : List Nat) : key (b :: x) = (b - 96) * 5 ^ x.length + key x := by
  show x.foldl _ (0 * 5 + (b - 96)) = _
  rw [key_from, Nat.zero_mul, Nat.zero_add]
/-- Words of the first k letters. -/
def Ltr (k : Nat) (x : List Nat) : Prop := ∀ b ∈ x, 97 ≤ b ∧ b < 97 + k
theorem Ltr.app {k : Nat} {x : List Nat} {c : Nat} (h : Ltr k x) (hc : c < k) : Ltr k (x ++ [97 + c]) := fun b hb => by
  rcases List.mem_append.1 hb with h1 | h1
  · exact h b h1
  · rw [List.mem_singleton] at h1; subst h1; omega
theorem Ltr.four {k : Nat} {x : List Nat} (h : Ltr k x) (hk : k ≤ 4) : Ltr 4 x := fun b hb => by have := h b hb; omega
theorem key_lt : ∀ {x : List Nat}, Ltr 4 x → key x < 5 ^ x.length
  | [], _ => by decide
  | b :: x, h => by
    have h1 := key_lt (x := x) fun b hb => h b (by simp [hb])
    have h2 := h b (by simp)
    rw [key_cons, List.length_cons, Nat.pow_succ]
    have h3 : (b - 96) * 5 ^ x.length ≤ 4 * 5 ^ x.length := Nat.mul_le_mul_right _ (by omega)
    omega
theorem key_ge : ∀ {x : List Nat}, Ltr 4 x → 5 ^ x.length ≤ 4 * key x + 1
  | [], _ => by decide
  | b :: x, h => by
    have h1 := key_ge (x := x) fun b hb => h b (by simp [hb])
    have h2 := h b (by simp)
    rw [key_cons, List.length_cons, Nat.pow_succ]
    have h3 : 1 * 5 ^ x.length ≤ (b - 96) * 5 ^ x.length := Nat.mul_le_mul_right _ (by omega)
    omega
theorem key_len {x y : List Nat} (hx : Ltr 4 x) (hy : Ltr 4 y) (h : key x ≤ key y) : x.length ≤ y.length := by
  rcases Nat.lt_or_ge y.length x.length with h1 | h1
  · exfalso
    have a := key_ge hx
    have b := key_lt hy
    have c : 5 ^ (y.length + 1) ≤ 5 ^ x.length := Nat.pow_le_pow_right (by decide) h1
    rw [Nat.pow_succ] at c
    omega
  · exact h1
theorem snoc_of {x : List Nat} {n : Nat} (h : x.length = n + 1) : ∃ y c, x = y ++ [c] ∧ y.length = n := by
  rcases List.eq_nil_or_concat x with rfl | ⟨y, c, rfl⟩
  · cases h
  · refine ⟨y, c, by simp, ?_⟩
    simpa using h
theorem key_inj : ∀ (n : Nat) (x y : List Nat), x.length = n → Ltr 4 x → Ltr 4 y → key x = key y → x = y
  | 0, x, y, hn, hx, hy, h => by
    have h1 := key_len hx hy (by omega)
    have h2 := key_len hy hx (by omega)
    rw [List.length_eq_zero_iff.1 hn, List.length_eq_zero_iff.1 (show y.length = 0 by omega)]
  | n + 1, x, y, hn, hx, hy, h => by
    have h1 := key_len hx hy (by omega)
    have h2 := key_len hy hx (by omega)
    obtain ⟨x, c, rfl, hx2⟩ := snoc_of hn
    obtain ⟨y, d, rfl, hy2⟩ := snoc_of (show y.length = n + 1 by omega)
    rw [key_app, key_app] at h
    have hc := hx c (by simp)
    have hd := hy d (by simp)
    rw [key_inj n x y hx2 (fun b hb => hx b (by simp [hb])) (fun b hb => hy b (by simp [hb])) (by omega), show c = d by omega]
/-- The place that a word reaches, or -1. -/
def rchS (l : List Nat) (i : Int) (c : Nat) : Int := if i < 0 then -1 else nxP l i.toNat c
def rch (l x : List Nat) : Int := x.foldl (rchS l) 0
theorem rch_app (l x : List Nat) (c : Nat) : rch l (x ++ [c]) = rchS l (rch l x) c := by unfold rch; rw [List.foldl_append]; rfl
theorem rch_out (l : List Nat) : ∀ x : List Nat, x.foldl (rchS l) (-1) = -1
  | [] => rfl
  | c :: x => rch_out l x
theorem rch_from (l : List Nat) : ∀ (x : List Nat) (i : Nat), (wth l i x).isSome = decide (0 ≤ x.foldl (rchS l) (i : Int))
  | [], i => by simp [wth]
  | c :: x, i => by
    show _ = decide (0 ≤ x.foldl (rchS l) (rchS l (i : Int) c))
    have e : rchS l (i : Int) c = nxP l i c := by unfold rchS; rw [if_neg (by omega), Int.toNat_natCast]
    rw [e]
    unfold wth
    by_cases h : nx l i c < l.length
    · rw [if_pos h, nxP_in h, Option.isSome_map, rch_from l x]
    · rw [if_neg h, nxP_out h, rch_out]; rfl
theorem rch_is (l x : List Nat) : (wth l 0 x).isSome = decide (0 ≤ rch l x) := rch_from l x 0
/-- Whether a word is a subsequence of one of two words. -/
def dst (u w x : List Nat) : Bool := (wth u 0 x).isSome != (wth w 0 x).isSome
/-- What holds of the list's entries. -/
structure EnOk (u w : List Nat) (k : Nat) (R : List Rn) : Prop where
  st : ∀ e ∈ R, e.a = rch u e.wd ∧ e.b = rch w e.wd
  lt : ∀ e ∈ R, Ltr k e.wd
  srt : R.Pairwise (fun x y => key x.wd < key y.wd)
/-- An entry for a letter's child. -/
def HasK (u w : List Nat) (R : List Rn) (r : Rn) (c : Nat) : Prop := ∃ e ∈ R, e.a = nxP u r.a.toNat (97 + c) ∧ e.b = nxP w r.b.toNat (97 + c) ∧ key e.wd ≤ key r.wd * 5 + (c + 1)
theorem HasK.mono {u w : List Nat} {R S : List Rn} {r : Rn} {c : Nat} (h : HasK u w R r c) : HasK u w (R ++ S) r c := by
  obtain ⟨e, he, h1⟩ := h
  exact ⟨e, List.mem_append_left _ he, h1⟩
theorem kids_en {u w : List Nat} {k : Nat} {r : Rn} (hra : 0 ≤ r.a) (hrb : 0 ≤ r.b) (hst : r.a = rch u r.wd ∧ r.b = rch w r.wd) (hlt : Ltr k r.wd) : ∀ (cs : List Nat) (R : List Rn), cs.Pairwise (· < ·) → (∀ c ∈ cs, c < k) → EnOk u w k R → (∀ e ∈ R, key e.wd ≤ key r.wd * 5 + k) → (∀ e ∈ R, ∀ c ∈ cs, key e.wd < key r.wd * 5 + (c + 1)) →
    ∃ S, kids u w ⟨r.a.toNat, r.b.toNat, r.wd⟩ cs R = R ++ S ∧ EnOk u w k (R ++ S) ∧ (∀ e ∈ R ++ S, key e.wd ≤ key r.wd * 5 + k) ∧ ∀ c ∈ cs, HasK u w (R ++ S) r c
  | [], R, _, _, h, hb, _ => ⟨[], by simp [kids], by simpa using h, by simpa using hb, by simp⟩
  | c :: cs, R, hp, hc, h, hb, hb2 => by
    obtain ⟨p1, p2⟩ := List.pairwise_cons.1 hp
    have hck := hc c (by simp)
    have hkid : kid u w ⟨r.a.toNat, r.b.toNat, r.wd⟩ c = ⟨nxP u r.a.toNat (97 + c), nxP w r.b.toNat (97 + c), r.wd ++ [97 + c]⟩ := rfl
    have hkey : key (r.wd ++ [97 + c]) = key r.wd * 5 + (c + 1) := by rw [key_app]; omega
    show ∃ S, kids u w ⟨r.a.toNat, r.b.toNat, r.wd⟩ cs (addK R (kid u w ⟨r.a.toNat, r.b.toNat, r.wd⟩ c)) = R ++ S ∧ _
    rw [hkid]
    unfold addK
    by_cases hh : hasP R (nxP u r.a.toNat (97 + c)) (nxP w r.b.toNat (97 + c)) = true
    · rw [if_pos hh]
      obtain ⟨S, i1, i2, i3, i4⟩ := kids_en hra hrb hst hlt cs R p2 (fun d hd => hc d (by simp [hd])) h hb (fun e he d hd => hb2 e he d (by simp [hd]))
      refine ⟨S, i1, i2, i3, fun d hd => ?_⟩
      rcases List.mem_cons.1 hd with rfl | hd
      · obtain ⟨e, he, h1⟩ := List.any_eq_true.1 hh
        simp at h1
        exact HasK.mono ⟨e, he, h1.1, h1.2, by have := hb2 e he d (by simp); omega⟩
      · exact i4 d hd
    · rw [if_neg hh]
      have hE : EnOk u w k (R ++ [⟨nxP u r.a.toNat (97 + c), nxP w r.b.toNat (97 + c), r.wd ++ [97 + c]⟩]) := by
        refine ⟨fun e he => ?_, fun e he => ?_, ?_⟩
        · rcases List.mem_append.1 he with he | he
          · exact h.st e he
          · rw [List.mem_singleton] at he
            subst he
            dsimp only
            rw [rch_app, rch_app, ← hst.1, ← hst.2]
            unfold rchS
            rw [if_neg (by omega), if_neg (by omega)]
            exact ⟨rfl, rfl⟩
        · rcases List.mem_append.1 he with he | he
          · exact h.lt e he
          · rw [List.mem_singleton] at he
            subst he
            exact hlt.app hck
        · rw [List.pairwise_append]
          refine ⟨h.srt, by simp, fun a ha b hb3 => ?_⟩
          rw [List.mem_singleton] at hb3
          subst hb3
          dsimp only
          rw [hkey]
          exact hb2 a ha c (by simp)
      obtain ⟨S, i1, i2, i3, i4⟩ := kids_en hra hrb hst hlt cs _ p2 (fun d hd => hc d (by simp [hd])) hE (fun e he => by
        rcases List.mem_append.1 he with he | he
        · exact hb e he
        · rw [List.mem_singleton] at he
          subst he
          dsimp only
          rw [hkey]
          omega) (fun e he d hd => by
        rcases List.mem_append.1 he with he | he
        · exact hb2 e he d (by simp [hd])
        · rw [List.mem_singleton] at he
          subst he
          dsimp only
          rw [hkey]
          have := p1 d hd
          omega)
      rw [List.append_assoc] at i1 i2 i3 i4
      refine ⟨_ :: S, i1, i2, i3, fun d hd => ?_⟩
      rcases List.mem_cons.1 hd with rfl | hd
      · exact ⟨_, List.mem_append_right _ (List.mem_cons_self), rfl, rfl, by rw [hkey]; omega⟩
      · exact i4 d hd
/-- What holds ahead of entry q. -/
structure PI (u w : List Nat) (k most q : Nat) (R : List Rn) : Prop where
  en : EnOk u w k R
  root : (⟨0, 0, []⟩ : Rn) ∈ R
  no : ∀ m, ∀ h : m < R.length, m < q → dif R[m] = false
  cl : ∀ m, ∀ h : m < R.length, m < q → ¬ (most ≤ (R[m]).wd.length ∨ (R[m]).a < 0) → ∀ c, c < k → HasK u w R R[m] c
  bd : ∀ h : q < R.length, ∀ e ∈ R, key e.wd < key (R[q]).wd * 5 + 1
theorem PI.start (u w : List Nat) (k most : Nat) : PI u w k most 0 [⟨0, 0, []⟩] := by
  refine ⟨⟨fun e he => ?_, fun e he => ?_, by simp⟩, by simp, fun m h h0 => by omega, fun m h h0 => by omega, fun h e he => ?_⟩
  all_goals
    rw [List.mem_singleton] at he
    subst he
  · exact ⟨rfl, rfl⟩
  · intro b hb; cases hb
  · show key [] < key [] * 5 + 1
    decide
theorem PI.next {u w : List Nat} {k most q : Nat} {R : List Rn} (h : PI u w k most q R) (S : List Rn) (hq : q < R.length) (hd : dif R[q] = false) (hE : EnOk u w k (R ++ S)) (hc : ¬ (most ≤ (R[q]).wd.length ∨ (R[q]).a < 0) → ∀ c, c < k → HasK u w (R ++ S) R[q] c) (hb : ∀ e ∈ R ++ S, key e.wd ≤ key (R[q]).wd * 5 + 4) : PI u w k most (q + 1) (R ++ S) := by
  have lt : ∀ m, m < q + 1 → m < R.length := fun m hm => by omega
  refine ⟨hE, List.mem_append_left _ h.root, fun m hm hmq => ?_, fun m hm hmq hn c hck => ?_, fun hm e he => ?_⟩
  · rw [List.getElem_append_left (lt m hmq)]
    by_cases e : m = q
    · subst e; exact hd
    · exact h.no m (lt m hmq) (by omega)
  · rw [List.getElem_append_left (lt m hmq)] at hn ⊢
    by_cases e : m = q
    · subst e; exact hc hn c hck
    · exact (h.cl m (lt m hmq) (by omega) hn c hck).mono
  · have h1 := hb e he
    have h2 := List.pairwise_iff_getElem.1 hE.srt q (q + 1) (by rw [List.length_append]; omega) hm (by omega)
    rw [List.getElem_append_left hq] at h2
    omega
theorem PI.step {u w : List Nat} {k most q : Nat} {R : List Rn} (hk4 : k ≤ 4) (h : PI u w k most q R) (hq : q < R.length) (hd : dif R[q] = false) :
    PI u w k most (q + 1) (if most ≤ (R[q]).wd.length ∨ (R[q]).a < 0 then R else kids u w ⟨(R[q]).a.toNat, (R[q]).b.toNat, (R[q]).wd⟩ (List.range k) R) := by
  have hb := h.bd hq
  split
  · rename_i ho
    have := h.next [] hq hd (by rw [List.append_nil]; exact h.en) (fun hn => absurd ho hn) (by rw [List.append_nil]; intro e he; have := hb e he; omega)
    rwa [List.append_nil] at this
  · rename_i ho
    have hm := List.getElem_mem hq
    have hb0 : 0 ≤ (R[q]).b := by
      unfold dif at hd
      simp at hd
      omega
    obtain ⟨S, i1, i2, i3, i4⟩ := kids_en (k := k) (by omega) hb0 (h.en.st _ hm) (h.en.lt _ hm) (List.range k) R List.pairwise_lt_range (fun c hc => List.mem_range.1 hc) h.en (fun e he => by have := hb e he; have := h.en.lt; omega) (fun e he c hc => by have := hb e he; omega)
    rw [i1]
    exact h.next S hq hd i2 (fun _ c hc => i4 c (List.mem_range.2 hc)) (fun e he => by have := i3 e he; omega)
/-- Words before the bound lead to entries before q. -/
theorem PI.pre {u w : List Nat} {k most q B : Nat} {R : List Rn} (hk4 : k ≤ 4) (h : PI u w k most q R) (hB : ∀ m, ∀ hm : m < R.length, key (R[m]).wd < B → m < q) : ∀ (n : Nat) (x : List Nat), x.length = n → Ltr k x → x.length ≤ most → key x < B → dst u w x = false ∧ (0 ≤ rch u x → ∃ e ∈ R, e.a = rch u x ∧ e.b = rch w x ∧ key e.wd ≤ key x)
  | 0, x, hn, hx, hm, hk => by
    rw [List.length_eq_zero_iff.1 hn]
    exact ⟨rfl, fun _ => ⟨_, h.root, rfl, rfl, Nat.le_refl _⟩⟩
  | n + 1, x, hn, hx, hm, hk => by
    obtain ⟨y, b, rfl, hy⟩ := snoc_of hn
    have hyl : Ltr k y := fun a ha => hx a (by simp [ha])
    obtain ⟨c, rfl⟩ : ∃ c, b = 97 + c := ⟨b - 97, by have := hx b (by simp); omega⟩
    have hc : c < k := by have := hx (97 + c) (by simp); omega
    rw [key_app] at hk ⊢
    obtain ⟨i1, i2⟩ := PI.pre hk4 h hB n y hy hyl (by omega) (by omega)
    have hx1 : dst u w (y ++ [97 + c]) = (decide (0 ≤ rch u (y ++ [97 + c])) != decide (0 ≤ rch w (y ++ [97 + c]))) := by unfold dst; rw [rch_is, rch_is]
    have hy1 : dst u w y = (decide (0 ≤ rch u y) != decide (0 ≤ rch w y)) := by unfold dst; rw [rch_is, rch_is]
    rw [hy1] at i1
    rw [hx1, rch_app, rch_app]
    by_cases h0 : 0 ≤ rch u y
    · have h0w : 0 ≤ rch w y := by simpa [h0] using i1
      obtain ⟨e, he, e1, e2, e3⟩ := i2 h0
      obtain ⟨m, hmR, rfl⟩ := List.getElem_of_mem he
      have hmq := hB m hmR (by omega)
      have hlen := key_len ((h.en.lt _ he).four hk4) (hyl.four hk4) e3
      obtain ⟨e', he', f1, f2, f3⟩ := h.cl m hmR hmq (by rw [e1]; omega) c hc
      rw [e1] at f1
      rw [e2] at f2
      have g1 : rchS u (rch u y) (97 + c) = e'.a := by unfold rchS; rw [if_neg (by omega), f1]
      have g2 : rchS w (rch w y) (97 + c) = e'.b := by unfold rchS; rw [if_neg (by omega), f2]
      rw [g1, g2]
      refine ⟨?_, fun _ => ⟨e', he', rfl, rfl, by omega⟩⟩
      obtain ⟨m', hm', rfl⟩ := List.getElem_of_mem he'
      have hd := h.no m' hm' (hB m' hm' (by omega))
      unfold dif at hd
      by_cases a1 : (R[m']).a < 0 <;> by_cases a2 : (R[m']).b < 0 <;> simp [a1, a2] at hd ⊢ <;> omega
    · have h0w : ¬ 0 ≤ rch w y := by simpa [h0] using i1
      have g1 : rchS u (rch u y) (97 + c) = -1 := by unfold rchS; rw [if_pos (by omega)]
      have g2 : rchS w (rch w y) (97 + c) = -1 := by unfold rchS; rw [if_pos (by omega)]
      rw [g1, g2]
      exact ⟨rfl, fun h => absurd h (by decide)⟩
/-- The range of the entries, and that no two are alike. -/
structure RkOk (u w : List Nat) (M : Nat) (R : List Rn) : Prop where
  rng : ∀ r ∈ R, -1 ≤ r.a ∧ r.a ≤ u.length ∧ -1 ≤ r.b ∧ r.b ≤ w.length ∧ r.wd.length ≤ M
  nd : R.Pairwise (fun x y => ¬ (x.a = y.a ∧ x.b = y.b))
theorem RkOk.start (u w : List Nat) (M : Nat) : RkOk u w M [⟨0, 0, []⟩] := ⟨fun r hr => by rw [List.mem_singleton] at hr; subst hr; simp, by simp⟩
theorem RkOk.size {u w : List Nat} {M : Nat} {R : List Rn} (h : RkOk u w M R) (hu : u.length ≤ 60) (hw : w.length ≤ 244) : R.length ≤ 15252 := by
  have h1 := nodup_le (R.map fun r => ((r.a + 1).toNat) * 246 + (r.b + 1).toNat) (List.range 15252) (by
    rw [List.pairwise_map]
    refine h.nd.imp_of_mem fun {a b} ha hb hab e => hab ?_
    have := h.rng a ha; have := h.rng b hb
    omega) (fun x hx => by
    obtain ⟨e, he, rfl⟩ := List.mem_map.1 hx
    have := h.rng e he
    exact List.mem_range.2 (by omega))
  simpa using h1
theorem RkOk.add {u w : List Nat} {M : Nat} {R : List Rn} (h : RkOk u w M R) {p : Ent} {c : Nat} (hp : p.i ≤ u.length ∧ p.j ≤ w.length ∧ p.wd.length + 1 ≤ M) : RkOk u w M (addK R (kid u w p c)) := by
  unfold addK
  split
  · exact h
  · rename_i hn
    refine ⟨fun r hr => ?_, ?_⟩
    · rcases List.mem_append.1 hr with hr | hr
      · exact h.rng r hr
      · rw [List.mem_singleton] at hr
        subst hr
        have h1 := nx_le u p.i (97 + c) hp.1
        have h2 := nx_le w p.j (97 + c) hp.2.1
        unfold kid nxP
        refine ⟨?_, ?_, ?_, ?_, ?_⟩
        · dsimp only; split <;> omega
        · dsimp only; split <;> omega
        · dsimp only; split <;> omega
        · dsimp only; split <;> omega
        · simp; omega
    · rw [List.pairwise_append]
      refine ⟨h.nd, by simp, fun a ha b hb e => hn ?_⟩
      rw [List.mem_singleton] at hb
      subst hb
      exact List.any_eq_true.2 ⟨a, ha, by simp [e.1, e.2]⟩
theorem RkOk.kids {u w : List Nat} {M : Nat} {p : Ent} (hp : p.i ≤ u.length ∧ p.j ≤ w.length ∧ p.wd.length + 1 ≤ M) : ∀ (cs : List Nat) (R : List Rn), RkOk u w M R → RkOk u w M (kids u w p cs R)
  | [], R, h => h
  | c :: cs, R, h => RkOk.kids hp cs _ (h.add hp)
/-- The first word that tells two words apart. -/
structure First (u w : List Nat) (k most : Nat) (r : List Nat) : Prop where
  ltr : Ltr k r
  dst : dst u w r = true
  fst : ∀ x, Ltr k x → x.length ≤ most → X.dst u w x = true → key r ≤ key x
end Go.Proofs.Ytagdbadljcongaa.X
end

section
/- A map's block, told key by key: what is at each key, whatever the elements are. -/
set_option linter.unusedVariables false
set_option linter.unusedSimpArgs false
namespace Go.Proofs.Ytagdbadljcongaa.X
open Go.RowKit Go.Proofs.YtagdbadljcongaaW.PrintWords Go.Proofs.YtagdbadljcongaaW.PrintLast Go.Proofs.YtagdbadljcongaaW.PrintMore
open Go.Maps (Keyed)

/-- Any element: it reads as itself. -/
def anyElem (v : Value) : Option (DataW Value × List MemPlace) := some (.held v, [])
/-- What stands at each key. -/
abbrev KMap := Lit → Option Value
def KMap.put (f : KMap) (k : Lit) (v : Value) : KMap := fun k' => if k'.sameKey k = true then some v else f k'
def KMap.empty : KMap := fun _ => none
theorem KMap.put_same (f : KMap) {k : Lit} (hk : WideAt.IsKeyLit k) (v : Value) : f.put k v k = some v := by unfold KMap.put; rw [if_pos (WideAt.sameKey_self hk)]
theorem KMap.put_other (f : KMap) {k k' : Lit} (h : k' ≠ k) (v : Value) : f.put k v k' = f k' := by unfold KMap.put; rw [if_neg (fun e => h (WideAt.sameKey_eq e))]

/-- Block B of w is a map of at most n entries with f k at each key k. -/
structure MapIs (P : Program) (kt : TypeId) (w : World) (B n : Nat) (f : KMap) : Prop where mk ::
  ex : ∃ D, w.ownsMap P kt anyElem B n D ∧ (∀ kl, Maps.has D kl = (f kl).isSome) ∧ ∀ kl z, D.atKey kl (.held z) = .held ((f kl).getD z)
section
variable {P : Program} {kt : TypeId} {w w' : World} {B n : Nat} {f : KMap}
theorem MapIs.made (w : World) (P : Program) (kt : TypeId) : MapIs P kt (w.alloc (.map #[] 0)) w.heap.size 0 KMap.empty :=
  ⟨⟨.map [], World.ownsMap_made w P kt anyElem, fun _ => rfl, fun _ _ => rfl⟩⟩
theorem MapIs.lt (h : MapIs P kt w B n f) : B < w.heap.size := by
  obtain ⟨D, h1, h2⟩ := h.ex
  exact h1.lt
theorem MapIs.kept (h : MapIs P kt w B n f) {row : Option Nat} (hg : w.grownBy w' row) (hne : some B ≠ row) : MapIs P kt w' B n f := by
  obtain ⟨D, h1, h2⟩ := h.ex
  exact ⟨⟨D, h1.kept hg hne, h2⟩⟩
theorem MapIs.block (h : MapIs P kt w B n f) (hb : w'.heap[B]? = w.heap[B]?) : MapIs P kt w' B n f := by
  obtain ⟨D, ⟨es, clock, he, F⟩, h2⟩ := h.ex
  exact ⟨⟨D, ⟨es, clock, hb.trans he, F⟩, h2⟩⟩
theorem MapIs.below (h : MapIs P kt w B n f) (hb : Below w.heap.size w w') : MapIs P kt w' B n f := h.kept (grown_of_below hb none) (by simp)
theorem MapIs.alloc (h : MapIs P kt w B n f) (o : Obj) : MapIs P kt (w.alloc o) B n f := h.below (below_alloc (Below.refl _ _) o)
theorem MapIs.drewN (h : MapIs P kt w B n f) (m : Nat) : MapIs P kt (w.drewN m) B n f := h.below (pw_below_drewN (Below.refl _ _) m)
theorem MapIs.setCell (h : MapIs P kt w B n f) {a : Addr} (ha : B ≠ a.block) (u : Value) : MapIs P kt (w.setCell a u) B n f := by
  obtain ⟨D, h1, h2⟩ := h.ex
  exact ⟨⟨D, h1.setCell ha u, h2⟩⟩
/-- A map's block is no row of cells. -/
theorem MapIs.ne (h : MapIs P kt w B n f) {g : Nat} {cs : Array Value} {t : TypeId} {m : Nat × Nat} (hg : w.heap[g]? = some (.cells cs t m)) : B ≠ g := by
  obtain ⟨D, ⟨es, clock, hb, _⟩, _⟩ := h.ex
  intro e
  subst e
  rw [hb] at hg
  cases hg
theorem nodup_len {α : Type} : ∀ (l L : List α), l.Pairwise (fun a b => a ≠ b) → (∀ x ∈ l, x ∈ L) → l.length ≤ L.length
  | [], _, _, _ => Nat.zero_le _
  | x :: r, L, h, hs => by
    classical
    obtain ⟨h1, h2⟩ := List.pairwise_cons.1 h
    have hx := hs x (by simp)
    have := nodup_len r (L.erase x) h2 (fun y hy => (List.mem_erase_of_ne (fun e => h1 y hy e.symm)).2 (hs y (by simp [hy])))
    rw [List.length_erase_of_mem hx] at this
    have hp := List.length_pos_of_mem hx
    simp; omega
/-- m[k]. -/
theorem MapIs.look (h : MapIs P kt w B n f) {t e : TypeId} (K : Keyed P kt) (ht : P.underlying t = some (.map kt e)) {z : Value} (hz : (zeroValue e).run P w = .ok z w) {key : Value} {kl : Lit} (hkey : keyOf P kt key = some kl) :
    (Instr.lookup t (.map (some B)) key false).run P w = .ok ((f kl).getD z) w := by
  obtain ⟨D, h1, h2, h3⟩ := h.ex
  obtain ⟨v, ps, hrun, hv⟩ := h1.lookup K ht hz (zd := .held z) (zp := []) rfl hkey
  rw [h3] at hv
  injection hv with hv
  injection hv with hv _
  injection hv with hv
  rw [hrun, hv]
theorem MapIs.look_ok (h : MapIs P kt w B n f) {t e : TypeId} (K : Keyed P kt) (ht : P.underlying t = some (.map kt e)) {z : Value} (hz : (zeroValue e).run P w = .ok z w) {key : Value} {kl : Lit} (hkey : keyOf P kt key = some kl) :
    (Instr.lookup t (.map (some B)) key true).run P w = .ok (.tuple #[(f kl).getD z, .bool (f kl).isSome]) w := by
  obtain ⟨D, h1, h2, h3⟩ := h.ex
  obtain ⟨v, ps, hrun, hv⟩ := h1.look_ok K ht hz (zd := .held z) (zp := []) rfl hkey
  rw [h3] at hv
  injection hv with hv
  injection hv with hv _
  injection hv with hv
  rw [hrun, hv, h2]
/-- m[k] = v. -/
theorem MapIs.store (h : MapIs P kt w B n f) {t e : TypeId} (K : Keyed P kt) (ht : P.underlying t = some (.map kt e)) (hn : n < maxLen) {key val : Value} {kl : Lit} (hkey : keyOf P kt key = some kl) :
    ∃ w', (Instr.mapUpdate t (.map (some B)) key val).run P w = .ok () w' ∧ MapIs P kt w' B (n + 1) (f.put kl val) ∧ w.grownBy w' (some B) := by
  obtain ⟨D, h1, h2, h3⟩ := h.ex
  obtain ⟨w', hrun, r1, r2⟩ := h1.update K ht hn hkey (val := val) (d := .held val) (ps := []) rfl
  refine ⟨w', hrun, ⟨⟨_, r1, fun k' => ?_, fun k' z => ?_⟩⟩, r2⟩
  · by_cases e : k' = kl
    · subst e
      rw [Maps.has_put_same h1.isMap (K.key hkey), KMap.put_same f (K.key hkey)]; rfl
    · rw [Maps.has_put_other e, KMap.put_other f e, h2]
  · by_cases e : k' = kl
    · subst e
      rw [Maps.atKey_put_same h1.isMap (K.key hkey), KMap.put_same f (K.key hkey)]; rfl
    · rw [Maps.atKey_put_other e, KMap.put_other f e, h3]
/-- len(m). -/
theorem MapIs.len (h : MapIs P kt w B n f) {t e : TypeId} (K : Keyed P kt) (ht : P.underlying t = some (.map kt e)) (ty : TypeId) :
    ∃ m : Nat, (Builtin.len_ #[t] ty #[.map (some B)]).run P w = .ok (.int .i64 m) w ∧ ∀ L : List Lit, L.Pairwise (fun a b => a ≠ b) → (∀ kl, (f kl).isSome = true ↔ kl ∈ L) → m = L.length := by
  obtain ⟨D, h1, h2, h3⟩ := h.ex
  refine ⟨Maps.size D, h1.len ht ty, fun L hL hiff => ?_⟩
  have hc := h1
  obtain ⟨es', rfl, hp⟩ := h1.tidy K
  have hkey : ∀ p ∈ es', WideAt.IsKeyLit p.1 := by
    intro p hp'
    obtain ⟨es, clock, hb, F, hs, hD⟩ := hc
    injection hD with hD
    have hk := Maps.fit_keys F
    have hp2 : p ∈ es.toList.map (WideElems.rg P kt anyElem) := by
      have := hD ▸ hp'
      exact (WideShapes.sorted_perm _).mem_iff.1 this
    obtain ⟨v, hv⟩ := hk p hp2
    exact K.key hv
  have a1 := nodup_len (es'.map (·.1)) L (by rw [List.pairwise_map]; exact hp) (by
    intro x hx
    obtain ⟨p, hp', rfl⟩ := List.mem_map.1 hx
    rw [← hiff, ← h2, Maps.has_eq, List.any_eq_true]
    exact ⟨p, hp', WideAt.sameKey_self (hkey p hp')⟩)
  have a2 := nodup_len L (es'.map (·.1)) hL (by
    intro x hx
    rw [← hiff, ← h2, Maps.has_eq, List.any_eq_true] at hx
    obtain ⟨p, hp', hs⟩ := hx
    exact List.mem_map.2 ⟨p, hp', WideAt.sameKey_eq hs⟩)
  rw [Maps.size_eq]
  rw [List.length_map] at a1 a2
  omega
end
section
variable {P : Program} (w : World) {ops : Array Oper} {rest : List Oper} {o : Oper} {a : Act} {Q : Exit → Act → World → Prop}
end
end Go.Proofs.Ytagdbadljcongaa.X
end

section
/- The keys of this seat's maps: a pair of numbers, and four numbers. -/
set_option linter.unusedVariables false
set_option linter.unusedSimpArgs false
namespace Go.Proofs.Ytagdbadljcongaa.X
open Go Go.RowKit Go.Proofs.YtagdbadljcongaaW.PrintWords Go.Proofs.YtagdbadljcongaaW.PrintLast Go.Proofs.YtagdbadljcongaaW.PrintMore
theorem law110 : WideMaps.KeyLaw Try.prog 110 := deep_law (m := 3) (by omega) (by kernel_rfl) (by kernel_rfl) (by kernel_rfl)
theorem keyed110 : Maps.Keyed Try.prog 110 := Maps.Keyed.of_law law110
def pairV (i j : Nat) : Value := .agg #[.int .i64 i, .int .i64 j]
def pairK (i j : Nat) : Lit := .string (keyBytes [.int .i64 i, .int .i64 j])
theorem types_pos : ∃ m, Try.prog.types.size = m + 1 := ⟨Try.prog.types.size - 1, by have : 0 < Try.prog.types.size := of_decide_eq_true (by kernel_rfl); omega⟩
theorem key110 (i j : Nat) (hi : i ≤ 1000000) (hj : j ≤ 1000000) : keyOf Try.prog 110 (pairV i j) = some (pairK i j) := by
  obtain ⟨m, hm⟩ := types_pos
  have wi : (Lit.int .i64 i).wf = true := WalkArith.wf_i64 (by omega)
  have wj : (Lit.int .i64 j).wf = true := WalkArith.wf_i64 (by omega)
  have c110 : Try.prog.cellsOf 110 = 2 := by kernel_rfl
  have c3 : Try.prog.cellsOf 3 = 1 := by kernel_rfl
  have kt : Try.prog.keyType 110 = true := by kernel_rfl
  unfold keyOf pairV pairK
  simp only [Try.underlying110]
  rw [if_pos (by simp [kt, Value.formed, Try.underlying110, c110]), hm]
  unfold Program.keyLits
  simp only [Try.underlying110, Value.cells]
  rw [if_pos ⟨by rw [c110]; rfl, by decide +kernel⟩]
  simp [List.mapM_cons, List.mapM_nil, c3, Program.keyLits, Try.underlying3, wi, wj]
theorem pairK_inj {i j i' j' : Nat} (hi : i ≤ 1000000) (hj : j ≤ 1000000) (hi' : i' ≤ 1000000) (hj' : j' ≤ 1000000) (h : pairK i j = pairK i' j') : i = i' ∧ j = j' := by
  have h1 := key110 i j hi hj
  have h2 := key110 i' j' hi' hj'
  rw [← h] at h2
  have := keyed110.inj h1 h2
  unfold pairV at this
  simp at this
  omega
theorem law101 : WideMaps.KeyLaw Try.prog 101 := deep_law (m := 3) (by omega) (by kernel_rfl) (by kernel_rfl) (by kernel_rfl)
theorem keyed101 : Maps.Keyed Try.prog 101 := Maps.Keyed.of_law law101
end Go.Proofs.Ytagdbadljcongaa.X
end

section
/- 'm[k] += x': an entry is made or found, then its value is stored. -/
set_option linter.unusedVariables false
set_option linter.unusedSimpArgs false
namespace Go.Proofs.Ytagdbadljcongaa.X
open Go Go.RowKit Go.Proofs.YtagdbadljcongaaW.PrintWords Go.Proofs.YtagdbadljcongaaW.PrintLast Go.Proofs.YtagdbadljcongaaW.PrintMore
open Go.ChangeShapes Go.WideShapes Go.MapKept Go.ChangeMaps Go.WideElems
section
variable {P : Program} {kt : TypeId} {w w' : World} {B n : Nat} {f : KMap}
theorem entry_is_update {t k e : TypeId} {es : Array MapEntry} {clock b : Nat} (K : WideMaps.KeyLaw P k) (ht : P.underlying t = some (.map k e)) {z : Value} (hz : ∀ u : World, (zeroValue e).run P u = .ok z u) (hb : w.heap[b]? = some (.map es clock))
    (F : ∀ x ∈ es.toList, ∃ l, keyOf P k x.key = some l) {key : Value} {kl : Lit} (hkey : keyOf P k key = some kl) :
    ∃ (v0 st : Value) (W1 : World), (Instr.mapEntry t (.map (some b)) key).run P w = .ok (.tuple #[v0, st]) W1 ∧ (Instr.mapUpdate t (.map (some b)) key v0).run P w = .ok () W1 ∧ (Instr.lookup t (.map (some b)) key false).run P w = .ok v0 w := by
  rcases K.find w hkey es.toList F with ⟨h1, h2⟩ | ⟨j, e0, h1, h2, h3⟩
  · refine ⟨z, goInt clock, setBlock w b (.map (es.push ⟨key, z, clock⟩) (clock + 1)), ?_, ?_, ?_⟩
    · simp [Instr.mapEntry, run_underlying ht, MapKept.run_getObj_map hb, K.check w false hkey, h1, hz, MapKept.run_setObj_map _ hb, Result.andThen, setBlock]
    · simp [Instr.mapUpdate, run_underlying ht, MapKept.run_getObj_map hb, K.check w false hkey, h1, MapKept.run_setObj_map _ hb, Result.andThen, setBlock]
    · simp [Instr.lookup, run_underlying ht, MapKept.run_getObj_map hb, K.check w es.isEmpty hkey, h1, hz, Result.andThen]
  · have hj : es[j]? = some e0 := by simpa using h2
    refine ⟨e0.val, goInt e0.born, setBlock w b (.map (es.modify j fun e => { e with key := key }) clock), ?_, ?_, ?_⟩
    · simp [Instr.mapEntry, run_underlying ht, MapKept.run_getObj_map hb, K.check w false hkey, h1, hj, h3, K.stays w hkey, MapKept.run_setObj_map _ hb, Result.andThen, setBlock]
    · have hmod : es.modify j (fun e => { e with key := key, val := e0.val }) = es.modify j (fun e => { e with key := key }) := by
        apply Array.ext'
        rw [Array.toList_modify, Array.toList_modify, modify_eq_set _ _ _ _ h2, modify_eq_set _ _ _ _ h2]
      simp [Instr.mapUpdate, run_underlying ht, MapKept.run_getObj_map hb, K.check w false hkey, h1, hj, h3, K.stays w hkey, MapKept.run_setObj_map _ hb, Result.andThen, setBlock]
      first | rw [hmod] | simp [hmod]
    · simp [Instr.lookup, run_underlying ht, MapKept.run_getObj_map hb, K.check w es.isEmpty hkey, h1, hz, Result.andThen]
/-- An entry is made or found: then its value is stored, in whatever world the map's block lies as it was left. -/
theorem MapIs.entry (h : MapIs P kt w B n f) {t e : TypeId} (K : WideMaps.KeyLaw P kt) (ht : P.underlying t = some (.map kt e)) (hn : n < maxLen) {z : Value} (hz : ∀ u : World, (zeroValue e).run P u = .ok z u) {key : Value} {kl : Lit} (hkey : keyOf P kt key = some kl) :
    ∃ (st : Value) (W1 : World), (Instr.mapEntry t (.map (some B)) key).run P w = .ok (.tuple #[(f kl).getD z, st]) W1 ∧ MapIs P kt W1 B (n + 1) (f.put kl ((f kl).getD z)) ∧ w.grownBy W1 (some B) ∧
      ∀ val : Value, ∃ W2, (Instr.entryStore t (.map (some B)) st val).run P W1 = .ok () W2 ∧ MapIs P kt W2 B (n + 1) (f.put kl val) ∧ w.grownBy W2 (some B) := by
  have hK := Maps.Keyed.of_law K
  obtain ⟨D, ⟨es, clock, hb, F, hs, hD⟩, hh⟩ := h.ex
  obtain ⟨v0, st, W1, r1, r2, r3⟩ := entry_is_update K ht hz hb F.keys hkey
  obtain ⟨v0', st', es1, clock1, s1, _, s3⟩ := entry_then_store K ht hz hb F hkey
  rw [r1] at s1
  injection s1 with s1 s2
  injection s1 with s1
  simp at s1
  obtain ⟨rfl, rfl⟩ := s1
  have hl := h.look hK ht (hz w) hkey
  rw [r3] at hl
  injection hl with hl
  obtain ⟨W', u1, u2, u3⟩ := h.store hK ht hn hkey (val := v0)
  rw [r2] at u1
  injection u1 with _ u1
  subst u1
  rw [hl] at r1 u2
  refine ⟨_, W1, r1, u2, u3, fun val => ?_⟩
  have hbl : W1.heap[B]? = some (.map es1 clock1) := by
    rw [s2]
    have hlt : B < w.heap.size := (Array.getElem?_eq_some_iff.1 hb).1
    simp [setBlock, hlt]
  obtain ⟨es', clock', t1, t2⟩ := s3 W1 val hbl
  obtain ⟨W'', x1, x2, x3⟩ := h.store hK ht hn hkey (val := val)
  rw [t2] at x1
  injection x1 with _ x1
  have e : setBlock W1 B (.map es' clock') = W'' := by
    rw [← x1, s2]
    simp [setBlock]
  exact ⟨W'', by rw [t1, e], x2, x3⟩
end
end Go.Proofs.Ytagdbadljcongaa.X
end

section
/- thread.isFamily: through slices.ContainsFunc, IndexFunc and its closure. -/
set_option linter.unusedVariables false
set_option linter.unusedSimpArgs false
namespace Go.Proofs.Ytagdbadljcongaa.X
open Go Go.RowKit Go.Proofs Go.Proofs.YtagdbadljcongaaW.PrintWords Go.Proofs.YtagdbadljcongaaW.PrintLast Go.Proofs.YtagdbadljcongaaW.PrintMore
def fam1 (s : ByteArray) : Bool := isW (bl s) && decide (s.size ≤ 8)
/-- Whether a list is a family. -/
def famB (l : List ByteArray) : Bool := l.all fam1
set_option maxHeartbeats 2000000 in
set_option maxRecDepth 100000 in
theorem fam_cl (s : ByteArray) (w : World) (r : Bool) (hr : fam1 s = r) : Calls Try.prog 71 #[.string s] w fun e w' => e = .returned (.bool (!r)) ∧ Below w.heap.size w w' := by
  obtain ⟨v, hv⟩ : ∃ v, isW (bl s) = v := ⟨_, rfl⟩
  have HV := Aside0.mk hv
  have h2 : r = (v && decide (s.size ≤ 8)) := by rw [← hr, ← hv]; rfl
  subst h2
  clear hv hr
  cases v with
  | false =>
    go_enter Try.func71, Try.ntmps71
    go_wp2_with (go_at_call 48; (with_reducible refine (newWord_b s _ _ HV.out).mono ?_); rintro e w1 ⟨p, rfl, hb⟩; have HB := Aside0.mk hb; clear hb)
    go_ret
    exact ⟨rfl, HB.out⟩
  | true =>
    by_cases h8 : s.size ≤ 8
    · have h1 : ¬ ((8 : Int) < (s.size : Int)) := by omega
      have h2 : ¬ (8 < s.size) := by omega
      have h3 := decide_eq_true h8
      go_enter Try.func71, Try.ntmps71
      go_wp2_with (go_at_call 48; (with_reducible refine (newWord_b s _ _ HV.out).mono ?_); rintro e w1 ⟨p, rfl, hb⟩; have HB := Aside0.mk hb; clear hb)
      go_ret
      exact ⟨by simp [h8] <;> omega, HB.out⟩
    · have h1 : (8 : Int) < (s.size : Int) := by omega
      have h2 : 8 < s.size := by omega
      have h3 := decide_eq_false h8
      go_enter Try.func71, Try.ntmps71
      go_wp2_with (go_at_call 48; (with_reducible refine (newWord_b s _ _ HV.out).mono ?_); rintro e w1 ⟨p, rfl, hb⟩; have HB := Aside0.mk hb; clear hb)
      go_ret
      exact ⟨by simp [h8] <;> omega, HB.out⟩
set_option maxHeartbeats 4000000 in
set_option maxRecDepth 1000000 in
theorem fam_idx (A : Option Addr) (c : Nat) (l : List ByteArray) (w : World) (hC : Kd.C Kd.string w A l.length l) (hl : l.length ≤ 1000000) :
    Calls Try.prog 77 #[.slice A l.length c, .func (.func 71) #[] #[]] w fun e w' => ∃ r : Int, e = .returned (.int .i64 r) ∧ Aside0 (-1 ≤ r ∧ r ≤ 1000000 ∧ (0 ≤ r ↔ famB l = false)) ∧ Below w.heap.size w w' := by
  have HC := Aside0.mk hC
  have HL := Aside0.mk hl
  clear hC hl
  go_enter Try.func77, Try.ntmps77
  go_wp2
  go_loopw [8] (fun v8 wr => ∃ i : Nat, v8 = .int .i64 i ∧ i ≤ l.length ∧ Aside0 (Below w.heap.size w wr) ∧ Aside0 (∀ j, j < i → ∀ h : j < l.length, fam1 l[j] = true)) (fun v8 _ => l.length - (intOf v8).toNat)
  case atStart => exact ⟨0, rfl, by omega, ⟨Below.refl _ _⟩, ⟨by omega⟩⟩
  case round =>
    obtain ⟨i, rfl, hi, HB, HAL⟩ := hrel
    by_cases hlt : i < l.length
    · have hltI : (i : Int) < (l.length : Int) := by omega
      have hi0 : (0 : Int) ≤ (i : Int) := by omega
      obtain ⟨s, hs⟩ : ∃ s, l[i] = s := ⟨_, rfl⟩
      obtain ⟨ad, e, hx⟩ := Kd.at_string (Kd.C_below HC.out HB.out) (i : Int) hi0 hltI
      cases e
      have er : rdOf ByteArray.empty l (i : Int) = s := by unfold rdOf; simp [List.getD_eq_getElem?_getD, hlt, hs]
      rw [er, Int.toNat_natCast] at hx
      obtain ⟨r, hr⟩ : ∃ r, fam1 s = r := ⟨_, rfl⟩
      have HR := Aside0.mk hr
      have HS := Aside0.mk (show ∀ h : i < l.length, l[i] = s from fun _ => hs)
      have HLT := Aside0.mk hlt
      have hib : (i : Int) ≤ 1000000 := by have := HL.out; omega
      clear hlt hs er hr
      cases r with
      | true =>
        go_wp2_with (go_at_call 71; (with_reducible refine (fam_cl s _ _ HR.out).mono ?_); rintro e w1 ⟨rfl, hb⟩; have HB1 := Aside0.mk (below_step HB.out hb); clear hb)
        go_roundw
        case rel => exact ⟨i + 1, by go_num, by have := HLT.out; omega, HB1, ⟨fun j hj h => by
          by_cases e : j = i
          · subst e; rw [HS.out h]; exact HR.out
          · exact HAL.out j (by omega) h⟩⟩
        case measure => simp [intOf]; have := HLT.out; omega
      | false =>
        go_wp2_with (go_at_call 71; (with_reducible refine (fam_cl s _ _ HR.out).mono ?_); rintro e w1 ⟨rfl, hb⟩; have HB1 := Aside0.mk (below_step HB.out hb); clear hb)
        go_ret
        refine ⟨_, rfl, ⟨by omega, hib, iff_of_true hi0 ?_⟩, HB1.out⟩
        rw [Bool.eq_false_iff]
        intro h
        have := List.all_eq_true.1 h _ (List.getElem_mem HLT.out)
        rw [HS.out HLT.out, HR.out] at this
        cases this
    · have hltI : ¬ ((i : Int) < (l.length : Int)) := by omega
      have HLT := Aside0.mk hlt
      clear hlt
      go_wp2
      go_ret
      refine ⟨_, rfl, ⟨by omega, by omega, iff_of_false (by omega) ?_⟩, HB.out⟩
      rw [Bool.not_eq_false]
      refine List.all_eq_true.2 fun b hb => ?_
      obtain ⟨j, hj, rfl⟩ := List.getElem_of_mem hb
      exact HAL.out j (by have := HLT.out; omega) hj
set_option maxHeartbeats 2000000 in
set_option maxRecDepth 100000 in
theorem fam_cont (A : Option Addr) (c : Nat) (l : List ByteArray) (w : World) (hC : Kd.C Kd.string w A l.length l) (hl : l.length ≤ 1000000) (r : Bool) (hr : famB l = r) :
    Calls Try.prog 63 #[.slice A l.length c, .func (.func 71) #[] #[]] w fun e w' => e = .returned (.bool (!r)) ∧ Below w.heap.size w w' := by
  have H := Aside0.mk (fam_idx A c l w hC hl)
  have HR := Aside0.mk hr
  clear hC hl hr
  cases r with
  | true =>
    go_enter Try.func63, Try.ntmps63
    go_wp2_with (go_at_call 77; (with_reducible refine H.out.mono ?_); rintro e w1 ⟨r, rfl, HR2, hb⟩; have HB := Aside0.mk hb; have hr0 : decide (0 ≤ r) = false := decide_eq_false (fun h => by have := HR2.out.2.2.1 h; rw [HR.out] at this; cases this); clear hb)
    go_ret
    exact ⟨rfl, HB.out⟩
  | false =>
    go_enter Try.func63, Try.ntmps63
    go_wp2_with (go_at_call 77; (with_reducible refine H.out.mono ?_); rintro e w1 ⟨r, rfl, HR2, hb⟩; have HB := Aside0.mk hb; have hr0 : decide (0 ≤ r) = true := decide_eq_true (HR2.out.2.2.2 HR.out); clear hb)
    go_ret
    exact ⟨rfl, HB.out⟩
set_option maxHeartbeats 2000000 in
set_option maxRecDepth 100000 in
theorem fam_any (A : Option Addr) (c : Nat) (l : List ByteArray) (w : World) (hC : Kd.C Kd.string w A l.length l) (hl : l.length ≤ 1000000) (r : Bool) (hr : (decide (l.length ≤ 4) && famB l) = r) :
    Calls Try.prog 58 #[.slice A l.length c] w fun e w' => e = .returned (.bool r) ∧ Below w.heap.size w w' := by
  obtain ⟨v, hv⟩ : ∃ v, famB l = v := ⟨_, rfl⟩
  have H := Aside0.mk (fam_cont A c l w hC hl v hv)
  rw [hv] at hr
  subst hr
  by_cases h4 : l.length ≤ 4
  · have h1 : (l.length : Int) ≤ 4 := by omega
    clear hv hl hC
    go_enter Try.func58, Try.ntmps58
    go_wp2_with (go_at_call 63; (with_reducible refine H.out.mono ?_); rintro e w1 ⟨rfl, hb⟩; have HB := Aside0.mk hb; clear hb)
    go_ret
    exact ⟨by simp [h4], HB.out⟩
  · have h1 : ¬ ((l.length : Int) ≤ 4) := by omega
    clear hv hl hC
    go_enter Try.func58, Try.ntmps58
    go_wp2
    go_ret
    exact ⟨by simp [h4], Below.refl _ _⟩
end Go.Proofs.Ytagdbadljcongaa.X
end

section
/- marks.after. -/
set_option linter.unusedVariables false
set_option linter.unusedSimpArgs false
namespace Go.Proofs.Ytagdbadljcongaa.X
open Go Go.RowKit Go.Proofs Go.Proofs.YtagdbadljcongaaW.PrintWords Go.Proofs.YtagdbadljcongaaW.PrintLast Go.Proofs.YtagdbadljcongaaW.PrintMore
/-- Marks as cells. -/
def mcells (m : List Nat) : Array Value := (m.map fun (x : Nat) => Value.int .i64 (x : Int)).toArray
theorem mcells_at (m : List Nat) (i : Nat) (h : i < m.length) : (mcells m)[i]? = some (.int .i64 ((m.getD i 0 : Nat) : Int)) := by
  unfold mcells
  simp [List.getElem?_map, List.getElem?_eq_getElem h, List.getD_eq_getElem?_getD]
theorem mcells_set (m : List Nat) (i v : Nat) : (mcells m).setIfInBounds i (.int .i64 (v : Int)) = mcells (m.set i v) := by
  unfold mcells
  simp [List.map_set]
theorem four {m : List Nat} (h : m.length = 4) : ∃ a b c d, m = [a, b, c, d] := by
  match m, h with
  | [a, b, c, d], _ => exact ⟨a, b, c, d, rfl⟩
structure MkAt (w : World) (m : List Nat) (V : World) : Prop where
  c1 : V.heap[w.heap.size]? = some (.cells (mcells m) 101 (0, 0))
  c2 : V.heap[w.heap.size + 1]? = some (.cells #[.int .i64 0, .int .i64 0, .int .i64 0, .int .i64 0] 101 (0, 0))
  bel : Below w.heap.size w V
/-- What after returns. -/
def AfPost (r : Option (List Nat)) (w : World) (e : Ending) (w' : World) : Prop :=
  ∃ a b c d : Nat, e = .returned (.tuple #[.agg #[.int .i64 (a : Int), .int .i64 (b : Int), .int .i64 (c : Int), .int .i64 (d : Int)], .bool r.isSome]) ∧ (∀ m', r = some m' → m' = [a, b, c, d]) ∧ Below w.heap.size w w'
theorem blk_set4 {V : World} {g : Nat} {x0 x1 x2 x3 : Value} (h : V.heap[g]? = some (.cells #[x0, x1, x2, x3] 101 (0, 0))) (a b c d : Value) : ((((V.setCell ⟨g, 0, none⟩ a).setCell ⟨g, 1, none⟩ b).setCell ⟨g, 2, none⟩ c).setCell ⟨g, 3, none⟩ d).heap[g]? = some (.cells #[a, b, c, d] 101 (0, 0)) :=
  (blk_set (((blk_set ((blk_set ((blk_set h 0 a).trans rfl) 1 b).trans rfl) 2 c).trans rfl)) 3 d).trans rfl
theorem below4 {w V : World} {g : Nat} (h : Below w.heap.size w V) (hg : w.heap.size ≤ g) (a b c d : Value) : Below w.heap.size w ((((V.setCell ⟨g, 0, none⟩ a).setCell ⟨g, 1, none⟩ b).setCell ⟨g, 2, none⟩ c).setCell ⟨g, 3, none⟩ d) :=
  (((h.setCell hg _).setCell hg _).setCell hg _).setCell hg _
theorem info101 : (Try.prog.info? 101).map (·.size) = some 4 := by kernel_rfl
set_option maxHeartbeats 4000000 in
set_option maxRecDepth 1000000 in
theorem after_m (A : Option Addr) (c : Nat) (l : List ByteArray) (w : World) (hC : Kd.C Kd.string w A l.length l) (hl : l.length ≤ 4) (h8 : ∀ s ∈ l, s.size ≤ 8) (m : List Nat) (hm : MOk (l.map bl) m) (d : Nat) (hd : d < 4) (r : Option (List Nat)) (hr : aft (l.map bl) m (97 + d) = r) :
    Calls Try.prog 66 #[.agg (mcells m), .slice A l.length c, .int .u8 (97 + (d : Int))] w (AfPost r w) := by
  have HC := Aside0.mk hC
  have H8 := Aside0.mk h8
  have HL := Aside0.mk hl
  have HM := Aside0.mk hm
  have HD := Aside0.mk hd
  have HRR := Aside0.mk hr
  obtain ⟨a0, a1, a2, a3, e4⟩ := four hm.len
  subst e4
  show Calls Try.prog 66 #[.agg #[.int .i64 (a0 : Int), .int .i64 (a1 : Int), .int .i64 (a2 : Int), .int .i64 (a3 : Int)], .slice A l.length c, .int .u8 (97 + (d : Int))] w (AfPost r w)
  clear hC h8 hl hm hd hr
  go_enter Try.func66, Try.ntmps66
  go_wp2
  obtain ⟨W0, hW0⟩ : ∃ W0, (w.alloc (.cells #[.int .i64 (a0 : Int), .int .i64 (a1 : Int), .int .i64 (a2 : Int), .int .i64 (a3 : Int)] 101)).alloc (.cells #[.int .i64 0, .int .i64 0, .int .i64 0, .int .i64 0] 101) = W0 := ⟨_, rfl⟩
  have H0 := Aside0.mk (show MkAt w [a0, a1, a2, a3] W0 by
    rw [← hW0]
    refine ⟨blk_alloc (blk_new _ _) _, ?_, below_alloc (below_alloc (Below.refl _ _) _) _⟩
    have := blk_new (w.alloc (.cells #[.int .i64 (a0 : Int), .int .i64 (a1 : Int), .int .i64 (a2 : Int), .int .i64 (a3 : Int)] 101)) (.cells #[.int .i64 0, .int .i64 0, .int .i64 0, .int .i64 0] 101)
    rwa [World.size_alloc] at this)
  rw [hW0]
  clear hW0
  go_loopw [12] (fun v12 wr => ∃ (i : Nat) (m : List Nat), v12 = .int .i64 i ∧ i ≤ l.length ∧ Aside0 (MkAt w m wr) ∧ Aside0 (MOk (l.map bl) m) ∧ Aside0 (aftL ((l.map bl).drop i) i m (97 + d) = r)) (fun v12 _ => l.length - (intOf v12).toNat)
  case atStart => exact ⟨0, _, rfl, by omega, H0, HM, ⟨by rw [List.drop_zero]; exact HRR.out⟩⟩
  case round =>
    obtain ⟨i, m, rfl, hi, HA, HO, HE⟩ := hrel
    clear H0 HM HRR
    by_cases hlt : i < l.length
    · have hltI : (i : Int) < (l.length : Int) := by omega
      have hi0 : (0 : Int) ≤ (i : Int) := by omega
      have hi4 : (i : Int) < 4 := by have := HL.out; omega
      obtain ⟨s, hs⟩ : ∃ s, l[i] = s := ⟨_, rfl⟩
      obtain ⟨ad, e, hx⟩ := Kd.at_string (Kd.C_below HC.out HA.out.bel) (i : Int) hi0 hltI
      cases e
      have er : rdOf ByteArray.empty l (i : Int) = s := by unfold rdOf; simp [List.getD_eq_getElem?_getD, hlt, hs]
      rw [er, Int.toNat_natCast] at hx
      have hWi : ∀ h : i < (l.map bl).length, (l.map bl)[i] = bl s := fun h => by rw [List.getElem_map, hs]
      obtain ⟨p, hp⟩ : ∃ p, m.getD i 0 = p := ⟨_, rfl⟩
      have hps : p < s.size := by
        have := HO.out.lt i (by simpa using hlt)
        rw [hWi, hp, bl_length] at this
        exact this
      have hs8 : s.size ≤ 8 := H8.out s (by rw [← hs]; exact List.getElem_mem hlt)
      obtain ⟨v, hv⟩ : ∃ v, (bl s)[p]'(by rw [bl_length]; exact hps) = v := ⟨_, rfl⟩
      have hxv : ∀ h : p < s.size, (s[p]'h).toNat = v := fun h => by rw [← bl_get s p h]; exact hv
      have q1 : wr.cell? ⟨w.heap.size, i, none⟩ = some (.int .i64 (p : Int)) := by
        rw [← hp]
        exact (blk_cell HA.out.c1 i).trans (mcells_at m i (by rw [HO.out.len]; have := HL.out; omega))
      have HST := Aside0.mk (show (if v = 97 + d then (if p + 1 = s.size then none else aftL ((l.map bl).drop (i + 1)) (i + 1) (m.set i (p + 1)) (97 + d)) else aftL ((l.map bl).drop (i + 1)) (i + 1) m (97 + d)) = r by
        have h := HE.out
        rw [aftL_step (by simpa using hlt), hWi, hp, bl_length] at h
        rw [← h]
        have e2 : (bl s)[p]? = some v := by rw [List.getElem?_eq_getElem (by rw [bl_length]; exact hps), hv]
        rw [e2]
        simp)
      have HP := Aside0.mk hp
      have HLT := Aside0.mk hlt
      have HWI := Aside0.mk hWi
      have hpI : (p : Int) < (s.size : Int) := by omega
      have hp8 : (p : Int) < 8 := by omega
      have hp0 : (0 : Int) ≤ (p : Int) := by omega
      have HS8 := Aside0.mk hs8
      clear hlt hs er hWi hp hv hs8
      by_cases hvd : v = 97 + d
      · subst hvd
        have hxv2 : ∀ h : p < s.size, ((s[p]'h).toNat : Int) = 97 + (d : Int) := fun h => by rw [hxv h]; simp
        have f1 := blk_frozen HA.out.c1 i
        clear hxv
        go_upto_region 6 with (fail)
        have h1 : (wr.setCell ⟨w.heap.size, i, none⟩ (.int .i64 ((p : Int) + 1))).heap[w.heap.size]? = some (.cells (mcells (m.set i (p + 1))) 101 (0, 0)) := by
          have := blk_set HA.out.c1 i (.int .i64 ((p : Int) + 1))
          rw [show ((p : Int) + 1) = ((p + 1 : Nat) : Int) by omega, mcells_set] at this
          exact this
        have hlen : (m.set i (p + 1)).length = 4 := by rw [List.length_set]; exact HO.out.len
        have h2 := blk_far HA.out.c2 (p := ⟨w.heap.size, i, none⟩) (by show w.heap.size + 1 ≠ w.heap.size; omega) (.int .i64 ((p : Int) + 1))
        have HA2 := Aside0.mk (show MkAt w (m.set i (p + 1)) (wr.setCell ⟨w.heap.size, i, none⟩ (.int .i64 ((p : Int) + 1))) from ⟨h1, h2, HA.out.bel.setCell (Nat.le_refl _) _⟩)
        have q2 : (wr.setCell ⟨w.heap.size, i, none⟩ (.int .i64 ((p : Int) + 1))).cell? ⟨w.heap.size, i, none⟩ = some (.int .i64 ((p : Int) + 1)) := by
          refine (blk_cell h1 i).trans ((mcells_at _ i (by rw [hlen]; have := HL.out; have := HLT.out; omega)).trans ?_)
          rw [getD_set, if_pos ⟨rfl, by rw [HO.out.len]; have := HL.out; have := HLT.out; omega⟩]
          simp
        obtain ⟨W1, hW1⟩ : ∃ W1, wr.setCell ⟨w.heap.size, i, none⟩ (.int .i64 ((p : Int) + 1)) = W1 := ⟨_, rfl⟩
        rw [hW1] at HA2 q2 ⊢
        clear h1 h2 hW1 q1 hx hxv2 f1
        have HST := HST.out
        rw [if_pos rfl] at HST
        have HLEN := Aside0.mk hlen
        clear hlen
        by_cases hps1 : p + 1 = s.size
        · rw [if_pos hps1] at HST
          subst HST
          have e1 : (p : Int) + 1 = (s.size : Int) := by omega
          have e2 : ((p : Int) + 1 == (s.size : Int)) = true := by simpa using e1
          obtain ⟨b0, b1, b2, b3, e4⟩ := four HLEN.out
          have g1 := HA2.out.c1
          rw [e4] at g1
          have c0 : W1.cell? ⟨w.heap.size, 0, none⟩ = some (.int .i64 (b0 : Int)) := (blk_cell g1 0).trans rfl
          have c1 : W1.cell? ⟨w.heap.size, 1, none⟩ = some (.int .i64 (b1 : Int)) := (blk_cell g1 1).trans rfl
          have c2 : W1.cell? ⟨w.heap.size, 2, none⟩ = some (.int .i64 (b2 : Int)) := (blk_cell g1 2).trans rfl
          have c3 : W1.cell? ⟨w.heap.size, 3, none⟩ = some (.int .i64 (b3 : Int)) := (blk_cell g1 3).trans rfl
          have g2 := HA2.out.c2
          have d0 : W1.cell? ⟨w.heap.size + 1, 0, none⟩ = some (.int .i64 0) := (blk_cell g2 0).trans rfl
          have d1 : W1.cell? ⟨w.heap.size + 1, 1, none⟩ = some (.int .i64 0) := (blk_cell g2 1).trans rfl
          have d2 : W1.cell? ⟨w.heap.size + 1, 2, none⟩ = some (.int .i64 0) := (blk_cell g2 2).trans rfl
          have d3 : W1.cell? ⟨w.heap.size + 1, 3, none⟩ = some (.int .i64 0) := (blk_cell g2 3).trans rfl
          have f0 := blk_frozen g2 0
          have f1 := blk_frozen g2 1
          have f2 := blk_frozen g2 2
          have f3 := blk_frozen g2 3
          have HF := Aside0.mk (blk_set4 g2 (.int .i64 (b0 : Int)) (.int .i64 (b1 : Int)) (.int .i64 (b2 : Int)) (.int .i64 (b3 : Int)))
          have HB4 := Aside0.mk (below4 HA2.out.bel (Nat.le_succ w.heap.size) (.int .i64 (b0 : Int)) (.int .i64 (b1 : Int)) (.int .i64 (b2 : Int)) (.int .i64 (b3 : Int)))
          clear hps1 g1 g2 e4
          go_wp2
          refine bodyPost_ret (results_ct rfl _ _ (w.heap.size + 1) 101 _ (0, 0) _ rfl HF.out Try.underlying101 rfl info101) rfl ?_
          exact ⟨b0, b1, b2, b3, rfl, fun _ h => (by cases h), HB4.out⟩
        · rw [if_neg hps1] at HST
          have HR := Aside0.mk HST
          have e1 : ¬ ((p : Int) + 1 = (s.size : Int)) := by omega
          have e2 : ((p : Int) + 1 == (s.size : Int)) = false := by simpa using e1
          have HO2 := Aside0.mk (show MOk (l.map bl) (m.set i (p + 1)) by
            have h := HO.out.set (i := i) (by simpa using HLT.out) (by rw [HWI.out, bl_length]; exact HS8.out) (by rw [HWI.out, HP.out, bl_length]; exact hps1)
            rw [HP.out] at h
            exact h)
          clear hps1 HST
          go_wp2
          go_roundw
          case rel => exact ⟨i + 1, m.set i (p + 1), by go_num, by have := HLT.out; omega, HA2, HO2, HR⟩
          case measure => simp [intOf]; have := HLT.out; omega
      · have hxv2 : ∀ h : p < s.size, ¬ ((s[p]'h).toNat : Int) = 97 + (d : Int) := fun h => by rw [hxv h]; omega
        have hxv3 : ∀ h : p < s.size, (((s[p]'h).toNat : Int) == 97 + (d : Int)) = false := fun h => by simpa using hxv2 h
        have HST := HST.out
        rw [if_neg hvd] at HST
        have HR := Aside0.mk HST
        clear hvd HST hxv
        go_wp2
        go_roundw
        case rel => exact ⟨i + 1, m, by go_num, by have := HLT.out; omega, HA, HO, HR⟩
        case measure => simp [intOf]; have := HLT.out; omega
    · have hltI : ¬ ((i : Int) < (l.length : Int)) := by omega
      have HR := HE.out
      rw [List.drop_eq_nil_of_le (by simp; omega)] at HR
      simp only [aftL] at HR
      subst HR
      obtain ⟨b0, b1, b2, b3, e4⟩ := four HO.out.len
      have g1 := HA.out.c1
      rw [e4] at g1
      have c0 : wr.cell? ⟨w.heap.size, 0, none⟩ = some (.int .i64 (b0 : Int)) := (blk_cell g1 0).trans rfl
      have c1 : wr.cell? ⟨w.heap.size, 1, none⟩ = some (.int .i64 (b1 : Int)) := (blk_cell g1 1).trans rfl
      have c2 : wr.cell? ⟨w.heap.size, 2, none⟩ = some (.int .i64 (b2 : Int)) := (blk_cell g1 2).trans rfl
      have c3 : wr.cell? ⟨w.heap.size, 3, none⟩ = some (.int .i64 (b3 : Int)) := (blk_cell g1 3).trans rfl
      have g2 := HA.out.c2
      have d0 : wr.cell? ⟨w.heap.size + 1, 0, none⟩ = some (.int .i64 0) := (blk_cell g2 0).trans rfl
      have d1 : wr.cell? ⟨w.heap.size + 1, 1, none⟩ = some (.int .i64 0) := (blk_cell g2 1).trans rfl
      have d2 : wr.cell? ⟨w.heap.size + 1, 2, none⟩ = some (.int .i64 0) := (blk_cell g2 2).trans rfl
      have d3 : wr.cell? ⟨w.heap.size + 1, 3, none⟩ = some (.int .i64 0) := (blk_cell g2 3).trans rfl
      have f0 := blk_frozen g2 0
      have f1 := blk_frozen g2 1
      have f2 := blk_frozen g2 2
      have f3 := blk_frozen g2 3
      have HF := Aside0.mk (blk_set4 g2 (.int .i64 (b0 : Int)) (.int .i64 (b1 : Int)) (.int .i64 (b2 : Int)) (.int .i64 (b3 : Int)))
      have HB4 := Aside0.mk (below4 HA.out.bel (Nat.le_succ w.heap.size) (.int .i64 (b0 : Int)) (.int .i64 (b1 : Int)) (.int .i64 (b2 : Int)) (.int .i64 (b3 : Int)))
      have HE4 := Aside0.mk e4
      clear hlt g1 g2 e4
      go_wp2
      refine bodyPost_ret (results_ct rfl _ _ (w.heap.size + 1) 101 _ (0, 0) _ rfl HF.out Try.underlying101 rfl info101) rfl ?_
      exact ⟨b0, b1, b2, b3, rfl, fun m' h => by injection h with h; rw [← h]; exact HE4.out, HB4.out⟩
end Go.Proofs.Ytagdbadljcongaa.X
end

section
/- Marks as keys of a map; what the map says of a list of marks. -/
set_option linter.unusedVariables false
set_option linter.unusedSimpArgs false
namespace Go.Proofs.Ytagdbadljcongaa.X
open Go Go.RowKit Go.Proofs.YtagdbadljcongaaW.PrintWords Go.Proofs.YtagdbadljcongaaW.PrintLast Go.Proofs.YtagdbadljcongaaW.PrintMore
def quadK (m : List Nat) : Lit := .string (keyBytes (m.map fun (x : Nat) => Lit.int .i64 (x : Int)))
theorem key101 (m : List Nat) (h4 : m.length = 4) (h8 : ∀ x ∈ m, x ≤ 1000000) : keyOf Try.prog 101 (.agg (mcells m)) = some (quadK m) := by
  obtain ⟨k, hm⟩ := types_pos
  obtain ⟨a, b, c, d, rfl⟩ := four h4
  have w1 : (Lit.int .i64 (a : Int)).wf = true := WalkArith.wf_i64 (by have := h8 a (by simp); omega)
  have w2 : (Lit.int .i64 (b : Int)).wf = true := WalkArith.wf_i64 (by have := h8 b (by simp); omega)
  have w3 : (Lit.int .i64 (c : Int)).wf = true := WalkArith.wf_i64 (by have := h8 c (by simp); omega)
  have w4 : (Lit.int .i64 (d : Int)).wf = true := WalkArith.wf_i64 (by have := h8 d (by simp); omega)
  have c101 : Try.prog.cellsOf 101 = 4 := by kernel_rfl
  have c3 : Try.prog.cellsOf 3 = 1 := by kernel_rfl
  have kt : Try.prog.keyType 101 = true := by kernel_rfl
  unfold keyOf mcells quadK
  simp only [Try.underlying101]
  rw [if_pos (by simp [kt, Value.formed, Try.underlying101, c101]), hm]
  unfold Program.keyLits
  simp only [Try.underlying101, Value.cells]
  rw [if_pos (by rw [c101]; rfl)]
  simp [List.range, List.range.loop, List.mapM_cons, List.mapM_nil, c3, Program.keyLits, Try.underlying3, w1, w2, w3, w4]
theorem mcells_inj {m m' : List Nat} (h : mcells m = mcells m') : m = m' := by
  unfold mcells at h
  have h : (m.map fun (x : Nat) => Value.int .i64 (x : Int)) = (m'.map fun (x : Nat) => Value.int .i64 (x : Int)) := congrArg Array.toList h
  exact (List.map_inj_right (fun x y e => by injection e with _ e; omega)).1 h
theorem quadK_inj {m m' : List Nat} (h4 : m.length = 4) (h8 : ∀ x ∈ m, x ≤ 1000000) (h4' : m'.length = 4) (h8' : ∀ x ∈ m', x ≤ 1000000) (h : quadK m = quadK m') : m = m' := by
  have h1 := key101 m h4 h8
  have h2 := key101 m' h4' h8'
  rw [← h] at h2
  have h3 := keyed101.inj h1 h2
  exact mcells_inj (by injection h3)
/-- Marks that may come: four of at most 8. -/
def Mk (m : List Nat) : Prop := m.length = 4 ∧ ∀ x ∈ m, x ≤ 1000000
theorem MOk.mk' {W : List (List Nat)} {m : List Nat} (h : MOk W m) : Mk m := ⟨h.len, fun x hx => Nat.le_trans (h.le x hx) (by omega)⟩
/-- What the map says of a list of marks: how often each comes. -/
structure CntOf (T : List (List Nat)) (f : KMap) : Prop where
  at_ : ∀ m, Mk m → f (quadK m) = if T.count m = 0 then none else some (.int .i64 ((T.count m : Nat) : Int))
  key : ∀ kl v, f kl = some v → ∃ m ∈ T, Mk m ∧ kl = quadK m
theorem CntOf.nil : CntOf [] KMap.empty := ⟨fun m _ => by simp [KMap.empty], fun kl v h => by cases h⟩
theorem CntOf.perm {T T' : List (List Nat)} {f : KMap} (h : CntOf T f) (hc : ∀ a, T.count a = T'.count a) : CntOf T' f := by
  refine ⟨fun m hm => by rw [← hc]; exact h.at_ m hm, fun kl v e => ?_⟩
  obtain ⟨m, hm, h2, h3⟩ := h.key kl v e
  exact ⟨m, List.count_pos_iff.1 (by rw [← hc]; exact List.count_pos_iff.2 hm), h2, h3⟩
theorem CntOf.getD {T : List (List Nat)} {f : KMap} (h : CntOf T f) {m : List Nat} (hm : Mk m) : (f (quadK m)).getD (.int .i64 0) = .int .i64 ((T.count m : Nat) : Int) := by
  rw [h.at_ m hm]
  split
  · rename_i e; rw [e]; rfl
  · rfl
theorem CntOf.push {T : List (List Nat)} {f : KMap} (h : CntOf T f) {m : List Nat} (hm : Mk m) {n : Nat} (hn : 0 < n) : CntOf (T ++ List.replicate n m) (f.put (quadK m) (.int .i64 ((T.count m : Int) + (n : Int)))) := by
  have hk : WideAt.IsKeyLit (quadK m) := keyed101.key (key101 m hm.1 hm.2)
  refine ⟨fun m' hm' => ?_, fun kl v e => ?_⟩
  · rw [List.count_append, List.count_replicate]
    by_cases e : m' = m
    · subst e
      rw [KMap.put_same f hk, if_neg (by simp; omega)]
      simp
    · rw [KMap.put_other f (fun e2 => e (quadK_inj hm'.1 hm'.2 hm.1 hm.2 e2)), h.at_ m' hm', if_neg (show ¬ (m == m') = true by simpa using Ne.symm e)]
      rfl
  · by_cases e2 : kl = quadK m
    · exact ⟨m, by simp; exact .inr (by omega), hm, e2⟩
    · rw [KMap.put_other f e2] at e
      obtain ⟨m', a, b, c⟩ := h.key kl v e
      exact ⟨m', by simp [a], b, c⟩
end Go.Proofs.Ytagdbadljcongaa.X
end

section
namespace Go.Proofs.Ytagdbadljcongaa.X
open Go.RowKit Go.Proofs.YtagdbadljcongaaW.PrintWords Go.Proofs.YtagdbadljcongaaW.PrintLast Go.Proofs.YtagdbadljcongaaW.PrintMore
attribute [local go_sem] max2_int min2_int max_two min_two max_three min_three max_four min_four   -- for this text's walks alone
set_option linter.unusedVariables false
set_option linter.unusedSimpArgs false

def slices_Index_string_string.l0 : Nat → List ByteArray → ByteArray → Int → Int → Option (Int)
 | 0, _, _, _, _ => none
 | k + 1, x0, x1, x7, x8 => if x8 < x7 then (if 0 ≤ x8 then (if x8 < (x0.length : Int) then (if x1.toList = (rdOf ByteArray.empty x0 x8).toList then (some x8) else (slices_Index_string_string.l0 k x0 x1 x7 (wrap64 (x8 + 1)))) else (none)) else (none)) else (some (-1))
def slices_Index_string_string.f (k : Nat) (l0 : List ByteArray) (a1 : ByteArray) : Option (Int) := slices_Index_string_string.l0 k l0 a1 (l0.length : Int) 0
set_option maxHeartbeats 8000000 in
set_option maxRecDepth 100000 in
theorem slices_Index_string_string.calls (k : Nat) (A0 : Option Addr) (c0 : Nat) (l0 : List ByteArray) (a1 : ByteArray) (r : Int) (w : World) (hr0 : Kd.C Kd.string w A0 l0.length l0) (hc0 : l0.length ≤ c0) (h : slices_Index_string_string.f k l0 a1 = some r) :
  Calls Try.prog 78 #[.slice A0 l0.length c0, .string a1] w fun e w' => e = .returned (.int .i64 r) ∧ Drawn0 w w' := by
 have HR0 := Aside0.mk hr0
 have HC0 := Aside0.mk hc0
 clear hr0 hc0
 have H : (slices_Index_string_string.l0 k l0 a1 (l0.length : Int) 0) = some r := h
 clear h
 have H' := Aside0.mk H
 clear H
 go_enter Try.func78, Try.ntmps78
 go_wp2
 go_loopg [8] k (fun kq v8 w' => ∃ (x8_1 : Int), v8 = .int .i64 x8_1 ∧ Aside0 (slices_Index_string_string.l0 kq l0 a1 (l0.length : Int) x8_1 = some r) ∧ Aside0 (kq ≤ k) ∧ Drawn0 w w')
 case atStart => exact ⟨(0), (by first | rfl | (simp; done) | (simp [*]; done)), H', ⟨Nat.le_refl _⟩, by repeat (first | exact Drawn0.refl _ | apply Drawn0.step)⟩
 case round =>
  clear H'
  try clear p2
  obtain ⟨x8_1, rfl, HA, HK1, ⟨m1, rfl⟩⟩ := hrel
  cases gk with
  | zero => exact absurd HA.out (by simp [slices_Index_string_string.l0])
  | succ k1 =>
   have H := HA.out
   clear HA
   simp only [slices_Index_string_string.l0] at H
   by_cases c3 : x8_1 < (l0.length : Int)
   ·rw [if_pos c3] at H
    have c3b0 : decide (x8_1 < (l0.length : Int)) = true := decide_eq_true c3
    clear c3
    by_cases c4 : 0 ≤ x8_1
    ·rw [if_pos c4] at H
     have c4b0 : decide (0 ≤ x8_1) = true := decide_eq_true c4
     clear c4
     by_cases c5 : x8_1 < (l0.length : Int)
     ·rw [if_pos c5] at H
      have c5b0 : decide (x8_1 < (l0.length : Int)) = true := decide_eq_true c5
      clear c5
      by_cases c6 : a1.toList = (rdOf ByteArray.empty l0 x8_1).toList
      ·rw [if_pos c6] at H
       have c6b0 : (a1.toList == (rdOf ByteArray.empty l0 x8_1).toList) = true := beq_iff_eq.mpr c6
       have c6b1 : (a1.toList != (rdOf ByteArray.empty l0 x8_1).toList) = false := bne_eq_false_iff_eq.mpr c6
       clear c6
       obtain rfl := Option.some.inj H
       have p104 : 0 ≤ (x8_1 : Int) := of_decide_eq_true az
       have q104 : x8_1 < (l0.length : Int) := of_decide_eq_true az
       obtain ⟨ad104, e104, hx104_0⟩ := Kd.at_string HR0.out x8_1 p104 q104
       cases e104
       replace p104 := eq_true p104
       replace q104 := eq_true q104
       go_wp2
       go_ret
       exact ⟨by first | rfl | (simp; done) | (simp [*]; done), by repeat (first | exact Drawn0.refl _ | apply Drawn0.step)⟩
      ·rw [if_neg c6] at H
       have c6b0 : (a1.toList == (rdOf ByteArray.empty l0 x8_1).toList) = false := beq_eq_false_iff_ne.mpr c6
       have c6b1 : (a1.toList != (rdOf ByteArray.empty l0 x8_1).toList) = true := bne_iff_ne.mpr c6
       have H' := Aside0.mk H
       clear H
       have p104 : 0 ≤ (x8_1 : Int) := of_decide_eq_true az
       have q104 : x8_1 < (l0.length : Int) := of_decide_eq_true az
       obtain ⟨ad104, e104, hx104_0⟩ := Kd.at_string HR0.out x8_1 p104 q104
       cases e104
       replace p104 := eq_true p104
       replace q104 := eq_true q104
       go_wp2
       go_roundg k1
       case measure => have := HK1.out; omega
       case rel => exact ⟨(wrap64 (x8_1 + 1)), (by first | rfl | (simp; done) | (simp [*]; done)), H', ⟨by have := HK1.out; omega⟩, by repeat (first | exact Drawn0.refl _ | apply Drawn0.step)⟩
     ·rw [if_neg c5] at H
      exact absurd H (by simp)
    ·rw [if_neg c4] at H
     exact absurd H (by simp)
   ·rw [if_neg c3] at H
    have c3b0 : decide (x8_1 < (l0.length : Int)) = false := decide_eq_false c3
    clear c3
    obtain rfl := Option.some.inj H
    go_wp2
    go_ret
    exact ⟨by first | rfl | (simp; done) | (simp [*]; done), by repeat (first | exact Drawn0.refl _ | apply Drawn0.step)⟩

end Go.Proofs.Ytagdbadljcongaa.X
end

section
namespace Go.Proofs.Ytagdbadljcongaa.X
open Go.RowKit Go.Proofs.YtagdbadljcongaaW.PrintWords Go.Proofs.YtagdbadljcongaaW.PrintLast Go.Proofs.YtagdbadljcongaaW.PrintMore
attribute [local go_sem] max2_int min2_int max_two min_two max_three min_three max_four min_four   -- for this text's walks alone
set_option linter.unusedVariables false
set_option linter.unusedSimpArgs false

def slices_Contains_string_string.f (k : Nat) (l0 : List ByteArray) (a1 : ByteArray) : Option (Bool) := (slices_Index_string_string.f k l0 a1).bind fun t105 => (some (decide (t105 ≥ 0)))
set_option maxHeartbeats 8000000 in
set_option maxRecDepth 100000 in
theorem slices_Contains_string_string.calls (k : Nat) (A0 : Option Addr) (c0 : Nat) (l0 : List ByteArray) (a1 : ByteArray) (r : Bool) (w : World) (hr0 : Kd.C Kd.string w A0 l0.length l0) (hc0 : l0.length ≤ c0) (h : slices_Contains_string_string.f k l0 a1 = some r) :
  Calls Try.prog 65 #[.slice A0 l0.length c0, .string a1] w fun e w' => e = .returned (.bool r) ∧ Drawn0 w w' := by
 have HR0 := Aside0.mk hr0
 have HC0 := Aside0.mk hc0
 clear hr0 hc0
 have H : ((slices_Index_string_string.f k l0 a1).bind fun t105 => (some (decide (t105 ≥ 0)))) = some r := h
 clear h
 replace H := Option.bind_eq_some_iff.mp H
 obtain ⟨t105, A30, H⟩ := H
 replace H : (some (decide (t105 ≥ 0))) = some r := H
 have A3 := Aside0.mk A30
 clear A30
 obtain rfl := Option.some.inj H
 go_enter Try.func65, Try.ntmps65
 go_wp2_with (first | ((with_reducible refine gate_callee (f := 78) rfl ?_); refine goesL_ (some 7) rfl rfl Try.func78 (by kernel_rfl) rfl #[.slice A0 l0.length c0, .string a1] rfl dz ?_; (with_reducible refine (slices_Index_string_string.calls k _ _ l0 a1 t105 _ ?side1 ?side2 A3.out).mono ?_); (case side1 => exact cz (HR0.out)); (case side2 => exact HC0.out); rintro e w' ⟨rfl, ⟨nd, rfl⟩⟩; refine ⟨_, rfl, ?_⟩))
 go_ret
 exact ⟨by first | rfl | (simp; done) | (simp [*]; done), by repeat (first | exact Drawn0.refl _ | apply Drawn0.step)⟩

end Go.Proofs.Ytagdbadljcongaa.X
end

section
/- A region that draws its order, in a round of a range: the walk's steps (start_, pure_, take_ ..) serve there too. -/
set_option linter.unusedVariables false
set_option linter.unusedSimpArgs false
namespace Go.Proofs.Ytagdbadljcongaa.X
open Go Go.RowKit Go.Proofs.YtagdbadljcongaaW.PrintWords Go.Proofs.YtagdbadljcongaaW.PrintLast Go.Proofs.YtagdbadljcongaaW.PrintMore
variable {P : Program} {ops : Array Oper} {Q : Exit → Act → World → Prop} {lo n : Nat}
theorem rows_round {row : String} {args : Array Value} {w : World} {R : Value → World → Prop} (h : Rows P row args w R) : RowsIn (Fence.wide.inRound lo) n P row args w R := by
  intro c cs _
  obtain ⟨v, w', r, s⟩ := h c cs
  exact ⟨v, w', r, stepsIn_wide.2 s⟩
def noDefer (o : Oper) : Bool := match o.op with | .defer _ => false | _ => true
theorem op_round {o : Oper} {a : Act} {w : World} {K : Act → World → Prop} (hd : noDefer o = true) (h : o.wp P a w K Q) : o.wpIn (Fence.wide.inRound lo) n P a w K Q := by
  refine ⟨fun _ _ => trivial, ?_⟩
  have hs : o.semAt (Fence.wide.inRound lo).round a.eval = execOp a.eval o := Oper.semAt_eq _ _ _ (fun c e => by unfold noDefer at hd; rw [e] at hd; cases hd)
  rw [hs]
  unfold Oper.wp at h
  generalize (execOp a.eval o).run P w = r at *
  cases r with
  | ok x w' =>
    cases x <;> simp only [Oper.upon] at h <;> simp only [Oper.uponIn] <;>
      first
        | exact h
        | exact ⟨fun h => (by cases h), CallsIn.inRound lo (callsIn_wide.2 h)⟩
        | exact ⟨fun h => (by cases h), rows_round h⟩
        | exact h.elim
  | halt x w' => cases x <;> simp only [Oper.upon] at h <;> simp only [Oper.uponIn] <;> exact h
theorem any_round (hd : ops.all noDefer = true) (hQ : ¬ LetsOut Q) (md : Region.Mode) : ∀ (fuel : Nat) (listed : Array Bool) (a : Act) (w : World), wpAny P md ops Q fuel listed a w → wpAnyIn (Fence.wide.inRound lo) n P md ops Q fuel listed a w
  | 0, listed, a, w, h => h
  | fuel + 1, listed, a, w, h => by
    refine ⟨h.1, fun i hi => ?_⟩
    have h2 := h.2 i hi
    have ih := any_round hd hQ md fuel (listed.setIfInBounds i true)
    unfold wpOp at h2
    unfold wpOpIn
    cases ho : ops[i]? with
    | none => rw [ho] at h2; exact ih _ _ h2
    | some o =>
      rw [ho] at h2
      simp only at h2 ⊢
      have hdo : noDefer o = true := (Array.all_eq_true_iff_forall_mem.1 hd) o (Array.mem_of_getElem? ho)
      split
      · rename_i hw
        rw [if_pos hw] at h2
        rcases h2 with h2 | ⟨_, h2⟩
        · exact Oper.wpIn_mono (fun a w h => ih a w h) (op_round hdo h2)
        · exact absurd h2 hQ
      · rename_i hw
        rw [if_neg hw] at h2
        exact ⟨fun _ _ => trivial, ih _ _ h2⟩
theorem start_in {S : World → Prop} {ds : List Nat} {id m : Nat} {a : Act} {w : World} (l : Array Bool) (hm : P.follows .mixedOrders = true) (hn : ops.size = m) (hl : Array.replicate m false = l) (hS : S w.drew) (hd : ops.all noDefer = true) (hQ : ¬ LetsOut Q)
    (h : S w.drew → wpAnyLast P .any ops Q S ds m l a w.drew) : (Code.region id ops true).wpIn (Fence.wide.inRound lo) n P Q a w := by
  subst hn
  subst hl
  exact wpIn_region_any hm (any_round hd hQ _ _ _ _ _ (wpAny_of_last _ _ _ _ (h hS)))
theorem list_round (hQ : ¬ LetsOut Q) : ∀ (rest : List Oper) (a : Act) (w : World), rest.all noDefer = true → wpList P ops Q rest a w → wpListIn (Fence.wide.inRound lo) n P ops Q rest a w
  | [], a, w, _, h => h
  | o :: rest, a, w, hd, h => by
    rw [List.all_cons, Bool.and_eq_true] at hd
    unfold wpList at h
    unfold wpListIn
    split
    · rename_i hw
      rw [if_pos hw] at h
      rcases h with h | ⟨_, h⟩
      · exact Oper.wpIn_mono (fun a w h => list_round hQ rest a w hd.2 h) (op_round hd.1 h)
      · exact absurd h hQ
    · rename_i hw
      rw [if_neg hw] at h
      exact ⟨fun _ _ => trivial, list_round hQ rest _ w hd.2 h⟩
/-- A region that does not draw, in a round: walked as everywhere. -/
theorem region_in {id : Nat} {l : List Oper} {a : Act} {w : World} (hd : l.all noDefer = true) (hQ : ¬ LetsOut Q) (h : wpList P l.toArray Q l a w) : (Code.region id l.toArray false).wpIn (Fence.wide.inRound lo) n P Q a w :=
  wpIn_region_lit (list_round hQ l a w hd h)
end Go.Proofs.Ytagdbadljcongaa.X
end
