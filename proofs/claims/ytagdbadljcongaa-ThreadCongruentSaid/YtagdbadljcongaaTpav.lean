/- Texts behind ThreadCongruent, part 22: contracts of the program's functions and the plain words for them. -/
import Derived.WalkKit
import Derived.ProofKit
import Derived.OpenShut
import Derived.ShutString
import Derived.ChangeOld
import Derived.Test.YtagdbadljcongaaTpaq
import Derived.Test.YtagdbadljcongaaTpas
import Derived.Test.YtagdbadljcongaaTpat
import Derived.Test.YtagdbadljcongaaTpau
section
/- The reference's search by places finds the first word that is a subsequence of one of two words: first by length, then by letters. -/
set_option linter.unusedVariables false
set_option linter.unusedSimpArgs false
namespace Go.Proofs.Ytagdbadljcongaa.X
open Go.RowKit Go.Proofs.YtagdbadljcongaaW.PrintWords
/-- A number for a word: the order of the numbers is that of the words. -/
def key (x : List Nat) : Nat := x.foldl (fun a b => a * 5 + (b - 96)) 0
theorem key_app (x : List Nat) (c : Nat) : key (x ++ [c]) = key x * 5 + (c - 96) := by unfold key; rw [List.foldl_append]; rfl
theorem key_from (x : List Nat) : ∀ a : Nat, x.foldl (fun a b => a * 5 + (b - 96)) a = a * 5 ^ x.length + key x := by
  induction x with
  | nil => intro a; simp [key]
  | cons b x ih =>
    intro a
    show x.foldl _ (a * 5 + (b - 96)) = a * 5 ^ (x.length + 1) + x.foldl _ (0 * 5 + (b - 96))
    rw [ih, ih (0 * 5 + (b - 96)), Nat.pow_succ, Nat.add_mul, Nat.add_mul, Nat.zero_mul, Nat.zero_add, Nat.mul_assoc, Nat.mul_comm 5, Nat.add_assoc]
theorem key_cons (b : Nat) (x : List Nat) : key (b :: x) = (b - 96) * 5 ^ x.length + key x := by
  show x.foldl _ (0 * 5 + (b - 96)) = _
  rw [key_from, Nat.zero_mul, Nat.zero_add]
/-- Words of the first k letters. -/
def Ltr (k : Nat) (x : List Nat) : Prop := ∀ b ∈ x, 97 ≤ b ∧ b < 97 + k
theorem Ltr.app {k : Nat} {x : List Nat} {c : Nat} (h : Ltr k x) (hc : c < k) : Ltr k (x ++ [97 + c]) := fun b hb => by
  rcases List.mem_append.1 hb with h1 | h1
  · exact h b h1
  · rw [List.mem_singleton] at h1; subst h1; omega
theorem Ltr.four {k : Nat} {x : List Nat} (h : Ltr k x) (hk : k ≤ 4) : Ltr 4 x := fun b hb => by have := h b hb; omega
theorem key_lt : ∀ {x : List Nat}, Ltr 4 x → key x < 5 ^ x.length
  | [], _ => by decide
  | b :: x, h => by
    have h1 := key_lt (x := x) fun b hb => h b (by simp [hb])
    have h2 := h b (by simp)
    rw [key_cons, List.length_cons, Nat.pow_succ]
    have h3 : (b - 96) * 5 ^ x.length ≤ 4 * 5 ^ x.length := Nat.mul_le_mul_right _ (by omega)
    omega
theorem key_ge : ∀ {x : List Nat}, Ltr 4 x → 5 ^ x.length ≤ 4 * key x + 1
  | [], _ => by decide
  | b :: x, h => by
    have h1 := key_ge (x := x) fun b hb => h b (by simp [hb])
    have h2 := h b (by simp)
    rw [key_cons, List.length_cons, Nat.pow_succ]
    have h3 : 1 * 5 ^ x.length ≤ (b - 96) * 5 ^ x.length := Nat.mul_le_mul_right _ (by omega)
    omega
theorem key_len {x y : List Nat} (hx : Ltr 4 x) (hy : Ltr 4 y) (h : key x ≤ key y) : x.length ≤ y.length := by
  rcases Nat.lt_or_ge y.length x.length with h1 | h1
  · exfalso
    have a := key_ge hx
    have b := key_lt hy
    have c : 5 ^ (y.length + 1) ≤ 5 ^ x.length := Nat.pow_le_pow_right (by decide) h1
    rw [Nat.pow_succ] at c
    omega
  · exact h1
theorem snoc_of {x : List Nat} {n : Nat} (h : x.length = n + 1) : ∃ y c, x = y ++ [c] ∧ y.length = n := by
  rcases List.eq_nil_or_concat x with rfl | ⟨y, c, rfl⟩
  · cases h
  · refine ⟨y, c, by simp, ?_⟩
    simpa using h
/-- The place that a word reaches, or -1. -/
def rchS (l : List Nat) (i : Int) (c : Nat) : Int := if i < 0 then -1 else nxP l i.toNat c
def rch (l x : List Nat) : Int := x.foldl (rchS l) 0
theorem rch_app (l x : List Nat) (c : Nat) : rch l (x ++ [c]) = rchS l (rch l x) c := by unfold rch; rw [List.foldl_append]; rfl
theorem rch_out (l : List Nat) : ∀ x : List Nat, x.foldl (rchS l) (-1) = -1
  | [] => rfl
  | c :: x => rch_out l x
theorem rch_from (l : List Nat) : ∀ (x : List Nat) (i : Nat), (wth l i x).isSome = decide (0 ≤ x.foldl (rchS l) (i : Int))
  | [], i => by simp [wth]
  | c :: x, i => by
    show _ = decide (0 ≤ x.foldl (rchS l) (rchS l (i : Int) c))
    have e : rchS l (i : Int) c = nxP l i c := by unfold rchS; rw [if_neg (by omega), Int.toNat_natCast]
    rw [e]
    unfold wth
    by_cases h : nx l i c < l.length
    · rw [if_pos h, nxP_in h, Option.isSome_map, rch_from l x]
    · rw [if_neg h, nxP_out h, rch_out]; rfl
theorem rch_is (l x : List Nat) : (wth l 0 x).isSome = decide (0 ≤ rch l x) := rch_from l x 0
/-- Whether a word is a subsequence of one of two words. -/
def dst (u w x : List Nat) : Bool := (wth u 0 x).isSome != (wth w 0 x).isSome
theorem dif_dst {u w : List Nat} {r : Rn} (ha : r.a = rch u r.wd) (hb : r.b = rch w r.wd) : dif r = dst u w r.wd := by
  unfold dif dst
  rw [rch_is, rch_is, ha, hb]
  by_cases h1 : rch u r.wd < 0 <;> by_cases h2 : rch w r.wd < 0 <;> simp [h1, h2] <;> omega
/-- The search, with the first k letters. -/
def partK (u w : List Nat) (k most : Nat) : Nat → Nat → List Rn → Option (List Nat)
  | 0, _, _ => none
  | f + 1, q, R => match R[q]? with
    | none => none
    | some r => if dif r then some r.wd else if most ≤ r.wd.length ∨ r.a < 0 then partK u w k most f (q + 1) R
      else partK u w k most f (q + 1) (kids u w ⟨r.a.toNat, r.b.toNat, r.wd⟩ (List.range k) R)
theorem partK4 (u w : List Nat) (most : Nat) : ∀ (f q : Nat) (R : List Rn), partK u w 4 most f q R = partF u w most f q R
  | 0, q, R => rfl
  | f + 1, q, R => by
    unfold partK partF
    cases R[q]? with
    | none => rfl
    | some r =>
      dsimp only
      rw [partK4 u w most f, partK4 u w most f]
      rfl
/-- What holds of the list's entries. -/
structure EnOk (u w : List Nat) (k : Nat) (R : List Rn) : Prop where
  st : ∀ e ∈ R, e.a = rch u e.wd ∧ e.b = rch w e.wd
  lt : ∀ e ∈ R, Ltr k e.wd
  srt : R.Pairwise (fun x y => key x.wd < key y.wd)
/-- An entry for a letter's child. -/
def HasK (u w : List Nat) (R : List Rn) (r : Rn) (c : Nat) : Prop := ∃ e ∈ R, e.a = nxP u r.a.toNat (97 + c) ∧ e.b = nxP w r.b.toNat (97 + c) ∧ key e.wd ≤ key r.wd * 5 + (c + 1)
theorem HasK.mono {u w : List Nat} {R S : List Rn} {r : Rn} {c : Nat} (h : HasK u w R r c) : HasK u w (R ++ S) r c := by
  obtain ⟨e, he, h1⟩ := h
  exact ⟨e, List.mem_append_left _ he, h1⟩
theorem kids_en {u w : List Nat} {k : Nat} {r : Rn} (hra : 0 ≤ r.a) (hrb : 0 ≤ r.b) (hst : r.a = rch u r.wd ∧ r.b = rch w r.wd) (hlt : Ltr k r.wd) : ∀ (cs : List Nat) (R : List Rn), cs.Pairwise (· < ·) → (∀ c ∈ cs, c < k) → EnOk u w k R → (∀ e ∈ R, key e.wd ≤ key r.wd * 5 + k) → (∀ e ∈ R, ∀ c ∈ cs, key e.wd < key r.wd * 5 + (c + 1)) →
    ∃ S, kids u w ⟨r.a.toNat, r.b.toNat, r.wd⟩ cs R = R ++ S ∧ EnOk u w k (R ++ S) ∧ (∀ e ∈ R ++ S, key e.wd ≤ key r.wd * 5 + k) ∧ ∀ c ∈ cs, HasK u w (R ++ S) r c
  | [], R, _, _, h, hb, _ => ⟨[], by simp [kids], by simpa using h, by simpa using hb, by simp⟩
  | c :: cs, R, hp, hc, h, hb, hb2 => by
    obtain ⟨p1, p2⟩ := List.pairwise_cons.1 hp
    have hck := hc c (by simp)
    have hkid : kid u w ⟨r.a.toNat, r.b.toNat, r.wd⟩ c = ⟨nxP u r.a.toNat (97 + c), nxP w r.b.toNat (97 + c), r.wd ++ [97 + c]⟩ := rfl
    have hkey : key (r.wd ++ [97 + c]) = key r.wd * 5 + (c + 1) := by rw [key_app]; omega
    show ∃ S, kids u w ⟨r.a.toNat, r.b.toNat, r.wd⟩ cs (addK R (kid u w ⟨r.a.toNat, r.b.toNat, r.wd⟩ c)) = R ++ S ∧ _
    rw [hkid]
    unfold addK
    by_cases hh : hasP R (nxP u r.a.toNat (97 + c)) (nxP w r.b.toNat (97 + c)) = true
    · rw [if_pos hh]
      obtain ⟨S, i1, i2, i3, i4⟩ := kids_en hra hrb hst hlt cs R p2 (fun d hd => hc d (by simp [hd])) h hb (fun e he d hd => hb2 e he d (by simp [hd]))
      refine ⟨S, i1, i2, i3, fun d hd => ?_⟩
      rcases List.mem_cons.1 hd with rfl | hd
      · obtain ⟨e, he, h1⟩ := List.any_eq_true.1 hh
        simp at h1
        exact HasK.mono ⟨e, he, h1.1, h1.2, by have := hb2 e he d (by simp); omega⟩
      · exact i4 d hd
    · rw [if_neg hh]
      have hE : EnOk u w k (R ++ [⟨nxP u r.a.toNat (97 + c), nxP w r.b.toNat (97 + c), r.wd ++ [97 + c]⟩]) := by
        refine ⟨fun e he => ?_, fun e he => ?_, ?_⟩
        · rcases List.mem_append.1 he with he | he
          · exact h.st e he
          · rw [List.mem_singleton] at he
            subst he
            dsimp only
            rw [rch_app, rch_app, ← hst.1, ← hst.2]
            unfold rchS
            rw [if_neg (by omega), if_neg (by omega)]
            exact ⟨rfl, rfl⟩
        · rcases List.mem_append.1 he with he | he
          · exact h.lt e he
          · rw [List.mem_singleton] at he
            subst he
            exact hlt.app hck
        · rw [List.pairwise_append]
          refine ⟨h.srt, by simp, fun a ha b hb3 => ?_⟩
          rw [List.mem_singleton] at hb3
          subst hb3
          dsimp only
          rw [hkey]
          exact hb2 a ha c (by simp)
      obtain ⟨S, i1, i2, i3, i4⟩ := kids_en hra hrb hst hlt cs _ p2 (fun d hd => hc d (by simp [hd])) hE (fun e he => by
        rcases List.mem_append.1 he with he | he
        · exact hb e he
        · rw [List.mem_singleton] at he
          subst he
          dsimp only
          rw [hkey]
          omega) (fun e he d hd => by
        rcases List.mem_append.1 he with he | he
        · exact hb2 e he d (by simp [hd])
        · rw [List.mem_singleton] at he
          subst he
          dsimp only
          rw [hkey]
          have := p1 d hd
          omega)
      rw [List.append_assoc] at i1 i2 i3 i4
      refine ⟨_ :: S, i1, i2, i3, fun d hd => ?_⟩
      rcases List.mem_cons.1 hd with rfl | hd
      · exact ⟨_, List.mem_append_right _ (List.mem_cons_self), rfl, rfl, by rw [hkey]; omega⟩
      · exact i4 d hd
/-- What holds ahead of entry q. -/
structure PI (u w : List Nat) (k most q : Nat) (R : List Rn) : Prop where
  en : EnOk u w k R
  root : (⟨0, 0, []⟩ : Rn) ∈ R
  no : ∀ m, ∀ h : m < R.length, m < q → dif R[m] = false
  cl : ∀ m, ∀ h : m < R.length, m < q → ¬ (most ≤ (R[m]).wd.length ∨ (R[m]).a < 0) → ∀ c, c < k → HasK u w R R[m] c
  bd : ∀ h : q < R.length, ∀ e ∈ R, key e.wd < key (R[q]).wd * 5 + 1
theorem PI.start (u w : List Nat) (k most : Nat) : PI u w k most 0 [⟨0, 0, []⟩] := by
  refine ⟨⟨fun e he => ?_, fun e he => ?_, by simp⟩, by simp, fun m h h0 => by omega, fun m h h0 => by omega, fun h e he => ?_⟩
  all_goals
    rw [List.mem_singleton] at he
    subst he
  · exact ⟨rfl, rfl⟩
  · intro b hb; cases hb
  · show key [] < key [] * 5 + 1
    decide
theorem PI.next {u w : List Nat} {k most q : Nat} {R : List Rn} (h : PI u w k most q R) (S : List Rn) (hq : q < R.length) (hd : dif R[q] = false) (hE : EnOk u w k (R ++ S)) (hc : ¬ (most ≤ (R[q]).wd.length ∨ (R[q]).a < 0) → ∀ c, c < k → HasK u w (R ++ S) R[q] c) (hb : ∀ e ∈ R ++ S, key e.wd ≤ key (R[q]).wd * 5 + 4) : PI u w k most (q + 1) (R ++ S) := by
  have lt : ∀ m, m < q + 1 → m < R.length := fun m hm => by omega
  refine ⟨hE, List.mem_append_left _ h.root, fun m hm hmq => ?_, fun m hm hmq hn c hck => ?_, fun hm e he => ?_⟩
  · rw [List.getElem_append_left (lt m hmq)]
    by_cases e : m = q
    · subst e; exact hd
    · exact h.no m (lt m hmq) (by omega)
  · rw [List.getElem_append_left (lt m hmq)] at hn ⊢
    by_cases e : m = q
    · subst e; exact hc hn c hck
    · exact (h.cl m (lt m hmq) (by omega) hn c hck).mono
  · have h1 := hb e he
    have h2 := List.pairwise_iff_getElem.1 hE.srt q (q + 1) (by rw [List.length_append]; omega) hm (by omega)
    rw [List.getElem_append_left hq] at h2
    omega
theorem PI.step {u w : List Nat} {k most q : Nat} {R : List Rn} (hk4 : k ≤ 4) (h : PI u w k most q R) (hq : q < R.length) (hd : dif R[q] = false) :
    PI u w k most (q + 1) (if most ≤ (R[q]).wd.length ∨ (R[q]).a < 0 then R else kids u w ⟨(R[q]).a.toNat, (R[q]).b.toNat, (R[q]).wd⟩ (List.range k) R) := by
  have hb := h.bd hq
  split
  · rename_i ho
    have := h.next [] hq hd (by rw [List.append_nil]; exact h.en) (fun hn => absurd ho hn) (by rw [List.append_nil]; intro e he; have := hb e he; omega)
    rwa [List.append_nil] at this
  · rename_i ho
    have hm := List.getElem_mem hq
    have hb0 : 0 ≤ (R[q]).b := by
      unfold dif at hd
      simp at hd
      omega
    obtain ⟨S, i1, i2, i3, i4⟩ := kids_en (k := k) (by omega) hb0 (h.en.st _ hm) (h.en.lt _ hm) (List.range k) R List.pairwise_lt_range (fun c hc => List.mem_range.1 hc) h.en (fun e he => by have := hb e he; have := h.en.lt; omega) (fun e he c hc => by have := hb e he; omega)
    rw [i1]
    exact h.next S hq hd i2 (fun _ c hc => i4 c (List.mem_range.2 hc)) (fun e he => by have := i3 e he; omega)
/-- Words before the bound lead to entries before q. -/
theorem PI.pre {u w : List Nat} {k most q B : Nat} {R : List Rn} (hk4 : k ≤ 4) (h : PI u w k most q R) (hB : ∀ m, ∀ hm : m < R.length, key (R[m]).wd < B → m < q) : ∀ (n : Nat) (x : List Nat), x.length = n → Ltr k x → x.length ≤ most → key x < B → dst u w x = false ∧ (0 ≤ rch u x → ∃ e ∈ R, e.a = rch u x ∧ e.b = rch w x ∧ key e.wd ≤ key x)
  | 0, x, hn, hx, hm, hk => by
    rw [List.length_eq_zero_iff.1 hn]
    exact ⟨rfl, fun _ => ⟨_, h.root, rfl, rfl, Nat.le_refl _⟩⟩
  | n + 1, x, hn, hx, hm, hk => by
    obtain ⟨y, b, rfl, hy⟩ := snoc_of hn
    have hyl : Ltr k y := fun a ha => hx a (by simp [ha])
    obtain ⟨c, rfl⟩ : ∃ c, b = 97 + c := ⟨b - 97, by have := hx b (by simp); omega⟩
    have hc : c < k := by have := hx (97 + c) (by simp); omega
    rw [key_app] at hk ⊢
    obtain ⟨i1, i2⟩ := PI.pre hk4 h hB n y hy hyl (by omega) (by omega)
    have hx1 : dst u w (y ++ [97 + c]) = (decide (0 ≤ rch u (y ++ [97 + c])) != decide (0 ≤ rch w (y ++ [97 + c]))) := by unfold dst; rw [rch_is, rch_is]
    have hy1 : dst u w y = (decide (0 ≤ rch u y) != decide (0 ≤ rch w y)) := by unfold dst; rw [rch_is, rch_is]
    rw [hy1] at i1
    rw [hx1, rch_app, rch_app]
    by_cases h0 : 0 ≤ rch u y
    · have h0w : 0 ≤ rch w y := by simpa [h0] using i1
      obtain ⟨e, he, e1, e2, e3⟩ := i2 h0
      obtain ⟨m, hmR, rfl⟩ := List.getElem_of_mem he
      have hmq := hB m hmR (by omega)
      have hlen := key_len ((h.en.lt _ he).four hk4) (hyl.four hk4) e3
      obtain ⟨e', he', f1, f2, f3⟩ := h.cl m hmR hmq (by rw [e1]; omega) c hc
      rw [e1] at f1
      rw [e2] at f2
      have g1 : rchS u (rch u y) (97 + c) = e'.a := by unfold rchS; rw [if_neg (by omega), f1]
      have g2 : rchS w (rch w y) (97 + c) = e'.b := by unfold rchS; rw [if_neg (by omega), f2]
      rw [g1, g2]
      refine ⟨?_, fun _ => ⟨e', he', rfl, rfl, by omega⟩⟩
      obtain ⟨m', hm', rfl⟩ := List.getElem_of_mem he'
      have hd := h.no m' hm' (hB m' hm' (by omega))
      unfold dif at hd
      by_cases a1 : (R[m']).a < 0 <;> by_cases a2 : (R[m']).b < 0 <;> simp [a1, a2] at hd ⊢ <;> omega
    · have h0w : ¬ 0 ≤ rch w y := by simpa [h0] using i1
      have g1 : rchS u (rch u y) (97 + c) = -1 := by unfold rchS; rw [if_pos (by omega)]
      have g2 : rchS w (rch w y) (97 + c) = -1 := by unfold rchS; rw [if_pos (by omega)]
      rw [g1, g2]
      exact ⟨rfl, fun h => absurd h (by decide)⟩
/-- The range of the entries, and that no two are alike. -/
structure RkOk (u w : List Nat) (M : Nat) (R : List Rn) : Prop where
  rng : ∀ r ∈ R, -1 ≤ r.a ∧ r.a ≤ u.length ∧ -1 ≤ r.b ∧ r.b ≤ w.length ∧ r.wd.length ≤ M
  nd : R.Pairwise (fun x y => ¬ (x.a = y.a ∧ x.b = y.b))
theorem RkOk.start (u w : List Nat) (M : Nat) : RkOk u w M [⟨0, 0, []⟩] := ⟨fun r hr => by rw [List.mem_singleton] at hr; subst hr; simp, by simp⟩
theorem RkOk.size {u w : List Nat} {M : Nat} {R : List Rn} (h : RkOk u w M R) (hu : u.length ≤ 60) (hw : w.length ≤ 244) : R.length ≤ 15252 := by
  have h1 := nodup_le (R.map fun r => ((r.a + 1).toNat) * 246 + (r.b + 1).toNat) (List.range 15252) (by
    rw [List.pairwise_map]
    refine h.nd.imp_of_mem fun {a b} ha hb hab e => hab ?_
    have := h.rng a ha; have := h.rng b hb
    omega) (fun x hx => by
    obtain ⟨e, he, rfl⟩ := List.mem_map.1 hx
    have := h.rng e he
    exact List.mem_range.2 (by omega))
  simpa using h1
theorem RkOk.add {u w : List Nat} {M : Nat} {R : List Rn} (h : RkOk u w M R) {p : Ent} {c : Nat} (hp : p.i ≤ u.length ∧ p.j ≤ w.length ∧ p.wd.length + 1 ≤ M) : RkOk u w M (addK R (kid u w p c)) := by
  unfold addK
  split
  · exact h
  · rename_i hn
    refine ⟨fun r hr => ?_, ?_⟩
    · rcases List.mem_append.1 hr with hr | hr
      · exact h.rng r hr
      · rw [List.mem_singleton] at hr
        subst hr
        have h1 := nx_le u p.i (97 + c) hp.1
        have h2 := nx_le w p.j (97 + c) hp.2.1
        unfold kid nxP
        refine ⟨?_, ?_, ?_, ?_, ?_⟩
        · dsimp only; split <;> omega
        · dsimp only; split <;> omega
        · dsimp only; split <;> omega
        · dsimp only; split <;> omega
        · simp; omega
    · rw [List.pairwise_append]
      refine ⟨h.nd, by simp, fun a ha b hb e => hn ?_⟩
      rw [List.mem_singleton] at hb
      subst hb
      exact List.any_eq_true.2 ⟨a, ha, by simp [e.1, e.2]⟩
theorem RkOk.kids {u w : List Nat} {M : Nat} {p : Ent} (hp : p.i ≤ u.length ∧ p.j ≤ w.length ∧ p.wd.length + 1 ≤ M) : ∀ (cs : List Nat) (R : List Rn), RkOk u w M R → RkOk u w M (kids u w p cs R)
  | [], R, h => h
  | c :: cs, R, h => RkOk.kids hp cs _ (h.add hp)
/-- The first word that tells two words apart. -/
structure First (u w : List Nat) (k most : Nat) (r : List Nat) : Prop where
  ltr : Ltr k r
  dst : dst u w r = true
  fst : ∀ x, Ltr k x → x.length ≤ most → X.dst u w x = true → key r ≤ key x
theorem part_spec {u w : List Nat} {k most : Nat} (hk4 : k ≤ 4) (hu : u.length ≤ 60) (hw : w.length ≤ 244) : ∀ (f q : Nat) (R : List Rn), PI u w k most q R → RkOk u w most R → q ≤ R.length → 15252 < f + q →
    (∃ r, partK u w k most f q R = some r ∧ First u w k most r) ∨ (partK u w k most f q R = none ∧ ∀ x, Ltr k x → x.length ≤ most → dst u w x = false)
  | 0, q, R, h, hO, hq, hf => by have := hO.size hu hw; omega
  | f + 1, q, R, h, hO, hq, hf => by
    unfold partK
    by_cases hlt : q < R.length
    · rw [List.getElem?_eq_getElem hlt]
      dsimp only
      cases hd : dif R[q] with
      | true =>
        left
        rw [if_pos rfl]
        have hm := List.getElem_mem hlt
        have hst := h.en.st _ hm
        refine ⟨_, rfl, h.en.lt _ hm, by rw [← dif_dst hst.1 hst.2, hd], fun x hx hxm hxd => ?_⟩
        rcases Nat.lt_or_ge (key x) (key (R[q]).wd) with hk | hk
        · exfalso
          have := (h.pre hk4 (B := key (R[q]).wd) (fun m hm hk => by
            rcases Nat.lt_or_ge m q with h1 | h1
            · exact h1
            · exfalso
              by_cases e : m = q
              · subst e; omega
              · have := List.pairwise_iff_getElem.1 h.en.srt q m hlt hm (by omega)
                omega) _ x rfl hx hxm hk).1
          rw [this] at hxd
          cases hxd
        · exact hk
      | false =>
        rw [if_neg (by decide)]
        have hs := h.step hk4 hlt hd
        have hrg := hO.rng _ (List.getElem_mem hlt)
        by_cases ho : most ≤ (R[q]).wd.length ∨ (R[q]).a < 0
        · rw [if_pos ho] at hs ⊢
          exact part_spec hk4 hu hw f (q + 1) R hs hO (by omega) (by omega)
        · rw [if_neg ho] at hs ⊢
          obtain ⟨S, hS⟩ := kids_pre u w ⟨(R[q]).a.toNat, (R[q]).b.toNat, (R[q]).wd⟩ (List.range k) R
          exact part_spec hk4 hu hw f (q + 1) _ hs (RkOk.kids (p := ⟨(R[q]).a.toNat, (R[q]).b.toNat, (R[q]).wd⟩) ⟨by dsimp only; omega, by dsimp only; omega, by dsimp only; omega⟩ _ R hO) (by rw [hS, List.length_append]; omega) (by omega)
    · right
      have hqe : q = R.length := by omega
      rw [List.getElem?_eq_none (by omega)]
      refine ⟨rfl, fun x hx hxm => (h.pre hk4 (B := key x + 1) (fun m hm _ => by omega) _ x rfl hx hxm (by omega)).1⟩
end Go.Proofs.Ytagdbadljcongaa.X
end

section
/- What the word that tells two words apart is, and words about them. -/
set_option linter.unusedVariables false
set_option linter.unusedSimpArgs false
namespace Go.Proofs.Ytagdbadljcongaa.X
open Go.RowKit Go.Proofs.YtagdbadljcongaaW.PrintWords
theorem wth_sub0 (l u : List Nat) : (wth l 0 u).isSome = true ↔ u.Sublist l := by
  have h := wth_sub l u 0 (Nat.zero_le _)
  rwa [List.drop_zero] at h
theorem dst_iff (u w x : List Nat) : dst u w x = false ↔ (x.Sublist u ↔ x.Sublist w) := by
  rw [← wth_sub0, ← wth_sub0]
  unfold dst
  cases (wth u 0 x).isSome <;> cases (wth w 0 x).isSome <;> simp
theorem diff_first {u w r : List Nat} (hu : u.length ≤ 60) (hw : w.length ≤ 60) (h : diffW u w = some r) : First u w 4 61 r := by
  have h1 := part_spec (u := u) (w := w) (k := 4) (most := 61) (Nat.le_refl _) hu (by omega) 20000 0 _ (PI.start u w 4 61) (RkOk.start u w 61) (Nat.zero_le _) (by omega)
  rw [partK4, part_diff hu hw (Nat.le_refl _) 20000 (by omega), h] at h1
  rcases h1 with ⟨r2, e, h2⟩ | ⟨e, _⟩
  · injection e with e
    subst e
    exact h2
  · cases e
theorem First.less {u w r x : List Nat} {k most : Nat} (h : First u w k most r) (hk4 : k ≤ 4) (hx : Ltr k x) (hm : x.length ≤ most) (hl : x.length < r.length) : X.dst u w x = false := by
  cases e : X.dst u w x with
  | false => rfl
  | true =>
    have := key_len (h.ltr.four hk4) (hx.four hk4) (h.fst x hx hm e)
    omega
theorem ltr4 {u : List Nat} (h : ∀ b ∈ u, 97 ≤ b ∧ b ≤ 100) : Ltr 4 u := fun b hb => by have := h b hb; omega
theorem dst_ex {u w : List Nat} (hu : Ltr 4 u) (hw : Ltr 4 w) (hne : u ≠ w) : ∃ x, Ltr 4 x ∧ x.length ≤ 1 + min u.length w.length ∧ dst u w x = true := by
  have key : ∀ u w : List Nat, Ltr 4 u → Ltr 4 w → u ≠ w → u.length ≤ w.length → ∃ x, Ltr 4 x ∧ x.length ≤ 1 + u.length ∧ ¬ (x.Sublist u ↔ x.Sublist w) := by
    intro u w hu hw hne hl
    by_cases hs : u.Sublist w
    · refine ⟨w.take (u.length + 1), fun b hb => hw b (List.mem_of_mem_take hb), by rw [List.length_take]; omega, fun h => ?_⟩
      have h1 := (h.2 (List.take_sublist _ _)).length_le
      rw [List.length_take] at h1
      exact hne (hs.eq_of_length (by omega))
    · exact ⟨u, hu, by omega, fun h => hs (h.1 (List.Sublist.refl _))⟩
  rcases Nat.le_total u.length w.length with h | h
  · obtain ⟨x, h1, h2, h3⟩ := key u w hu hw hne h
    refine ⟨x, h1, by omega, ?_⟩
    rw [← Bool.not_eq_false, dst_iff]; exact h3
  · obtain ⟨x, h1, h2, h3⟩ := key w u hw hu hne.symm h
    refine ⟨x, h1, by omega, ?_⟩
    rw [← Bool.not_eq_false, dst_iff]; exact fun h => h3 h.symm
theorem First.len {u w r : List Nat} (h : First u w 4 61 r) (hu : Ltr 4 u) (hw : Ltr 4 w) (hl : min u.length w.length ≤ 60) (hne : u ≠ w) : r.length ≤ 1 + min u.length w.length := by
  obtain ⟨x, h1, h2, h3⟩ := dst_ex hu hw hne
  have := key_len h.ltr h1 (h.fst x h1 (by omega) h3)
  omega
theorem ctx_sub {u w x : List Nat} {n : Nat} (a b : List Nat) (h : ∀ x, Ltr 4 x → x.length ≤ n → (x.Sublist u → x.Sublist w)) (hx : Ltr 4 x) (hn : x.length ≤ n) : x.Sublist (a ++ u ++ b) → x.Sublist (a ++ w ++ b) := by
  intro hs
  obtain ⟨y, z, rfl, h1, h2⟩ := List.sublist_append_iff.1 hs
  obtain ⟨p, q, rfl, h3, h4⟩ := List.sublist_append_iff.1 h1
  have hq := h q (fun b hb => hx b (by simp [hb])) (by simp at hn; omega) h4
  exact (h3.append hq).append h2
theorem dst_ctx {u w : List Nat} {n : Nat} (a b : List Nat) (h : ∀ x, Ltr 4 x → x.length ≤ n → dst u w x = false) (x : List Nat) (hx : Ltr 4 x) (hn : x.length ≤ n) : dst (a ++ u ++ b) (a ++ w ++ b) x = false := by
  rw [dst_iff]
  exact ⟨ctx_sub a b (fun x hx hn => ((dst_iff _ _ _).1 (h x hx hn)).1) hx hn, ctx_sub a b (fun x hx hn => ((dst_iff _ _ _).1 (h x hx hn)).2) hx hn⟩
/-- What Same answers in a context. -/
theorem diff_ctx {u w a b r r2 : List Nat} {n : Nat} (hu : u.length ≤ 60) (hw : w.length ≤ 60) (h1 : (a ++ u ++ b).length ≤ 60) (h2 : (a ++ w ++ b).length ≤ 60) (hd : diffW u w = some r) (hd2 : diffW (a ++ u ++ b) (a ++ w ++ b) = some r2) (hn : n ≤ 60) (h : n < r.length) : n < r2.length := by
  rcases Nat.lt_or_ge n r2.length with h3 | h3
  · exact h3
  · exfalso
    have f1 := diff_first hu hw hd
    have f2 := diff_first h1 h2 hd2
    have := dst_ctx (n := n) a b (fun x hx hxn => f1.less (Nat.le_refl _) hx (by omega) (by omega)) r2 f2.ltr h3
    rw [f2.dst] at this
    cases this
end Go.Proofs.Ytagdbadljcongaa.X
end

section
/- The law ThreadCongruent, walked. -/
set_option linter.unusedVariables false
set_option linter.unusedSimpArgs false
namespace Go.Proofs.Ytagdbadljcongaa.X
open Go Go.RowKit Go.Proofs Go.Proofs.YtagdbadljcongaaW.PrintWords Go.Proofs.YtagdbadljcongaaW.PrintLast Go.Proofs.YtagdbadljcongaaW.PrintMore
theorem same_v (u s : ByteArray) (n : Nat) (W : World) (hu : isW (bl u) = true) (hs : isW (bl s) = true) (hne : u ≠ s) (r : List Nat) (hr : diffW (bl u) (bl s) = some r) (q : Bool) (hq : decide (n < r.length) = q) : Calls Try.prog 29 #[.string u, .string s, .int .i64 (n : Int)] W fun e w' => e = .returned (.tuple #[.bool q, .int .i64 0]) ∧ Below W.heap.size W w' := by
  refine (Same_ok u s (n : Int) W hu hs hne (by omega) (some r) hr).mono ?_
  rintro e w' ⟨rfl, hb⟩
  refine ⟨?_, hb⟩
  rw [← hq]
  simp
theorem differ_v (u s : ByteArray) (W : World) (hu : isW (bl u) = true) (hs : isW (bl s) = true) (hne : u ≠ s) (r : List Nat) (hr : diffW (bl u) (bl s) = some r) : Calls Try.prog 28 #[.string u, .string s] W fun e w' => ∃ o, bl o = r ∧ e = .returned (.tuple #[.string o, .int .i64 0]) ∧ Below W.heap.size W w' := by
  refine (Differ_ok u s W hu hs hne (some r) hr).mono ?_
  rintro e w' ⟨o, h1, h2, h3⟩
  exact ⟨o, h1, h2, h3⟩
theorem toList_ne {u s : ByteArray} (h : u ≠ s) : ¬ u.toList = s.toList := fun e => h (toList_inj e)
theorem isW_app3 {a u b : ByteArray} (ha : Tame a 20 3) (hu : Tame u 20 3) (hb : Tame b 20 3) : isW (bl (a ++ u ++ b)) = true := by
  rw [bl_append, bl_append]
  refine (isW_iff _).2 ⟨?_, fun c hc => ?_⟩
  · have := ha.size; have := hu.size; have := hb.size
    rw [List.length_append, List.length_append, bl_length, bl_length, bl_length]; omega
  · rcases List.mem_append.1 hc with h | h
    · rcases List.mem_append.1 h with h | h
      · have := ha.let_ c h; omega
      · have := hu.let_ c h; omega
    · have := hb.let_ c h; omega
set_option maxHeartbeats 8000000 in
set_option maxRecDepth 1000000 in
theorem ThreadCongruent_calls (a0 a1 a2 a3 : ByteArray) (n : Int) (w : World) : Calls Try.prog 9 #[.agg #[.string a0, .string a1, .string a2, .string a3], .int .i64 n] w fun e w' => e = .returned (.bool true) ∧ Below w.heap.size w w' := by
  have TA := Aside0.mk (fun (s : ByteArray) W => show Calls Try.prog 26 #[.string s, .int .i64 20, .int .i64 3] W fun e w' => ∃ x, e = .returned (.string x) ∧ Aside0 (Tame x 20 3) ∧ Below W.heap.size W w' from tame_any s 20 3 W (by decide) (by decide) (by decide))
  have MD := Aside0.mk (fun W => show Calls Try.prog 31 #[.int .i64 n, .int .i64 6] W fun e w' => ∃ r : Nat, e = .returned (.int .i64 (r : Int)) ∧ r < 6 ∧ Drawn0 W w' from mod_any n 6 W (by decide) (by decide))
  go_enter Try.func9, Try.ntmps9
  go_upto_region 1 with (fail)
  have hbx : (w.alloc (.cells #[.string a0, .string a1, .string a2, .string a3] 55)).heap[w.heap.size]? = some (.cells #[.string a0, .string a1, .string a2, .string a3] 55 (0, 0)) := blk_new w _
  have HBW := Aside0.mk (show Below w.heap.size w (w.alloc (.cells #[.string a0, .string a1, .string a2, .string a3] 55)) from below_alloc (Below.refl _ _) _)
  obtain ⟨W0, hW0⟩ : ∃ W0, w.alloc (.cells #[.string a0, .string a1, .string a2, .string a3] 55) = W0 := ⟨_, rfl⟩
  rw [hW0] at hbx HBW ⊢
  clear hW0
  have HSW := Aside0.mk (fun (w' : World) (hb : Below W0.heap.size W0 w') => show w'.cell? ⟨w.heap.size, 0, none⟩ = some (.string a0) ∧ w'.cell? ⟨w.heap.size, 1, none⟩ = some (.string a1) ∧ w'.cell? ⟨w.heap.size, 2, none⟩ = some (.string a2) ∧ w'.cell? ⟨w.heap.size, 3, none⟩ = some (.string a3) from
    ⟨(blk_cell (blk_below hbx hb) 0).trans rfl, (blk_cell (blk_below hbx hb) 1).trans rfl, (blk_cell (blk_below hbx hb) 2).trans rfl, (blk_cell (blk_below hbx hb) 3).trans rfl⟩)
  have HB0 := Aside0.mk (show Below W0.heap.size W0 W0.drew from below_drew (Below.refl _ _))
  clear hbx
  refine start_ (n := 16) (S := fun w' => w'.cell? ⟨w.heap.size, 0, none⟩ = some (.string a0) ∧ w'.cell? ⟨w.heap.size, 1, none⟩ = some (.string a1) ∧ w'.cell? ⟨w.heap.size, 2, none⟩ = some (.string a2) ∧ w'.cell? ⟨w.heap.size, 3, none⟩ = some (.string a3)) (ds := [12, 13, 14, 15]) #[false, false, false, false, false, false, false, false, false, false, false, false, false, false, false, false] (by kernel_rfl) rfl rfl (HSW.out _ HB0.out) (fun hHeld => ?_)
  refine pure_ (i := 0) (N := (some 22)) (v := ?_) (a' := ?_) #[true, false, false, false, false, false, false, false, false, false, false, false, false, false, false, false] rfl rfl (by kernel_rfl) (fun _ _ _ h => h) (Or.inl ⟨by rfl, ?_⟩) ?_ ?_
  rotate_left
  · intro w'
    go_simp
    with_reducible rfl
  rotate_left
  · simp only [Act.put, List.setIfInBounds_toArray, List.set_cons_zero, List.set_cons_succ, i64_w, i32_w]
    rfl
  refine take_ (i := 1) (N := (some 23)) (v := ?_) (a' := ?_) #[true, true, false, false, false, false, false, false, false, false, false, false, false, false, false, false] rfl rfl (by kernel_rfl) (fun _ _ _ h => h) (Or.inl ⟨by rfl, ?_⟩) hHeld ?_ ?_
  rotate_left
  · rintro w' ⟨s0, s1, s2, s3⟩
    go_simp
    with_reducible rfl
  rotate_left
  · simp only [Act.put, List.setIfInBounds_toArray, List.set_cons_zero, List.set_cons_succ, i64_w, i32_w]
    rfl
  refine pure_ (i := 3) (N := (some 25)) (v := ?_) (a' := ?_) #[true, true, false, true, false, false, false, false, false, false, false, false, false, false, false, false] rfl rfl (by kernel_rfl) (fun _ _ _ h => h) (Or.inl ⟨by rfl, ?_⟩) ?_ ?_
  rotate_left
  · intro w'
    go_simp
    with_reducible rfl
  rotate_left
  · simp only [Act.put, List.setIfInBounds_toArray, List.set_cons_zero, List.set_cons_succ, i64_w, i32_w]
    rfl
  refine take_ (i := 4) (N := (some 26)) (v := ?_) (a' := ?_) #[true, true, false, true, true, false, false, false, false, false, false, false, false, false, false, false] rfl rfl (by kernel_rfl) (fun _ _ _ h => h) (Or.inl ⟨by rfl, ?_⟩) hHeld ?_ ?_
  rotate_left
  · rintro w' ⟨s0, s1, s2, s3⟩
    go_simp
    with_reducible rfl
  rotate_left
  · simp only [Act.put, List.setIfInBounds_toArray, List.set_cons_zero, List.set_cons_succ, i64_w, i32_w]
    rfl
  refine pure_ (i := 6) (N := (some 28)) (v := ?_) (a' := ?_) #[true, true, false, true, true, false, true, false, false, false, false, false, false, false, false, false] rfl rfl (by kernel_rfl) (fun _ _ _ h => h) (Or.inl ⟨by rfl, ?_⟩) ?_ ?_
  rotate_left
  · intro w'
    go_simp
    with_reducible rfl
  rotate_left
  · simp only [Act.put, List.setIfInBounds_toArray, List.set_cons_zero, List.set_cons_succ, i64_w, i32_w]
    rfl
  refine take_ (i := 7) (N := (some 29)) (v := ?_) (a' := ?_) #[true, true, false, true, true, false, true, true, false, false, false, false, false, false, false, false] rfl rfl (by kernel_rfl) (fun _ _ _ h => h) (Or.inl ⟨by rfl, ?_⟩) hHeld ?_ ?_
  rotate_left
  · rintro w' ⟨s0, s1, s2, s3⟩
    go_simp
    with_reducible rfl
  rotate_left
  · simp only [Act.put, List.setIfInBounds_toArray, List.set_cons_zero, List.set_cons_succ, i64_w, i32_w]
    rfl
  refine pure_ (i := 9) (N := (some 31)) (v := ?_) (a' := ?_) #[true, true, false, true, true, false, true, true, false, true, false, false, false, false, false, false] rfl rfl (by kernel_rfl) (fun _ _ _ h => h) (Or.inl ⟨by rfl, ?_⟩) ?_ ?_
  rotate_left
  · intro w'
    go_simp
    with_reducible rfl
  rotate_left
  · simp only [Act.put, List.setIfInBounds_toArray, List.set_cons_zero, List.set_cons_succ, i64_w, i32_w]
    rfl
  refine take_ (i := 10) (N := (some 32)) (v := ?_) (a' := ?_) #[true, true, false, true, true, false, true, true, false, true, true, false, false, false, false, false] rfl rfl (by kernel_rfl) (fun _ _ _ h => h) (Or.inl ⟨by rfl, ?_⟩) hHeld ?_ ?_
  rotate_left
  · rintro w' ⟨s0, s1, s2, s3⟩
    go_simp
    with_reducible rfl
  rotate_left
  · simp only [Act.put, List.setIfInBounds_toArray, List.set_cons_zero, List.set_cons_succ, i64_w, i32_w]
    rfl
  refine one_ (i := 2) (N := (some 24)) #[true, true, true, true, true, false, true, true, false, true, true, false, false, false, false, false] rfl rfl (by kernel_rfl) (by decide) (fun K hK => ?_)
  refine goes_ Try.func26 (by kernel_rfl) rfl #[.string a0, .int .i64 20, .int .i64 3] (by rfl) rfl rfl (by (try simp only [List.map_toArray, List.map_cons, List.map_nil]); first | done | rfl) ?_
  refine (TA.out a0 _).mono ?_
  rintro e w1 ⟨u, rfl, HU, hb⟩
  refine ⟨_, rfl, ?_⟩
  have HB1 := Aside0.mk (below_step HB0.out hb)
  refine hK.out _ _ (HSW.out _ HB1.out) (fun hHeld => ?_)
  clear hK K
  refine norm_ (a' := ?_) ?_ ?_
  rotate_left
  · show Act.put _ (some 24) _ = _
    simp only [Act.put, List.setIfInBounds_toArray, List.set_cons_zero, List.set_cons_succ, i64_w, i32_w]
    rfl
  clear hb
  refine one_ (i := 5) (N := (some 27)) #[true, true, true, true, true, true, true, true, false, true, true, false, false, false, false, false] rfl rfl (by kernel_rfl) (by decide) (fun K hK => ?_)
  refine goes_ Try.func26 (by kernel_rfl) rfl #[.string a1, .int .i64 20, .int .i64 3] (by rfl) rfl rfl (by (try simp only [List.map_toArray, List.map_cons, List.map_nil]); first | done | rfl) ?_
  refine (TA.out a1 _).mono ?_
  rintro e w2 ⟨s, rfl, HS, hb⟩
  refine ⟨_, rfl, ?_⟩
  have HB2 := Aside0.mk (below_step HB1.out hb)
  refine hK.out _ _ (HSW.out _ HB2.out) (fun hHeld => ?_)
  clear hK K
  refine norm_ (a' := ?_) ?_ ?_
  rotate_left
  · show Act.put _ (some 27) _ = _
    simp only [Act.put, List.setIfInBounds_toArray, List.set_cons_zero, List.set_cons_succ, i64_w, i32_w]
    rfl
  clear hb
  refine one_ (i := 8) (N := (some 30)) #[true, true, true, true, true, true, true, true, true, true, true, false, false, false, false, false] rfl rfl (by kernel_rfl) (by decide) (fun K hK => ?_)
  refine goes_ Try.func26 (by kernel_rfl) rfl #[.string a2, .int .i64 20, .int .i64 3] (by rfl) rfl rfl (by (try simp only [List.map_toArray, List.map_cons, List.map_nil]); first | done | rfl) ?_
  refine (TA.out a2 _).mono ?_
  rintro e w3 ⟨a, rfl, HA, hb⟩
  refine ⟨_, rfl, ?_⟩
  have HB3 := Aside0.mk (below_step HB2.out hb)
  refine hK.out _ _ (HSW.out _ HB3.out) (fun hHeld => ?_)
  clear hK K
  refine norm_ (a' := ?_) ?_ ?_
  rotate_left
  · show Act.put _ (some 30) _ = _
    simp only [Act.put, List.setIfInBounds_toArray, List.set_cons_zero, List.set_cons_succ, i64_w, i32_w]
    rfl
  clear hb
  refine one_ (i := 11) (N := (some 33)) #[true, true, true, true, true, true, true, true, true, true, true, true, false, false, false, false] rfl rfl (by kernel_rfl) (by decide) (fun K hK => ?_)
  refine goes_ Try.func26 (by kernel_rfl) rfl #[.string a3, .int .i64 20, .int .i64 3] (by rfl) rfl rfl (by (try simp only [List.map_toArray, List.map_cons, List.map_nil]); first | done | rfl) ?_
  refine (TA.out a3 _).mono ?_
  rintro e w4 ⟨b, rfl, HB, hb⟩
  refine ⟨_, rfl, ?_⟩
  have HB4 := Aside0.mk (below_step HB3.out hb)
  refine hK.out _ _ (HSW.out _ HB4.out) (fun hHeld => ?_)
  clear hK K
  refine norm_ (a' := ?_) ?_ ?_
  rotate_left
  · show Act.put _ (some 33) _ = _
    simp only [Act.put, List.setIfInBounds_toArray, List.set_cons_zero, List.set_cons_succ, i64_w, i32_w]
    rfl
  clear hb
  refine pure_ (i := 12) (N := (some 5)) (v := ?_) (a' := ?_) #[true, true, true, true, true, true, true, true, true, true, true, true, true, false, false, false] rfl rfl (by kernel_rfl) (fun _ _ _ h => h) (Or.inl ⟨by rfl, ?_⟩) ?_ ?_
  rotate_left
  · intro w'
    go_simp
    with_reducible rfl
  rotate_left
  · simp only [Act.put, List.setIfInBounds_toArray, List.set_cons_zero, List.set_cons_succ, i64_w, i32_w]
    rfl
  refine pure_ (i := 13) (N := (some 6)) (v := ?_) (a' := ?_) #[true, true, true, true, true, true, true, true, true, true, true, true, true, true, false, false] rfl rfl (by kernel_rfl) (fun _ _ _ h => h) (Or.inl ⟨by rfl, ?_⟩) ?_ ?_
  rotate_left
  · intro w'
    go_simp
    with_reducible rfl
  rotate_left
  · simp only [Act.put, List.setIfInBounds_toArray, List.set_cons_zero, List.set_cons_succ, i64_w, i32_w]
    rfl
  refine pure_ (i := 14) (N := (some 7)) (v := ?_) (a' := ?_) #[true, true, true, true, true, true, true, true, true, true, true, true, true, true, true, false] rfl rfl (by kernel_rfl) (fun _ _ _ h => h) (Or.inl ⟨by rfl, ?_⟩) ?_ ?_
  rotate_left
  · intro w'
    go_simp
    with_reducible rfl
  rotate_left
  · simp only [Act.put, List.setIfInBounds_toArray, List.set_cons_zero, List.set_cons_succ, i64_w, i32_w]
    rfl
  refine pure_ (i := 15) (N := (some 8)) (v := ?_) (a' := ?_) #[true, true, true, true, true, true, true, true, true, true, true, true, true, true, true, true] rfl rfl (by kernel_rfl) (fun _ _ _ h => h) (Or.inl ⟨by rfl, ?_⟩) ?_ ?_
  rotate_left
  · intro w'
    go_simp
    with_reducible rfl
  rotate_left
  · simp only [Act.put, List.setIfInBounds_toArray, List.set_cons_zero, List.set_cons_succ, i64_w, i32_w]
    rfl
  refine done_ (by kernel_rfl) ?_
  have HBV := Aside0.mk (show Below w.heap.size w w4 from below_step HBW.out HB4.out)
  clear HB0 HB1 HB2 HB3 HB4 HSW HBW TA
  go_upto_region 3 with (go_at_call 31; (with_reducible refine (MD.out _).mono ?_); rintro e w5 ⟨m, rfl, hm, hd⟩; have HB5 := Aside0.mk (below_step HBV.out hd.below); clear hd)
  clear HBV MD
  have HM := Aside0.mk hm
  clear hm
  have hu20 : u.size ≤ 20 := HU.out.size
  have hs20 : s.size ≤ 20 := HS.out.size
  have ha20 : a.size ≤ 20 := HA.out.size
  have hb20 : b.size ≤ 20 := HB.out.size
  have hau : a.size + u.size ≤ 9223372036854775807 := by omega
  have haub : a.size + u.size + b.size ≤ 9223372036854775807 := by omega
  have has : a.size + s.size ≤ 9223372036854775807 := by omega
  have hasb : a.size + s.size + b.size ≤ 9223372036854775807 := by omega
  have HUW := Aside0.mk (HU.out.isW (by decide) (by decide))
  have HSW := Aside0.mk (HS.out.isW (by decide) (by decide))
  have HPU := Aside0.mk (isW_app3 HA.out HU.out HB.out)
  have HPS := Aside0.mk (isW_app3 HA.out HS.out HB.out)
  by_cases hus : u = s
  · subst hus
    have S1 := Aside0.mk (fun W => show Calls Try.prog 29 #[.string u, .string u, .int .i64 (m : Int)] W fun e w' => e = .returned (.tuple #[.bool true, .int .i64 0]) ∧ Below W.heap.size W w' from Same_same u (m : Int) W HUW.out (by omega))
    have S2 := Aside0.mk (fun W => show Calls Try.prog 29 #[.string (a ++ u ++ b), .string (a ++ u ++ b), .int .i64 (m : Int)] W fun e w' => e = .returned (.tuple #[.bool true, .int .i64 0]) ∧ Below W.heap.size W w' from Same_same (a ++ u ++ b) (m : Int) W HPU.out (by omega))
    clear hs20
    go_wp2_with (first | (go_at_call 29; (with_reducible refine (S1.out _).mono ?_); rintro e w6 ⟨rfl, hb⟩; have HB6 := Aside0.mk (below_step HB5.out hb); clear hb) | (go_at_call 29; (with_reducible refine (S2.out _).mono ?_); rintro e w7 ⟨rfl, hb⟩; have HB7 := Aside0.mk (below_step HB6.out hb); clear hb) | (go_at_call 28; (with_reducible refine (Differ_same u _ HUW.out).mono ?_); rintro e w8 ⟨rfl, hb⟩; have HB8 := Aside0.mk (below_step HB7.out hb); clear hb) | (go_at_call 22; (with_reducible refine (awake_ok _).mono ?_); rintro e w9 ⟨rfl, hb⟩; have HB9 := Aside0.mk (below_step HB8.out hb); clear hb))
    go_ret
    exact ⟨rfl, HB9.out⟩
  · have hl1 : ¬ (u.toList = s.toList) := toList_ne hus
    have hl2 : (u.toList == s.toList) = false := beq_eq_false_iff_ne.mpr hl1
    have hbne : bl u ≠ bl s := fun e => hus (bl_inj e)
    have hne2 : a ++ u ++ b ≠ a ++ s ++ b := fun e => by
      have e2 := congrArg bl e
      rw [bl_append, bl_append, bl_append, bl_append] at e2
      exact hbne (List.append_cancel_left (List.append_cancel_right e2))
    obtain ⟨r, hr⟩ := diff_some HUW.out HSW.out hbne
    obtain ⟨r2, hr2⟩ := diff_some HPU.out HPS.out (fun e => hne2 (bl_inj e))
    have HF := Aside0.mk (diff_first ((isW_iff _).1 HUW.out).1 ((isW_iff _).1 HSW.out).1 hr)
    obtain ⟨q, hq⟩ : ∃ q, decide (m < r.length) = q := ⟨_, rfl⟩
    obtain ⟨q2, hq2⟩ : ∃ q2, decide (m < r2.length) = q2 := ⟨_, rfl⟩
    have HQ := Aside0.mk (show q = true → q2 = true from fun h => by
      rw [← hq2]
      rw [h] at hq
      have hr2' := hr2
      rw [bl_append, bl_append, bl_append, bl_append] at hr2'
      have hp := ((isW_iff _).1 HPU.out).1
      have hp2 := ((isW_iff _).1 HPS.out).1
      rw [bl_append, bl_append] at hp hp2
      exact decide_eq_true (diff_ctx ((isW_iff _).1 HUW.out).1 ((isW_iff _).1 HSW.out).1 hp hp2 hr hr2' (by have := HM.out; omega) (of_decide_eq_true hq)))
    have hlen := HF.out.len (ltr4 ((isW_iff _).1 HUW.out).2) (ltr4 ((isW_iff _).1 HSW.out).2) (by rw [bl_length, bl_length]; omega) hbne
    rw [bl_length, bl_length] at hlen
    have HLEN := Aside0.mk hlen
    have S1 := Aside0.mk (fun W => same_v u s m W HUW.out HSW.out hus r hr q hq)
    have S2 := Aside0.mk (fun W => same_v (a ++ u ++ b) (a ++ s ++ b) m W HPU.out HPS.out hne2 r2 hr2 q2 hq2)
    have DF := Aside0.mk (fun W => differ_v u s W HUW.out HSW.out hus r hr)
    have SL := Aside0.mk (fun (j : Nat) (q : Bool) (hq : decide (j < r.length) = q) W => same_v u s j W HUW.out HSW.out hus r hr q hq)
    clear hq hq2 hr hr2 hlen hne2 hus hl1 hbne
    have hl1 : ¬ (u.toList = s.toList) := fun e => by rw [e] at hl2; simp at hl2
    have hqq := HQ.out
    cases q <;> cases q2
    case true.false => exact absurd (hqq rfl) (by decide)
    all_goals
      clear hqq HQ
      go_upto_region 10 with (first | (go_at_call 29; (with_reducible refine (S1.out _).mono ?_); rintro e w6 ⟨rfl, hb⟩; have HB6 := Aside0.mk (below_step HB5.out hb); clear hb) | (go_at_call 29; (with_reducible refine (S2.out _).mono ?_); rintro e w7 ⟨rfl, hb⟩; have HB7 := Aside0.mk (below_step HB6.out hb); clear hb) | (go_at_call 28; (with_reducible refine (DF.out _).mono ?_); rintro e w8 ⟨o, ho, rfl, hb⟩; have HO := Aside0.mk ho; have HB8 := Aside0.mk (below_step HB7.out hb); clear hb ho))
      have HOS := Aside0.mk (show o.size = r.length by rw [← bl_length, HO.out])
      have hoI : (o.size : Int) ≤ 1 + min (u.size : Int) (s.size : Int) := by have := HLEN.out; have := HOS.out; omega
      have ho21 : (o.size : Int) ≤ 21 := by omega
      have HOW := Aside0.mk (show isW (bl o) = true from (isW_iff _).2 ⟨by rw [bl_length]; omega, fun b hb => by rw [HO.out] at hb; have := HF.out.ltr b hb; omega⟩)
      have hd := HF.out.dst
      rw [← HO.out] at hd
      unfold dst at hd
      have CASES := Aside0.mk (show ((wth (bl u) 0 (bl o)).isSome = true ∧ wth (bl s) 0 (bl o) = none) ∨ (wth (bl u) 0 (bl o) = none ∧ (wth (bl s) 0 (bl o)).isSome = true) by
        cases h1 : wth (bl u) 0 (bl o) <;> cases h2 : wth (bl s) 0 (bl o) <;> rw [h1, h2] at hd <;> simp at hd ⊢)
      clear hd HB5 HB6 HB7
      rcases CASES.out with ⟨h1, h2⟩ | ⟨h1, h2⟩
      case' inl =>
        have W1 := Aside0.mk (fun W => wi_some o u W HOW.out HUW.out h1)
        have W2 := Aside0.mk (fun W => wi_none o s W HOW.out HSW.out h2)
        clear CASES h1 h2
        go_upto_region 14 with (first | (go_at_call 32; (with_reducible refine (W1.out _).mono ?_); rintro e w9 ⟨v9, rfl, hb⟩; have HB9 := Aside0.mk (below_step HB8.out hb); clear hb) | (go_at_call 32; (with_reducible refine (W2.out _).mono ?_); rintro e w10 ⟨rfl, hb⟩; have HB10 := Aside0.mk (below_step HB9.out hb); clear hb))
      case' inr =>
        have W1 := Aside0.mk (fun W => wi_none o u W HOW.out HUW.out h1)
        have W2 := Aside0.mk (fun W => wi_some o s W HOW.out HSW.out h2)
        clear CASES h1 h2
        go_upto_region 14 with (first | (go_at_call 32; (with_reducible refine (W1.out _).mono ?_); rintro e w9 ⟨rfl, hb⟩; have HB9 := Aside0.mk (below_step HB8.out hb); clear hb) | (go_at_call 32; (with_reducible refine (W2.out _).mono ?_); rintro e w10 ⟨v10, rfl, hb⟩; have HB10 := Aside0.mk (below_step HB9.out hb); clear hb))
      all_goals
        clear W1 W2 HB8 HB9 hoI
        go_wp2
        go_loopw [19, 20, 21] (fun v19 v20 v21 wr => ∃ j : Nat, v19 = .int .i64 j ∧ j ≤ o.size + 1 ∧ Aside0 (Below w.heap.size w wr)) (fun v19 _ _ _ => o.size + 1 - (intOf v19).toNat)
        case atStart => exact ⟨0, rfl, by omega, HB10⟩
        case round =>
          clear HB10
          obtain ⟨j, rfl, hj, HBR⟩ := hrel
          by_cases hlt : j ≤ o.size
          · have hltI : (j : Int) ≤ (o.size : Int) := by omega
            have HLT := Aside0.mk hlt
            by_cases hlt2 : j < o.size
            · have hlt2I : (j : Int) < (o.size : Int) := by omega
              have SJ := Aside0.mk (fun W => SL.out j true (decide_eq_true (by have := HOS.out; omega)) W)
              clear hlt hlt2 hj
              go_wp2_with (go_at_call 29; (with_reducible refine (SJ.out _).mono ?_); rintro e w11 ⟨rfl, hb⟩; have HB11 := Aside0.mk (below_step HBR.out hb); clear hb)
              go_roundw
              case rel => exact ⟨j + 1, by go_num, by have := HLT.out; omega, HB11⟩
              case measure => simp [intOf]; have := HLT.out; omega
            · have hlt2I : ¬ ((j : Int) < (o.size : Int)) := by omega
              have SJ := Aside0.mk (fun W => SL.out j false (decide_eq_false (by have := HOS.out; omega)) W)
              clear hlt hlt2 hj
              go_wp2_with (go_at_call 29; (with_reducible refine (SJ.out _).mono ?_); rintro e w11 ⟨rfl, hb⟩; have HB11 := Aside0.mk (below_step HBR.out hb); clear hb)
              go_roundw
              case rel => exact ⟨j + 1, by go_num, by have := HLT.out; omega, HB11⟩
              case measure => simp [intOf]; have := HLT.out; omega
          · have hltI : ¬ ((j : Int) ≤ (o.size : Int)) := by omega
            clear hlt hj
            go_wp2_with (go_at_call 22; (with_reducible refine (awake_ok _).mono ?_); rintro e w12 ⟨rfl, hb⟩; have HB12 := Aside0.mk (below_step HBR.out hb); clear hb)
            go_ret
            exact ⟨rfl, HB12.out⟩
end Go.Proofs.Ytagdbadljcongaa.X
end

section
/- Arguments that are arrays of four strings. -/
set_option linter.unusedVariables false
namespace Go.Proofs.Ytagdbadljcongaa.X
open Go Go.ChangeShapes Go.WideShapes Go.ChangeAt Go.RowKit
section
variable {H : Type} {enc : TypeId × Value → H} {P : Program} {W : World} {base : Nat}
theorem okWide_array4 {r : Reach} {n : Nat} {e : TypeId} {b0 : Nat} {t : TypeId} {v : Value} (ht : P.underlying t = some (.array n e)) (h : Value.okWide P W r b0 t v) : ∃ cs, v = .agg cs ∧ cs.size = P.cellsOf t := by
  simp only [Value.okWide, ht] at h
  cases v <;> simp_all
theorem array4 (T : Array Value) (h : T.size = 4) : ∃ a b c d : Value, T = #[a, b, c, d] := by
  obtain ⟨l⟩ := T
  match l, h with
  | [a, b, c, d], _ => exact ⟨a, b, c, d, rfl⟩
theorem open_as4 {t e : TypeId} {v : Value} {d : DataW H} {p : List MemPlace} (ht : P.underlying t = some (.array 4 e)) (he : P.underlying e = some .string) (ce : P.cellsOf e = 1) (ct : P.cellsOf t = 4)
    (hv : Value.okWide P W .any base t v) (h : DataW.Trod enc P W 0 (fun _ => true) true t v d p) :
    ∃ (x y z u : ByteArray), v = .agg #[.string x, .string y, .string z, .string u] := by
  obtain ⟨cs, rfl, hsz⟩ := okWide_array4 ht hv
  obtain ⟨c0, c1, c2, c3, rfl⟩ := array4 cs (hsz.trans ct)
  obtain ⟨fuel, hf⟩ := h
  obtain ⟨xs, m, _, _, _, hl, hx⟩ := DataW.trod_array ht hf
  have h0 := hx 0 (by omega)
  have h1 := hx 1 (by omega)
  have h2 := hx 2 (by omega)
  have h3 := hx 3 (by omega)
  rw [ce] at h0 h1 h2 h3
  simp only [Value.cells] at h0 h1 h2 h3
  rw [List.getElem?_eq_getElem (by omega)] at h0 h1 h2 h3
  obtain ⟨x, e0, _⟩ := DataW.trod_string he h0
  obtain ⟨y, e1, _⟩ := DataW.trod_string he h1
  obtain ⟨z, e2, _⟩ := DataW.trod_string he h2
  obtain ⟨u, e3, _⟩ := DataW.trod_string he h3
  simp at e0 e1 e2 e3
  subst e0 e1 e2 e3
  exact ⟨x, y, z, u, rfl⟩
end
end Go.Proofs.Ytagdbadljcongaa.X
end
