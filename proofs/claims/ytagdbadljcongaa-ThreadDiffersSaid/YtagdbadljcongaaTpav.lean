/- Texts behind ThreadDiffers, part 22: contracts of the program's functions and the plain words for them. -/
import Derived.Test.YtagdbadljcongaaTpaq
import Derived.Test.YtagdbadljcongaaTpar
import Derived.Test.YtagdbadljcongaaTpau
section
/- The reference's search through pairs of places, and that it finds what the program finds. -/
set_option linter.unusedVariables false
set_option linter.unusedSimpArgs false
namespace Go.Proofs.Ytagdbadljcongaa.X
open Go.RowKit Go.Proofs.YtagdbadljcongaaW.PrintWords
/-- An entry of the reference: a word, and the places behind it in the two words; -1: it is none of their subsequences. -/
structure Rn where
  a : Int
  b : Int
  wd : List Nat
/-- The place behind a letter, or -1. -/
def nxP (l : List Nat) (i c : Nat) : Int := if nx l i c < l.length then ((nx l i c + 1 : Nat) : Int) else -1
def emb (e : Ent) : Rn := ⟨e.i, e.j, e.wd⟩
def dif (r : Rn) : Bool := decide (r.a < 0) != decide (r.b < 0)
def ins (r : Rn) : Bool := decide (0 ≤ r.a) && decide (0 ≤ r.b)
def hasP (R : List Rn) (a b : Int) : Bool := R.any fun r => r.a == a && r.b == b
/-- One letter's child. -/
def kid (u w : List Nat) (p : Ent) (c : Nat) : Rn := ⟨nxP u p.i (97 + c), nxP w p.j (97 + c), p.wd ++ [97 + c]⟩
def addK (R : List Rn) (k : Rn) : List Rn := if hasP R k.a k.b then R else R ++ [k]
def kids (u w : List Nat) (p : Ent) : List Nat → List Rn → List Rn
  | [], R => R
  | c :: cs, R => kids u w p cs (addK R (kid u w p c))
/-- The search: most letters at most. -/
def partF (u w : List Nat) (most : Nat) : Nat → Nat → List Rn → Option (List Nat)
  | 0, _, _ => none
  | f + 1, q, R => match R[q]? with
    | none => none
    | some r => if dif r then some r.wd else if most ≤ r.wd.length ∨ r.a < 0 then partF u w most f (q + 1) R
      else partF u w most f (q + 1) (kids u w ⟨r.a.toNat, r.b.toNat, r.wd⟩ [0, 1, 2, 3] R)
theorem addK_pre (R : List Rn) (k : Rn) : ∃ S, addK R k = R ++ S := by
  unfold addK
  split
  · exact ⟨[], by simp⟩
  · exact ⟨[k], rfl⟩
theorem kids_pre (u w : List Nat) (p : Ent) : ∀ (cs : List Nat) (R : List Rn), ∃ S, kids u w p cs R = R ++ S
  | [], R => ⟨[], by simp [kids]⟩
  | c :: cs, R => by
    obtain ⟨S, hS⟩ := addK_pre R (kid u w p c)
    obtain ⟨S2, hS2⟩ := kids_pre u w p cs (addK R (kid u w p c))
    exact ⟨S ++ S2, by show kids u w p cs (addK R (kid u w p c)) = _; rw [hS2, hS, List.append_assoc]⟩
/-- The first entry that tells the two apart is what is found. -/
theorem part_first (u w : List Nat) (most : Nat) : ∀ (d q f : Nat) (R : List Rn) (r : Rn), R[q + d]? = some r → dif r = true → (∀ m, q ≤ m → m < q + d → ∀ x, R[m]? = some x → dif x = false) → d < f → partF u w most f q R = some r.wd
  | d, q, 0, R, r, h, hr, hb, hf => absurd hf (by omega)
  | 0, q, f + 1, R, r, h, hr, hb, hf => by
    unfold partF
    rw [Nat.add_zero] at h
    rw [h]
    dsimp only
    rw [if_pos hr]
  | d + 1, q, f + 1, R, r, h, hr, hb, hf => by
    unfold partF
    have hlt : q < R.length := by have := (List.getElem?_eq_some_iff.1 h).1; omega
    obtain ⟨x, hx⟩ : ∃ x, R[q]? = some x := ⟨R[q], List.getElem?_eq_getElem hlt⟩
    have hxd := hb q (Nat.le_refl _) (by omega) x hx
    rw [hx]
    dsimp only
    rw [if_neg (by rw [hxd]; decide)]
    have go : ∀ S, partF u w most f (q + 1) (R ++ S) = some r.wd := fun S => by
      have hq := (List.getElem?_eq_some_iff.1 h).1
      refine part_first u w most d (q + 1) f (R ++ S) r (by rw [List.getElem?_append_left (by omega), ← h]; congr 1; omega) hr (fun m h1 h2 y hy => ?_) (by omega)
      rw [List.getElem?_append_left (by omega)] at hy
      exact hb m (by omega) (by omega) y hy
    split
    · have := go []; rwa [List.append_nil] at this
    · obtain ⟨S, hS⟩ := kids_pre u w ⟨x.a.toNat, x.b.toNat, x.wd⟩ [0, 1, 2, 3] R
      rw [hS]; exact go S
/-- The reference's list is the program's queue, and entries that lead nowhere. -/
structure Like (Q : List Ent) (R : List Rn) : Prop where
  eq : R.filter ins = Q.map emb
  no : ∀ r ∈ R, dif r = false
  len : R.length = Q.length + (if hasP R (-1) (-1) then 1 else 0)
theorem nxP_in {l : List Nat} {i c : Nat} (h : nx l i c < l.length) : nxP l i c = ((nx l i c + 1 : Nat) : Int) := by unfold nxP; rw [if_pos h]
theorem nxP_out {l : List Nat} {i c : Nat} (h : ¬ nx l i c < l.length) : nxP l i c = -1 := by unfold nxP; rw [if_neg h]
theorem Like.has {Q : List Ent} {R : List Rn} (h : Like Q R) (i j : Nat) : hasP R (i : Int) (j : Int) = knownB Q i j := by
  rw [Bool.eq_iff_iff, knownB_iff]
  unfold hasP
  rw [List.any_eq_true]
  constructor
  · rintro ⟨r, hr, he⟩
    simp at he
    have hm : r ∈ R.filter ins := List.mem_filter.2 ⟨hr, by unfold ins; rw [he.1, he.2]; simp⟩
    rw [h.eq] at hm
    obtain ⟨e, he1, rfl⟩ := List.mem_map.1 hm
    refine ⟨e, he1, ?_, ?_⟩
    · have := he.1; unfold emb at this; dsimp only at this; omega
    · have := he.2; unfold emb at this; dsimp only at this; omega
  · rintro ⟨e, he, rfl, rfl⟩
    have hm : emb e ∈ R.filter ins := by rw [h.eq]; exact List.mem_map.2 ⟨e, he, rfl⟩
    exact ⟨emb e, (List.mem_filter.1 hm).1, by simp [emb]⟩
theorem Like.out {Q : List Ent} {R : List Rn} (h : Like Q R) (wd : List Nat) : Like Q (addK R ⟨-1, -1, wd⟩) := by
  unfold addK
  split
  · exact h
  · rename_i hn
    refine ⟨by rw [List.filter_append, h.eq]; simp [ins], fun r hr => ?_, ?_⟩
    · rcases List.mem_append.1 hr with hr | hr
      · exact h.no r hr
      · rw [List.mem_singleton] at hr; subst hr; rfl
    · have hl := h.len
      rw [if_neg hn] at hl
      have : hasP (R ++ [⟨-1, -1, wd⟩]) (-1) (-1) = true := by unfold hasP; rw [List.any_append]; simp
      rw [if_pos this, List.length_append, hl]; rfl
theorem Like.push {Q : List Ent} {R : List Rn} (h : Like Q R) (i j : Nat) (wd : List Nat) (hk : knownB Q i j = false) : Like (Q ++ [⟨i, j, wd⟩]) (addK R ⟨i, j, wd⟩) := by
  unfold addK
  rw [if_neg (by show ¬ hasP R (i : Int) (j : Int) = true; rw [h.has, hk]; decide)]
  refine ⟨by rw [List.filter_append, h.eq, List.map_append]; simp [ins, emb], fun r hr => ?_, ?_⟩
  · rcases List.mem_append.1 hr with hr | hr
    · exact h.no r hr
    · rw [List.mem_singleton] at hr
      subst hr
      unfold dif
      simp
      omega
  · have hl := h.len
    have : hasP (R ++ [⟨(i : Int), (j : Int), wd⟩]) (-1) (-1) = hasP R (-1) (-1) := by
      unfold hasP
      rw [List.any_append]
      have : ((i : Int) == -1) = false := beq_eq_false_iff_ne.mpr (by omega)
      simp [this]
    rw [this, List.length_append, List.length_append, hl]
    simp only [List.length_cons, List.length_nil]
    omega
/-- One entry's letters. -/
theorem like_kids (u w : List Nat) (p : Ent) : ∀ (cs : List Nat) (Q : List Ent) (R : List Rn), Like Q R →
    match bfsR u w p cs Q with
    | (none, Q') => Like Q' (kids u w p cs R)
    | (some r, _) => ∃ m x, (kids u w p cs R)[m]? = some x ∧ dif x = true ∧ x.wd = r ∧ R.length ≤ m ∧ m ≤ R.length + cs.length ∧ ∀ m', m' < m → ∀ y, (kids u w p cs R)[m']? = some y → dif y = false
  | [], Q, R, h => h
  | c :: cs, Q, R, h => by
    unfold bfsR
    show match (if _ then _ else _) with
      | (none, Q') => Like Q' (kids u w p cs (addK R (kid u w p c)))
      | (some r, _) => ∃ m x, (kids u w p cs (addK R (kid u w p c)))[m]? = some x ∧ dif x = true ∧ x.wd = r ∧ R.length ≤ m ∧ m ≤ R.length + (cs.length + 1) ∧ ∀ m', m' < m → ∀ y, (kids u w p cs (addK R (kid u w p c)))[m']? = some y → dif y = false
    by_cases h1 : nx u p.i (97 + c) < u.length
    · by_cases h2 : nx w p.j (97 + c) < w.length
      · rw [if_neg (by simp [h1, h2])]
        have hk : kid u w p c = ⟨((nx u p.i (97 + c) + 1 : Nat) : Int), ((nx w p.j (97 + c) + 1 : Nat) : Int), p.wd ++ [97 + c]⟩ := by unfold kid; rw [nxP_in h1, nxP_in h2]
        cases hkn : knownB Q (nx u p.i (97 + c) + 1) (nx w p.j (97 + c) + 1) with
        | false =>
          rw [if_pos ⟨h1, rfl⟩, hk]
          have hL := h.push _ _ (p.wd ++ [97 + c]) hkn
          have ih := like_kids u w p cs _ _ hL
          have hlen : (addK R ⟨((nx u p.i (97 + c) + 1 : Nat) : Int), ((nx w p.j (97 + c) + 1 : Nat) : Int), p.wd ++ [97 + c]⟩).length = R.length + 1 := by
            unfold addK
            rw [if_neg (by rw [h.has, hkn]; decide)]
            simp
          revert ih
          generalize bfsR u w p cs (Q ++ [⟨nx u p.i (97 + c) + 1, nx w p.j (97 + c) + 1, p.wd ++ [97 + c]⟩]) = x
          rcases x with ⟨_ | r, Q'⟩
          · exact fun ih => ih
          · rintro ⟨m, x, i1, i2, i3, i4, i5, i6⟩
            exact ⟨m, x, i1, i2, i3, by omega, by omega, i6⟩
        | true =>
          rw [if_neg (by simp), hk]
          have e : addK R ⟨((nx u p.i (97 + c) + 1 : Nat) : Int), ((nx w p.j (97 + c) + 1 : Nat) : Int), p.wd ++ [97 + c]⟩ = R := by
            unfold addK
            rw [if_pos (by rw [h.has, hkn])]
          rw [e]
          have ih := like_kids u w p cs _ _ h
          revert ih
          generalize bfsR u w p cs Q = x
          rcases x with ⟨_ | r, Q'⟩
          · exact fun ih => ih
          · rintro ⟨m, x, i1, i2, i3, i4, i5, i6⟩
            exact ⟨m, x, i1, i2, i3, by omega, by omega, i6⟩
      · rw [if_pos (by simp [h1, h2])]
        exact like_dif u w p cs R h (kid u w p c) (by unfold kid dif; rw [nxP_in h1, nxP_out h2]; simp; omega) rfl
    · by_cases h2 : nx w p.j (97 + c) < w.length
      · rw [if_pos (by simp [h1, h2])]
        exact like_dif u w p cs R h (kid u w p c) (by unfold kid dif; rw [nxP_out h1, nxP_in h2]; simp; omega) rfl
      · rw [if_neg (by simp [h1, h2]), if_neg (by simp [h1])]
        have hk : kid u w p c = ⟨-1, -1, p.wd ++ [97 + c]⟩ := by unfold kid; rw [nxP_out h1, nxP_out h2]
        rw [hk]
        have hL := h.out (p.wd ++ [97 + c])
        have ih := like_kids u w p cs _ _ hL
        have hlen : R.length ≤ (addK R ⟨-1, -1, p.wd ++ [97 + c]⟩).length ∧ (addK R ⟨-1, -1, p.wd ++ [97 + c]⟩).length ≤ R.length + 1 := by
          unfold addK
          split <;> simp
        revert ih
        generalize bfsR u w p cs Q = x
        rcases x with ⟨_ | r, Q'⟩
        · exact fun ih => ih
        · rintro ⟨m, x, i1, i2, i3, i4, i5, i6⟩
          exact ⟨m, x, i1, i2, i3, by omega, by omega, i6⟩
where
  like_dif (u w : List Nat) (p : Ent) (cs : List Nat) {Q : List Ent} (R : List Rn) (h : Like Q R) (k : Rn) (hk : dif k = true) {r : List Nat} (hr : k.wd = r) : ∃ m x, (kids u w p cs (addK R k))[m]? = some x ∧ dif x = true ∧ x.wd = r ∧ R.length ≤ m ∧ m ≤ R.length + (cs.length + 1) ∧ ∀ m', m' < m → ∀ y, (kids u w p cs (addK R k))[m']? = some y → dif y = false := by
    have e : addK R k = R ++ [k] := by
      unfold addK
      rw [if_neg]
      intro h2
      unfold hasP at h2
      obtain ⟨y, hy, hy2⟩ := List.any_eq_true.1 h2
      simp at hy2
      have := h.no y hy
      unfold dif at this hk
      rw [hy2.1, hy2.2, hk] at this
      cases this
    obtain ⟨S, hS⟩ := kids_pre u w p cs (addK R k)
    rw [hS, e]
    refine ⟨R.length, k, by rw [List.append_assoc, List.getElem?_append_right (Nat.le_refl _)]; simp, hk, hr, Nat.le_refl _, by omega, fun m' hm y hy => ?_⟩
    rw [List.append_assoc, List.getElem?_append_left hm] at hy
    exact h.no y (List.mem_of_getElem? hy)
theorem filter_at {R : List Rn} {n : Nat} {r : Rn} (h : R[n]? = some r) (hp : ins r = true) : (R.filter ins)[((R.take n).filter ins).length]? = some r := by
  obtain ⟨hn, e⟩ := List.getElem?_eq_some_iff.1 h
  have hs : R = R.take n ++ r :: R.drop (n + 1) := by
    rw [← e, ← List.drop_eq_getElem_cons hn, List.take_append_drop]
  have h2 : R.filter ins = (R.take n).filter ins ++ r :: (R.drop (n + 1)).filter ins := by
    conv => lhs; rw [hs]
    rw [List.filter_append, List.filter_cons_of_pos hp]
  rw [h2, List.getElem?_append_right (Nat.le_refl _)]
  simp
theorem filter_take {R : List Rn} {n : Nat} {r : Rn} (h : R[n]? = some r) : (R.take (n + 1)).filter ins = (R.take n).filter ins ++ (if ins r then [r] else []) := by
  obtain ⟨hn, e⟩ := List.getElem?_eq_some_iff.1 h
  rw [List.take_succ_eq_append_getElem hn, List.filter_append, e]
  by_cases hi : ins r = true
  · rw [if_pos hi, List.filter_cons_of_pos hi]; rfl
  · rw [if_neg hi, List.filter_cons_of_neg hi]; rfl
/-- What the letters leave of the queue. -/
theorem bfsR_ok {u w : List Nat} (m : Nat) : ∀ (cs : List Nat) (Q Q' : List Ent), (∀ c ∈ cs, c < 4) → QOk u w Q → (∀ e ∈ Q, e.wd.length ≤ e.i) → ∀ hm : m < Q.length, bfsR u w Q[m] cs Q = (none, Q') → QOk u w Q' ∧ (∀ e ∈ Q', e.wd.length ≤ e.i) ∧ ∃ S, Q' = Q ++ S
  | [], Q, Q', hc, hQ, hwd, hm, h => by
    injection h with _ h
    subst h
    exact ⟨hQ, hwd, [], by simp⟩
  | c :: cs, Q, Q', hc, hQ, hwd, hm, h => by
    unfold bfsR at h
    split at h
    · injection h with h; cases h
    · rename_i hne
      split at h
      · rename_i hp
        have h2 : nx w (Q[m]).j (97 + c) < w.length := by
          have := hp.1
          simp [this] at hne
          exact hne
        have hle := hQ.le (List.getElem_mem hm)
        have hi := nx_le u (Q[m]).i (97 + c) hle.1
        have hw := hwd _ (List.getElem_mem hm)
        have hQ2 := hQ.push hm (hc c (by simp)) (i := nx u (Q[m]).i (97 + c) + 1) (j := nx w (Q[m]).j (97 + c) + 1) ⟨by omega, by omega⟩ ⟨by omega, by omega⟩ hp.2
        have hm2 : m < (Q ++ [(⟨nx u (Q[m]).i (97 + c) + 1, nx w (Q[m]).j (97 + c) + 1, (Q[m]).wd ++ [97 + c]⟩ : Ent)]).length := by rw [List.length_append]; omega
        have ge : (Q ++ [(⟨nx u (Q[m]).i (97 + c) + 1, nx w (Q[m]).j (97 + c) + 1, (Q[m]).wd ++ [97 + c]⟩ : Ent)])[m]'hm2 = Q[m] := List.getElem_append_left hm
        have ih := bfsR_ok m cs _ Q' (fun d hd => hc d (by simp [hd])) hQ2 (fun e he => by
          rcases List.mem_append.1 he with he | he
          · exact hwd e he
          · rw [List.mem_singleton] at he
            subst he
            simp only [List.length_append, List.length_cons, List.length_nil]
            omega) hm2 (by rw [ge]; exact h)
        obtain ⟨i1, i2, S, i3⟩ := ih
        exact ⟨i1, i2, _ :: S, by rw [i3, List.append_assoc]; rfl⟩
      · exact bfsR_ok m cs Q Q' (fun d hd => hc d (by simp [hd])) hQ hwd hm h
/-- The reference finds what the program finds. -/
theorem part_bfs {u w : List Nat} (hu : u.length ≤ 60) (hw : w.length ≤ 60) {most : Nat} (hm : 61 ≤ most) : ∀ (f n q : Nat) (Q : List Ent) (R : List Rn) (qr : Nat), Like Q R → QOk u w Q → (∀ e ∈ Q, e.wd.length ≤ e.i) → qr ≤ R.length → ((R.take qr).filter ins).length = q → n + q = 3845 → 4000 ≤ f + qr → partF u w most f qr R = bfs u w n q Q
  | 0, n, q, Q, R, qr, hL, hQ, hwd, hqr, hq, hn, hf => by
    have h1 := hQ.size hu hw
    have h2 := hL.len
    split at h2 <;> omega
  | f + 1, n, q, Q, R, qr, hL, hQ, hwd, hqr, hq, hn, hf => by
    have h1 := hQ.size hu hw
    have h2 : R.length ≤ Q.length + 1 := by have := hL.len; split at this <;> omega
    have hfl : (R.filter ins).length = Q.length := by rw [hL.eq, List.length_map]
    have hqQ : q ≤ Q.length := by
      rw [← hq, ← hfl]
      exact ((List.take_sublist qr R).filter ins).length_le
    obtain ⟨n', rfl⟩ : ∃ n', n = n' + 1 := ⟨n - 1, by omega⟩
    unfold partF bfs
    by_cases hlt : qr < R.length
    · have hr : R[qr]? = some R[qr] := List.getElem?_eq_getElem hlt
      rw [hr]
      dsimp only
      have hd := hL.no _ (List.getElem_mem hlt)
      rw [if_neg (by rw [hd]; decide)]
      have hft := filter_take hr
      by_cases hi : ins R[qr] = true
      · have hat := filter_at hr hi
        rw [hL.eq, hq, List.getElem?_map] at hat
        obtain ⟨e, he, hee⟩ := Option.map_eq_some_iff.1 hat
        obtain ⟨hqlt, heq⟩ := List.getElem?_eq_some_iff.1 he
        have hem : e ∈ Q := by rw [← heq]; exact List.getElem_mem hqlt
        have hle := hQ.le hem
        have hwe := hwd e hem
        rw [he, ← hee]
        dsimp only
        have ea : (emb e).a = (e.i : Int) := rfl
        have eb : (emb e).b = (e.j : Int) := rfl
        have ew : (emb e).wd = e.wd := rfl
        rw [if_neg (by rw [ea, ew]; omega), ea, eb, ew, Int.toNat_natCast, Int.toNat_natCast]
        have hk := like_kids u w e [0, 1, 2, 3] Q R hL
        have hok := bfsR_ok (u := u) (w := w) q [0, 1, 2, 3] Q
        rw [if_pos hi] at hft
        obtain ⟨S, hS⟩ := kids_pre u w e [0, 1, 2, 3] R
        show partF u w most f (qr + 1) (kids u w e [0, 1, 2, 3] R) = _
        cases hb : bfsR u w e [0, 1, 2, 3] Q with
        | mk o Q' =>
          rw [hb] at hk
          cases o with
          | none =>
            obtain ⟨k1, k2, S2, k3⟩ := hok Q' (by simp) hQ hwd hqlt (by rw [heq]; exact hb)
            refine part_bfs hu hw hm f n' (q + 1) Q' _ (qr + 1) hk k1 k2 (by rw [hS, List.length_append]; omega) ?_ (by omega) (by omega)
            rw [hS, List.take_append_of_le_length (by omega), hft, List.length_append, hq]
            rfl
          | some r =>
            obtain ⟨m, x, i1, i2, i3, i4, i5, i6⟩ := hk
            have := part_first u w most (m - (qr + 1)) (qr + 1) f (kids u w e [0, 1, 2, 3] R) x (by rw [show qr + 1 + (m - (qr + 1)) = m by omega]; exact i1) i2 (fun m' h1 h2 y hy => i6 m' (by omega) y hy) (by simp at i5; omega)
            rw [this, i3]
      · rw [if_neg hi] at hft
        have ha : (R[qr]).a < 0 := by
          unfold dif at hd
          unfold ins at hi
          simp at hd hi
          omega
        rw [if_pos (.inr ha)]
        have ih := part_bfs hu hw hm f (n' + 1) q Q R (qr + 1) hL hQ hwd (by omega) (by rw [hft, List.append_nil]; exact hq) hn (by omega)
        rw [ih]
        conv => lhs; unfold bfs
    · have hqe : qr = R.length := by omega
      rw [List.getElem?_eq_none (by omega)]
      rw [hqe, List.take_length, hfl] at hq
      rw [List.getElem?_eq_none (by omega)]
end Go.Proofs.Ytagdbadljcongaa.X
end

section
/- Two different words are told apart; one word is not told from itself. -/
set_option linter.unusedVariables false
set_option linter.unusedSimpArgs false
namespace Go.Proofs.Ytagdbadljcongaa.X
open Go.RowKit Go.Proofs.YtagdbadljcongaaW.PrintWords
/-- An entry's letters lead to known entries, alike in both words. -/
def ClAt (u w : List Nat) (Q : List Ent) (e : Ent) (c : Nat) : Prop :=
  decide (nx u e.i (97 + c) < u.length) = decide (nx w e.j (97 + c) < w.length) ∧ (nx u e.i (97 + c) < u.length → knownB Q (nx u e.i (97 + c) + 1) (nx w e.j (97 + c) + 1) = true)
theorem known_mono {Q S : List Ent} {i j : Nat} (h : knownB Q i j = true) : knownB (Q ++ S) i j = true := by
  obtain ⟨e, he, h1⟩ := (knownB_iff _ _ _).1 h
  exact (knownB_iff _ _ _).2 ⟨e, List.mem_append_left _ he, h1⟩
theorem ClAt.mono {u w : List Nat} {Q S : List Ent} {e : Ent} {c : Nat} (h : ClAt u w Q e c) : ClAt u w (Q ++ S) e c := ⟨h.1, fun h2 => known_mono (h.2 h2)⟩
theorem bfsR_cl {u w : List Nat} (e : Ent) : ∀ (cs : List Nat) (Q Q' : List Ent), bfsR u w e cs Q = (none, Q') → (∀ c ∈ cs, ClAt u w Q' e c) ∧ ∃ S, Q' = Q ++ S
  | [], Q, Q', h => by
    injection h with _ h
    subst h
    exact ⟨by simp, [], by simp⟩
  | c :: cs, Q, Q', h => by
    unfold bfsR at h
    split at h
    · injection h with h; cases h
    · rename_i hne
      have hne : decide (nx u e.i (97 + c) < u.length) = decide (nx w e.j (97 + c) < w.length) := by simpa using hne
      split at h
      · obtain ⟨i1, S, i2⟩ := bfsR_cl e cs _ Q' h
        refine ⟨fun d hd => ?_, _ :: S, by rw [i2, List.append_assoc]; rfl⟩
        rcases List.mem_cons.1 hd with rfl | hd
        · refine ⟨hne, fun _ => ?_⟩
          rw [i2]
          exact known_mono ((knownB_iff _ _ _).2 ⟨_, List.mem_append_right _ (List.mem_singleton.2 rfl), rfl, rfl⟩)
        · exact i1 d hd
      · rename_i hp
        obtain ⟨i1, S, i2⟩ := bfsR_cl e cs _ Q' h
        refine ⟨fun d hd => ?_, S, i2⟩
        rcases List.mem_cons.1 hd with rfl | hd
        · refine ⟨hne, fun h1 => ?_⟩
          rw [i2]
          refine known_mono ?_
          rw [← Bool.not_eq_false]
          exact fun h2 => hp ⟨h1, h2⟩
        · exact i1 d hd
theorem bfs_none {u w : List Nat} (hu : u.length ≤ 60) (hw : w.length ≤ 60) : ∀ (n q : Nat) (Q : List Ent), QOk u w Q → (∀ e ∈ Q, e.wd.length ≤ e.i) → (∀ m, ∀ h : m < Q.length, m < q → ∀ c < 4, ClAt u w Q Q[m] c) → n + q = 3845 → bfs u w n q Q = none → ∃ Q', root ∈ Q' ∧ ∀ e ∈ Q', ∀ c < 4, ClAt u w Q' e c
  | 0, q, Q, hQ, hwd, hc, hn, h => by
    have := hQ.size hu hw
    refine ⟨Q, by obtain ⟨t, ht, _⟩ := hQ.hd; rw [ht]; simp, fun e he => ?_⟩
    obtain ⟨m, hm, rfl⟩ := List.getElem_of_mem he
    exact hc m hm (by omega)
  | n + 1, q, Q, hQ, hwd, hc, hn, h => by
    unfold bfs at h
    by_cases hq : q < Q.length
    · rw [List.getElem?_eq_getElem hq] at h
      dsimp only at h
      cases hb : bfsR u w Q[q] [0, 1, 2, 3] Q with
      | mk o Q' =>
        rw [hb] at h
        cases o with
        | some r => cases h
        | none =>
          obtain ⟨k1, k2, S, k3⟩ := bfsR_ok q [0, 1, 2, 3] Q Q' (by simp) hQ hwd hq hb
          obtain ⟨c1, _⟩ := bfsR_cl Q[q] [0, 1, 2, 3] Q Q' hb
          refine bfs_none hu hw n (q + 1) Q' k1 k2 (fun m hm hmq c hc4 => ?_) (by omega) h
          subst k3
          have hmQ : m < Q.length := by omega
          rw [List.getElem_append_left hmQ]
          by_cases e : m = q
          · subst e
            have : c = 0 ∨ c = 1 ∨ c = 2 ∨ c = 3 := by omega
            exact c1 c (by simpa using this)
          · exact (hc m hmQ (by omega) c hc4).mono
    · refine ⟨Q, by obtain ⟨t, ht, _⟩ := hQ.hd; rw [ht]; simp, fun e he => ?_⟩
      obtain ⟨m, hm, rfl⟩ := List.getElem_of_mem he
      exact hc m hm (by omega)
theorem sub_same {u w : List Nat} {Q : List Ent} (h : ∀ e ∈ Q, ∀ c < 4, ClAt u w Q e c) : ∀ (x : List Nat) (i j : Nat), (∀ b ∈ x, 97 ≤ b ∧ b ≤ 100) → knownB Q i j = true → (wth u i x).isSome = (wth w j x).isSome
  | [], i, j, hx, hk => rfl
  | b :: x, i, j, hx, hk => by
    obtain ⟨c, rfl⟩ : ∃ c, b = 97 + c := ⟨b - 97, by have := hx b (by simp); omega⟩
    have hc4 : c < 4 := by have := hx (97 + c) (by simp); omega
    obtain ⟨e, he, rfl, rfl⟩ := (knownB_iff _ _ _).1 hk
    obtain ⟨h1, h2⟩ := h e he c hc4
    unfold wth
    by_cases hi : nx u e.i (97 + c) < u.length
    · have hj : nx w e.j (97 + c) < w.length := by rw [decide_eq_true hi] at h1; exact of_decide_eq_true h1.symm
      rw [if_pos hi, if_pos hj, Option.isSome_map, Option.isSome_map]
      exact sub_same h x _ _ (fun b hb => hx b (by simp [hb])) (h2 hi)
    · have hj : ¬ nx w e.j (97 + c) < w.length := by rw [decide_eq_false hi] at h1; exact of_decide_eq_false h1.symm
      rw [if_neg hi, if_neg hj]
theorem root_wd : ∀ e ∈ [root], e.wd.length ≤ e.i := by simp [root]
theorem diff_some {u w : List Nat} (hu : isW u = true) (hw : isW w = true) (hne : u ≠ w) : ∃ r, diffW u w = some r := by
  obtain ⟨hu1, hu2⟩ := (isW_iff _).1 hu
  obtain ⟨hw1, hw2⟩ := (isW_iff _).1 hw
  cases h : diffW u w with
  | some r => exact ⟨r, rfl⟩
  | none =>
    exfalso
    obtain ⟨Q, hr, hc⟩ := bfs_none hu1 hw1 3845 0 [root] (QOk.start u w) root_wd (fun m hm h0 => by omega) (by omega) h
    have hk : knownB Q 0 0 = true := (knownB_iff _ _ _).2 ⟨root, hr, rfl, rfl⟩
    have s1 := sub_same hc u 0 0 hu2 hk
    have s2 := sub_same hc w 0 0 hw2 hk
    have a1 := (wth_sub u u 0 (Nat.zero_le _)).2 (by rw [List.drop_zero]; exact List.Sublist.refl _)
    have a2 := (wth_sub w w 0 (Nat.zero_le _)).2 (by rw [List.drop_zero]; exact List.Sublist.refl _)
    rw [a1] at s1
    rw [a2] at s2
    have b1 := (wth_sub w u 0 (Nat.zero_le _)).1 s1.symm
    have b2 := (wth_sub u w 0 (Nat.zero_le _)).1 s2
    rw [List.drop_zero] at b1 b2
    exact hne (b1.eq_of_length_le b2.length_le)
theorem bfsR_diag (u : List Nat) (e : Ent) (he : e.i = e.j) : ∀ (cs : List Nat) (Q : List Ent), (∀ x ∈ Q, x.i = x.j) → ∃ Q', bfsR u u e cs Q = (none, Q') ∧ ∀ x ∈ Q', x.i = x.j
  | [], Q, hQ => ⟨Q, rfl, hQ⟩
  | c :: cs, Q, hQ => by
    unfold bfsR
    rw [he, if_neg (by simp)]
    split
    · refine bfsR_diag u e he cs _ (fun x hx => ?_)
      rcases List.mem_append.1 hx with hx | hx
      · exact hQ x hx
      · rw [List.mem_singleton] at hx; subst hx; rfl
    · exact bfsR_diag u e he cs Q hQ
theorem bfs_diag (u : List Nat) : ∀ (n q : Nat) (Q : List Ent), (∀ x ∈ Q, x.i = x.j) → bfs u u n q Q = none
  | 0, q, Q, h => rfl
  | n + 1, q, Q, h => by
    unfold bfs
    cases hq : Q[q]? with
    | none => rfl
    | some e =>
      obtain ⟨Q', h1, h2⟩ := bfsR_diag u e (h e (List.mem_of_getElem? hq)) [0, 1, 2, 3] Q h
      dsimp only
      rw [h1]
      exact bfs_diag u n (q + 1) Q' h2
theorem diff_same (u : List Nat) : diffW u u = none := bfs_diag u 3845 0 [root] (by simp [root])
/-- The reference's search, as it is begun. -/
theorem part_diff {u w : List Nat} (hu : u.length ≤ 60) (hw : w.length ≤ 60) {most : Nat} (hm : 61 ≤ most) (f : Nat) (hf : 4000 ≤ f) : partF u w most f 0 [⟨0, 0, []⟩] = diffW u w :=
  part_bfs hu hw hm f 3845 0 [root] [⟨0, 0, []⟩] 0 ⟨rfl, by simp [dif], rfl⟩ (QOk.start u w) root_wd (Nat.zero_le _) rfl (by omega) (by omega)
end Go.Proofs.Ytagdbadljcongaa.X
end

section
namespace Go.Proofs.Ytagdbadljcongaa.X
open Go.RowKit Go.Proofs.YtagdbadljcongaaW.PrintWords Go.Proofs.YtagdbadljcongaaW.PrintLast Go.Proofs.YtagdbadljcongaaW.PrintMore
attribute [local go_sem] max2_int min2_int max_two min_two max_three min_three max_four min_four   -- for this text's walks alone
set_option linter.unusedVariables false
set_option linter.unusedSimpArgs false

theorem eqA88 (d : Nat) (w : World) (x0 y0 : Int) (x1 y1 : Int) :
    (Op.equalIn (d + 2) 88 (.agg #[.int .i64 x0, .int .i64 x1]) (.agg #[.int .i64 y0, .int .i64 y1])).run Try.prog w = .ok (x0 == y0 && (x1 == y1)) w := by
  refine eqA_of Try.underlying88 (by kernel_rfl) ?_
  refine eqf_cons (by rfl) (by go_simp; rfl) (by go_simp; rfl) (by go_simp) ?_
  exact eqf_last (by rfl) (by go_simp; rfl) (by go_simp; rfl) (by go_simp)
end Go.Proofs.Ytagdbadljcongaa.X
end

section
namespace Go.Proofs.Ytagdbadljcongaa.X
open Go.RowKit Go.Proofs.YtagdbadljcongaaW.PrintWords Go.Proofs.YtagdbadljcongaaW.PrintLast Go.Proofs.YtagdbadljcongaaW.PrintMore
attribute [local go_sem] max2_int min2_int max_two min_two max_three min_three max_four min_four   -- for this text's walks alone
set_option linter.unusedVariables false
set_option linter.unusedSimpArgs false

attribute [local go_sem high] eqA88
def tickingref03_has.l0 : Nat → List (S88) → Int → Int → Int → Option (Bool)
 | 0, _, _, _, _ => none
 | k + 1, x0, x5, x110000, x110001 => if x5 < (x0.length : Int) then (if 0 ≤ x5 then (if (((rd_T88 x0 x5).f0) == x110000 && (((rd_T88 x0 x5).f1) == x110001)) = true then (some true) else (tickingref03_has.l0 k x0 (wrap64 (x5 + 1)) x110000 x110001)) else (none)) else (some false)
def tickingref03_has.f (k : Nat) (l0 : List (S88)) (a1_0 : Int) (a1_1 : Int) : Option (Bool) := tickingref03_has.l0 k l0 0 a1_0 a1_1
set_option maxHeartbeats 8000000 in
set_option maxRecDepth 100000 in
theorem tickingref03_has.calls (k : Nat) (A0 : Option Addr) (c0 : Nat) (l0 : List (S88)) (a1_0 : Int) (a1_1 : Int) (r : Bool) (w : World) (hr0 : Kd.C k88 w A0 l0.length l0) (hc0 : l0.length ≤ c0) (h : tickingref03_has.f k l0 a1_0 a1_1 = some r) :
  Calls Try.prog 56 #[.slice A0 l0.length c0, .agg #[.int .i64 a1_0, .int .i64 a1_1]] w fun e w' => e = .returned (.bool r) ∧ Below w.heap.size w w' := by
 have hu88 := Try.underlying88
 have HR0 := Aside0.mk hr0
 have HC0 := Aside0.mk hc0
 clear hr0 hc0
 have HB := Aside0.mk (Below.refl w.heap.size w)
 have H : (tickingref03_has.l0 k l0 0 a1_0 a1_1) = some r := h
 clear h
 have H' := Aside0.mk H
 clear H
 go_enter Try.func56, Try.ntmps56
 go_wp2_with (first | ((with_reducible refine gate_dst (N := 3) rfl ?_); refine box_event ?hg (N := 3) ?hd (cs := #[.int .i64 a1_0, .int .i64 a1_1]) (t := 88) ?hr ?_; (case hd => rfl); (case hg => rfl); (case hr => first | (go_simp; done) | (go_simp; rfl)); intro gb109 hg w3 hbox hb; have n0_ := Aside0.mk (below_step bz hb); have n1_ := Aside0.mk (hbox); have n2_ := Aside0.mk ((by rw [hg]; exact (below_size bz) : w.heap.size ≤ gb109)); have n3_ := Aside0.mk ((by rw [hg]; exact (below_size bz) : w.heap.size ≤ gb109)); clear HB; have HB := n0_; have BK109 := n1_; have GW109 := n2_; have GE109 := n3_; clear n0_ n1_ n2_ n3_; clear hb hbox hg))
 repeat (go_quiet (first | ((with_reducible refine gate_dst (N := 3) rfl ?_); refine box_event ?hg (N := 3) ?hd (cs := #[.int .i64 a1_0, .int .i64 a1_1]) (t := 88) ?hr ?_; (case hd => rfl); (case hg => rfl); (case hr => first | (go_simp; done) | (go_simp; rfl)); intro gb109 hg w3 hbox hb; have n0_ := Aside0.mk (below_step bz hb); have n1_ := Aside0.mk (hbox); have n2_ := Aside0.mk ((by rw [hg]; exact (below_size bz) : w.heap.size ≤ gb109)); have n3_ := Aside0.mk ((by rw [hg]; exact (below_size bz) : w.heap.size ≤ gb109)); clear HB; have HB := n0_; have BK109 := n1_; have GW109 := n2_; have GE109 := n3_; clear n0_ n1_ n2_ n3_; clear hb hbox hg)); try go_wp2_with (first | ((with_reducible refine gate_dst (N := 3) rfl ?_); refine box_event ?hg (N := 3) ?hd (cs := #[.int .i64 a1_0, .int .i64 a1_1]) (t := 88) ?hr ?_; (case hd => rfl); (case hg => rfl); (case hr => first | (go_simp; done) | (go_simp; rfl)); intro gb109 hg w3 hbox hb; have n0_ := Aside0.mk (below_step bz hb); have n1_ := Aside0.mk (hbox); have n2_ := Aside0.mk ((by rw [hg]; exact (below_size bz) : w.heap.size ≤ gb109)); have n3_ := Aside0.mk ((by rw [hg]; exact (below_size bz) : w.heap.size ≤ gb109)); clear HB; have HB := n0_; have BK109 := n1_; have GW109 := n2_; have GE109 := n3_; clear n0_ n1_ n2_ n3_; clear hb hbox hg)))
 go_loopg [5] k (fun kq v5 w' => ∃ (x5_1 : Int), v5 = .int .i64 x5_1 ∧ Aside0 (tickingref03_has.l0 kq l0 x5_1 a1_0 a1_1 = some r) ∧ Aside0 (kq ≤ k) ∧ Aside0 (w'.heap[gb109]? = some (.cells #[.int .i64 a1_0, .int .i64 a1_1] 88 (0, 0))) ∧ Aside0 (Below w.heap.size w w'))
 case atStart => exact ⟨(0), (by first | rfl | (simp; done) | (simp [*]; done)), H', ⟨Nat.le_refl _⟩, ⟨by (with_reducible repeat (first | refine blk_drewN ?_ _ | refine blk_drew ?_ | refine blk_alloc ?_ _)); exact BK109.out⟩, ⟨by repeat (first | (with_reducible first | exact HB.out | apply below_alloc | apply pw_below_drewN | apply below_drew1 | refine below_set ?_ GE109.out) | exact HB.out)⟩⟩
 case round =>
  clear H'
  try clear p2
  obtain ⟨x5_1, rfl, HA, HK1, BK109, HB⟩ := hrel
  cases gk with
  | zero => exact absurd HA.out (by simp [tickingref03_has.l0])
  | succ k1 =>
   have H := HA.out
   clear HA
   simp only [tickingref03_has.l0] at H
   by_cases c4 : x5_1 < (l0.length : Int)
   ·rw [if_pos c4] at H
    have c4b0 : decide (x5_1 < (l0.length : Int)) = true := decide_eq_true c4
    clear c4
    by_cases c5 : 0 ≤ x5_1
    ·rw [if_pos c5] at H
     have c5b0 : decide (0 ≤ x5_1) = true := decide_eq_true c5
     clear c5
     by_cases c6 : (((rd_T88 l0 x5_1).f0) == a1_0 && (((rd_T88 l0 x5_1).f1) == a1_1)) = true
     ·rw [if_pos c6] at H
      have c6b0 : (((rd_T88 l0 x5_1).f0) == a1_0 && (((rd_T88 l0 x5_1).f1) == a1_1)) = true := c6
      (try (have c6b1 : decide (((rd_T88 l0 x5_1).f0) = a1_0 && (((rd_T88 l0 x5_1).f1) == a1_1)) = true := by simpa using c6))
      (try (have c6b2 : (((rd_T88 l0 x5_1).f0) == a1_0 && (((rd_T88 l0 x5_1).f1) == a1_1)) = true := by simpa using c6))
      clear c6
      obtain rfl := Option.some.inj H
      have p110 : 0 ≤ (x5_1 : Int) := of_decide_eq_true az
      have q110 : x5_1 < (l0.length : Int) := of_decide_eq_true az
      obtain ⟨ad110, e110, hx110_0, hx110_1⟩ := at_T88 HR0.out x5_1 p110 q110
      cases e110
      replace hx110_0 := (HB.out.cell (World.block_lt_of_cell? w _ hx110_0)).trans hx110_0
      replace hx110_1 := (HB.out.cell (World.block_lt_of_cell? w _ hx110_1)).trans hx110_1
      replace p110 := eq_true p110
      replace q110 := eq_true q110
      have hcz7_0 : wr.cell? ⟨gb109, 0, none⟩ = some (.int .i64 a1_0) := (blk_cell BK109.out 0).trans rfl
      have hcz7_1 : wr.cell? ⟨gb109, 1, none⟩ = some (.int .i64 a1_1) := (blk_cell BK109.out 1).trans rfl
      have hfz7_0 := blk_frozen BK109.out 0
      have hfz7_1 := blk_frozen BK109.out 1
      go_wp2
      repeat (go_quiet (fail); try go_wp2)
      go_ret
      exact ⟨by first | rfl | (simp [errW_none, errW_some] <;> rfl) | (simp [*, errW_none, errW_some] <;> rfl), by repeat (first | (with_reducible first | exact HB.out | apply below_alloc | apply pw_below_drewN | apply below_drew1 | refine below_set ?_ GE109.out) | exact HB.out)⟩
     ·rw [if_neg c6] at H
      have c6b0 : (((rd_T88 l0 x5_1).f0) == a1_0 && (((rd_T88 l0 x5_1).f1) == a1_1)) = false := by simpa using c6
      (try (have c6b1 : decide (((rd_T88 l0 x5_1).f0) = a1_0 && (((rd_T88 l0 x5_1).f1) == a1_1)) = false := by simpa using c6))
      (try (have c6b2 : (((rd_T88 l0 x5_1).f0) == a1_0 && (((rd_T88 l0 x5_1).f1) == a1_1)) = false := by simpa using c6))
      (try (have c6b3 : ¬ (((rd_T88 l0 x5_1).f0) = a1_0 && (((rd_T88 l0 x5_1).f1) == a1_1)) := by simpa using c6))
      clear c6
      have H' := Aside0.mk H
      clear H
      have p110 : 0 ≤ (x5_1 : Int) := of_decide_eq_true az
      have q110 : x5_1 < (l0.length : Int) := of_decide_eq_true az
      obtain ⟨ad110, e110, hx110_0, hx110_1⟩ := at_T88 HR0.out x5_1 p110 q110
      cases e110
      replace hx110_0 := (HB.out.cell (World.block_lt_of_cell? w _ hx110_0)).trans hx110_0
      replace hx110_1 := (HB.out.cell (World.block_lt_of_cell? w _ hx110_1)).trans hx110_1
      replace p110 := eq_true p110
      replace q110 := eq_true q110
      have hcz8_0 : wr.cell? ⟨gb109, 0, none⟩ = some (.int .i64 a1_0) := (blk_cell BK109.out 0).trans rfl
      have hcz8_1 : wr.cell? ⟨gb109, 1, none⟩ = some (.int .i64 a1_1) := (blk_cell BK109.out 1).trans rfl
      have hfz8_0 := blk_frozen BK109.out 0
      have hfz8_1 := blk_frozen BK109.out 1
      go_wp2
      repeat (go_quiet (fail); try go_wp2)
      go_roundg k1
      case measure => have := HK1.out; omega
      case rel => exact ⟨(wrap64 (x5_1 + 1)), (by first | rfl | (simp; done) | (simp [*]; done)), H', ⟨by have := HK1.out; omega⟩, ⟨by (with_reducible repeat (first | refine blk_drewN ?_ _ | refine blk_drew ?_ | refine blk_alloc ?_ _)); exact BK109.out⟩, ⟨by repeat (first | (with_reducible first | exact HB.out | apply below_alloc | apply pw_below_drewN | apply below_drew1 | refine below_set ?_ GE109.out) | exact HB.out)⟩⟩
    ·rw [if_neg c5] at H
     exact absurd H (by simp)
   ·rw [if_neg c4] at H
    have c4b0 : decide (x5_1 < (l0.length : Int)) = false := decide_eq_false c4
    clear c4
    obtain rfl := Option.some.inj H
    go_wp2
    repeat (go_quiet (fail); try go_wp2)
    go_ret
    exact ⟨by first | rfl | (simp [errW_none, errW_some] <;> rfl) | (simp [*, errW_none, errW_some] <;> rfl), by repeat (first | (with_reducible first | exact HB.out | apply below_alloc | apply pw_below_drewN | apply below_drew1 | refine below_set ?_ GE109.out) | exact HB.out)⟩

end Go.Proofs.Ytagdbadljcongaa.X
end
