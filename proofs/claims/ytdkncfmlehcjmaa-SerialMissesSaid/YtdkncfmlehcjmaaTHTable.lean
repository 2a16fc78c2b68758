/- serial.isTable, by hand: whatever the lists, the call tells whether they are a table ('isTab'), and nothing that was there has turned. -/
import Derived.Test.YtdkncfmlehcjmaaTX0
import Derived.Maps.OwnSet
import Derived.DeepKeys4
set_option linter.unusedVariables false
set_option linter.unusedSimpArgs false
namespace Go.Proofs.Ytdkncfmlehcjmaa.X
open Go.RowKit Go.Proofs.YtdkncfmlehcjmaaW.PrintWords Go.Proofs.YtdkncfmlehcjmaaW.PrintLast Go.Proofs.YtdkncfmlehcjmaaW.PrintMore
open Go.Maps (Keyed)

/-! ### The plain side -/
/-- The number at position b of list a. -/
def rd2 (t : List (List Int)) (a b : Nat) : Int := rd (rd_L1 t a) b
/-- What has gone into the set of rows, when a lists and b numbers of the next one are done. -/
def seenR (t : List (List Int)) (a b : Nat) : List (Int × Int) :=
  ((List.range a).flatMap fun (i : Nat) => (List.range t.length).map fun (j : Nat) => (Int.ofNat i, rd2 t i j)) ++ (List.range b).map fun (j : Nat) => (Int.ofNat a, rd2 t a j)
def seenC (t : List (List Int)) (a b : Nat) : List (Int × Int) :=
  ((List.range a).flatMap fun (i : Nat) => (List.range t.length).map fun (j : Nat) => (Int.ofNat j, rd2 t i j)) ++ (List.range b).map fun (j : Nat) => (Int.ofNat j, rd2 t a j)
/-- A list of its row is as long as the table, its numbers from 0 to n - 1. -/
def rowOk (t : List (List Int)) (a : Nat) : Prop := (rd_L1 t a).length = t.length ∧ ∀ b, b < t.length → 0 ≤ rd2 t a b ∧ rd2 t a b ≤ (t.length : Int) - 1
instance (t : List (List Int)) (a : Nat) : Decidable (rowOk t a) := by unfold rowOk; infer_instance
def TabOk (t : List (List Int)) : Prop := 2 ≤ t.length ∧ t.length ≤ 12 ∧ (∀ a, a < t.length → rowOk t a) ∧ (seenR t t.length 0).Nodup ∧ (seenC t t.length 0).Nodup
instance (t : List (List Int)) : Decidable (TabOk t) := by unfold TabOk; infer_instance
def isTab (t : List (List Int)) : Bool := decide (TabOk t)
def serial_isTable.f (l0 : List (List Int)) : Option Bool := some (isTab l0)

theorem seenR_b (t : List (List Int)) (a b : Nat) : seenR t a (b + 1) = seenR t a b ++ [(Int.ofNat a, rd2 t a b)] := by
  simp [seenR, List.range_succ]
theorem seenR_a (t : List (List Int)) (a : Nat) : seenR t (a + 1) 0 = seenR t a t.length := by
  simp [seenR, List.range_succ (n := a)]
theorem seenC_b (t : List (List Int)) (a b : Nat) : seenC t a (b + 1) = seenC t a b ++ [(Int.ofNat b, rd2 t a b)] := by
  simp [seenC, List.range_succ]
theorem seenC_a (t : List (List Int)) (a : Nat) : seenC t (a + 1) 0 = seenC t a t.length := by
  simp [seenC, List.range_succ (n := a)]
theorem seenR_len (t : List (List Int)) (a b : Nat) : (seenR t a b).length = a * t.length + b := by
  induction a with
  | zero => simp [seenR]
  | succ a ih =>
    have : seenR t (a + 1) b = (seenR t a t.length) ++ (List.range b).map fun (j : Nat) => (Int.ofNat (a + 1), rd2 t (a + 1) j) := by
      rw [← seenR_a]; simp [seenR]
    have h2 : (seenR t a t.length).length = a * t.length + t.length := by
      simp only [seenR, List.length_append, List.length_map, List.length_range] at ih ⊢; omega
    rw [this, List.length_append, h2, Nat.add_mul]; simp
theorem seenC_len (t : List (List Int)) (a b : Nat) : (seenC t a b).length = a * t.length + b := by
  induction a with
  | zero => simp [seenC]
  | succ a ih =>
    have : seenC t (a + 1) b = (seenC t a t.length) ++ (List.range b).map fun (j : Nat) => (Int.ofNat j, rd2 t (a + 1) j) := by
      rw [← seenC_a]; simp [seenC]
    have h2 : (seenC t a t.length).length = a * t.length + t.length := by
      simp only [seenC, List.length_append, List.length_map, List.length_range] at ih ⊢; omega
    rw [this, List.length_append, h2, Nat.add_mul]; simp

/-! ### Keys: pairs of ints -/
theorem laidOut : laidOutB Try.prog = true := by kernel_rfl
set_option maxRecDepth 100000 in
theorem row55 : (55 : TypeId) < Try.prog.types.size := of_decide_eq_true (by kernel_rfl)
theorem wide55 : (match Try.prog.underlying 55 with | some (.array _ _) | some (.struct _) => true | _ => false) = true := by rw [Try.underlying55]
set_option maxRecDepth 100000 in
theorem law55 : Keyed Try.prog 55 := Keyed.of_law (deep_law_laid laidOut (m := 2) (by omega) row55 (by kernel_rfl) wide55)
theorem cells55 : Try.prog.cellsOf 55 = 2 := by kernel_rfl
theorem cells3 : Try.prog.cellsOf 3 = 1 := by kernel_rfl
theorem key55 : Try.prog.keyType 55 = true := by kernel_rfl
/-- What the pair (a, c) reads as. -/
def pk (p : Int × Int) : Lit := .string (keyBytes [.int .i64 p.1, .int .i64 p.2])
theorem keyOf_pair {a c : Int} (ha : (Lit.int .i64 a).wf = true) (hc : (Lit.int .i64 c).wf = true) : keyOf Try.prog 55 (.agg #[.int .i64 a, .int .i64 c]) = some (pk (a, c)) := by
  have hf : (Value.agg #[.int .i64 a, .int .i64 c]).formed Try.prog 55 = true := by simp [Value.formed, Try.underlying55, cells55]
  have hk1 : ∀ d x, (Lit.int .i64 x).wf = true → Try.prog.keyLits (d + 1) 3 [.int .i64 x] = some [.int .i64 x] := by
    intro d x hx; simp [Program.keyLits, Try.underlying3, hx]
  have hk : ∀ d, Try.prog.keyLits (d + 2) 55 [.int .i64 a, .int .i64 c] = some [.int .i64 a, .int .i64 c] := by
    intro d
    have e0 := hk1 d a ha
    have e1 := hk1 d c hc
    have hr : List.range 2 = [0, 1] := rfl
    unfold Program.keyLits
    rw [Try.underlying55]
    simp [cells55, cells3, hr, e0, e1]
  obtain ⟨m, hm⟩ : ∃ m, Try.prog.types.size + 1 = m + 2 := ⟨Try.prog.types.size - 1, by have h55 : 55 < Try.prog.types.size := row55; omega⟩
  simp only [keyOf, Try.underlying55, key55, hf, Bool.and_self, if_true, hm, Value.cells, hk, Option.map_some, pk]
theorem pk_key (p : Int × Int) : WideAt.IsKeyLit (pk p) := trivial
theorem pk_inj {p q : Int × Int} (hp : (Lit.int .i64 p.1).wf = true ∧ (Lit.int .i64 p.2).wf = true) (hq : (Lit.int .i64 q.1).wf = true ∧ (Lit.int .i64 q.2).wf = true) (h : pk p = pk q) : p = q := by
  have h1 := keyOf_pair hp.1 hp.2
  have h2 := keyOf_pair hq.1 hq.2
  have h3 := law55.inj h1 (by rw [h]; exact h2)
  simp at h3
  exact Prod.ext h3.1 h3.2
theorem sameKey_pk {p q : Int × Int} (hp : (Lit.int .i64 p.1).wf = true ∧ (Lit.int .i64 p.2).wf = true) (hq : (Lit.int .i64 q.1).wf = true ∧ (Lit.int .i64 q.2).wf = true) : (pk p).sameKey (pk q) = decide (p = q) := by
  by_cases h : p = q
  · subst h; simp [pk, Lit.sameKey]
  · have hne : pk p ≠ pk q := fun e => h (pk_inj hp hq e)
    rw [Maps.sameKey_ne hne]; simp [h]
def WfP (p : Int × Int) : Prop := (Lit.int .i64 p.1).wf = true ∧ (Lit.int .i64 p.2).wf = true
theorem any_pk {p : Int × Int} (hp : WfP p) : ∀ (xs : List (Int × Int)), (∀ q ∈ xs, WfP q) → (xs.map pk).any (fun y => y.sameKey (pk p)) = decide (p ∈ xs)
  | [], _ => by simp
  | q :: xs, h => by
    have hq := h q (by simp)
    rw [List.map_cons, List.any_cons, any_pk hp xs (fun r hr => h r (by simp [hr])), sameKey_pk hq hp]
    by_cases e : q = p
    · subst e; simp
    · have : ¬ p = q := fun h => e h.symm
      simp [e, this]
/-- How many different ones there are: as many as there are pairs, just if none comes twice. -/
theorem addKey_len (xs : List (Int × Int)) (h : ∀ q ∈ xs, WfP q) : (((xs.map pk).foldl Maps.addKey []).length = xs.length) ↔ xs.Nodup := by
  have gen : ∀ (ys zs : List (Int × Int)), (∀ q ∈ ys, WfP q) → (∀ q ∈ zs, WfP q) → zs.Nodup →
      ((ys.map pk).foldl Maps.addKey (zs.map pk)).length ≤ zs.length + ys.length ∧ (((ys.map pk).foldl Maps.addKey (zs.map pk)).length = zs.length + ys.length ↔ (zs ++ ys).Nodup) := by
    intro ys
    induction ys with
    | nil => intro zs _ _ hz; simp [hz]
    | cons p ys ih =>
      intro zs hys hzs hz
      have hp := hys p (by simp)
      have hys' : ∀ q ∈ ys, WfP q := fun q hq => hys q (by simp [hq])
      simp only [List.map_cons, List.foldl_cons]
      have hadd : Maps.addKey (zs.map pk) (pk p) = if p ∈ zs then zs.map pk else (zs ++ [p]).map pk := by
        unfold Maps.addKey
        rw [any_pk hp zs hzs]
        by_cases hm : p ∈ zs <;> simp [hm]
      rw [hadd]
      by_cases hm : p ∈ zs
      · rw [if_pos hm]
        obtain ⟨i1, i2⟩ := ih zs hys' hzs hz
        refine ⟨by simp; omega, ?_⟩
        constructor
        · intro e; simp at e; omega
        · intro e
          rw [List.nodup_append] at e
          exact absurd rfl (e.2.2 p hm p (by simp))
      · rw [if_neg hm]
        have hz' : (zs ++ [p]).Nodup := by
          rw [List.nodup_append]; exact ⟨hz, by simp, by intro a ha b hb; simp at hb; subst hb; intro e; subst e; exact hm ha⟩
        obtain ⟨i1, i2⟩ := ih (zs ++ [p]) hys' (by intro q hq; simp at hq; rcases hq with hq | rfl; exact hzs q hq; exact hp) hz'
        simp only [List.length_append, List.length_cons, List.length_nil, Nat.zero_add, List.append_assoc, List.cons_append, List.nil_append] at i1 i2 ⊢
        refine ⟨by omega, ?_⟩
        rw [← i2]; constructor <;> intro e <;> omega
  have := (gen xs [] h (by simp) (by simp)).2
  simpa using this


/-! ### The walk -/
theorem within_t (n lo hi : Int) (w : World) (h1 : lo ≤ n) (h2 : n ≤ hi) : Calls Try.prog 56 #[.int .i64 n, .int .i64 lo, .int .i64 hi] w fun e w' => e = .returned (.bool true) ∧ w = w' := by
  have c1 : decide (lo ≤ n) = true := decide_eq_true h1
  have c2 : decide (n ≤ hi) = true := decide_eq_true h2
  clear h1 h2
  go_enter Try.func56, Try.ntmps56
  go_wp2
  go_ret
  exact ⟨rfl, rfl⟩
theorem within_f (n lo hi : Int) (w : World) (h : ¬ (lo ≤ n ∧ n ≤ hi)) : Calls Try.prog 56 #[.int .i64 n, .int .i64 lo, .int .i64 hi] w fun e w' => e = .returned (.bool false) ∧ w = w' := by
  by_cases h1 : lo ≤ n
  · have c1 : decide (lo ≤ n) = true := decide_eq_true h1
    have c2 : decide (n ≤ hi) = false := decide_eq_false (fun h2 => h ⟨h1, h2⟩)
    clear h1 h
    go_enter Try.func56, Try.ntmps56
    go_wp2
    go_ret
    exact ⟨rfl, rfl⟩
  · have c1 : decide (lo ≤ n) = false := decide_eq_false h1
    clear h1 h
    go_enter Try.func56, Try.ntmps56
    go_wp2
    go_ret
    exact ⟨rfl, rfl⟩

/-- What holds of the two sets when so many lists and numbers are done. -/
structure Sets (t : List (List Int)) (w : World) (wr : World) (a b : Nat) : Prop where mk ::
  rows : wr.ownsMap Try.prog 55 (plainElem (H := Unit) Try.prog 4) w.heap.size (a * t.length + b) (Maps.setOf (.lit (.bool true)) ((seenR t a b).map pk))
  cols : wr.ownsMap Try.prog 55 (plainElem (H := Unit) Try.prog 4) (w.heap.size + 1) (a * t.length + b) (Maps.setOf (.lit (.bool true)) ((seenC t a b).map pk))
  below : Below w.heap.size w wr
  two : w.heap.size + 2 ≤ wr.heap.size

theorem wfP_R (t : List (List Int)) (n a b : Nat) (hn : t.length ≤ 12) (ha : a ≤ t.length) (hok : ∀ i, i < a → rowOk t i) (hb : ∀ j, j < b → 0 ≤ rd2 t a j ∧ rd2 t a j ≤ (t.length : Int) - 1) : ∀ q ∈ seenR t a b, WfP q := by
  intro q hq
  simp only [seenR, List.mem_append, List.mem_flatMap, List.mem_map, List.mem_range] at hq
  rcases hq with ⟨i, hi, j, hj, rfl⟩ | ⟨j, hj, rfl⟩
  · have := (hok i hi).2 j hj
    exact ⟨WalkArith.wf_i64 (by simp; omega), WalkArith.wf_i64 (by simp; omega)⟩
  · have := hb j hj
    exact ⟨WalkArith.wf_i64 (by simp; omega), WalkArith.wf_i64 (by simp; omega)⟩
theorem wfP_C (t : List (List Int)) (n a b : Nat) (hn : t.length ≤ 12) (ha : a ≤ t.length) (hbn : b ≤ t.length) (hok : ∀ i, i < a → rowOk t i) (hb : ∀ j, j < b → 0 ≤ rd2 t a j ∧ rd2 t a j ≤ (t.length : Int) - 1) : ∀ q ∈ seenC t a b, WfP q := by
  intro q hq
  simp only [seenC, List.mem_append, List.mem_flatMap, List.mem_map, List.mem_range] at hq
  rcases hq with ⟨i, hi, j, hj, rfl⟩ | ⟨j, hj, rfl⟩
  · have := (hok i hi).2 j hj
    exact ⟨WalkArith.wf_i64 (by simp; omega), WalkArith.wf_i64 (by simp; omega)⟩
  · have := hb j hj
    exact ⟨WalkArith.wf_i64 (by simp; omega), WalkArith.wf_i64 (by simp; omega)⟩
theorem sets_size (xs : List (Int × Int)) : Maps.size (Maps.setOf (H := Unit) (.lit (.bool true)) (xs.map pk)) = ((xs.map pk).foldl Maps.addKey []).length :=
  Maps.size_setOf _ _ (by intro x hx; simp only [List.mem_map] at hx; obtain ⟨p, _, rfl⟩ := hx; exact pk_key p)

/-- The rows' lengths and numbers. -/
theorem isTab_no (t : List (List Int)) (a : Nat) (ha : a < t.length) (h : ¬ rowOk t a) : isTab t = false := by
  unfold isTab; exact decide_eq_false (fun ⟨_, _, h3, _⟩ => h (h3 a ha))
theorem isTab_end (t : List (List Int)) (h1 : 2 ≤ t.length) (h2 : t.length ≤ 12) (hok : ∀ i, i < t.length → rowOk t i) (n m : Nat)
    (hn : n = Maps.size (Maps.setOf (H := Unit) (.lit (.bool true)) ((seenR t t.length 0).map pk))) (hm : m = Maps.size (Maps.setOf (H := Unit) (.lit (.bool true)) ((seenC t t.length 0).map pk))) :
    isTab t = (decide (n = t.length * t.length) && decide (m = t.length * t.length)) := by
  have eR := addKey_len _ (wfP_R t 0 t.length 0 h2 (Nat.le_refl _) hok (by intro j hj; omega))
  have eC := addKey_len _ (wfP_C t 0 t.length 0 h2 (Nat.le_refl _) (by omega) hok (by intro j hj; omega))
  rw [seenR_len, Nat.add_zero] at eR
  rw [seenC_len, Nat.add_zero] at eC
  rw [hn, hm, sets_size, sets_size]
  have : ∀ p q : Prop, [Decidable p] → [Decidable q] → (p ↔ q) → decide p = decide q := by intro p q _ _ h; simp [h]
  rw [this _ _ eR, this _ _ eC]
  unfold isTab TabOk
  simp [h1, h2]
  intro _ _
  exact hok

theorem Sets.step {t : List (List Int)} {w wr w1 w2 : World} {a b : Nat} {x : Int} (h : Sets t w wr a b)
    (r1 : w1.ownsMap Try.prog 55 (plainElem (H := Unit) Try.prog 4) w.heap.size (a * t.length + b + 1) ((Maps.setOf (.lit (.bool true)) ((seenR t a b).map pk)).put (pk (a, x)) (.lit (.bool true)))) (g1 : wr.grownBy w1 (some w.heap.size))
    (r2 : w2.ownsMap Try.prog 55 (plainElem (H := Unit) Try.prog 4) (w.heap.size + 1) (a * t.length + b + 1) ((Maps.setOf (.lit (.bool true)) ((seenC t a b).map pk)).put (pk (b, x)) (.lit (.bool true)))) (g2 : w1.grownBy w2 (some (w.heap.size + 1)))
    (hx : rd2 t a b = x) : Sets t w w2 a (b + 1) := by
  refine ⟨?_, ?_, ?_, ?_⟩
  · rw [seenR_b, List.map_append, List.map_cons, List.map_nil, Maps.setOf_snoc, hx, ← Nat.add_assoc]
    exact r1.kept g2 (by simp)
  · rw [seenC_b, List.map_append, List.map_cons, List.map_nil, Maps.setOf_snoc, hx, ← Nat.add_assoc]
    exact r2
  · exact (h.below.grown g1 h.below.size (fun k e => by cases e; exact Nat.le_refl _)).grown g2 (Nat.le_trans h.below.size g1.size) (fun k e => by cases e; omega)
  · exact Nat.le_trans h.two (Nat.le_trans g1.size g2.size)
theorem Sets.row {t : List (List Int)} {w wr : World} {a : Nat} (h : Sets t w wr a t.length) : Sets t w wr (a + 1) 0 := by
  refine ⟨?_, ?_, h.below, h.two⟩
  · rw [seenR_a, show (a + 1) * t.length + 0 = a * t.length + t.length by rw [Nat.add_mul]; simp]; exact h.rows
  · rw [seenC_a, show (a + 1) * t.length + 0 = a * t.length + t.length by rw [Nat.add_mul]; simp]; exact h.cols

set_option maxHeartbeats 4000000 in
set_option maxRecDepth 100000 in
theorem isTable_in (A0 : Option Addr) (c0 : Nat) (l0 : List (List Int)) (w : World) (hr0 : Kd.C (Kd.slice 3 (Kd.int .i64)) w A0 l0.length l0) (h1 : 2 ≤ l0.length) (h2 : l0.length ≤ 12) :
    Calls Try.prog 53 #[.slice A0 l0.length c0] w fun e w' => e = .returned (.bool (isTab l0)) ∧ Below w.heap.size w w' := by
  have HR0 := Aside0.mk hr0
  clear hr0
  have hmm := @run_makeMap Try.prog
  obtain ⟨n, hn⟩ : ∃ n, n = l0.length := ⟨_, rfl⟩
  go_enter Try.func53, Try.ntmps53
  go_wp2_with (go_at_call 56; refine (within_t _ _ _ _ (by omega) (by omega)).mono ?_; rintro e w' ⟨rfl, rfl⟩)
  go_loopg [19] n (fun kq v19 w' => ∃ a : Nat, v19 = .int .i64 a ∧ Aside0 (kq + a = l0.length) ∧ Aside0 (∀ i, i < a → rowOk l0 i) ∧ Aside0 (Sets l0 w w' a 0))
  case atStart => exact ⟨0, rfl, ⟨by omega⟩, ⟨by intro i hi; omega⟩, ⟨⟨by simpa [seenR, Maps.setOf] using (World.ownsMap_made _ _ _ _).alloc _, by simpa [seenC, Maps.setOf] using World.ownsMap_made (w.alloc (.map #[] 0)) _ _ _, by simpa using ((Below.refl _ _).alloc (Nat.le_refl _) _).alloc (by simp) _, by simp⟩⟩⟩
  case round =>
    obtain ⟨a, rfl, HK, HOK, HS⟩ := hrel
    obtain ⟨k1, rfl⟩ : ∃ k1, k1 = gk := ⟨_, rfl⟩
    by_cases ha : a < l0.length
    · obtain ⟨ad, A1, c1, rfl, hx0, hl1, hi1⟩ := at_L1 HR0.out (a : Int) (by omega) (by omega)
      have HC1 := Aside0.mk hi1
      have hx1 := pw_cell_below HS.out.below hx0
      clear hx0 hi1 hl1
      simp only [Int.toNat_natCast] at hx1
      by_cases hrow : (rd_L1 l0 a).length = l0.length
      · have HROW := Aside0.mk hrow
        clear hrow
        obtain ⟨m, hm⟩ : ∃ m, (rd_L1 l0 a).length = m := ⟨_, rfl⟩
        rw [hm] at HC1 HROW hx1
        have HM := Aside0.mk hm
        clear hm
        obtain rfl : m = l0.length := HROW.out
        clear HROW
        go_wp2
        go_loopg [30] l0.length (fun kq v30 w' => ∃ b : Nat, v30 = .int .i64 b ∧ Aside0 (kq + b = l0.length) ∧ Aside0 (∀ j, j < b → 0 ≤ rd2 l0 a j ∧ rd2 l0 a j ≤ (l0.length : Int) - 1) ∧ Aside0 (Sets l0 w w' a b))
        case atStart => exact ⟨0, rfl, ⟨by omega⟩, ⟨by intro j hj; omega⟩, HS⟩
        case round =>
          clear HS hx1
          obtain ⟨b, rfl, HK2, HOK2, HS⟩ := hrel
          by_cases hb : b < l0.length
          · obtain ⟨ad2, e2, hx2⟩ := Kd.at_int (Kd.C_below HC1.out HS.out.below) (b : Int) (by omega) (by omega)
            cases e2
            simp only [Int.toNat_natCast] at hx2
            obtain ⟨x, hx⟩ : ∃ x, rd2 l0 a b = x := ⟨_, rfl⟩
            rw [show rd (rd_L1 l0 (a : Int)) (b : Int) = x from hx] at hx2
            have HX := Aside0.mk hx
            clear hx
            by_cases hok : 0 ≤ x ∧ x ≤ (l0.length : Int) - 1
            · obtain ⟨hok1, hok2⟩ := hok
              have wa : (Lit.int .i64 (a : Int)).wf = true := WalkArith.wf_i64 (by omega)
              have wb : (Lit.int .i64 (b : Int)).wf = true := WalkArith.wf_i64 (by omega)
              have wx : (Lit.int .i64 x).wf = true := WalkArith.wf_i64 (by omega)
              have KA := Aside0.mk (keyOf_pair wa wx)
              have KB := Aside0.mk (keyOf_pair wb wx)
              clear wa wb wx
              have HN : Aside0 (a * l0.length + b < maxLen) := ⟨by have := Nat.mul_le_mul_right l0.length (Nat.le_of_lt ha); have h144 : l0.length * l0.length ≤ 12 * 12 := Nat.mul_le_mul h2 h2; unfold maxLen; omega⟩
              go_wp2_with (first | (go_at_call 56; refine (within_t _ _ _ _ (by omega) (by omega)).mono ?_; rintro e w' ⟨rfl, rfl⟩) | (at_mapUpdate; refine wpList_mapUpdate_own _ rfl (.tmp 44) (.tmp 47) (.const (.bool true)) 99 rfl 55 4 law55 Try.underlying99 _ (w.heap.size + 1) _ _ rfl (HS.out.cols.kept hg1.out (by simp)) HN.out _ _ _ rfl rfl KB.out _ [] (plainElem_bool Try.underlying4 true) ?_; intro w2 hown2_ hg2_; have hown2 := Aside0.mk hown2_; have hg2 := Aside0.mk hg2_; clear hown2_ hg2_) | (at_mapUpdate; refine wpList_mapUpdate_own _ rfl (.tmp 40) (.tmp 43) (.const (.bool true)) 99 rfl 55 4 law55 Try.underlying99 _ w.heap.size _ _ rfl HS.out.rows HN.out _ _ _ rfl rfl KA.out _ [] (plainElem_bool Try.underlying4 true) ?_; intro w1 hown1_ hg1_; have hown1 := Aside0.mk hown1_; have hg1 := Aside0.mk hg1_; clear hown1_ hg1_))
              go_roundg (gk - 1)
              case measure => have := HK2.out; omega
              case rel => exact ⟨b + 1, by go_num, ⟨by have := HK2.out; omega⟩, ⟨by intro j hj; by_cases e : j = b; (subst e; rw [HX.out]; exact ⟨hok1, hok2⟩); exact HOK2.out j (by omega)⟩, ⟨HS.out.step hown1.out hg1.out hown2.out hg2.out HX.out⟩⟩
            · have hfin : isTab l0 = false := isTab_no l0 a ha (fun h => hok (by rw [← HX.out]; exact h.2 b hb))
              have HF := Aside0.mk hfin
              have HB := Aside0.mk HS.out.below
              clear hfin HS
              have HNO := Aside0.mk hok
              clear hok
              go_wp2_with (first | (go_at_call 56; refine (within_f _ _ _ _ HNO.out).mono ?_; rintro e w' ⟨rfl, rfl⟩))
              go_ret
              exact ⟨by rw [HF.out]; rfl, HB.out⟩
          · obtain rfl : b = l0.length := by have := HK2.out; omega
            go_wp2
            go_roundg (k1 - 1)
            case measure => have := HK.out; omega
            case rel => exact ⟨a + 1, by go_num, ⟨by have := HK.out; omega⟩, ⟨by intro j hj; by_cases e : j = a; (subst e; exact ⟨HM.out, HOK2.out⟩); exact HOK.out j (by omega)⟩, ⟨HS.out.row⟩⟩
      · have hfin : isTab l0 = false := isTab_no l0 a ha (fun h => hrow h.1)
        have HF := Aside0.mk hfin
        have HB := Aside0.mk HS.out.below
        clear hfin HS
        have e1 : ((((rd_L1 l0 (a : Int)).length : Nat) : Int) != (l0.length : Int)) = true := by rw [bne_iff_ne]; intro e; exact hrow (Int.ofNat.inj e)
        have e1b : ((rd_L1 l0 (a : Int)).length == l0.length) = false := by rw [beq_eq_false_iff_ne]; exact hrow
        have HNO := Aside0.mk hrow
        clear hrow
        go_wp2
        go_ret
        exact ⟨by rw [HF.out]; rfl, HB.out⟩
    · obtain rfl : a = l0.length := by have := HK.out; omega
      have hL1 := fun ty => HS.out.rows.len Try.underlying99 ty
      have hL2 := fun ty => HS.out.cols.len Try.underlying99 ty
      obtain ⟨p, hp⟩ : ∃ p, p = Maps.size (Maps.setOf (H := Unit) (.lit (.bool true)) ((seenR l0 l0.length 0).map pk)) := ⟨_, rfl⟩
      obtain ⟨q, hq⟩ : ∃ q, q = Maps.size (Maps.setOf (H := Unit) (.lit (.bool true)) ((seenC l0 l0.length 0).map pk)) := ⟨_, rfl⟩
      rw [← hp] at hL1
      rw [← hq] at hL2
      have HF := Aside0.mk (isTab_end l0 h1 h2 HOK.out p q hp hq)
      have HB := Aside0.mk HS.out.below
      clear hp hq HS
      have hw : wrap64 ((l0.length : Int) * (l0.length : Int)) = ((l0.length * l0.length : Nat) : Int) := by
        have h144 : l0.length * l0.length ≤ 12 * 12 := Nat.mul_le_mul h2 h2
        rw [← Int.natCast_mul]
        unfold wrap64
        omega
      by_cases cp : p = l0.length * l0.length
      · have f1 : ((p : Int) == wrap64 ((l0.length : Int) * (l0.length : Int))) = true := by rw [hw, cp]; simp
        by_cases cq : q = l0.length * l0.length
        · have f2 : ((q : Int) == wrap64 ((l0.length : Int) * (l0.length : Int))) = true := by rw [hw, cq]; simp
          have HE := Aside0.mk (show isTab l0 = true by rw [HF.out]; simp [cp, cq])
          clear HF cp cq hw
          go_wp2
          go_ret
          exact ⟨by rw [HE.out]; rfl, HB.out⟩
        · have f2 : ((q : Int) == wrap64 ((l0.length : Int) * (l0.length : Int))) = false := by rw [hw, beq_eq_false_iff_ne]; intro e; exact cq (Int.ofNat.inj e)
          have HE := Aside0.mk (show isTab l0 = false by rw [HF.out]; simp [cq])
          clear HF cp cq hw
          go_wp2
          go_ret
          exact ⟨by rw [HE.out]; rfl, HB.out⟩
      · have f1 : ((p : Int) == wrap64 ((l0.length : Int) * (l0.length : Int))) = false := by rw [hw, beq_eq_false_iff_ne]; intro e; exact cp (Int.ofNat.inj e)
        have HE := Aside0.mk (show isTab l0 = false by rw [HF.out]; simp [cp])
        clear HF cp hw
        go_wp2
        go_ret
        exact ⟨by rw [HE.out]; rfl, HB.out⟩

set_option maxHeartbeats 1000000 in
set_option maxRecDepth 100000 in
theorem isTable_out (A0 : Option Addr) (c0 : Nat) (l0 : List (List Int)) (w : World) (hn : l0.length ≤ 9223372036854775807) (h : ¬ (2 ≤ l0.length ∧ l0.length ≤ 12)) :
    Calls Try.prog 53 #[.slice A0 l0.length c0] w fun e w' => e = .returned (.bool (isTab l0)) ∧ Below w.heap.size w w' := by
  have hfin : isTab l0 = false := decide_eq_false (fun h' => h ⟨h'.1, h'.2.1⟩)
  have HF := Aside0.mk hfin
  have HNO := Aside0.mk (show ¬ ((2 : Int) ≤ (l0.length : Int) ∧ (l0.length : Int) ≤ 12) from fun h' => h ⟨by omega, by omega⟩)
  clear hfin h
  go_enter Try.func53, Try.ntmps53
  go_wp2_with (go_at_call 56; refine (within_f _ _ _ _ HNO.out).mono ?_; rintro e w' ⟨rfl, rfl⟩)
  go_ret
  exact ⟨by rw [HF.out]; rfl, Below.refl _ _⟩

theorem serial_isTable.calls (A0 : Option Addr) (c0 : Nat) (l0 : List (List Int)) (r : Bool) (w : World) (hr0 : Kd.C (Kd.slice 3 (Kd.int .i64)) w A0 l0.length l0) (hc0 : l0.length ≤ c0) (h : serial_isTable.f l0 = some r) :
    Calls Try.prog 53 #[.slice A0 l0.length c0] w fun e w' => e = .returned (.bool r) ∧ Below w.heap.size w w' := by
  obtain rfl := Option.some.inj h
  by_cases hb : 2 ≤ l0.length ∧ l0.length ≤ 12
  · exact isTable_in A0 c0 l0 w hr0 hb.1 hb.2
  · exact isTable_out A0 c0 l0 w (Kd.C_max hr0) hb
end Go.Proofs.Ytdkncfmlehcjmaa.X
