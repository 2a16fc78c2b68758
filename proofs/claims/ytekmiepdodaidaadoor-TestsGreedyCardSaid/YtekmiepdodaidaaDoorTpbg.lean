/- Texts behind TestsGreedy, part 33: contracts of the program's functions and the plain words for them. -/
import Derived.Deep.Slices
import Derived.Deep.Strs
import Derived.ProofKit
import Derived.OpenShut
import Derived.Lib.SmallJoins
import Derived.Lib.LaidTab
import Derived.Stop.LaidErr
import Derived.Test.YtekmiepdodaidaaDoorRows
import Derived.LaidMore
import Derived.Stop.Joined
import Derived.LaidHandle
import Derived.ChangeOld
import Derived.Test.YtekmiepdodaidaaDoorTpaa
import Derived.Test.YtekmiepdodaidaaDoorTpas
import Derived.Test.YtekmiepdodaidaaDoorTpav
import Derived.Test.YtekmiepdodaidaaDoorTpba
import Derived.Test.YtekmiepdodaidaaDoorTpbb
import Derived.Test.YtekmiepdodaidaaDoorTpbd
import Derived.Test.YtekmiepdodaidaaDoorTpbe
import Derived.Test.YtekmiepdodaidaaDoorTpbf
section
/- Arguments as they come in, opened kind by kind: what a value's cells read as is a word of the kind. -/
set_option linter.unusedVariables false
set_option linter.unusedSimpArgs false
namespace Go.Proofs.YtekmiepdodaidaaDoor.X
open Go.ChangeShapes Go.WideShapes Go.ChangeAt Go.RowKit Go.Proofs.YtekmiepdodaidaaDoorW.PrintWords
section
variable {H : Type} {enc : TypeId × Value → H} {P : Program} {W : World} {base : Nat} {held : Bool}
/-- Whatever is read of type t is a word of the kind, and it is good. -/
def Opens {α : Type} (enc : TypeId × Value → H) (P : Program) (W : World) (base : Nat) (held : Bool) (d : Kd α) (t : TypeId) (good : α → Prop) : Prop :=
 ∀ fuel cs x, DataW.trod enc P W base (fun _ => true) held fuel t cs = some x → ∃ a : α, d.K W a cs ∧ good a
theorem opens_int {t : TypeId} {k : IntKind} (ht : P.underlying t = some (.int k)) : Opens enc P W base held (Kd.int k) t (fun z => (Lit.int k z).wf = true) := by
 intro fuel cs x h
 obtain ⟨z, e, _, hw⟩ := DataW.trod_int ht h
 exact ⟨z, e, hw⟩
theorem opens_slice {α : Type} {d : Kd α} {t e : TypeId} {good : α → Prop} (ht : P.underlying t = some (.slice e)) (hs : P.cellsOf e = d.sz) (he : Opens enc P W base held d e good) :
  Opens enc P W base held (Kd.slice e d) t (fun l => l.length ≤ maxLen ∧ ∀ x ∈ l, good x) := by
 intro fuel cs x h
 rcases Go.Deep.open_slice ht h with ⟨rfl, _⟩ | ⟨a, len, cap, m, n, D, Pl, rfl, hb, hl, hm, hmm, hxx, hx⟩
 ·exact ⟨[], ⟨none, 0, rfl, Nat.le_refl _, Kd.C_nil _ _⟩, Nat.zero_le _, by simp⟩
 simp only [if_true] at hmm
 subst hmm
 have each : ∀ i, i < len → ∃ y : α, ∃ cs', W.cells? base (a.add (i * d.sz)) d.sz = some cs' ∧ d.K W y cs' ∧ good y := by
  intro i hi
  obtain ⟨cs', h1, h2⟩ := hx i (by omega)
  obtain ⟨y, h3, h4⟩ := he _ _ _ h2
  rw [hs] at h1
  exact ⟨y, cs', h1, h3, h4⟩
 have pick : ∃ l : List α, l.length = len ∧ ∀ i y, l[i]? = some y → ∃ cs', W.cells? base (a.add (i * d.sz)) d.sz = some cs' ∧ d.K W y cs' ∧ good y := by
  clear hl hm hx hxx h
  induction len with
  | zero => exact ⟨[], rfl, fun i y hy => by simp at hy⟩
  | succ len ih =>
   obtain ⟨l, hl, hy⟩ := ih (fun i hi => each i (by omega))
   obtain ⟨y0, hy0⟩ := each len (by omega)
   refine ⟨l ++ [y0], by simp [hl], fun i y hi => ?_⟩
   rcases Nat.lt_trichotomy i l.length with h | h | h
   ·rw [List.getElem?_append_left h] at hi
    exact hy i y hi
   ·rw [List.getElem?_append_right (by omega)] at hi
    have e0 : i - l.length = 0 := by omega
    rw [e0] at hi
    have : y0 = y := by simpa using hi
    subst this
    rw [h, hl]
    exact hy0
   ·rw [List.getElem?_eq_none (by simp; omega)] at hi
    cases hi
 obtain ⟨l, rfl, hy⟩ := pick
 refine ⟨l, ⟨some a, _, rfl, hl, rfl, ?_, fun hn => ⟨a, rfl, fun j p hj => ?_⟩⟩, Nat.le_trans hl hm, fun x hx => ?_⟩
 ·have := Nat.le_trans hl hm
  simpa [maxLen] using this
 ·obtain ⟨cs', h1, h2, _⟩ := hy j p hj
  obtain ⟨h3, h4, h5⟩ := World.cells?_some h1
  refine ⟨cs', h4, h2, fun i u hu => ?_⟩
  have hi : i < d.sz := by
   rcases Nat.lt_or_ge i d.sz with h | h
   ·exact h
   ·rw [List.getElem?_eq_none (by omega)] at hu
    cases hu
  have := h5 i hi
  rw [hu] at this
  rw [← this]
  congr 1
  simp only [Addr.add]
  by_cases h6 : i = 0
  ·subst h6; simp
  ·by_cases h7 : j * d.sz = 0
   ·simp [h6, h7]
   ·simp [h6, h7, Nat.add_assoc]
 ·obtain ⟨j, hj⟩ := List.getElem?_of_mem hx
  obtain ⟨_, _, _, h4⟩ := hy j x hj
  exact h4
theorem opens_arg {α : Type} {d : Kd α} {t : TypeId} {good : α → Prop} {v : Value} {x : DataW H} {p : List MemPlace} (ho : Opens enc P W base held d t good) (h : DataW.Trod enc P W base (fun _ => true) held t v x p) : ∃ a : α, d.K W a v.cells.toList ∧ good a := by
 obtain ⟨fuel, hf⟩ := h
 exact ho _ _ _ hf
/-- An argument that is a slice. -/
theorem open_slice {α : Type} {d : Kd α} {t e : TypeId} {good : α → Prop} {v : Value} {x : DataW H} {p : List MemPlace} (ht : P.underlying t = some (.slice e)) (hs : P.cellsOf e = d.sz) (he : Opens enc P W 0 true d e good)
  (hv : Value.okWide P W .any base t v) (h : DataW.Trod enc P W 0 (fun _ => true) true t v x p) :
  ∃ (a : Option Addr) (l : List α) (cap : Nat), v = .slice a l.length cap ∧ l.length ≤ cap ∧ Kd.C d W a l.length l ∧ l.length ≤ maxLen ∧ ∀ x ∈ l, good x := by
 obtain ⟨a, len, cap, rfl⟩ := okWide_slice ht hv
 obtain ⟨l, ⟨A, c, e1, h1, h2⟩, h3, h4⟩ := opens_arg (opens_slice ht hs he) h
 simp only [Value.cells, List.cons.injEq, Value.slice.injEq, and_true] at e1
 obtain ⟨rfl, rfl, rfl⟩ := e1
 exact ⟨_, l, _, rfl, h1, h2, h3, h4⟩
theorem okWide_struct {r : Reach} {fs : Array Field} {b0 : Nat} {t : TypeId} {v : Value} (ht : P.underlying t = some (.struct fs)) (h : Value.okWide P W r b0 t v) : ∃ cs, v = .agg cs ∧ cs.size = P.cellsOf t := by
 simp only [Value.okWide, ht] at h
 cases v <;> simp_all
/-- An argument that is a struct of three slices. -/
theorem open_three {α β γ : Type} {d0 : Kd α} {d1 : Kd β} {d2 : Kd γ} {t e0 e1 e2 : TypeId} {f0 f1 f2 : Field} {g0 : α → Prop} {g1 : β → Prop} {g2 : γ → Prop} {v : Value} {x : DataW H} {p : List MemPlace}
  (ht : P.underlying t = some (.struct #[f0, f1, f2])) (hc : P.cellsOf t = 3) (o0 : f0.offset = 0) (o1 : f1.offset = 1) (o2 : f2.offset = 2) (c0 : P.cellsOf f0.type = 1) (c1 : P.cellsOf f1.type = 1) (c2 : P.cellsOf f2.type = 1)
  (t0 : P.underlying f0.type = some (.slice e0)) (t1 : P.underlying f1.type = some (.slice e1)) (t2 : P.underlying f2.type = some (.slice e2)) (s0 : P.cellsOf e0 = d0.sz) (s1 : P.cellsOf e1 = d1.sz) (s2 : P.cellsOf e2 = d2.sz)
  (h0 : Opens enc P W 0 true d0 e0 g0) (h1 : Opens enc P W 0 true d1 e1 g1) (h2 : Opens enc P W 0 true d2 e2 g2)
  (hv : Value.okWide P W .any base t v) (h : DataW.Trod enc P W 0 (fun _ => true) true t v x p) :
  ∃ (a0 : Option Addr) (l0 : List α) (k0 : Nat) (a1 : Option Addr) (l1 : List β) (k1 : Nat) (a2 : Option Addr) (l2 : List γ) (k2 : Nat), v = .agg #[.slice a0 l0.length k0, .slice a1 l1.length k1, .slice a2 l2.length k2] ∧
   (l0.length ≤ k0 ∧ Kd.C d0 W a0 l0.length l0 ∧ l0.length ≤ maxLen ∧ ∀ x ∈ l0, g0 x) ∧ (l1.length ≤ k1 ∧ Kd.C d1 W a1 l1.length l1 ∧ l1.length ≤ maxLen ∧ ∀ x ∈ l1, g1 x) ∧ (l2.length ≤ k2 ∧ Kd.C d2 W a2 l2.length l2 ∧ l2.length ≤ maxLen ∧ ∀ x ∈ l2, g2 x) := by
 obtain ⟨cs, rfl, hsz⟩ := okWide_struct ht hv
 obtain ⟨fuel, hf⟩ := h
 obtain ⟨y0, y1, y2, n, _, hl, r0, r1, r2⟩ := Go.Deep.trod_struct3 ht hf
 rw [hc] at hl hsz
 obtain ⟨ls⟩ := cs
 match ls, hsz with
 | [u0, u1, u2], _ =>
  rw [o0, c0] at r0
  rw [o1, c1] at r1
  rw [o2, c2] at r2
  simp only [Value.cells, List.drop_zero, List.take_succ_cons, List.take_zero, List.drop_succ_cons] at r0 r1 r2
  obtain ⟨l0, ⟨a0, k0, q0, m0, n0⟩, w0⟩ := opens_slice t0 s0 h0 _ _ _ r0
  obtain ⟨l1, ⟨a1, k1, q1, m1, n1⟩, w1⟩ := opens_slice t1 s1 h1 _ _ _ r1
  obtain ⟨l2, ⟨a2, k2, q2, m2, n2⟩, w2⟩ := opens_slice t2 s2 h2 _ _ _ r2
  simp only [List.cons.injEq, and_true] at q0 q1 q2
  subst q0 q1 q2
  exact ⟨a0, l0, k0, a1, l1, k1, a2, l2, k2, rfl, ⟨m0, n0, w0⟩, ⟨m1, n1, w1⟩, ⟨m2, n2, w2⟩⟩
end
end Go.Proofs.YtekmiepdodaidaaDoor.X
end

section
/- What every row of this seat uses: what its condition gives, the door's heap, the listed tables, the arguments' kinds. -/
namespace Go.Proofs.YtekmiepdodaidaaDoor
open Go.ChangeShapes Go.WideShapes Go.ChangeAt Go.RowKit Go.Proofs.YtekmiepdodaidaaDoorW.PrintWords
theorem own : ownKnob Tryd.prog.godebug = none := by kernel_rfl
theorem laidOut : laidOutB Tryd.prog = true := by kernel_rfl
def laidTabs : List (String × DataW Unit) := [("math/bits.deBruijn32tab", Rows.laid_math_bits_deBruijn32tab), ("math/bits.deBruijn64tab", Rows.laid_math_bits_deBruijn64tab)]
theorem g64 : Tryd.prog.globalNamed "math/bits.deBruijn64tab" = some 1 := by kernel_rfl
theorem tab64 : Rows.laid_math_bits_deBruijn64tab (H := Unit) = Lib.tabData .u8 (Lib.deBruijn64tab.map fun n : Nat => (n : Int)) := rfl
set_option maxRecDepth 100000 in
theorem door_met (os : Os) (args : Array Value) : laidMetH Tryd.prog laidTabs ((World.doorLaid Tryd.prog 19 os).forCall (fun _ _ => 0) ⟨#[], args, []⟩).memory :=
 laidMetH_of_parts3 (fuel := 8) (laidMet_of_run' 8 (by kernel_rfl) (by kernel_rfl)) (by kernel_rfl) (by kernel_rfl)
set_option maxRecDepth 100000 in
theorem tab_of_laid {W : World} (h : laidMetH Tryd.prog laidTabs W) : X.Tab W := by
 rw [MakeChecks.laidMetH_plain _ _ _ (by kernel_rfl)] at h
 have h1 := laidMet.tail h
 rw [tab64] at h1
 have e : ∃ t n e, (Tryd.prog.globals[1]?).map (·.type) = some t ∧ Tryd.prog.underlying t = some (.array n e) ∧ Tryd.prog.underlying e = some (.int .u8) ∧ Tryd.prog.cellsOf e = 1 ∧ Tryd.prog.cellsOf t = n :=
  ⟨112, 64, 5, by kernel_rfl, by kernel_rfl, by kernel_rfl, by kernel_rfl, by kernel_rfl⟩
 obtain ⟨t, n, e, e1, e2, e3, e4, e5⟩ := e
 have h2 := Lib.tabIs_of_head g64 e1 e2 e3 e4 e5 h1
 have h3 : TabAt 1 Lib.deBruijn64tab W := by
  intro j hj
  have h4 := h2.cell g64 j (by simpa using hj)
  rw [h4]
  simp [List.getD, List.getElem?_map, List.getElem?_eq_getElem hj]
 refine ⟨h3, ?_⟩
 have h4 := h3 0 (by decide)
 unfold World.cell? at h4
 rcases Nat.lt_or_ge 1 W.heap.size with h | h
 ·exact h
 ·simp [Array.getElem?_eq_none h] at h4
section
variable {H : Type} {enc : TypeId × Value → H} {W : World} {base : Nat} {held : Bool}
theorem opens3 : X.Opens enc Tryd.prog W base held (Kd.int .i64) 3 (fun z => (Lit.int .i64 z).wf = true) := X.opens_int Tryd.underlying3
set_option maxRecDepth 100000 in
theorem opens22 : X.Opens enc Tryd.prog W base held (Kd.slice 3 (Kd.int .i64)) 22 (fun l => l.length ≤ maxLen ∧ ∀ z ∈ l, (Lit.int .i64 z).wf = true) := X.opens_slice Tryd.underlying22 (by kernel_rfl) opens3
set_option maxRecDepth 100000 in
theorem open_case {v : Value} {x : DataW H} {p : List MemPlace} (hv : Value.okWide Tryd.prog W .any base 25 v) (h : DataW.Trod enc Tryd.prog W 0 (fun _ => true) true 25 v x p) :
  ∃ (a0 : Option Addr) (l0 : List Int) (k0 : Nat) (a1 : Option Addr) (l1 : List (List Int)) (k1 : Nat) (a2 : Option Addr) (l2 : List Int) (k2 : Nat), v = .agg #[.slice a0 l0.length k0, .slice a1 l1.length k1, .slice a2 l2.length k2] ∧
   (l0.length ≤ k0 ∧ Kd.C (Kd.int .i64) W a0 l0.length l0 ∧ l0.length ≤ maxLen ∧ ∀ z ∈ l0, (Lit.int .i64 z).wf = true) ∧
   (l1.length ≤ k1 ∧ Kd.C (Kd.slice 3 (Kd.int .i64)) W a1 l1.length l1 ∧ l1.length ≤ maxLen ∧ ∀ l ∈ l1, l.length ≤ maxLen ∧ ∀ z ∈ l, (Lit.int .i64 z).wf = true) ∧
   (l2.length ≤ k2 ∧ Kd.C (Kd.int .i64) W a2 l2.length l2 ∧ l2.length ≤ maxLen ∧ ∀ z ∈ l2, (Lit.int .i64 z).wf = true) :=
 X.open_three Tryd.underlying25 (by kernel_rfl) rfl rfl rfl (by kernel_rfl) (by kernel_rfl) (by kernel_rfl) Tryd.underlying22 Tryd.underlying23 Tryd.underlying22 (by kernel_rfl) (by kernel_rfl) (by kernel_rfl) opens3 opens22 opens3 hv h
end
end Go.Proofs.YtekmiepdodaidaaDoor
end

section
/- Layer 7, plain: the reference's Greedy. -/
set_option linter.unusedVariables false
namespace Go.Proofs.YtekmiepdodaidaaDoor.X
open Go.RowKit Go.Proofs.YtekmiepdodaidaaDoorW.PrintWords Go.Proofs.YtekmiepdodaidaaDoorW.PrintLast Go.Proofs.YtekmiepdodaidaaDoorW.PrintMore

theorem wOf_zero : ∀ (l : List Int), wOf l 0 = 0
 | [] => rfl
 | x :: xs => by simp [wOf, wOf_zero xs]
theorem wOf_pos : ∀ (l : List Int) (v : Nat), (∀ x ∈ l, 1 ≤ x ∧ x ≤ 1000) → v < 2 ^ l.length → v ≠ 0 → 1 ≤ wOf l v
 | [], v, _, h, h0 => by simp at h; omega
 | x :: xs, v, hw, h, h0 => by
  have hx := hw x (by simp)
  have hb := wOf_bounds xs (v / 2) (fun y hy => hw y (by simp [hy]))
  unfold wOf
  split
  ·omega
  ·have := wOf_pos xs (v / 2) (fun y hy => hw y (by simp [hy])) (by rw [List.length_cons, Nat.pow_succ] at h; omega) (by omega)
   omega
section
variable {a : List Int} {b : List (List Int)} {c : List Int}
theorem w_zero_iff (h : CaseIs a b c) (v : Nat) (hv : v < 2 ^ a.length) : wOf a v = 0 ↔ v = 0 := by
 constructor
 ·intro e
  rcases Nat.eq_zero_or_pos v with h0 | h0
  ·exact h0
  ·have := wOf_pos a v h.wa hv (by omega); omega
 ·rintro rfl; exact wOf_zero a
theorem mn_zero {x y : Int} (hx : 0 ≤ x) (hy : 0 ≤ y) : mn x y = 0 ↔ x = 0 ∨ y = 0 := by unfold mn; split <;> omega
/-- One test more, as the reference goes. -/
theorem rgreedy_l1 (h : CaseIs a b c) (s : Nat) (hs : s < 2 ^ a.length) (p : Int) (R : List S57) (m : Nat) : ∀ (t : Nat) (st : Int × Int), t + m = b.length → (st.1 = -1 ∨ (0 ≤ st.1 ∧ st.1 < (b.length : Int))) →
  Ev (fun k => tickingref07_Greedy.l1 k (s : Int) p (gFold a c s t ((onesOf b).drop t) st).1 (gFold a c s t ((onesOf b).drop t) st).2 (b.length : Int) a b c) R → Ev (fun k => tickingref07_Greedy.l1 k (s : Int) p st.1 st.2 (t : Int) a b c) R := by
 have hp10 : 2 ^ a.length ≤ 2 ^ 10 := Nat.pow_le_pow_right (by omega) h.a10
 have hcl := h.cb
 have hb12 := h.b12
 induction m with
 | zero =>
  intro t st ht hst hR
  obtain rfl : t = b.length := by omega
  rw [show (onesOf b).drop b.length = [] from by rw [List.drop_eq_nil_iff, onesOf_len]; exact Nat.le_refl _] at hR
  exact hR
 | succ m ih =>
  intro t st ht hst hR
  have htl : t < b.length := by omega
  rw [onesOf_at b t htl] at hR
  have hrl := row_lt h t htl
  obtain ⟨v, hv⟩ : ∃ v, v = rowV b[t] := ⟨_, rfl⟩
  rw [← hv] at hR hrl
  obtain ⟨e1, e2, e3⟩ := split_nat (s := s) (x := v) (by omega) hrl
  have hole : s &&& v ≤ s := Nat.and_le_left
  obtain ⟨o, ho⟩ : ∃ o, o = s &&& v := ⟨_, rfl⟩
  rw [← ho] at e1 e2 e3 hole
  have e2' : bSub (s : Int) (v : Int) = ((s - o : Nat) : Int) := by rw [e2]; omega
  have wo := wOf_bounds a o h.wa
  have wz := wOf_bounds a (s - o) h.wa
  have zo := w_zero_iff h o (by omega)
  have zz := w_zero_iff h (s - o) (by omega)
  have hsp : splitB (s : Int) (v : Int) = true ↔ ¬ mn (wOf a o) (wOf a (s - o)) = 0 := by
   rw [mn_zero wo.1 wz.1, zo, zz, e3]
   simp only [Bool.and_eq_true, Bool.not_eq_true', beq_eq_false_iff_ne, ne_eq, not_or]
   constructor
   ·rintro ⟨h1, h2⟩; omega
   ·rintro ⟨h1, h2⟩; omega
  have hG : gStep a c (s : Int) (t : Int) (v : Int) st = if ¬ mn (wOf a o) (wOf a (s - o)) = 0 then (if st.1 < 0 ∨ wrap64 (mn (wOf a o) (wOf a (s - o)) * rd c st.1) > wrap64 (st.2 * rd c (t : Int)) then ((t : Int), mn (wOf a o) (wOf a (s - o))) else st) else st := by
   unfold gStep
   rw [e1, e2', Int.toNat_natCast, Int.toNat_natCast]
   by_cases hx : mn (wOf a o) (wOf a (s - o)) = 0
   ·rw [if_neg (fun hh => (hsp.1 hh) hx), if_neg (by simpa using hx)]
   ·rw [if_pos (hsp.2 hx), if_pos hx]
  have hR2 : Ev (fun k => tickingref07_Greedy.l1 k (s : Int) p (gFold a c s ((t + 1 : Nat) : Int) ((onesOf b).drop (t + 1)) (gStep a c (s : Int) (t : Int) (v : Int) st)).1 (gFold a c s ((t + 1 : Nat) : Int) ((onesOf b).drop (t + 1)) (gStep a c (s : Int) (t : Int) (v : Int) st)).2 (b.length : Int) a b c) R := by
   have : gFold a c s (t : Int) ((v : Int) :: (onesOf b).drop (t + 1)) st = gFold a c s ((t + 1 : Nat) : Int) ((onesOf b).drop (t + 1)) (gStep a c (s : Int) (t : Int) (v : Int) st) := by
    rw [show ((t + 1 : Nat) : Int) = (t : Int) + 1 from by omega]; rfl
   rw [this] at hR
   exact hR
  have hst2 : (gStep a c (s : Int) (t : Int) (v : Int) st).1 = -1 ∨ (0 ≤ (gStep a c (s : Int) (t : Int) (v : Int) st).1 ∧ (gStep a c (s : Int) (t : Int) (v : Int) st).1 < (b.length : Int)) := by
   rw [hG]
   split
   ·split
    ·right; show (0 : Int) ≤ (t : Int) ∧ (t : Int) < _; omega
    ·exact hst
   ·exact hst
  have hn := ih (t + 1) _ (by omega) hst2 hR2
  rw [hG] at hn
  clear ih hR hR2 hst2 hG e3 hsp zo zz wo wz
  refine Ev.step (f := fun k => (tickingref07_ones.f k a b c (s : Int) (t : Int)).bind _) (fun k => by simp only [tickingref07_Greedy.l1]; rw [if_pos (by omega)]) ?_
  refine Ev.bind (rones_ev h s t htl) ?_
  rw [← hv, ← ho]
  refine Ev.bind (rweight_ev h.a10 h.wa o) ?_
  rw [wr_sub s o (by omega) hole]
  refine Ev.bind (rweight_ev h.a10 h.wa (s - o)) ?_
  by_cases hx : mn (wOf a o) (wOf a (s - o)) = 0
  ·refine Ev.congr (fun k => if_pos hx) ?_
   rw [if_neg (by simpa using hx)] at hn
   rw [w1 t (by omega)]
   exact hn
  ·refine Ev.congr (fun k => if_neg hx) ?_
   rw [if_pos hx] at hn
   rcases hst with hst | ⟨hst0, hst1⟩
   ·refine Ev.congr (fun k => if_pos (by omega)) ?_
    rw [if_pos (.inl (by omega))] at hn
    rw [w1 t (by omega)]
    exact hn
   ·refine Ev.congr (fun k => if_neg (by omega)) ?_
    refine Ev.congr (fun k => if_pos (by omega)) ?_
    refine Ev.congr (fun k => if_pos (by omega)) ?_
    refine Ev.congr (fun k => if_pos (by omega)) ?_
    refine Ev.congr (fun k => if_pos (by omega)) ?_
    rw [w1 t (by omega)]
    by_cases hc : wrap64 (mn (wOf a o) (wOf a (s - o)) * rd c st.1) > wrap64 (st.2 * rd c (t : Int))
    ·rw [if_pos (.inr hc)] at hn
     refine Ev.congr (fun k => if_pos hc) ?_
     exact hn
    ·rw [if_neg (by rintro (h | h); omega; exact hc h)] at hn
     refine Ev.congr (fun k => if_neg hc) ?_
     exact hn
theorem one_isN : ∀ v, v < 1024 → v ≠ 0 → cntB v = 1 → v = 2 ^ (Lib.ctz 64 v) ∧ Lib.ctz 64 v < 10 := by decide +kernel
theorem one_ofN : ∀ i, i < 10 → cntB (2 ^ i) = 1 := by decide +kernel
theorem pow_inj {i j : Nat} (h : 2 ^ i = 2 ^ j) : i = j := (Nat.pow_right_inj (by omega)).1 h
/-- Is the set one fault? -/
theorem rgreedy_l0 (h : CaseIs a b c) (s : Nat) (h0 : s ≠ 0) (hs : s < 2 ^ a.length) (p : Int) (R : List S57) (hone : pcount (s : Int) = 1 → [(⟨-1, tzB (s : Int), 0, 0⟩ : S57)] = R) (hmore : pcount (s : Int) ≠ 1 → Ev (fun k => tickingref07_Greedy.l1 k (s : Int) p (-1) 0 0 a b c) R) (m : Nat) : ∀ (i : Nat), i + m = a.length → (∀ j, j < i → s ≠ 2 ^ j) →
  Ev (fun k => tickingref07_Greedy.l0 k (s : Int) p (i : Int) a b c) R := by
 have hp10 : 2 ^ a.length ≤ 2 ^ 10 := Nat.pow_le_pow_right (by omega) h.a10
 have hs10 : s < 1024 := by omega
 have ha := h.a10
 induction m with
 | zero =>
  intro i hi hj
  obtain rfl : i = a.length := by omega
  have hp : pcount (s : Int) ≠ 1 := by
   intro hp
   rw [pcount_nat s hs10] at hp
   obtain ⟨e1, e2⟩ := one_isN s hs10 h0 (by omega)
   refine hj (Lib.ctz 64 s) ?_ e1
   have : 2 ^ Lib.ctz 64 s < 2 ^ a.length := by rw [← e1]; exact hs
   exact (Nat.pow_lt_pow_iff_right (by omega)).1 this
  refine Ev.step (fun k => ?_) (hmore hp)
  simp only [tickingref07_Greedy.l0]
  rw [if_neg (by omega)]
 | succ m ih =>
  intro i hi hj
  by_cases e : s = 2 ^ i
  ·have hc1 : cntB s = 1 := by rw [e]; exact one_ofN i (by omega)
   have hp : pcount (s : Int) = 1 := by rw [pcount_nat s hs10, hc1]; rfl
   have hz : tzB (s : Int) = (i : Int) := by
    unfold tzB
    rw [Int.toNat_natCast]
    have := (one_isN s hs10 h0 hc1).1
    rw [e] at this
    have := pow_inj this
    rw [e]; omega
   have hR := hone hp
   rw [hz] at hR
   rw [← hR]
   refine Ev.step (f := fun _ => some _) (fun k => ?_) (Ev.now _)
   simp only [tickingref07_Greedy.l0]
   rw [if_pos (by omega), if_pos (by omega), shl_nat i (by omega), if_pos (by rw [e])]
  ·refine Ev.step (fun k => ?_) (ih (i + 1) (by omega) (fun j hjl => by by_cases ej : j = i; rw [ej]; exact e; exact hj j (by omega)))
   simp only [tickingref07_Greedy.l0]
   rw [if_pos (by omega), if_pos (by omega), shl_nat i (by omega), if_neg (by intro e'; exact e (by exact_mod_cast e')), w1 i (by omega)]
theorem rg_a {m s : Nat} (h : m + 1 ≤ 2 * s) (hs : s ≤ 1024) : m ≤ 4096 := by omega
theorem rg_e {p s o : Nat} (hp : p + 2 * s ≤ 8192) (h : s - o < s) (ho : o ≤ s) : p + 1 + 2 * (s - o) ≤ 8192 := by omega
theorem rg_f {p s o m : Nat} (hp : p + 2 * s ≤ 8192) (hm : m + 1 ≤ 2 * (s - o)) (ho : o ≤ s) : p + 1 + m + 2 * o ≤ 8192 := by omega
theorem rg_h {s o : Nat} (h : s ≤ 1024) : s - o ≤ 1024 := by omega
theorem rg_i {s o : Nat} {z : Int} (h : z = (s : Int) - ((o : Nat) : Int)) (ho : o ≤ s) : z = ((s - o : Nat) : Int) := by omega
theorem rg_b {p m : Nat} (hp : p ≤ 8192) (h : m ≤ 4096) : wrap64 (((p + 1 : Nat) : Int) + (m : Int)) = ((p + 1 + m : Nat) : Int) := by unfold wrap64; omega
theorem rg_c {z : List S57} {x : S57} (h : z.length ≤ 4096) : [x].length + z.length < 4398046511104 := by simp only [List.length_cons, List.length_nil]; omega
theorem rg_d {z y : List S57} {x : S57} (h : z.length ≤ 4096) (hy : y.length ≤ 4096) : ([x] ++ z).length + y.length < 4398046511104 := by simp only [List.length_append, List.length_cons, List.length_nil]; omega
theorem rg_end (x : S57) (z y : List S57) : Ev (fun _ : Nat => some (([x] ++ z) ++ y)) (x :: (z ++ y)) := by rw [show ([x] ++ z) ++ y = x :: (z ++ y) from by rw [List.append_assoc]; rfl]; exact Ev.now _
/-- The reference's Greedy. -/
theorem rgreedy_ev (D : Differ a b c) (d : Nat) : ∀ (s p : Nat), SetN a.length (s : Int) → s ≤ d → p + 2 * s ≤ 8192 → Ev (fun k => tickingref07_Greedy.f k a b c (s : Int) (p : Int)) (treeB (greedyT a c (onesOf b)) (onesOf b) (s : Int) p) := by
 have H := greedy_ok D
 have h := D.is
 have ha := h.a10
 have hp10 : 2 ^ a.length ≤ 2 ^ 10 := Nat.pow_le_pow_right (by omega) h.a10
 induction d with
 | zero => intro s p hs hd; have := hs.2.1; omega
 | succ d ih =>
  intro s p hs hd hp
  have hsl : s < 2 ^ a.length := Int.ofNat_lt.1 hs.2.2
  have hs0 : s ≠ 0 := by have := hs.2.1; omega
  have hs10 : s < 1024 := by omega
  have hpp : p < 1000000 := by omega
  have hp8 : p ≤ 8192 := by omega
  have hwp := w1 p hpp
  refine Ev.step (f := fun k => tickingref07_Greedy.l0 k (s : Int) (p : Int) 0 a b c) (fun k => by simp only [tickingref07_Greedy.f]) ?_
  refine rgreedy_l0 h s hs0 hsl (p : Int) _ (fun h1 => (treeB_one _ _ h1).symm) (fun h1 => ?_) a.length 0 (Nat.zero_add _) (fun j hj => absurd hj (Nat.not_lt_zero _))
  refine rgreedy_l1 h s hsl (p : Int) _ b.length 0 (-1, 0) (Nat.zero_add _) (.inl rfl) ?_
  obtain ⟨t0, t1, t2, t4, t5, k1, k2⟩ := run_parts H (s : Int) hs h1
  have htree := treeB_two H.runs (s : Int) p hs h1
  have hlz := treeB_len H.runs (bSub (s : Int) (rd (onesOf b) (greedyT a c (onesOf b) (s : Int)))).toNat _ (p + 1) t4 (Nat.le_refl _)
  have hla := fun q => treeB_len H.runs (bAnd (s : Int) (rd (onesOf b) (greedyT a c (onesOf b) (s : Int)))).toNat _ q t5 (Nat.le_refl _)
  rw [List.drop_zero, show ((0 : Nat) : Int) = 0 from rfl, show (gFold a c (s : Int) 0 (onesOf b) (-1, 0)).1 = greedyT a c (onesOf b) (s : Int) from rfl]
  generalize (gFold a c (s : Int) 0 (onesOf b) (-1, 0)).2 = gg
  obtain ⟨t, ht⟩ : ∃ t : Nat, greedyT a c (onesOf b) (s : Int) = t := ⟨(greedyT a c (onesOf b) (s : Int)).toNat, (Int.toNat_of_nonneg t0).symm⟩
  rw [ht] at t0 t1 t2 t4 t5 k1 k2 htree hlz hla ⊢
  have htl : t < b.length := Int.ofNat_lt.1 t1
  have hrow : rd (onesOf b) (t : Int) = (rowV b[t] : Int) := by
   simp [rd, onesOf, List.getD_eq_getElem?_getD, List.getElem?_map, List.getElem?_eq_getElem htl]
  have hrl := row_lt h t htl
  have hrev := rones_ev h s t htl
  rw [hrow] at t2 t4 t5 k1 k2 htree hlz hla
  generalize rowV b[t] = v at *
  obtain ⟨e1, e2, e3⟩ := split_nat (s := s) (x := v) hs10 hrl
  have hole : s &&& v ≤ s := Nat.and_le_left
  generalize s &&& v = o at *
  have e2' : bSub (s : Int) (v : Int) = ((s - o : Nat) : Int) := rg_i e2 hole
  rw [e1] at t5 k2 htree hla
  rw [e2'] at t4 k1 htree hlz
  have hws := wr_sub s o (Nat.le_of_lt hs10) hole
  simp only [Int.toNat_natCast] at k1 k2 hlz hla
  have i1 := ih (s - o) (p + 1) t4 (Nat.le_of_lt_succ (Nat.lt_of_lt_of_le k1 hd)) (rg_e hp k1 hole)
  have i2 := fun q hq => ih o q t5 (Nat.le_of_lt_succ (Nat.lt_of_lt_of_le k2 hd)) hq
  rw [htree]
  clear htree H D ih h ha hp10 e1 e2 e2' e3 t0 t1 t2 t4 t5 k1 k2 hrl hrow ht hs h1 htl hs0 hsl hd
  generalize treeB (greedyT a c (onesOf b)) (onesOf b) ((s - o : Nat) : Int) (p + 1) = z at i1 hlz ⊢
  replace i2 := i2 (p + 1 + z.length) (rg_f hp hlz hole)
  replace hla := hla (p + 1 + z.length)
  generalize treeB (greedyT a c (onesOf b)) (onesOf b) (o : Int) (p + 1 + z.length) = y at i2 hla ⊢
  have htl' : ¬ ((b.length : Int) < (b.length : Int)) := Int.lt_irrefl _
  have hzl : z.length ≤ 4096 := rg_a hlz (rg_h (Nat.le_of_lt hs10))
  have hyl : y.length ≤ 4096 := rg_a hla (Nat.le_trans hole (Nat.le_of_lt hs10))
  have hw2 : wrap64 (((p + 1 : Nat) : Int) + (z.length : Int)) = ((p + 1 + z.length : Nat) : Int) := rg_b hp8 hzl
  clear hlz hla hole hp hs10 hpp hp8
  refine Ev.step (f := fun k => (tickingref07_ones.f k a b c (s : Int) (t : Int)).bind _) (fun k => by simp only [tickingref07_Greedy.l1]; rw [if_neg htl']) ?_
  refine Ev.bind hrev ?_
  rw [hws, hwp]
  refine Ev.bind i1 ?_
  refine Ev.bind (Ev.now _) ?_
  rw [hw2]
  refine Ev.congr (fun k => if_pos (rg_c hzl)) ?_
  refine Ev.bind (Ev.now _) ?_
  refine Ev.bind i2 ?_
  refine Ev.congr (fun k => if_pos (rg_d hzl hyl)) ?_
  exact rg_end _ _ _
end
end Go.Proofs.YtekmiepdodaidaaDoor.X
end

section
/- Layer 7, plain: Cover: the first smallest set of tests, as the program and as the reference find it. -/
set_option linter.unusedVariables false
namespace Go.Proofs.YtekmiepdodaidaaDoor.X
open Go.RowKit Go.Proofs.YtekmiepdodaidaaDoorW.PrintWords Go.Proofs.YtekmiepdodaidaaDoorW.PrintLast Go.Proofs.YtekmiepdodaidaaDoorW.PrintMore

def AscB : Int → Int → List Int → Prop
 | _, _, [] => True
 | lo, T, x :: xs => lo ≤ x ∧ x < T ∧ AscB (x + 1) T xs
theorem AscB.mono {T T' : Int} (h : T ≤ T') : ∀ {l : List Int} {lo : Int}, AscB lo T l → AscB lo T' l
 | [], _, _ => trivial
 | x :: xs, lo, hl => ⟨hl.1, by have := hl.2.1; omega, AscB.mono h hl.2.2⟩
theorem AscB.snoc {T : Int} : ∀ {l : List Int} {lo : Int}, AscB lo T l → lo ≤ T → AscB lo (T + 1) (l ++ [T])
 | [], lo, _, h => ⟨h, by omega, trivial⟩
 | x :: xs, lo, hl, h => ⟨hl.1, by have := hl.2.1; omega, AscB.snoc hl.2.2 (by have := hl.2.1; omega)⟩
theorem AscB.mem {T : Int} : ∀ {l : List Int} {lo : Int}, AscB lo T l → ∀ x ∈ l, lo ≤ x ∧ x < T
 | [], _, _, x, h => by cases h
 | y :: ys, lo, hl, x, h => by
  rcases List.mem_cons.1 h with rfl | h
  ·exact ⟨hl.1, hl.2.1⟩
  ·have := AscB.mem hl.2.2 x h
   have := hl.1
   omega
theorem AscB.split {T : Int} : ∀ {l : List Int} {lo : Int}, AscB lo (T + 1) l → AscB lo T l ∨ ∃ l', l = l' ++ [T] ∧ AscB lo T l'
 | [], _, _ => .inl trivial
 | x :: xs, lo, h => by
  obtain ⟨h1, h2, h3⟩ := h
  rcases AscB.split h3 with h4 | ⟨l', h4, h5⟩
  ·by_cases e : x = T
   ·subst e
    cases xs with
    | nil => exact .inr ⟨[], rfl, trivial⟩
    | cons y ys => have := h4.1; have := h4.2.1; omega
   ·exact .inl ⟨h1, by omega, h4⟩
  ·by_cases e : x = T
   ·subst e
    subst h4
    cases l' with
    | nil => have := h3.1; have := h3.2.1; omega
    | cons y ys => have := h5.1; have := h5.2.1; omega
   ·exact .inr ⟨x :: l', by rw [h4]; rfl, h1, by omega, h5⟩
theorem AscB.len {T : Int} : ∀ {l : List Int} {lo : Int}, AscB lo T l → lo ≤ T → (l.length : Int) ≤ T - lo
 | [], lo, _, h => by simp; omega
 | x :: xs, lo, hl, h => by
  have := AscB.len hl.2.2 (by have := hl.2.1; omega)
  have := hl.1
  simp only [List.length_cons]
  omega
theorem selB_asc (set : Nat) : ∀ T : Nat, AscB 0 (T : Int) (selB set T)
 | 0 => trivial
 | T + 1 => by
  have ih := selB_asc set T
  unfold selB
  split
  ·have := AscB.snoc ih (by omega)
   rwa [show ((T + 1 : Nat) : Int) = (T : Int) + 1 by omega]
  ·rw [List.append_nil]
   exact ih.mono (by omega)
theorem selB_congr {s s' : Nat} : ∀ T : Nat, (∀ i, i < T → s.testBit i = s'.testBit i) → selB s T = selB s' T
 | 0, _ => rfl
 | T + 1, h => by unfold selB; rw [selB_congr T (fun i hi => h i (by omega)), h T (by omega)]
theorem selB_all : ∀ (T : Nat) (l : List Int), AscB 0 (T : Int) l → ∃ set, set < 2 ^ T ∧ selB set T = l
 | 0, l, h => by
  cases l with
  | nil => exact ⟨0, by simp, rfl⟩
  | cons x xs => have := h.1; have := h.2.1; omega
 | T + 1, l, h => by
  rw [show ((T + 1 : Nat) : Int) = (T : Int) + 1 by omega] at h
  rcases AscB.split h with h1 | ⟨l', rfl, h1⟩
  ·obtain ⟨set, hs, he⟩ := selB_all T l h1
   refine ⟨set, by rw [Nat.pow_succ]; omega, ?_⟩
   unfold selB
   rw [he, if_neg (by rw [Nat.testBit_lt_two_pow hs]; decide), List.append_nil]
  ·obtain ⟨set, hs, he⟩ := selB_all T l' h1
   refine ⟨2 ^ T + set, by rw [Nat.pow_succ]; omega, ?_⟩
   unfold selB
   have h2 : selB (2 ^ T + set) T = selB set T := selB_congr T (fun i hi => Nat.testBit_two_pow_add_gt hi set)
   have h3 : (2 ^ T + set).testBit T = true := by rw [Nat.testBit_two_pow_add_eq, Nat.testBit_lt_two_pow hs]; rfl
   rw [h2, he, if_pos h3]
theorem cmpI_lt (x y : Int) : cmpI x y < 0 ↔ x < y := by unfold cmpI; split <;> (try split) <;> omega
theorem cmpI_eq (x y : Int) : cmpI x y = 0 ↔ x = y := by unfold cmpI; split <;> (try split) <;> omega
theorem cmpL_cons (x y : Int) (a b : List Int) : cmpL (x :: a) (y :: b) < 0 ↔ x < y ∨ (x = y ∧ cmpL a b < 0) := by
 rw [cmpL]
 by_cases h : cmpI x y = 0
 ·rw [if_pos h]
  have := (cmpI_eq x y).1 h
  omega
 ·rw [if_neg h, cmpI_lt]
  have := mt (cmpI_eq x y).2 h
  omega
theorem cmpL_trans : ∀ {a b c : List Int}, cmpL a b < 0 → cmpL b c < 0 → cmpL a c < 0
 | [], [], _, h, _ => by simp [cmpL] at h
 | [], _ :: _, [], _, h => by simp [cmpL] at h
 | [], _ :: _, _ :: _, _, _ => by simp [cmpL]
 | _ :: _, [], _, h, _ => by simp [cmpL] at h
 | _ :: _, _ :: _, [], _, h => by simp [cmpL] at h
 | x :: a, y :: b, z :: c, h1, h2 => by
  rw [cmpL_cons] at h1 h2 ⊢
  rcases h1 with h1 | ⟨rfl, h1⟩ <;> rcases h2 with h2 | ⟨rfl, h2⟩
  ·exact .inl (by omega)
  ·exact .inl h1
  ·exact .inl h2
  ·exact .inr ⟨rfl, cmpL_trans h1 h2⟩
theorem cmpL_total : ∀ {a b : List Int}, ¬ cmpL a b < 0 → ¬ cmpL b a < 0 → a = b
 | [], [], _, _ => rfl
 | [], _ :: _, h, _ => by simp [cmpL] at h
 | _ :: _, [], _, h => by simp [cmpL] at h
 | x :: a, y :: b, h1, h2 => by
  rw [cmpL_cons] at h1 h2
  obtain rfl : x = y := by
   rcases Int.lt_trichotomy x y with h | h | h
   ·exact absurd (.inl h) h1
   ·exact h
   ·exact absurd (.inl h) h2
  rw [cmpL_total (a := a) (b := b) (fun h => h1 (.inr ⟨rfl, h⟩)) (fun h => h2 (.inr ⟨rfl, h⟩))]
theorem before_iff (l b : List Int) : beforeB l b = true ↔ l.length < b.length ∨ (l.length = b.length ∧ cmpL l b < 0) := by
 unfold beforeB
 rw [decide_eq_true_iff]
 unfold orI
 split
 ·rename_i h
  have := (cmpI_eq _ _).1 h
  omega
 ·rename_i h
  have h2 := mt (cmpI_eq (l.length : Int) (b.length : Int)).2 h
  rw [cmpI_lt]
  omega
theorem before_trans {a b c : List Int} (h1 : beforeB a b = true) (h2 : beforeB b c = true) : beforeB a c = true := by
 rw [before_iff] at *
 rcases h1 with h1 | ⟨h1, h3⟩ <;> rcases h2 with h2 | ⟨h2, h4⟩
 ·exact .inl (by omega)
 ·exact .inl (by omega)
 ·exact .inl (by omega)
 ·exact .inr ⟨by omega, cmpL_trans h3 h4⟩
theorem before_irr (l : List Int) : beforeB l l = false := by
 cases h : beforeB l l with
 | false => rfl
 | true =>
  have h2 := before_trans h h
  rw [before_iff] at h
  exfalso
  rcases h with h | ⟨_, h⟩
  ·omega
  ·have : ∀ (l : List Int), ¬ cmpL l l < 0 := by
    intro l
    induction l with
    | nil => simp [cmpL]
    | cons x xs ih => rw [cmpL_cons]; rintro (h | ⟨_, h⟩); omega; exact ih h
   exact this l h
/-- What the program finds. -/
theorem coverB_is (ones : List Int) (n : Nat) : ∀ M,
  (∀ l, coverB ones n M = some l → (∃ set, set < M ∧ l = selB set ones.length) ∧ apartB ones l n = true ∧ ∀ set, set < M → apartB ones (selB set ones.length) n = true → beforeB (selB set ones.length) l = false) ∧
  (coverB ones n M = none → ∀ set, set < M → apartB ones (selB set ones.length) n = false)
 | 0 => ⟨fun l h => (by cases h), fun _ set h => absurd h (Nat.not_lt_zero _)⟩
 | M + 1 => by
  obtain ⟨h1, h2⟩ := coverB_is ones n M
  cases hc : coverB ones n M with
  | none =>
   have h2 := h2 hc
   have e : coverB ones n (M + 1) = if apartB ones (selB M ones.length) n = true then some (selB M ones.length) else none := by
    show coverStep ones n (coverB ones n M) M = _
    rw [hc]; unfold coverStep coverTake; simp only [Bool.and_true]
   rw [e]
   by_cases ha : apartB ones (selB M ones.length) n = true
   ·rw [if_pos ha]
    refine ⟨fun l hl => ?_, fun h => (by cases h)⟩
    obtain rfl := Option.some.inj hl
    refine ⟨⟨M, Nat.lt_succ_self _, rfl⟩, ha, fun set hs hap => ?_⟩
    by_cases es : set = M
    ·subst es; exact before_irr _
    ·rw [h2 set (by omega)] at hap; cases hap
   ·rw [if_neg ha]
    refine ⟨fun l hl => (by cases hl), fun _ set hs => ?_⟩
    by_cases es : set = M
    ·subst es; simpa using ha
    ·exact h2 set (by omega)
  | some lb =>
   obtain ⟨⟨sb, hsb, rfl⟩, hap, hmin⟩ := h1 lb hc
   have e : coverB ones n (M + 1) = if (apartB ones (selB M ones.length) n && beforeB (selB M ones.length) (selB sb ones.length)) = true then some (selB M ones.length) else some (selB sb ones.length) := by
    show coverStep ones n (coverB ones n M) M = _
    rw [hc]; rfl
   rw [e]
   by_cases ht : (apartB ones (selB M ones.length) n && beforeB (selB M ones.length) (selB sb ones.length)) = true
   ·rw [if_pos ht]
    refine ⟨fun l hl => ?_, fun h => (by cases h)⟩
    obtain rfl := Option.some.inj hl
    rw [Bool.and_eq_true] at ht
    refine ⟨⟨M, Nat.lt_succ_self _, rfl⟩, ht.1, fun set hs hap2 => ?_⟩
    by_cases es : set = M
    ·subst es; exact before_irr _
    ·cases hb : beforeB (selB set ones.length) (selB M ones.length) with
     | false => rfl
     | true =>
      have := hmin set (by omega) hap2
      rw [before_trans hb ht.2] at this
      cases this
   ·rw [if_neg ht]
    refine ⟨fun l hl => ?_, fun h => (by cases h)⟩
    obtain rfl := Option.some.inj hl
    refine ⟨⟨sb, by omega, rfl⟩, hap, fun set hs hap2 => ?_⟩
    by_cases es : set = M
    ·subst es
     rw [hap2, Bool.true_and] at ht
     simpa using ht
    ·exact hmin set (by omega) hap2
theorem resB_eq (ones : List Int) (i j : Nat) : ∀ (l : List Int) (r r' : Nat), resB ones i l r = resB ones j l r' ↔ r = r' ∧ ∀ k ∈ l, hasB (rd ones k) i = hasB (rd ones k) j
 | [], r, r' => by simp [resB]
 | k :: l, r, r' => by
  unfold resB
  rw [resB_eq ones i j l]
  constructor
  ·rintro ⟨h1, h2⟩
   have : hasB (rd ones k) i = hasB (rd ones k) j ∧ r = r' := by
    cases ha : hasB (rd ones k) i <;> cases hb : hasB (rd ones k) j <;> simp [ha, hb] at h1 ⊢ <;> omega
   exact ⟨this.2, fun q hq => by rcases List.mem_cons.1 hq with rfl | hq; exact this.1; exact h2 q hq⟩
  ·rintro ⟨rfl, h2⟩
   rw [h2 k (by simp)]
   exact ⟨rfl, fun q hq => h2 q (by simp [hq])⟩
theorem apart_iff (ones l : List Int) : ∀ n : Nat, apartB ones l n = true ↔ ∀ j, j < n → ∀ i, i < j → ∃ k ∈ l, sameB (i : Int) (j : Int) (rd ones k) = false
 | 0 => by simp [apartB_zero]
 | n + 1 => by
  rw [apartB_snoc, Bool.and_eq_true, apart_iff ones l n, decide_eq_true_iff]
  have key : ∀ i : Nat, resB ones i l 0 ≠ resB ones n l 0 ↔ ∃ k ∈ l, sameB (i : Int) (n : Int) (rd ones k) = false := by
   intro i
   rw [ne_eq, resB_eq]
   unfold sameB
   constructor
   ·intro h
    refine Classical.byContradiction fun hn => h ⟨rfl, fun k hk => ?_⟩
    refine Classical.byContradiction fun hk2 => hn ⟨k, hk, by simpa using hk2⟩
   ·rintro ⟨k, hk, h1⟩ ⟨_, h2⟩
    rw [h2 k hk] at h1
    simp at h1
  constructor
  ·rintro ⟨h1, h2⟩ j hj i hi
   by_cases e : j = n
   ·subst e; exact (key i).1 (h2 i hi)
   ·exact h1 j (by omega) i hi
  ·intro h
   exact ⟨fun j hj i hi => h j (by omega) i hi, fun i hi => (key i).2 (h n (by omega) i hi)⟩
theorem pairsIn_nil {ones : List Int} {a : Nat} : ∀ (m b : Nat), (∀ j, j < m → ∃ x ∈ ones, sameB (a : Int) ((b + j : Nat) : Int) x = false) → pairsIn ones a b m = []
 | 0, _, _ => rfl
 | m + 1, b, h => by
  unfold pairsIn
  obtain ⟨x, hx, hs⟩ := h 0 (by omega)
  rw [Nat.add_zero] at hs
  rw [if_neg (by intro hall; rw [List.all_eq_true.1 hall x hx] at hs; cases hs), List.nil_append]
  exact pairsIn_nil m (b + 1) (fun j hj => by have := h (j + 1) (by omega); rwa [show b + (j + 1) = b + 1 + j by omega] at this)
theorem pairsOut_nil {ones : List Int} {n : Nat} (h : ∀ j, j < n → ∀ i, i < j → ∃ x ∈ ones, sameB (i : Int) (j : Int) x = false) : ∀ (m a : Nat), a + m = n → pairsOut ones n a m = []
 | 0, _, _ => rfl
 | m + 1, a, ha => by
  unfold pairsOut
  rw [pairsIn_nil _ _ (fun j hj => h (a + 1 + j) (by omega) a (by omega)), List.nil_append]
  exact pairsOut_nil h m (a + 1) (by omega)
theorem alikeL_iff (ones : List Int) (n : Nat) : alikeL ones n = [] ↔ ∀ j, j < n → ∀ i, i < j → ∃ x ∈ ones, sameB (i : Int) (j : Int) x = false :=
 ⟨fun h j hj i hi => alikeL_none h hi hj, fun h => pairsOut_nil h n 0 (by omega)⟩
theorem rows_ones {b : List (List Int)} {l : List Int} (hm : ∀ x ∈ l, 0 ≤ x ∧ x < (b.length : Int)) : onesOf (rowsOf b l) = l.map (rd (onesOf b)) := by
 unfold onesOf rowsOf
 rw [List.map_map]
 refine List.map_congr_left (fun x hx => ?_)
 have h := hm x hx
 have hl : x.toNat < b.length := by omega
 simp [rd_L1, rd, List.getD_eq_getElem?_getD, List.getElem?_map, List.getElem?_eq_getElem hl]
theorem rows_apart {b : List (List Int)} {l : List Int} (hm : ∀ x ∈ l, 0 ≤ x ∧ x < (b.length : Int)) (n : Nat) : alikeL (onesOf (rowsOf b l)) n = [] ↔ apartB (onesOf b) l n = true := by
 rw [alikeL_iff, apart_iff, rows_ones hm]
 constructor
 ·intro h j hj i hi
  obtain ⟨x, hx, hs⟩ := h j hj i hi
  obtain ⟨k, hk, rfl⟩ := List.mem_map.1 hx
  exact ⟨k, hk, hs⟩
 ·intro h j hj i hi
  obtain ⟨k, hk, hs⟩ := h j hj i hi
  exact ⟨_, List.mem_map.2 ⟨k, hk, rfl⟩, hs⟩
theorem fromB_snoc (l : List Int) (t : Nat) : fromB (l ++ [(t : Int)]) = t + 1 := by
 unfold fromB
 rw [if_neg (by simp), show (((l ++ [(t : Int)]).length : Int) - 1) = (l.length : Int) by simp]
 simp [rd, List.getD_eq_getElem?_getD]
theorem chosen_is (a : List Int) (b : List (List Int)) : ∀ (m : Nat) (l : List Int),
  ((chosenB a b m l).2 = true → ∃ e, (chosenB a b m l).1 = l ++ e ∧ e.length = m ∧ AscB (fromB l) b.length e ∧ alikeL (onesOf (rowsOf b (l ++ e))) a.length = [] ∧ ∀ e', e'.length = m → AscB (fromB l) b.length e' → alikeL (onesOf (rowsOf b (l ++ e'))) a.length = [] → ¬ cmpL e' e < 0) ∧
  ((chosenB a b m l).2 = false → ∀ e', e'.length = m → AscB (fromB l) b.length e' → alikeL (onesOf (rowsOf b (l ++ e'))) a.length ≠ [])
 | 0, l => by
  have e : chosenB a b 0 l = (l, decide (alikeL (onesOf (rowsOf b l)) a.length = [])) := rfl
  rw [e]
  refine ⟨fun h => ⟨[], by simp, rfl, trivial, by simpa using h, fun e' he _ _ => ?_⟩, fun h e' he _ => ?_⟩
  ·rw [List.length_eq_zero_iff.1 he]; simp [cmpL]
  ·rw [List.length_eq_zero_iff.1 he, List.append_nil]; simpa using h
 | m + 1, l => by
  have ih := chosen_is a b m
  have e : chosenB a b (m + 1) l = chLoop (chosenB a b m) l (fromB l) (b.length - fromB l) := rfl
  have key : ∀ (n t : Nat), t + n = b.length ∨ (n = 0 ∧ b.length ≤ t) →
    ((chLoop (chosenB a b m) l t n).2 = true → ∃ e, (chLoop (chosenB a b m) l t n).1 = l ++ e ∧ e.length = m + 1 ∧ AscB t b.length e ∧ alikeL (onesOf (rowsOf b (l ++ e))) a.length = [] ∧ ∀ e', e'.length = m + 1 → AscB t b.length e' → alikeL (onesOf (rowsOf b (l ++ e'))) a.length = [] → ¬ cmpL e' e < 0) ∧
    ((chLoop (chosenB a b m) l t n).2 = false → ∀ e', e'.length = m + 1 → AscB t b.length e' → alikeL (onesOf (rowsOf b (l ++ e'))) a.length ≠ []) := by
   intro n
   induction n with
   | zero =>
    intro t ht
    refine ⟨fun h => (by cases h), fun _ e' he hA => ?_⟩
    cases e' with
    | nil => simp at he
    | cons x xs => have := hA.1; have := hA.2.1; omega
   | succ n ihn =>
    intro t ht
    obtain ⟨i1, i2⟩ := ihn (t + 1) (by omega)
    obtain ⟨f1, f2⟩ := ih (l ++ [(t : Int)])
    rw [fromB_snoc] at f1 f2
    have el : chLoop (chosenB a b m) l t (n + 1) = if (chosenB a b m (l ++ [(t : Int)])).2 = true then ((chosenB a b m (l ++ [(t : Int)])).1, true) else chLoop (chosenB a b m) l (t + 1) n := rfl
    rw [el]
    by_cases hf : (chosenB a b m (l ++ [(t : Int)])).2 = true
    ·rw [if_pos hf]
     obtain ⟨e, e1, e2, e3, e4, e5⟩ := f1 hf
     refine ⟨fun _ => ⟨(t : Int) :: e, by rw [e1, List.append_assoc]; rfl, by rw [List.length_cons, e2], ⟨Int.le_refl _, by omega, e3⟩, by rw [List.append_assoc] at e4; exact e4, fun e' he hA hP => ?_⟩, fun h => (by cases h)⟩
     cases e' with
     | nil => simp at he
     | cons x xs =>
      rw [cmpL_cons]
      rintro (h | ⟨rfl, h⟩)
      ·have := hA.1; omega
      ·exact e5 xs (by simpa using he) hA.2.2 (by rw [List.append_assoc]; exact hP) h
    ·rw [if_neg hf]
     have hf2 := f2 (by simpa using hf)
     have hno : ∀ e', e'.length = m + 1 → AscB t b.length e' → alikeL (onesOf (rowsOf b (l ++ e'))) a.length = [] → AscB ((t + 1 : Nat) : Int) b.length e' := by
      intro e' he hA hP
      cases e' with
      | nil => trivial
      | cons x xs =>
       by_cases ex : x = (t : Int)
       ·subst ex
        exact absurd (by rw [List.append_assoc]; exact hP) (hf2 xs (by simpa using he) hA.2.2)
       ·exact ⟨by have := hA.1; omega, hA.2⟩
     refine ⟨fun h => ?_, fun h e' he hA hP => i2 h e' he (hno e' he hA hP) hP⟩
     obtain ⟨e, e1, e2, e3, e4, e5⟩ := i1 h
     refine ⟨e, e1, e2, ?_, e4, fun e' he hA hP => e5 e' he (hno e' he hA hP) hP⟩
     cases e with
     | nil => trivial
     | cons x xs => exact ⟨by have := e3.1; omega, e3.2⟩
  rw [e]
  exact key (b.length - fromB l) (fromB l) (by omega)
section
variable {a : List Int} {b : List (List Int)} {c : List Int}
/-- The program's cover, and what makes it the reference's. -/
theorem cover_has (D : Differ a b c) : ∃ l, coverB (onesOf b) a.length (2 ^ (onesOf b).length) = some l ∧ AscB 0 b.length l ∧ alikeL (onesOf (rowsOf b l)) a.length = [] ∧ ∀ l', AscB 0 b.length l' → alikeL (onesOf (rowsOf b l')) a.length = [] → beforeB l' l = false := by
 have hlen : (onesOf b).length = b.length := onesOf_len
 have mem : ∀ l, AscB 0 b.length l → ∀ x ∈ l, 0 ≤ x ∧ x < (b.length : Int) := fun l h x hx => h.mem x hx
 obtain ⟨h1, h2⟩ := coverB_is (onesOf b) a.length (2 ^ (onesOf b).length)
 cases hc : coverB (onesOf b) a.length (2 ^ (onesOf b).length) with
 | none =>
  exfalso
  -- all tests together
  have h3 := h2 hc (2 ^ (onesOf b).length - 1) (by have := Nat.two_pow_pos (onesOf b).length; omega)
  have : apartB (onesOf b) (selB (2 ^ (onesOf b).length - 1) (onesOf b).length) a.length = true := by
   rw [apart_iff]
   intro j hj i hi
   obtain ⟨x, hx, hs⟩ := alikeL_none D.al hi hj
   obtain ⟨t, ht, rfl⟩ := List.mem_iff_getElem.1 hx
   refine ⟨(t : Int), ?_, by simpa [rd, List.getD_eq_getElem?_getD, List.getElem?_eq_getElem ht] using hs⟩
   have : ∀ (T s : Nat), (∀ i, i < T → s.testBit i = true) → ∀ t, t < T → (t : Int) ∈ selB s T := by
    intro T s hb
    induction T with
    | zero => intro t ht; omega
    | succ T ih =>
     intro t ht
     unfold selB
     rw [if_pos (hb T (by omega)), List.mem_append]
     by_cases e : t = T
     ·subst e; exact .inr (by simp)
     ·exact .inl (ih (fun i hi => hb i (by omega)) t (by omega))
   exact this _ _ (fun i hi => by rw [Nat.testBit_two_pow_sub_one]; simpa using hi) t ht
  rw [this] at h3
  cases h3
 | some l =>
  obtain ⟨⟨set, hs, rfl⟩, hap, hmin⟩ := h1 l hc
  have hasc := selB_asc set (onesOf b).length
  rw [hlen] at hasc
  refine ⟨_, rfl, by rw [hlen]; exact hasc, (rows_apart (fun x hx => mem _ (by rw [hlen]; exact hasc) x hx) _).2 hap, fun l' hA hP => ?_⟩
  obtain ⟨s', hs', rfl⟩ := selB_all b.length l' hA
  have := hmin s' (by rw [hlen]; exact hs') (by rw [hlen]; exact (rows_apart (mem _ hA) _).1 hP)
  rw [hlen] at this ⊢
  exact this
theorem rcover_l0 (D : Differ a b c) (hc : caseB a b c = true) (l : List Int) (hA : AscB 0 b.length l) (hP : alikeL (onesOf (rowsOf b l)) a.length = []) (hmin : ∀ l', AscB 0 b.length l' → alikeL (onesOf (rowsOf b l')) a.length = [] → beforeB l' l = false) (m : Nat) : ∀ s : Nat, s + m = l.length → Ev (fun k => tickingref07_Cover.l0 k (s : Int) a b c) (l, true) := by
 have hb12 := D.is.b12
 have hll := hA.len (by omega)
 have hf0 : fromB [] = 0 := rfl
 induction m with
 | zero =>
  intro s hs
  obtain ⟨f1, f2⟩ := chosen_is a b s []
  rw [hf0] at f1 f2
  have ht : (chosenB a b s []).2 = true := by
   cases hch : (chosenB a b s []).2 with
   | true => rfl
   | false => exact absurd hP (by have := f2 hch l (by omega) hA; rwa [List.nil_append] at this)
  obtain ⟨e, e1, e2, e3, e4, e5⟩ := f1 ht
  rw [List.nil_append] at e1 e4
  have h1 := e5 l (by omega) hA (by rw [List.nil_append]; exact hP)
  have h2 := hmin e e3 e4
  have hle : e = l := by
   refine cmpL_total ?_ h1
   intro h
   have := (before_iff e l).2 (.inr ⟨by omega, h⟩)
   rw [this] at h2; cases h2
  have hch : chosenB a b s [] = (l, true) := by
   rw [← hle, ← e1, ← ht]
  refine Ev.step (f := fun _ => some _) (fun k => ?_) (Ev.now _)
  simp only [tickingref07_Cover.l0]
  rw [if_pos (by omega)]
  unfold tickingref07_chosen.f
  rw [if_pos ⟨hc, rfl, by omega, by omega⟩, Int.toNat_natCast, hch]
  rfl
 | succ m ih =>
  intro s hs
  obtain ⟨f1, f2⟩ := chosen_is a b s []
  rw [hf0] at f1 f2
  have ht : (chosenB a b s []).2 = false := by
   cases hch : (chosenB a b s []).2 with
   | false => rfl
   | true =>
    obtain ⟨e, e1, e2, e3, e4, e5⟩ := f1 hch
    rw [List.nil_append] at e4
    have := hmin e e3 e4
    rw [(before_iff e l).2 (.inl (by omega))] at this
    cases this
  refine Ev.step (fun k => ?_) (ih (s + 1) (by omega))
  simp only [tickingref07_Cover.l0]
  rw [if_pos (by omega)]
  unfold tickingref07_chosen.f
  rw [if_pos ⟨hc, rfl, by omega, by omega⟩, Int.toNat_natCast]
  simp only [Option.bind_some]
  rw [if_neg (by rw [ht]; decide), w1 s (by omega)]
/-- The reference's Cover is the program's. -/
theorem rcover_ev (D : Differ a b c) (hc : caseB a b c = true) : Ev (fun k => tickingref07_Cover.f k a b c) ((coverB (onesOf b) a.length (2 ^ (onesOf b).length)).getD [], true) := by
 obtain ⟨l, h1, h2, h3, h4⟩ := cover_has D
 rw [h1]
 unfold tickingref07_Cover.f
 refine Ev.bind (ralike_ev D.is) ?_
 refine Ev.congr (fun k => if_neg (by rw [D.al]; decide)) ?_
 exact rcover_l0 D hc l h2 h3 h4 l.length 0 (by omega)
end
end Go.Proofs.YtekmiepdodaidaaDoor.X
end

section
/- Layer 7, plain: own copies, and the reference's Case. -/
set_option linter.unusedVariables false
namespace Go.Proofs.YtekmiepdodaidaaDoor.X
open Go.RowKit Go.Proofs.YtekmiepdodaidaaDoorW.PrintWords Go.Proofs.YtekmiepdodaidaaDoorW.PrintLast Go.Proofs.YtekmiepdodaidaaDoorW.PrintMore

def cut14 (l : List Int) : List Int := l.take 14
def cutB (b : List (List Int)) : List (List Int) := (b.take 14).map cut14
theorem cut14_len (l : List Int) : (cut14 l).length ≤ 14 := by unfold cut14; rw [List.length_take]; omega
theorem cutB_len (b : List (List Int)) : (cutB b).length ≤ 14 := by unfold cutB; rw [List.length_map, List.length_take]; omega
theorem list_f (l : List Int) : tickinglaw07_list.f l = some (cut14 l) := by
 have hm : mn (l.length : Int) 14 = ((min l.length 14 : Nat) : Int) := by unfold mn; split <;> omega
 have e : l.take (min l.length 14) = l.take 14 := by
  by_cases h : l.length ≤ 14
  ·rw [List.take_of_length_le (show l.length ≤ min l.length 14 by omega), List.take_of_length_le h]
  ·rw [show min l.length 14 = 14 by omega]
 unfold tickinglaw07_list.f cut14
 rw [hm, if_pos (by omega), if_pos (by omega), Int.toNat_natCast, e, if_pos (by rw [List.length_take]; simp; omega), List.nil_append]
theorem own_l0 (a : List Int) (b : List (List Int)) (c : List Int) (x y : List Int) (m : Nat) : ∀ (i : Nat) (acc : List (List Int)), i + m = min b.length 14 → acc.length = i →
  Ev (fun k => tickinglaw07_own.l0 k (i : Int) a b c x acc y) (x, acc ++ ((b.take 14).drop i).map cut14, y) := by
 induction m with
 | zero =>
  intro i acc hi ha
  refine Ev.step (f := fun _ => some _) (fun k => ?_) (Ev.now _)
  simp only [tickinglaw07_own.l0]
  have hd : (b.take 14).drop i = [] := List.drop_eq_nil_of_le (by rw [List.length_take]; omega)
  rw [hd]
  by_cases h : (i : Int) < (b.length : Int)
  ·rw [if_pos h, if_neg (by omega)]; simp
  ·rw [if_neg h]; simp
 | succ m ih =>
  intro i acc hi ha
  have hib : i < b.length := by omega
  have hlt : i < (b.take 14).length := by rw [List.length_take]; omega
  have hd : (b.take 14).drop i = (b.take 14)[i] :: (b.take 14).drop (i + 1) := List.drop_eq_getElem_cons hlt
  have hg : (b.take 14)[i] = b[i] := List.getElem_take
  have h2 := ih (i + 1) (acc ++ [cut14 b[i]]) (by omega) (by simp [ha])
  have e : (acc ++ [cut14 b[i]]) ++ ((b.take 14).drop (i + 1)).map cut14 = acc ++ ((b.take 14).drop i).map cut14 := by rw [hd, hg, List.map_cons, List.append_assoc]; rfl
  rw [e] at h2
  refine Ev.step (fun k => ?_) h2
  show tickinglaw07_own.l0 (k + 1) (i : Int) a b c x acc y = _
  simp only [tickinglaw07_own.l0]
  rw [if_pos (by omega), if_pos (by omega), if_pos (by omega), rd_L1_at b i hib, list_f]
  simp only [Option.bind_some]
  rw [if_pos (by omega), w1 i (by omega)]
theorem own_ev (a : List Int) (b : List (List Int)) (c : List Int) : Ev (fun k => tickinglaw07_own.f k a b c) (cut14 a, cutB b, cut14 c) := by
 unfold tickinglaw07_own.f
 rw [list_f, list_f]
 simp only [Option.bind_some]
 have := own_l0 a b c (cut14 a) (cut14 c) (min b.length 14) 0 [] (by omega) rfl
 simpa [cutB] using this
section
variable (a : List Int) (b : List (List Int)) (c : List Int)
theorem case_l2 (n i : Nat) (hi : i < b.length) (hb : b.length ≤ 14) (hn : b[i].length = n) (hn2 : n ≤ 14) (R : Bool) (hk : Ev (fun k => tickingref07_Case.l1 k (n : Int) ((i + 1 : Nat) : Int) a b c) R) (m : Nat) : ∀ j, j + m = n →
  Ev (fun k => tickingref07_Case.l2 k (n : Int) (i : Int) (j : Int) a b c) ((b[i].drop j).all (inB 0 1) && R) := by
 induction m with
 | zero =>
  intro j hj
  obtain rfl : j = n := by omega
  have hd : b[i].drop j = [] := List.drop_eq_nil_of_le (by omega)
  rw [hd]
  refine Ev.step (fun k => ?_) hk
  show tickingref07_Case.l2 (k + 1) (j : Int) (i : Int) (j : Int) a b c = _
  simp only [tickingref07_Case.l2]
  rw [if_neg (by omega), w1 i (by omega)]
 | succ m ih =>
  intro j hj
  have hjl : j < b[i].length := by omega
  have hd : b[i].drop j = b[i][j] :: b[i].drop (j + 1) := List.drop_eq_getElem_cons hjl
  rw [hd, List.all_cons]
  by_cases h : inB 0 1 b[i][j] = true
  ·rw [h, Bool.true_and]
   have h' : 0 ≤ b[i][j] ∧ b[i][j] ≤ 1 := by unfold inB at h; simpa using h
   refine Ev.step (fun k => ?_) (ih (j + 1) (by omega))
   show tickingref07_Case.l2 (k + 1) (n : Int) (i : Int) (j : Int) a b c = _
   simp only [tickingref07_Case.l2]
   rw [if_pos (by omega), if_pos (by omega), if_pos (by omega), if_pos (by omega), rd_L1_at b i hi, if_pos (by omega), rd_at _ j hjl, if_neg (by omega), if_neg (by omega), w1 j (by omega)]
  ·have hf : inB 0 1 b[i][j] = false := by simpa using h
   rw [hf, Bool.false_and, Bool.false_and]
   have h' : ¬ (0 ≤ b[i][j] ∧ b[i][j] ≤ 1) := by unfold inB at hf; intro hh; simp [hh] at hf
   refine Ev.step (f := fun _ => some _) (fun k => ?_) (Ev.now _)
   simp only [tickingref07_Case.l2]
   rw [if_pos (by omega), if_pos (by omega), if_pos (by omega), if_pos (by omega), rd_L1_at b i hi, if_pos (by omega), rd_at _ j hjl]
   by_cases h0 : b[i][j] < 0
   ·rw [if_pos h0]
   ·rw [if_neg h0, if_pos (by omega)]
theorem case_l1 (n : Nat) (hn : n ≤ 14) (hb : b.length ≤ 14) (hc : c.length = b.length) (m : Nat) : ∀ i, i + m = b.length → Ev (fun k => tickingref07_Case.l1 k (n : Int) (i : Int) a b c) ((b.drop i).all (rowOkB n) && (c.drop i).all (inB 1 100)) := by
 induction m with
 | zero =>
  intro i hi
  obtain rfl : i = b.length := by omega
  refine Ev.step (f := fun _ => some _) (fun k => ?_) (Ev.now _)
  simp only [tickingref07_Case.l1]
  rw [if_neg (by omega), List.drop_length, ← hc, List.drop_length]; rfl
 | succ m ih =>
  intro i hi
  have hib : i < b.length := by omega
  have hic : i < c.length := by omega
  have db : b.drop i = b[i] :: b.drop (i + 1) := List.drop_eq_getElem_cons hib
  have dc : c.drop i = c[i] :: c.drop (i + 1) := List.drop_eq_getElem_cons hic
  rw [db, dc, List.all_cons, List.all_cons]
  have bad : Ev (fun k => tickingref07_Case.j3 k (n : Int) (i : Int) true a b c) false := by
   refine Ev.step (f := fun _ => some _) (fun k => ?_) (Ev.now _)
   simp only [tickingref07_Case.j3, if_true]
  by_cases hlen : b[i].length = n
  ·by_cases hci : inB 1 100 c[i] = true
   ·have hci' : 1 ≤ c[i] ∧ c[i] ≤ 100 := by unfold inB at hci; simpa using hci
    have h2 := case_l2 a b c n i hib hb hlen hn _ (ih (i + 1) (by omega)) n 0 (by omega)
    rw [List.drop_zero] at h2
    have hr : (rowOkB n b[i] && (b.drop (i + 1)).all (rowOkB n) && (inB 1 100 c[i] && (c.drop (i + 1)).all (inB 1 100))) = (b[i].all (inB 0 1) && ((b.drop (i + 1)).all (rowOkB n) && (c.drop (i + 1)).all (inB 1 100))) := by
     rw [hci]; unfold rowOkB; rw [hlen]; simp [Bool.and_assoc]
    rw [hr]
    have h3 : Ev (fun k => tickingref07_Case.j3 k (n : Int) (i : Int) false a b c) (b[i].all (inB 0 1) && ((b.drop (i + 1)).all (rowOkB n) && (c.drop (i + 1)).all (inB 1 100))) := by
     refine Ev.step (fun k => ?_) h2
     show tickingref07_Case.j3 (k + 1) (n : Int) (i : Int) false a b c = _
     simp only [tickingref07_Case.j3]; rw [if_neg (by decide)]; rfl
    refine Ev.step (fun k => ?_) h3
    show tickingref07_Case.l1 (k + 1) (n : Int) (i : Int) a b c = _
    simp only [tickingref07_Case.l1]
    rw [if_pos (by omega), if_pos (by omega), rd_L1_at b i hib, if_pos (by omega), if_pos (by omega), rd_at c i hic, if_neg (by omega), decide_eq_false (by omega)]
   ·have hcf : inB 1 100 c[i] = false := by simpa using hci
    rw [hcf, Bool.false_and, Bool.and_false]
    have hci' : ¬ (1 ≤ c[i] ∧ c[i] ≤ 100) := by unfold inB at hcf; intro hh; simp [hh] at hcf
    refine Ev.step (fun k => ?_) bad
    show tickingref07_Case.l1 (k + 1) (n : Int) (i : Int) a b c = _
    simp only [tickingref07_Case.l1]
    rw [if_pos (by omega), if_pos (by omega), rd_L1_at b i hib, if_pos (by omega), if_pos (by omega), rd_at c i hic]
    by_cases h0 : c[i] < 1
    ·rw [if_pos h0]
    ·rw [if_neg h0, decide_eq_true (by omega)]
  ·have hr : rowOkB n b[i] = false := by unfold rowOkB; simp [hlen]
   rw [hr, Bool.false_and, Bool.false_and]
   refine Ev.step (fun k => ?_) bad
   show tickingref07_Case.l1 (k + 1) (n : Int) (i : Int) a b c = _
   simp only [tickingref07_Case.l1]
   rw [if_pos (by omega), if_pos (by omega), rd_L1_at b i hib, if_neg (by omega)]
theorem case_l0 (ha : a.length ≤ 14) (R : Bool) (hk : Ev (fun k => tickingref07_Case.l1 k (a.length : Int) 0 a b c) R) (m : Nat) : ∀ i, i + m = a.length → Ev (fun k => tickingref07_Case.l0 k (a.length : Int) (i : Int) a b c) ((a.drop i).all (inB 1 1000) && R) := by
 induction m with
 | zero =>
  intro i hi
  obtain rfl : i = a.length := by omega
  rw [List.drop_length]
  refine Ev.step (fun k => ?_) hk
  show tickingref07_Case.l0 (k + 1) (a.length : Int) (a.length : Int) a b c = _
  simp only [tickingref07_Case.l0]
  rw [if_neg (by omega)]
 | succ m ih =>
  intro i hi
  have hia : i < a.length := by omega
  have da : a.drop i = a[i] :: a.drop (i + 1) := List.drop_eq_getElem_cons hia
  rw [da, List.all_cons]
  by_cases h : inB 1 1000 a[i] = true
  ·have h' : 1 ≤ a[i] ∧ a[i] ≤ 1000 := by unfold inB at h; simpa using h
   rw [h, Bool.true_and]
   refine Ev.step (fun k => ?_) (ih (i + 1) (by omega))
   show tickingref07_Case.l0 (k + 1) (a.length : Int) (i : Int) a b c = _
   simp only [tickingref07_Case.l0]
   rw [if_pos (by omega), if_pos (by omega), if_pos (by omega), rd_at a i hia, if_neg (by omega), if_neg (by omega), w1 i (by omega)]
  ·have hf : inB 1 1000 a[i] = false := by simpa using h
   have h' : ¬ (1 ≤ a[i] ∧ a[i] ≤ 1000) := by unfold inB at hf; intro hh; simp [hh] at hf
   rw [hf, Bool.false_and, Bool.false_and]
   refine Ev.step (f := fun _ => some _) (fun k => ?_) (Ev.now _)
   simp only [tickingref07_Case.l0]
   rw [if_pos (by omega), if_pos (by omega), if_pos (by omega), rd_at a i hia]
   by_cases h0 : a[i] < 1
   ·rw [if_pos h0]
   ·rw [if_neg h0, if_pos (by omega)]
theorem case_ev (ha : a.length ≤ 14) (hb : b.length ≤ 14) (hc : c.length ≤ 14) : Ev (fun k => tickingref07_Case.f k a b c) (caseB a b c) := by
 have bad : Ev (fun k => tickingref07_Case.j0 k (a.length : Int) true a b c) false := by
  refine Ev.step (f := fun _ => some _) (fun k => ?_) (Ev.now _)
  simp only [tickingref07_Case.j0, if_true]
 unfold tickingref07_Case.f
 by_cases h1 : 1 ≤ a.length
 ·refine Ev.congr (fun k => if_neg (by omega)) ?_
  by_cases h2 : a.length ≤ 10
  ·refine Ev.congr (fun k => if_neg (by omega)) ?_
   by_cases h3 : b.length ≤ 12
   ·refine Ev.congr (fun k => if_neg (by omega)) ?_
    by_cases h4 : c.length = b.length
    ·have e : ((c.length : Int) != (b.length : Int)) = false := by simp [h4]
     rw [e]
     have hl := case_l0 a b c ha _ (case_l1 a b c a.length ha hb h4 b.length 0 (by omega)) a.length 0 (by omega)
     simp only [List.drop_zero] at hl
     have hr : caseB a b c = (a.all (inB 1 1000) && (b.all (rowOkB a.length) && c.all (inB 1 100))) := by
      unfold caseB
      simp only [h1, h2, h3, h4, decide_true, Bool.true_and, beq_self_eq_true]
      cases a.all (inB 1 1000) <;> cases b.all (rowOkB a.length) <;> cases c.all (inB 1 100) <;> rfl
     rw [hr]
     refine Ev.step (fun k => ?_) hl
     show tickingref07_Case.j0 (k + 1) (a.length : Int) false a b c = _
     simp only [tickingref07_Case.j0]; rw [if_neg (by decide)]; rfl
    ·have e : ((c.length : Int) != (b.length : Int)) = true := by simp; omega
     have hcf : caseB a b c = false := by unfold caseB; simp [h4]
     rw [e, hcf]; exact bad
   ·refine Ev.congr (fun k => if_pos (by omega)) ?_
    have hcf : caseB a b c = false := by unfold caseB; simp [h3]
    rw [hcf]; exact bad
  ·refine Ev.congr (fun k => if_pos (by omega)) ?_
   have hcf : caseB a b c = false := by unfold caseB; simp [h2]
   rw [hcf]; exact bad
 ·refine Ev.congr (fun k => if_pos (by omega)) ?_
  have hcf : caseB a b c = false := by unfold caseB; simp [h1]
  rw [hcf]; exact bad
end
end Go.Proofs.YtekmiepdodaidaaDoor.X
end

section
/- Layer 7, plain: TestsGreedy. -/
set_option linter.unusedVariables false
namespace Go.Proofs.YtekmiepdodaidaaDoor.X
open Go.RowKit Go.Proofs.YtekmiepdodaidaaDoorW.PrintWords Go.Proofs.YtekmiepdodaidaaDoorW.PrintLast Go.Proofs.YtekmiepdodaidaaDoorW.PrintMore

theorem gl1_ev (p : List S57) (hp : p.length < 100000) (hA : Ev (fun k => (tickinglaw07_awake.f k).bind fun t => some t) true) (m : Nat) : ∀ i, i + m = p.length → Ev (fun k => tickinglaw07_TestsGreedy.l1 k p p (i : Int)) true := by
 induction m with
 | zero =>
  intro i hi
  refine Ev.step (fun k => ?_) hA
  simp only [tickinglaw07_TestsGreedy.l1]
  rw [if_neg (by omega)]
 | succ m ih =>
  intro i hi
  refine Ev.step (fun k => ?_) (ih (i + 1) (by omega))
  simp only [tickinglaw07_TestsGreedy.l1]
  rw [if_pos (by omega), if_pos (by omega), if_pos (by omega), if_neg (by simp), w1 i (by omega)]
theorem gj2_ev (p : List S57) (hp : p.length < 100000) (hA : Ev (fun k => (tickinglaw07_awake.f k).bind fun t => some t) true) : Ev (fun k => tickinglaw07_TestsGreedy.j2 k p p false) true := by
 refine Ev.step (fun k => ?_) (gl1_ev p hp hA p.length 0 (by omega))
 simp only [tickinglaw07_TestsGreedy.j2]
 rw [if_neg (by decide)]; rfl
theorem gl0_ev (x4 : List S57) (x5 : Int) (al : List S53) (x8 : List Int) (x9 : Int) (a : List Int) (b : List (List Int)) (c : List Int) (hal : al.length < 100000) (F : Nat → Option Bool) (hF : Ev F true)
  (h : ∀ k, tickinglaw07_TestsGreedy.l0 (k + 1) x4 x5 al x8 x9 al (al.length : Int) a b c = F k) (m : Nat) : ∀ i, i + m = al.length → Ev (fun k => tickinglaw07_TestsGreedy.l0 k x4 x5 al x8 x9 al (i : Int) a b c) true := by
 induction m with
 | zero =>
  intro i hi
  obtain rfl : i = al.length := by omega
  exact Ev.step h hF
 | succ m ih =>
  intro i hi
  refine Ev.step (fun k => ?_) (ih (i + 1) (by omega))
  simp only [tickinglaw07_TestsGreedy.l0]
  rw [if_pos (by omega), if_pos (by omega), if_pos (by omega), if_neg (by simp), w1 i (by omega)]
theorem all_shl (a : List Int) (ha : a.length ≤ 10) : wrap64 ((shl .i64 1 (a.length : Int)) - 1) = allOf a := by
 have hp : 2 ^ a.length ≤ 2 ^ 10 := Nat.pow_le_pow_right (by omega) ha
 rw [shl_nat a.length ha]
 unfold allOf wrap64
 generalize 2 ^ a.length = q at *
 omega
theorem cover_short {a : List Int} {b : List (List Int)} {c : List Int} (D : Differ a b c) : ((coverB (onesOf b) a.length (2 ^ (onesOf b).length)).getD []).length < 100000 := by
 obtain ⟨l, h1, h2, _⟩ := cover_has D
 rw [h1]
 have := h2.len (by omega)
 have := D.is.b12
 show l.length < 100000
 omega
theorem alike_short (ones : List Int) (n : Nat) (hn : n ≤ 10) : (alikeL ones n).length < 100000 := by
 have h1 := pairsOut_len ones n n 0
 have h2 : n * n ≤ 10 * 10 := Nat.mul_le_mul hn hn
 unfold alikeL
 omega
theorem greedy_core (a : List Int) (b : List (List Int)) (c : List Int) (ha : a.length ≤ 14) (hb : b.length ≤ 14) (hcl : c.length ≤ 14) (F : Nat → Option Bool)
  (hF : ∀ k, F k = (tests_Greedy.f a b c).bind fun x => (tests_Alike.f k a b c).bind fun y => (tests_Cover.f a b c).bind fun z => (tickingref07_Case.f k a b c).bind fun t470 => (if t470 = true then ((tickingref07_Alike.f k a b c).bind fun t472 => (if (y.1.length : Int) = (t472.length : Int) then (tickinglaw07_TestsGreedy.j0 k x.1 x.2 y.1 z.1 z.2 t472 (y.2 != 0) a b c) else (tickinglaw07_TestsGreedy.j0 k x.1 x.2 y.1 z.1 z.2 t472 true a b c))) else (if (x.1.length : Int) = 0 then (if x.2 = 2 then (if (y.1.length : Int) = 0 then (if y.2 = 2 then (if (z.1.length : Int) = 0 then (if z.2 = 2 then ((tickinglaw07_awake.f k).bind fun t471 => (some t471)) else (some false)) else (some false)) else (some false)) else (some false)) else (some false)) else (some false)))) :
  Ev F true := by
 have awake : Ev (fun k => (tickinglaw07_awake.f k).bind fun t => some t) true := Ev.bind awake_ev (Ev.now _)
 refine Ev.congr hF ?_
 unfold tests_Greedy.f
 refine Ev.bind (Ev.now _) ?_
 refine Ev.bind (alike_ev a b c) ?_
 unfold tests_Cover.f
 refine Ev.bind (Ev.now _) ?_
 refine Ev.bind (case_ev a b c ha hb hcl) ?_
 by_cases hc : caseB a b c = true
 ·refine Ev.congr (fun k => if_pos hc) ?_
  have hci := case_is hc
  refine Ev.bind (ralike_ev hci) ?_
  rw [if_pos hc, if_pos hc]
  refine Ev.congr (fun k => if_pos rfl) ?_
  have hshort := alike_short (onesOf b) a.length hci.a10
  have hcov : covRes a b c = if alikeL (onesOf b) a.length = [] then ((coverB (onesOf b) a.length (2 ^ (onesOf b).length)).getD [], 0) else ([], 6) := by unfold covRes; rw [if_pos hc]
  rw [hcov]
  by_cases hal : alikeL (onesOf b) a.length = []
  ·have D : Differ a b c := ⟨hci, hal⟩
   have H := greedy_ok D
   have l1 := (tree_pos H (allOf a) 0 (all_in D)).2
   have hall := all_in D
   have hs2 : (allOf a).toNat < 1024 := by have := hall.1; unfold SetB at this; omega
   have hg := rgreedy_ev D (allOf a).toNat (allOf a).toNat 0 (by rw [show (((allOf a).toNat : Nat) : Int) = allOf a from by have := hall.2.1; omega]; exact hall) (Nat.le_refl _) (by omega)
   rw [show (((allOf a).toNat : Nat) : Int) = allOf a from by have := hall.2.1; omega, show ((0 : Nat) : Int) = 0 from rfl] at hg
   rw [if_pos hal, if_pos hal]
   have hcs := cover_short D
   have hcv := rcover_ev D hc
   generalize (coverB (onesOf b) a.length (2 ^ (onesOf b).length)).getD [] = cv at *
   generalize treeB (greedyT a c (onesOf b)) (onesOf b) (allOf a) 0 = tr at *
   refine Ev.step (f := fun k => tickinglaw07_TestsGreedy.l0 k tr 0 (alikeL (onesOf b) a.length) cv 0 (alikeL (onesOf b) a.length) 0 a b c) (fun k => by simp only [tickinglaw07_TestsGreedy.j0]; rw [if_neg (by decide)]) ?_
   refine gl0_ev tr 0 _ cv 0 a b c hshort (fun k => (tickingref07_Greedy.f k a b c (wrap64 ((shl .i64 1 (a.length : Int)) - 1)) 0).bind fun t478 => ((tickingref07_Cover.f k a b c).bind fun bt481 => (if (tr.length : Int) = (t478.length : Int) then (if (0 : Int) = 0 then ((tickinglaw07_ints.f k cv bt481.1).bind fun t485 => (if t485 = true then (tickinglaw07_TestsGreedy.j2 k tr t478 ((0 : Int) != 0)) else (tickinglaw07_TestsGreedy.j2 k tr t478 true))) else (tickinglaw07_TestsGreedy.j2 k tr t478 true)) else (tickinglaw07_TestsGreedy.j2 k tr t478 true)))) ?_ (fun k => by simp only [tickinglaw07_TestsGreedy.l0]; rw [if_neg (by omega), if_neg (by rw [hal]; decide)]) (alikeL (onesOf b) a.length).length 0 (by omega)
   rw [all_shl a hci.a10]
   refine Ev.bind hg ?_
   refine Ev.bind hcv ?_
   refine Ev.congr (fun k => if_pos rfl) ?_
   refine Ev.congr (fun k => if_pos rfl) ?_
   refine Ev.bind (ints_ev cv cv hcs) ?_
   refine Ev.congr (fun k => if_pos (decide_eq_true rfl)) ?_
   exact gj2_ev tr (by omega) awake
  ·have hne : ((alikeL (onesOf b) a.length).length : Int) > 0 := by
    have := List.length_pos_iff.2 hal; omega
   rw [if_neg hal, if_neg hal]
   refine Ev.step (f := fun k => tickinglaw07_TestsGreedy.l0 k [] 6 (alikeL (onesOf b) a.length) [] 6 (alikeL (onesOf b) a.length) 0 a b c) (fun k => by simp only [tickinglaw07_TestsGreedy.j0]; rw [if_neg (by decide)]) ?_
   refine gl0_ev [] 6 _ [] 6 a b c hshort _ awake (fun k => ?_) (alikeL (onesOf b) a.length).length 0 (by omega)
   simp only [tickinglaw07_TestsGreedy.l0]
   rw [if_neg (by omega), if_pos hne]
   simp only [List.length_nil]
   rfl
 ·refine Ev.congr (fun k => if_neg hc) ?_
  unfold covRes
  simp only [if_neg hc, List.length_nil]
  exact awake
theorem TestsGreedy_ev (a : List Int) (b : List (List Int)) (c : List Int) : Ev (fun k => tickinglaw07_TestsGreedy.f k a b c) true := by
 unfold tickinglaw07_TestsGreedy.f
 refine Ev.bind (own_ev a b c) ?_
 exact greedy_core (cut14 a) (cutB b) (cut14 c) (cut14_len _) (cutB_len _) (cut14_len _) (fun k => _) (fun k => rfl)
end Go.Proofs.YtekmiepdodaidaaDoor.X
end
