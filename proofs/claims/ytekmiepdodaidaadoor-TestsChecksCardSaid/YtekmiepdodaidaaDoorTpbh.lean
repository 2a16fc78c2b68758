/- Texts behind TestsChecks, part 34: contracts of the program's functions and the plain words for them. -/
import Derived.Deep.Slices
import Derived.Deep.Strs
import Derived.ProofKit
import Derived.OpenShut
import Derived.Lib.SmallJoins
import Derived.Lib.LaidTab
import Derived.Stop.LaidErr
import Derived.Test.YtekmiepdodaidaaDoorRows
import Derived.LaidMore
import Derived.Stop.Joined
import Derived.LaidHandle
import Derived.ChangeOld
import Derived.Test.YtekmiepdodaidaaDoorTpaa
import Derived.Test.YtekmiepdodaidaaDoorTpat
import Derived.Test.YtekmiepdodaidaaDoorTpbc
import Derived.Test.YtekmiepdodaidaaDoorTpbf
import Derived.Test.YtekmiepdodaidaaDoorTpbg
section
/- Arguments as they come in, opened kind by kind: what a value's cells read as is a word of the kind. -/
set_option linter.unusedVariables false
set_option linter.unusedSimpArgs false
namespace Go.Proofs.YtekmiepdodaidaaDoor.X
open Go.ChangeShapes Go.WideShapes Go.ChangeAt Go.RowKit Go.Proofs.YtekmiepdodaidaaDoorW.PrintWords
section
variable {H : Type} {enc : TypeId × Value → H} {P : Program} {W : World} {base : Nat} {held : Bool}
/-- Whatever is read of type t is a word of the kind, and it is good. -/
def Opens {α : Type} (enc : TypeId × Value → H) (P : Program) (W : World) (base : Nat) (held : Bool) (d : Kd α) (t : TypeId) (good : α → Prop) : Prop :=
 ∀ fuel cs x, DataW.trod enc P W base (fun _ => true) held fuel t cs = some x → ∃ a : α, d.K W a cs ∧ good a
theorem opens_int {t : TypeId} {k : IntKind} (ht : P.underlying t = some (.int k)) : Opens enc P W base held (Kd.int k) t (fun z => (Lit.int k z).wf = true) := by
 intro fuel cs x h
 obtain ⟨z, e, _, hw⟩ := DataW.trod_int ht h
 exact ⟨z, e, hw⟩
theorem opens_slice {α : Type} {d : Kd α} {t e : TypeId} {good : α → Prop} (ht : P.underlying t = some (.slice e)) (hs : P.cellsOf e = d.sz) (he : Opens enc P W base held d e good) :
  Opens enc P W base held (Kd.slice e d) t (fun l => l.length ≤ maxLen ∧ ∀ x ∈ l, good x) := by
 intro fuel cs x h
 rcases Go.Deep.open_slice ht h with ⟨rfl, _⟩ | ⟨a, len, cap, m, n, D, Pl, rfl, hb, hl, hm, hmm, hxx, hx⟩
 ·exact ⟨[], ⟨none, 0, rfl, Nat.le_refl _, Kd.C_nil _ _⟩, Nat.zero_le _, by simp⟩
 simp only [if_true] at hmm
 subst hmm
 have each : ∀ i, i < len → ∃ y : α, ∃ cs', W.cells? base (a.add (i * d.sz)) d.sz = some cs' ∧ d.K W y cs' ∧ good y := by
  intro i hi
  obtain ⟨cs', h1, h2⟩ := hx i (by omega)
  obtain ⟨y, h3, h4⟩ := he _ _ _ h2
  rw [hs] at h1
  exact ⟨y, cs', h1, h3, h4⟩
 have pick : ∃ l : List α, l.length = len ∧ ∀ i y, l[i]? = some y → ∃ cs', W.cells? base (a.add (i * d.sz)) d.sz = some cs' ∧ d.K W y cs' ∧ good y := by
  clear hl hm hx hxx h
  induction len with
  | zero => exact ⟨[], rfl, fun i y hy => by simp at hy⟩
  | succ len ih =>
   obtain ⟨l, hl, hy⟩ := ih (fun i hi => each i (by omega))
   obtain ⟨y0, hy0⟩ := each len (by omega)
   refine ⟨l ++ [y0], by simp [hl], fun i y hi => ?_⟩
   rcases Nat.lt_trichotomy i l.length with h | h | h
   ·rw [List.getElem?_append_left h] at hi
    exact hy i y hi
   ·rw [List.getElem?_append_right (by omega)] at hi
    have e0 : i - l.length = 0 := by omega
    rw [e0] at hi
    have : y0 = y := by simpa using hi
    subst this
    rw [h, hl]
    exact hy0
   ·rw [List.getElem?_eq_none (by simp; omega)] at hi
    cases hi
 obtain ⟨l, rfl, hy⟩ := pick
 refine ⟨l, ⟨some a, _, rfl, hl, rfl, ?_, fun hn => ⟨a, rfl, fun j p hj => ?_⟩⟩, Nat.le_trans hl hm, fun x hx => ?_⟩
 ·have := Nat.le_trans hl hm
  simpa [maxLen] using this
 ·obtain ⟨cs', h1, h2, _⟩ := hy j p hj
  obtain ⟨h3, h4, h5⟩ := World.cells?_some h1
  refine ⟨cs', h4, h2, fun i u hu => ?_⟩
  have hi : i < d.sz := by
   rcases Nat.lt_or_ge i d.sz with h | h
   ·exact h
   ·rw [List.getElem?_eq_none (by omega)] at hu
    cases hu
  have := h5 i hi
  rw [hu] at this
  rw [← this]
  congr 1
  simp only [Addr.add]
  by_cases h6 : i = 0
  ·subst h6; simp
  ·by_cases h7 : j * d.sz = 0
   ·simp [h6, h7]
   ·simp [h6, h7, Nat.add_assoc]
 ·obtain ⟨j, hj⟩ := List.getElem?_of_mem hx
  obtain ⟨_, _, _, h4⟩ := hy j x hj
  exact h4
theorem opens_arg {α : Type} {d : Kd α} {t : TypeId} {good : α → Prop} {v : Value} {x : DataW H} {p : List MemPlace} (ho : Opens enc P W base held d t good) (h : DataW.Trod enc P W base (fun _ => true) held t v x p) : ∃ a : α, d.K W a v.cells.toList ∧ good a := by
 obtain ⟨fuel, hf⟩ := h
 exact ho _ _ _ hf
/-- An argument that is a slice. -/
theorem open_slice {α : Type} {d : Kd α} {t e : TypeId} {good : α → Prop} {v : Value} {x : DataW H} {p : List MemPlace} (ht : P.underlying t = some (.slice e)) (hs : P.cellsOf e = d.sz) (he : Opens enc P W 0 true d e good)
  (hv : Value.okWide P W .any base t v) (h : DataW.Trod enc P W 0 (fun _ => true) true t v x p) :
  ∃ (a : Option Addr) (l : List α) (cap : Nat), v = .slice a l.length cap ∧ l.length ≤ cap ∧ Kd.C d W a l.length l ∧ l.length ≤ maxLen ∧ ∀ x ∈ l, good x := by
 obtain ⟨a, len, cap, rfl⟩ := okWide_slice ht hv
 obtain ⟨l, ⟨A, c, e1, h1, h2⟩, h3, h4⟩ := opens_arg (opens_slice ht hs he) h
 simp only [Value.cells, List.cons.injEq, Value.slice.injEq, and_true] at e1
 obtain ⟨rfl, rfl, rfl⟩ := e1
 exact ⟨_, l, _, rfl, h1, h2, h3, h4⟩
theorem okWide_struct {r : Reach} {fs : Array Field} {b0 : Nat} {t : TypeId} {v : Value} (ht : P.underlying t = some (.struct fs)) (h : Value.okWide P W r b0 t v) : ∃ cs, v = .agg cs ∧ cs.size = P.cellsOf t := by
 simp only [Value.okWide, ht] at h
 cases v <;> simp_all
/-- An argument that is a struct of three slices. -/
theorem open_three {α β γ : Type} {d0 : Kd α} {d1 : Kd β} {d2 : Kd γ} {t e0 e1 e2 : TypeId} {f0 f1 f2 : Field} {g0 : α → Prop} {g1 : β → Prop} {g2 : γ → Prop} {v : Value} {x : DataW H} {p : List MemPlace}
  (ht : P.underlying t = some (.struct #[f0, f1, f2])) (hc : P.cellsOf t = 3) (o0 : f0.offset = 0) (o1 : f1.offset = 1) (o2 : f2.offset = 2) (c0 : P.cellsOf f0.type = 1) (c1 : P.cellsOf f1.type = 1) (c2 : P.cellsOf f2.type = 1)
  (t0 : P.underlying f0.type = some (.slice e0)) (t1 : P.underlying f1.type = some (.slice e1)) (t2 : P.underlying f2.type = some (.slice e2)) (s0 : P.cellsOf e0 = d0.sz) (s1 : P.cellsOf e1 = d1.sz) (s2 : P.cellsOf e2 = d2.sz)
  (h0 : Opens enc P W 0 true d0 e0 g0) (h1 : Opens enc P W 0 true d1 e1 g1) (h2 : Opens enc P W 0 true d2 e2 g2)
  (hv : Value.okWide P W .any base t v) (h : DataW.Trod enc P W 0 (fun _ => true) true t v x p) :
  ∃ (a0 : Option Addr) (l0 : List α) (k0 : Nat) (a1 : Option Addr) (l1 : List β) (k1 : Nat) (a2 : Option Addr) (l2 : List γ) (k2 : Nat), v = .agg #[.slice a0 l0.length k0, .slice a1 l1.length k1, .slice a2 l2.length k2] ∧
   (l0.length ≤ k0 ∧ Kd.C d0 W a0 l0.length l0 ∧ l0.length ≤ maxLen ∧ ∀ x ∈ l0, g0 x) ∧ (l1.length ≤ k1 ∧ Kd.C d1 W a1 l1.length l1 ∧ l1.length ≤ maxLen ∧ ∀ x ∈ l1, g1 x) ∧ (l2.length ≤ k2 ∧ Kd.C d2 W a2 l2.length l2 ∧ l2.length ≤ maxLen ∧ ∀ x ∈ l2, g2 x) := by
 obtain ⟨cs, rfl, hsz⟩ := okWide_struct ht hv
 obtain ⟨fuel, hf⟩ := h
 obtain ⟨y0, y1, y2, n, _, hl, r0, r1, r2⟩ := Go.Deep.trod_struct3 ht hf
 rw [hc] at hl hsz
 obtain ⟨ls⟩ := cs
 match ls, hsz with
 | [u0, u1, u2], _ =>
  rw [o0, c0] at r0
  rw [o1, c1] at r1
  rw [o2, c2] at r2
  simp only [Value.cells, List.drop_zero, List.take_succ_cons, List.take_zero, List.drop_succ_cons] at r0 r1 r2
  obtain ⟨l0, ⟨a0, k0, q0, m0, n0⟩, w0⟩ := opens_slice t0 s0 h0 _ _ _ r0
  obtain ⟨l1, ⟨a1, k1, q1, m1, n1⟩, w1⟩ := opens_slice t1 s1 h1 _ _ _ r1
  obtain ⟨l2, ⟨a2, k2, q2, m2, n2⟩, w2⟩ := opens_slice t2 s2 h2 _ _ _ r2
  simp only [List.cons.injEq, and_true] at q0 q1 q2
  subst q0 q1 q2
  exact ⟨a0, l0, k0, a1, l1, k1, a2, l2, k2, rfl, ⟨m0, n0, w0⟩, ⟨m1, n1, w1⟩, ⟨m2, n2, w2⟩⟩
end
end Go.Proofs.YtekmiepdodaidaaDoor.X
end

section
/- What every row of this seat uses: what its condition gives, the door's heap, the listed tables, the arguments' kinds. -/
namespace Go.Proofs.YtekmiepdodaidaaDoor
open Go.ChangeShapes Go.WideShapes Go.ChangeAt Go.RowKit Go.Proofs.YtekmiepdodaidaaDoorW.PrintWords
theorem own : ownKnob Tryd.prog.godebug = none := by kernel_rfl
theorem laidOut : laidOutB Tryd.prog = true := by kernel_rfl
def laidTabs : List (String × DataW Unit) := [("math/bits.deBruijn32tab", Rows.laid_math_bits_deBruijn32tab), ("math/bits.deBruijn64tab", Rows.laid_math_bits_deBruijn64tab)]
theorem g64 : Tryd.prog.globalNamed "math/bits.deBruijn64tab" = some 1 := by kernel_rfl
theorem tab64 : Rows.laid_math_bits_deBruijn64tab (H := Unit) = Lib.tabData .u8 (Lib.deBruijn64tab.map fun n : Nat => (n : Int)) := rfl
set_option maxRecDepth 100000 in
theorem door_met (os : Os) (args : Array Value) : laidMetH Tryd.prog laidTabs ((World.doorLaid Tryd.prog 19 os).forCall (fun _ _ => 0) ⟨#[], args, []⟩).memory :=
 laidMetH_of_parts3 (fuel := 8) (laidMet_of_run' 8 (by kernel_rfl) (by kernel_rfl)) (by kernel_rfl) (by kernel_rfl)
set_option maxRecDepth 100000 in
theorem tab_of_laid {W : World} (h : laidMetH Tryd.prog laidTabs W) : X.Tab W := by
 rw [MakeChecks.laidMetH_plain _ _ _ (by kernel_rfl)] at h
 have h1 := laidMet.tail h
 rw [tab64] at h1
 have e : ∃ t n e, (Tryd.prog.globals[1]?).map (·.type) = some t ∧ Tryd.prog.underlying t = some (.array n e) ∧ Tryd.prog.underlying e = some (.int .u8) ∧ Tryd.prog.cellsOf e = 1 ∧ Tryd.prog.cellsOf t = n :=
  ⟨112, 64, 5, by kernel_rfl, by kernel_rfl, by kernel_rfl, by kernel_rfl, by kernel_rfl⟩
 obtain ⟨t, n, e, e1, e2, e3, e4, e5⟩ := e
 have h2 := Lib.tabIs_of_head g64 e1 e2 e3 e4 e5 h1
 have h3 : TabAt 1 Lib.deBruijn64tab W := by
  intro j hj
  have h4 := h2.cell g64 j (by simpa using hj)
  rw [h4]
  simp [List.getD, List.getElem?_map, List.getElem?_eq_getElem hj]
 refine ⟨h3, ?_⟩
 have h4 := h3 0 (by decide)
 unfold World.cell? at h4
 rcases Nat.lt_or_ge 1 W.heap.size with h | h
 ·exact h
 ·simp [Array.getElem?_eq_none h] at h4
section
variable {H : Type} {enc : TypeId × Value → H} {W : World} {base : Nat} {held : Bool}
theorem opens3 : X.Opens enc Tryd.prog W base held (Kd.int .i64) 3 (fun z => (Lit.int .i64 z).wf = true) := X.opens_int Tryd.underlying3
set_option maxRecDepth 100000 in
theorem opens22 : X.Opens enc Tryd.prog W base held (Kd.slice 3 (Kd.int .i64)) 22 (fun l => l.length ≤ maxLen ∧ ∀ z ∈ l, (Lit.int .i64 z).wf = true) := X.opens_slice Tryd.underlying22 (by kernel_rfl) opens3
set_option maxRecDepth 100000 in
theorem open_case {v : Value} {x : DataW H} {p : List MemPlace} (hv : Value.okWide Tryd.prog W .any base 25 v) (h : DataW.Trod enc Tryd.prog W 0 (fun _ => true) true 25 v x p) :
  ∃ (a0 : Option Addr) (l0 : List Int) (k0 : Nat) (a1 : Option Addr) (l1 : List (List Int)) (k1 : Nat) (a2 : Option Addr) (l2 : List Int) (k2 : Nat), v = .agg #[.slice a0 l0.length k0, .slice a1 l1.length k1, .slice a2 l2.length k2] ∧
   (l0.length ≤ k0 ∧ Kd.C (Kd.int .i64) W a0 l0.length l0 ∧ l0.length ≤ maxLen ∧ ∀ z ∈ l0, (Lit.int .i64 z).wf = true) ∧
   (l1.length ≤ k1 ∧ Kd.C (Kd.slice 3 (Kd.int .i64)) W a1 l1.length l1 ∧ l1.length ≤ maxLen ∧ ∀ l ∈ l1, l.length ≤ maxLen ∧ ∀ z ∈ l, (Lit.int .i64 z).wf = true) ∧
   (l2.length ≤ k2 ∧ Kd.C (Kd.int .i64) W a2 l2.length l2 ∧ l2.length ≤ maxLen ∧ ∀ z ∈ l2, (Lit.int .i64 z).wf = true) :=
 X.open_three Tryd.underlying25 (by kernel_rfl) rfl rfl rfl (by kernel_rfl) (by kernel_rfl) (by kernel_rfl) Tryd.underlying22 Tryd.underlying23 Tryd.underlying22 (by kernel_rfl) (by kernel_rfl) (by kernel_rfl) opens3 opens22 opens3 hv h
set_option maxRecDepth 100000 in
theorem opens57 : X.Opens enc Tryd.prog W base held X.k57 57 (fun _ => True) := by
 intro fuel cs x h
 obtain ⟨y0, y1, y2, y3, n, _, hl, h0, h1, h2, h3⟩ := Go.Joins.trod_struct4 Tryd.underlying57 h
 have c3 : Tryd.prog.cellsOf 3 = 1 := by kernel_rfl
 have c57 : Tryd.prog.cellsOf 57 = 4 := by kernel_rfl
 rw [c57] at hl
 match cs, hl with
 | [u0, u1, u2, u3], _ =>
  dsimp only at h0 h1 h2 h3
  rw [c3] at h0 h1 h2 h3
  simp only [List.drop_zero, List.take_succ_cons, List.take_zero, List.drop_succ_cons] at h0 h1 h2 h3
  obtain ⟨a0, e0, _, _⟩ := DataW.trod_int Tryd.underlying3 h0
  obtain ⟨a1, e1, _, _⟩ := DataW.trod_int Tryd.underlying3 h1
  obtain ⟨a2, e2, _, _⟩ := DataW.trod_int Tryd.underlying3 h2
  obtain ⟨a3, e3, _, _⟩ := DataW.trod_int Tryd.underlying3 h3
  simp only [List.cons.injEq, and_true] at e0 e1 e2 e3
  subst e0 e1 e2 e3
  exact ⟨⟨a0, a1, a2, a3⟩, X.k57_mk W ⟨a0, a1, a2, a3⟩, trivial⟩
end
end Go.Proofs.YtekmiepdodaidaaDoor
end

section
/- Layer 7, plain: the plan of a choice of tests is a correct plan; its mean and its worst. -/
set_option linter.unusedVariables false
namespace Go.Proofs.YtekmiepdodaidaaDoor.X
open Go.RowKit Go.Proofs.YtekmiepdodaidaaDoorW.PrintWords Go.Proofs.YtekmiepdodaidaaDoorW.PrintLast Go.Proofs.YtekmiepdodaidaaDoorW.PrintMore

def memB (s : Int) (f : Nat) : Bool := s.toNat.testBit f
structure TreeOk (n nt : Nat) (tf : Int → Int) (ones : List Int) (R : Int → Prop) : Prop where
 runs : Runs tf ones R
 lt : ∀ s, R s → s < (2 ^ n : Nat)
 n10 : n ≤ 10
 len : ones.length = nt
section
variable {n nt : Nat} {tf : Int → Int} {ones : List Int} {R : Int → Prop} (H : TreeOk n nt tf ones R)
include H
end
end Go.Proofs.YtekmiepdodaidaaDoor.X
end

section
/- Layer 7, plain: a case in which all faults differ; what Best and Worst find is the plan's mean and worst. -/
set_option linter.unusedVariables false
namespace Go.Proofs.YtekmiepdodaidaaDoor.X
open Go.RowKit Go.Proofs.YtekmiepdodaidaaDoorW.PrintWords Go.Proofs.YtekmiepdodaidaaDoorW.PrintLast Go.Proofs.YtekmiepdodaidaaDoorW.PrintMore

/-- A case in which all faults differ. -/
structure Differ (a : List Int) (b : List (List Int)) (c : List Int) : Prop where
 is : CaseIs a b c
 al : alikeL (onesOf b) a.length = []
section
variable {a : List Int} {b : List (List Int)} {c : List Int}
theorem Differ.set (D : Differ a b c) : ∀ x ∈ onesOf b, SetB x := onesOf_set D.is.a10 D.is.rows
theorem row_mem (h : CaseIs a b c) (t f : Nat) (ht : t < b.length) (hf : f < a.length) : (rd (rd_L1 b (t : Int)) (f : Int) = 1 ↔ memB (rd (onesOf b) (t : Int)) f = true) := by
 obtain ⟨r1, r2⟩ := row_at h t ht
 have e : rd (onesOf b) (t : Int) = (rowV b[t] : Int) := by
  simp [rd, onesOf, List.getD_eq_getElem?_getD, List.getElem?_map, List.getElem?_eq_getElem ht]
 rw [e, rd_L1_at b t ht]
 unfold memB
 rw [Int.toNat_natCast, rowV_bit _ r2, rd_at _ f (by omega)]
 simp [List.getD_eq_getElem?_getD, List.getElem?_eq_getElem (show f < b[t].length by omega)]
end
end Go.Proofs.YtekmiepdodaidaaDoor.X
end

section
/- Layer 7, plain: the program's way, costs, Check and Find. -/
set_option linter.unusedVariables false
namespace Go.Proofs.YtekmiepdodaidaaDoor.X
open Go.RowKit Go.Proofs.YtekmiepdodaidaaDoorW.PrintWords Go.Proofs.YtekmiepdodaidaaDoorW.PrintLast Go.Proofs.YtekmiepdodaidaaDoorW.PrintMore

section
variable {a : List Int} {b : List (List Int)} {c : List Int}
theorem ones_at (h : CaseIs a b c) (t : Nat) (ht : t < b.length) : rd (onesOf b) (t : Int) = (rowV b[t] : Int) := by
 simp [rd, onesOf, List.getD_eq_getElem?_getD, List.getElem?_map, List.getElem?_eq_getElem ht]
theorem has_row (h : CaseIs a b c) (t f : Nat) (ht : t < b.length) (hf : f < a.length) : tests_faults_has.f (rd (onesOf b) (t : Int)) (f : Int) = some (decide (rd (rd_L1 b (t : Int)) (f : Int) = 1)) := by
 have hr := row_mem h t f ht hf
 rw [ones_at h t ht] at hr ⊢
 have hlt := row_lt h t ht
 have e : hasB (rowV b[t] : Int) (f : Int) = (rowV b[t]).testBit f := hasB_nat _ _ hlt
 unfold tests_faults_has.f
 rw [if_pos (by omega)]
 show some (hasB (rowV b[t] : Int) (f : Int)) = _
 rw [e]
 unfold memB at hr
 rw [Int.toNat_natCast] at hr
 congr 1
 rw [Bool.eq_iff_iff, decide_eq_true_iff]
 exact hr.symm
/-- The program's way. -/
theorem tway_l0 (h : CaseIs a b c) (plan : List S57) (H : PlanIs a.length b.length plan) (al : Int) (f : Nat) (hf : f < a.length) (d : Nat) : ∀ (p : Nat) (acc : List Int), p < plan.length → plan.length ≤ p + d → acc.length + d ≤ 2000 →
  Ev (fun k => tests_trial_way.l0 k plan (f : Int) acc a b c (onesOf b) al (rd_T57 plan (p : Int)).f0 (rd_T57 plan (p : Int)).f1 (rd_T57 plan (p : Int)).f2 (rd_T57 plan (p : Int)).f3) (acc ++ (wayN b plan (f : Int) d (p : Int)).1, (wayN b plan (f : Int) d (p : Int)).2) := by
 induction d with
 | zero => intro p acc hp hd; omega
 | succ d ih =>
  intro p acc hp hd hacc
  unfold wayN
  by_cases h0 : (rd_T57 plan (p : Int)).f0 < 0
  ·rw [if_pos h0]
   refine Ev.step (f := fun _ => some _) (fun k => ?_) (Ev.now _)
   simp only [tests_trial_way.l0]
   rw [if_neg (by omega)]; simp
  ·rw [if_neg h0]
   obtain ⟨o1, o2, o3, o4, o5, o6, o7⟩ := node_inner (H.node p hp) h0
   obtain ⟨t, ht⟩ : ∃ t : Nat, (rd_T57 plan (p : Int)).f0 = (t : Int) := ⟨(rd_T57 plan (p : Int)).f0.toNat, by omega⟩
   obtain ⟨j, e, h1, h2⟩ := kid_at (H.node p hp) h0 (rd (rd_L1 b (rd_T57 plan (p : Int)).f0) (f : Int) = 1)
   have := ih j (acc ++ [(t : Int)]) h2 (by omega) (by simp; omega)
   have hlen := onesOf_len (b := b)
   have hhas := has_row h t f (by omega) hf
   dsimp only
   rw [e, ht]
   rw [List.append_assoc] at this
   refine Ev.step (fun k => ?_) this
   show tests_trial_way.l0 (k + 1) plan (f : Int) acc a b c (onesOf b) al (t : Int) _ _ _ = _
   simp only [tests_trial_way.l0]
   rw [if_pos (by omega), if_pos (by omega)]
   simp only [Option.bind_some]
   rw [if_pos (by omega), if_pos (by omega), hhas]
   simp only [Option.bind_some, decide_eq_true_eq]
   rw [ht] at e
   by_cases hb : rd (rd_L1 b (t : Int)) (f : Int) = 1
   ·rw [if_pos hb] at e
    rw [if_pos hb, if_pos (by omega), if_pos (by omega), e]
   ·rw [if_neg hb] at e
    rw [if_neg hb, if_pos (by omega), if_pos (by omega), e]
theorem tway_ev (h : CaseIs a b c) (plan : List S57) (H : PlanIs a.length b.length plan) (al : Int) (f : Nat) (hf : f < a.length) : Ev (fun k => tests_trial_way.f k a b c (onesOf b) al plan (f : Int)) (wayP b plan (f : Int)) := by
 have := tway_l0 h plan H al f hf plan.length 0 [] (by have := H.l1; omega) (by omega) (by have := H.l1000; simp; omega)
 refine Ev.congr (fun k => ?_) (show Ev _ (wayP b plan (f : Int)) from by simpa [wayP] using this)
 unfold tests_trial_way.f
 rw [if_pos (by have := H.l1; omega)]
theorem tcost_l1 (h : CaseIs a b c) (plan : List S57) (al : Int) (f : Nat) (hf : f < a.length) (M W y : Int) (l : List Int) (hl : ∀ t ∈ l, 0 ≤ t ∧ t < (b.length : Int)) (hn : l.length ≤ 1000) (R : Int × Int × Bool) (m : Nat) : ∀ (i : Nat) (acc : Int), i + m = l.length → 0 ≤ acc → acc + 100 * (m : Int) ≤ 100000 →
  Ev (fun k => tests_trial_costs.l0 k plan (wrap64 (M + wrap64 (y * (acc + costL c (l.drop i))))) (mx W (acc + costL c (l.drop i))) a (a.length : Int) ((f + 1 : Nat) : Int) a b c (onesOf b) al) R →
  Ev (fun k => tests_trial_costs.l1 k plan M W y acc a (a.length : Int) (f : Int) l (l.length : Int) (i : Int) a b c (onesOf b) al) R := by
 have ha := h.a10
 have hcb := h.cb
 induction m with
 | zero =>
  intro i acc hi h0 h1 hR
  obtain rfl : i = l.length := by omega
  rw [List.drop_length] at hR
  refine Ev.step (fun k => ?_) hR
  simp only [tests_trial_costs.l1]
  rw [if_neg (by omega), w1 f (by omega)]
  simp [costL]
 | succ m ih =>
  intro i acc hi h0 h1 hR
  have hil : i < l.length := by omega
  have ht := hl l[i] (List.getElem_mem hil)
  obtain ⟨t, et⟩ : ∃ t : Nat, l[i] = (t : Int) := ⟨l[i].toNat, by omega⟩
  have hc := cost_at h t (by omega)
  rw [List.drop_eq_getElem_cons hil, et] at hR
  simp only [costL] at hR
  have e := ih (i + 1) (acc + rd c (t : Int)) (by omega) (by omega) (by omega) (by rw [Int.add_assoc]; exact hR)
  refine Ev.step (fun k => ?_) e
  show tests_trial_costs.l1 (k + 1) plan M W y acc a (a.length : Int) (f : Int) l (l.length : Int) (i : Int) a b c (onesOf b) al = _
  simp only [tests_trial_costs.l1]
  rw [if_pos (by omega), if_pos (by omega), if_pos (by omega), rd_at l i hil, et, if_pos (by omega), if_pos (by omega), w1 i (by omega), show wrap64 (acc + rd c (t : Int)) = acc + rd c (t : Int) from by unfold wrap64; omega]
theorem sum_bounds (h : CaseIs a b c) {plan : List S57} (H : PlanIs a.length b.length plan) (f : Nat) : f ≤ a.length → 0 ≤ sumR (fun f => rd a (f : Int) * wayC b c plan f) f ∧ sumR (fun f => rd a (f : Int) * wayC b c plan f) f ≤ 100000000 * (f : Int) := by
 induction f with
 | zero => intro _; simp [sumR]
 | succ f ih =>
  intro hf
  have i1 := ih (by omega)
  have hw := h.wa a[f] (List.getElem_mem (by omega))
  have hc := wayC_bounds h H f
  simp only [sumR]
  rw [rd_at a f (by omega)]
  have p1 : 0 ≤ a[f] * wayC b c plan f := Int.mul_nonneg (by omega) hc.1
  have p2 : a[f] * wayC b c plan f ≤ 1000 * 100000 := Int.mul_le_mul hw.2 hc.2 hc.1 (by omega)
  omega
theorem sum_step (h : CaseIs a b c) {plan : List S57} (H : PlanIs a.length b.length plan) (f : Nat) (hfl : f < a.length) : wrap64 (sumR (fun f => rd a (f : Int) * wayC b c plan f) f + wrap64 (rd a (f : Int) * costL c (wayP b plan (f : Int)).1)) = sumR (fun f => rd a (f : Int) * wayC b c plan f) (f + 1) := by
 have ha := h.a10
 have hw := h.wa a[f] (List.getElem_mem hfl)
 have hc := wayC_bounds h H f
 have hs := sum_bounds h H f (by omega)
 have hra := rd_at a f hfl
 have p1 : 0 ≤ rd a (f : Int) * wayC b c plan f := Int.mul_nonneg (by omega) hc.1
 have p2 : rd a (f : Int) * wayC b c plan f ≤ 1000 * 100000 := Int.mul_le_mul (by omega) hc.2 hc.1 (by omega)
 simp only [sumR]
 show wrap64 (_ + wrap64 (rd a (f : Int) * wayC b c plan f)) = _
 generalize rd a (f : Int) * wayC b c plan f = p at *
 generalize sumR (fun f => rd a (f : Int) * wayC b c plan f) f = s at *
 unfold wrap64; omega
theorem tcost_l0 (h : CaseIs a b c) (plan : List S57) (H : PlanIs a.length b.length plan) (al : Int) (m : Nat) : ∀ (f : Nat), f + m = a.length →
  Ev (fun k => tests_trial_costs.l0 k plan (sumR (fun f => rd a (f : Int) * wayC b c plan f) f) (maxR (fun f => wayC b c plan f) f) a (a.length : Int) (f : Int) a b c (onesOf b) al)
   (if allB (fun f => (wayP b plan f).2 == (f : Int)) f m = true then (sumR (fun f => rd a (f : Int) * wayC b c plan f) a.length, maxR (fun f => wayC b c plan f) a.length, true) else (0, 0, false)) := by
 have ha := h.a10
 induction m with
 | zero =>
  intro f hf
  obtain rfl : f = a.length := by omega
  refine Ev.step (f := fun _ => some _) (fun k => ?_) (Ev.now _)
  simp only [tests_trial_costs.l0]
  rw [if_neg (by omega)]; rfl
 | succ m ih =>
  intro f hf
  have hfl : f < a.length := by omega
  obtain ⟨hn, ht⟩ := way_tests (a := a) (b := b) (plan := plan) H (f : Int)
  refine Ev.step (f := fun k => (tests_trial_way.f k a b c (onesOf b) al plan (f : Int)).bind _) (fun k => by simp only [tests_trial_costs.l0]; rw [if_pos (by omega), if_pos (by omega), if_pos (by omega)]) ?_
  refine Ev.bind (tway_ev h plan H al f hfl) ?_
  rw [allB]
  by_cases hleaf : (wayP b plan (f : Int)).2 = (f : Int)
  ·rw [show ((wayP b plan (f : Int)).2 == (f : Int)) = true from beq_iff_eq.2 hleaf, Bool.true_and]
   refine Ev.congr (fun k => if_pos hleaf) ?_
   have e := ih (f + 1) (by omega)
   refine tcost_l1 h plan al f hfl _ _ _ _ ht hn _ (wayP b plan (f : Int)).1.length 0 0 (by omega) (by omega) (by omega) ?_
   rw [List.drop_zero, Int.zero_add, sum_step h H f hfl]
   exact e
  ·rw [show ((wayP b plan (f : Int)).2 == (f : Int)) = false from beq_eq_false_iff_ne.2 hleaf, Bool.false_and, if_neg Bool.false_ne_true]
   exact Ev.congr (f := fun _ => some _) (fun k => if_neg hleaf) (Ev.now _)
theorem tcosts_ev (h : CaseIs a b c) (plan : List S57) (al : Int) : Ev (fun k => tests_trial_costs.f k a b c (onesOf b) al plan) (corrR a b c plan) := by
 unfold tests_trial_costs.f tests_trial_isPlan.f corrR
 rw [onesOf_len]
 simp only [Option.bind_some]
 by_cases hp : planB a.length b.length plan = true
 ·rw [hp, Bool.true_and]
  have e := tcost_l0 h plan (plan_is hp) al a.length 0 (by omega)
  refine Ev.congr (f := fun k => tests_trial_costs.l0 k plan 0 0 a (a.length : Int) 0 a b c (onesOf b) al) (fun k => if_pos rfl) e
 ·have hp2 : planB a.length b.length plan = false := by simpa using hp
  rw [hp2, Bool.false_and, if_neg Bool.false_ne_true]
  exact Ev.congr (f := fun _ => some _) (fun k => if_neg Bool.false_ne_true) (Ev.now _)
end
def checkR (a : List Int) (b : List (List Int)) (c : List Int) (plan : List S57) : Int × Int × Int :=
 if caseB a b c = true then (if (corrR a b c plan).2.2 = true then ((corrR a b c plan).1, (corrR a b c plan).2.1, 0) else (0, 0, 10)) else (0, 0, 2)
theorem check_ev (a : List Int) (b : List (List Int)) (c : List Int) (plan : List S57) : Ev (fun k => tests_Check.f k a b c plan) (checkR a b c plan) := by
 unfold tests_Check.f checkR
 refine Ev.bind (newTrial_all a b c) ?_
 unfold trialR
 by_cases hc : caseB a b c = true
 ·rw [if_pos hc, if_pos hc]
  refine Ev.congr (fun k => if_pos rfl) ?_
  refine Ev.bind (tcosts_ev (case_is hc) plan _) ?_
  by_cases hr : (corrR a b c plan).2.2 = true
  ·rw [if_pos hr, if_pos hr]; exact Ev.now _
  ·rw [if_neg hr, if_neg hr]; exact Ev.now _
 ·rw [if_neg hc, if_neg hc]
  exact Ev.congr (f := fun _ => some _) (fun k => if_neg (by decide)) (Ev.now _)
def findR (a : List Int) (b : List (List Int)) (c : List Int) (plan : List S57) (fault : Int) : List Int × Int :=
 if caseB a b c = true ∧ 0 ≤ fault ∧ fault < (a.length : Int) then (if (corrR a b c plan).2.2 = true then ((wayP b plan fault).1, 0) else ([], 10)) else ([], 2)
theorem find_j0t (plan : List S57) (fault : Int) (x0 : List Int) (x1 : List (List Int)) (x2 x3 : List Int) (x4 : Int) : Ev (fun k => tests_Find.j0 k plan fault true x0 x1 x2 x3 x4) ([], 2) :=
 Ev.step (f := fun _ => some _) (fun k => by simp only [tests_Find.j0]; rw [if_pos trivial]) (Ev.now _)
theorem find_ev (a : List Int) (b : List (List Int)) (c : List Int) (plan : List S57) (fault : Int) : Ev (fun k => tests_Find.f k a b c plan fault) (findR a b c plan fault) := by
 unfold tests_Find.f findR
 refine Ev.bind (newTrial_all a b c) ?_
 unfold trialR
 by_cases hc : caseB a b c = true
 ·rw [if_pos hc]
  have hci := case_is hc
  refine Ev.congr (fun k => if_pos rfl) ?_
  have hw : wrap64 ((a.length : Int) - 1) = (a.length : Int) - 1 := by have := hci.a10; unfold wrap64; omega
  rw [hw]
  by_cases hf : 0 ≤ fault ∧ fault < (a.length : Int)
  ·rw [if_pos ⟨hc, hf⟩, within_yes fault 0 _ hf.1 (by omega)]
   obtain ⟨f, rfl⟩ : ∃ f : Nat, fault = (f : Int) := ⟨fault.toNat, by omega⟩
   simp only [Option.bind_some]
   refine Ev.step (f := fun k => (tests_trial_costs.f k a b c (onesOf b) ((2 ^ a.length : Nat) - 1) plan).bind _) (fun k => by simp only [tests_Find.j0]; rw [if_neg (by decide)]) ?_
   refine Ev.bind (tcosts_ev hci plan _) ?_
   by_cases hr : (corrR a b c plan).2.2 = true
   ·rw [if_pos hr]
    refine Ev.congr (fun k => if_pos hr) ?_
    have hp : planB a.length b.length plan = true := by
     unfold corrR at hr
     cases hp : planB a.length b.length plan with
     | true => rfl
     | false => rw [hp, Bool.false_and, if_neg Bool.false_ne_true] at hr; cases hr
    refine Ev.bind (tway_ev hci plan (plan_is hp) _ f (by omega)) ?_
    exact Ev.now _
   ·rw [if_neg hr]
    exact Ev.congr (f := fun _ => some _) (fun k => if_neg hr) (Ev.now _)
  ·rw [if_neg (fun h => hf h.2), within_no fault 0 _ (fun h => hf ⟨h.1, by omega⟩)]
   simp only [Option.bind_some]
   exact find_j0t _ _ _ _ _ _ _
 ·rw [if_neg hc, if_neg (fun h => hc h.1)]
  refine Ev.congr (fun k => if_neg (by decide)) ?_
  exact find_j0t _ _ _ _ _ _ _
end Go.Proofs.YtekmiepdodaidaaDoor.X
end

section
/- Layer 7, plain: own copies, and the reference's Case. -/
set_option linter.unusedVariables false
namespace Go.Proofs.YtekmiepdodaidaaDoor.X
open Go.RowKit Go.Proofs.YtekmiepdodaidaaDoorW.PrintWords Go.Proofs.YtekmiepdodaidaaDoorW.PrintLast Go.Proofs.YtekmiepdodaidaaDoorW.PrintMore

def cut14 (l : List Int) : List Int := l.take 14
def cutB (b : List (List Int)) : List (List Int) := (b.take 14).map cut14
theorem cut14_len (l : List Int) : (cut14 l).length ≤ 14 := by unfold cut14; rw [List.length_take]; omega
theorem cutB_len (b : List (List Int)) : (cutB b).length ≤ 14 := by unfold cutB; rw [List.length_map, List.length_take]; omega
theorem list_f (l : List Int) : tickinglaw07_list.f l = some (cut14 l) := by
 have hm : mn (l.length : Int) 14 = ((min l.length 14 : Nat) : Int) := by unfold mn; split <;> omega
 have e : l.take (min l.length 14) = l.take 14 := by
  by_cases h : l.length ≤ 14
  ·rw [List.take_of_length_le (show l.length ≤ min l.length 14 by omega), List.take_of_length_le h]
  ·rw [show min l.length 14 = 14 by omega]
 unfold tickinglaw07_list.f cut14
 rw [hm, if_pos (by omega), if_pos (by omega), Int.toNat_natCast, e, if_pos (by rw [List.length_take]; simp; omega), List.nil_append]
theorem own_l0 (a : List Int) (b : List (List Int)) (c : List Int) (x y : List Int) (m : Nat) : ∀ (i : Nat) (acc : List (List Int)), i + m = min b.length 14 → acc.length = i →
  Ev (fun k => tickinglaw07_own.l0 k (i : Int) a b c x acc y) (x, acc ++ ((b.take 14).drop i).map cut14, y) := by
 induction m with
 | zero =>
  intro i acc hi ha
  refine Ev.step (f := fun _ => some _) (fun k => ?_) (Ev.now _)
  simp only [tickinglaw07_own.l0]
  have hd : (b.take 14).drop i = [] := List.drop_eq_nil_of_le (by rw [List.length_take]; omega)
  rw [hd]
  by_cases h : (i : Int) < (b.length : Int)
  ·rw [if_pos h, if_neg (by omega)]; simp
  ·rw [if_neg h]; simp
 | succ m ih =>
  intro i acc hi ha
  have hib : i < b.length := by omega
  have hlt : i < (b.take 14).length := by rw [List.length_take]; omega
  have hd : (b.take 14).drop i = (b.take 14)[i] :: (b.take 14).drop (i + 1) := List.drop_eq_getElem_cons hlt
  have hg : (b.take 14)[i] = b[i] := List.getElem_take
  have h2 := ih (i + 1) (acc ++ [cut14 b[i]]) (by omega) (by simp [ha])
  have e : (acc ++ [cut14 b[i]]) ++ ((b.take 14).drop (i + 1)).map cut14 = acc ++ ((b.take 14).drop i).map cut14 := by rw [hd, hg, List.map_cons, List.append_assoc]; rfl
  rw [e] at h2
  refine Ev.step (fun k => ?_) h2
  show tickinglaw07_own.l0 (k + 1) (i : Int) a b c x acc y = _
  simp only [tickinglaw07_own.l0]
  rw [if_pos (by omega), if_pos (by omega), if_pos (by omega), rd_L1_at b i hib, list_f]
  simp only [Option.bind_some]
  rw [if_pos (by omega), w1 i (by omega)]
theorem own_ev (a : List Int) (b : List (List Int)) (c : List Int) : Ev (fun k => tickinglaw07_own.f k a b c) (cut14 a, cutB b, cut14 c) := by
 unfold tickinglaw07_own.f
 rw [list_f, list_f]
 simp only [Option.bind_some]
 have := own_l0 a b c (cut14 a) (cut14 c) (min b.length 14) 0 [] (by omega) rfl
 simpa [cutB] using this
section
variable (a : List Int) (b : List (List Int)) (c : List Int)
theorem case_l2 (n i : Nat) (hi : i < b.length) (hb : b.length ≤ 14) (hn : b[i].length = n) (hn2 : n ≤ 14) (R : Bool) (hk : Ev (fun k => tickingref07_Case.l1 k (n : Int) ((i + 1 : Nat) : Int) a b c) R) (m : Nat) : ∀ j, j + m = n →
  Ev (fun k => tickingref07_Case.l2 k (n : Int) (i : Int) (j : Int) a b c) ((b[i].drop j).all (inB 0 1) && R) := by
 induction m with
 | zero =>
  intro j hj
  obtain rfl : j = n := by omega
  have hd : b[i].drop j = [] := List.drop_eq_nil_of_le (by omega)
  rw [hd]
  refine Ev.step (fun k => ?_) hk
  show tickingref07_Case.l2 (k + 1) (j : Int) (i : Int) (j : Int) a b c = _
  simp only [tickingref07_Case.l2]
  rw [if_neg (by omega), w1 i (by omega)]
 | succ m ih =>
  intro j hj
  have hjl : j < b[i].length := by omega
  have hd : b[i].drop j = b[i][j] :: b[i].drop (j + 1) := List.drop_eq_getElem_cons hjl
  rw [hd, List.all_cons]
  by_cases h : inB 0 1 b[i][j] = true
  ·rw [h, Bool.true_and]
   have h' : 0 ≤ b[i][j] ∧ b[i][j] ≤ 1 := by unfold inB at h; simpa using h
   refine Ev.step (fun k => ?_) (ih (j + 1) (by omega))
   show tickingref07_Case.l2 (k + 1) (n : Int) (i : Int) (j : Int) a b c = _
   simp only [tickingref07_Case.l2]
   rw [if_pos (by omega), if_pos (by omega), if_pos (by omega), if_pos (by omega), rd_L1_at b i hi, if_pos (by omega), rd_at _ j hjl, if_neg (by omega), if_neg (by omega), w1 j (by omega)]
  ·have hf : inB 0 1 b[i][j] = false := by simpa using h
   rw [hf, Bool.false_and, Bool.false_and]
   have h' : ¬ (0 ≤ b[i][j] ∧ b[i][j] ≤ 1) := by unfold inB at hf; intro hh; simp [hh] at hf
   refine Ev.step (f := fun _ => some _) (fun k => ?_) (Ev.now _)
   simp only [tickingref07_Case.l2]
   rw [if_pos (by omega), if_pos (by omega), if_pos (by omega), if_pos (by omega), rd_L1_at b i hi, if_pos (by omega), rd_at _ j hjl]
   by_cases h0 : b[i][j] < 0
   ·rw [if_pos h0]
   ·rw [if_neg h0, if_pos (by omega)]
theorem case_l1 (n : Nat) (hn : n ≤ 14) (hb : b.length ≤ 14) (hc : c.length = b.length) (m : Nat) : ∀ i, i + m = b.length → Ev (fun k => tickingref07_Case.l1 k (n : Int) (i : Int) a b c) ((b.drop i).all (rowOkB n) && (c.drop i).all (inB 1 100)) := by
 induction m with
 | zero =>
  intro i hi
  obtain rfl : i = b.length := by omega
  refine Ev.step (f := fun _ => some _) (fun k => ?_) (Ev.now _)
  simp only [tickingref07_Case.l1]
  rw [if_neg (by omega), List.drop_length, ← hc, List.drop_length]; rfl
 | succ m ih =>
  intro i hi
  have hib : i < b.length := by omega
  have hic : i < c.length := by omega
  have db : b.drop i = b[i] :: b.drop (i + 1) := List.drop_eq_getElem_cons hib
  have dc : c.drop i = c[i] :: c.drop (i + 1) := List.drop_eq_getElem_cons hic
  rw [db, dc, List.all_cons, List.all_cons]
  have bad : Ev (fun k => tickingref07_Case.j3 k (n : Int) (i : Int) true a b c) false := by
   refine Ev.step (f := fun _ => some _) (fun k => ?_) (Ev.now _)
   simp only [tickingref07_Case.j3, if_true]
  by_cases hlen : b[i].length = n
  ·by_cases hci : inB 1 100 c[i] = true
   ·have hci' : 1 ≤ c[i] ∧ c[i] ≤ 100 := by unfold inB at hci; simpa using hci
    have h2 := case_l2 a b c n i hib hb hlen hn _ (ih (i + 1) (by omega)) n 0 (by omega)
    rw [List.drop_zero] at h2
    have hr : (rowOkB n b[i] && (b.drop (i + 1)).all (rowOkB n) && (inB 1 100 c[i] && (c.drop (i + 1)).all (inB 1 100))) = (b[i].all (inB 0 1) && ((b.drop (i + 1)).all (rowOkB n) && (c.drop (i + 1)).all (inB 1 100))) := by
     rw [hci]; unfold rowOkB; rw [hlen]; simp [Bool.and_assoc]
    rw [hr]
    have h3 : Ev (fun k => tickingref07_Case.j3 k (n : Int) (i : Int) false a b c) (b[i].all (inB 0 1) && ((b.drop (i + 1)).all (rowOkB n) && (c.drop (i + 1)).all (inB 1 100))) := by
     refine Ev.step (fun k => ?_) h2
     show tickingref07_Case.j3 (k + 1) (n : Int) (i : Int) false a b c = _
     simp only [tickingref07_Case.j3]; rw [if_neg (by decide)]; rfl
    refine Ev.step (fun k => ?_) h3
    show tickingref07_Case.l1 (k + 1) (n : Int) (i : Int) a b c = _
    simp only [tickingref07_Case.l1]
    rw [if_pos (by omega), if_pos (by omega), rd_L1_at b i hib, if_pos (by omega), if_pos (by omega), rd_at c i hic, if_neg (by omega), decide_eq_false (by omega)]
   ·have hcf : inB 1 100 c[i] = false := by simpa using hci
    rw [hcf, Bool.false_and, Bool.and_false]
    have hci' : ¬ (1 ≤ c[i] ∧ c[i] ≤ 100) := by unfold inB at hcf; intro hh; simp [hh] at hcf
    refine Ev.step (fun k => ?_) bad
    show tickingref07_Case.l1 (k + 1) (n : Int) (i : Int) a b c = _
    simp only [tickingref07_Case.l1]
    rw [if_pos (by omega), if_pos (by omega), rd_L1_at b i hib, if_pos (by omega), if_pos (by omega), rd_at c i hic]
    by_cases h0 : c[i] < 1
    ·rw [if_pos h0]
    ·rw [if_neg h0, decide_eq_true (by omega)]
  ·have hr : rowOkB n b[i] = false := by unfold rowOkB; simp [hlen]
   rw [hr, Bool.false_and, Bool.false_and]
   refine Ev.step (fun k => ?_) bad
   show tickingref07_Case.l1 (k + 1) (n : Int) (i : Int) a b c = _
   simp only [tickingref07_Case.l1]
   rw [if_pos (by omega), if_pos (by omega), rd_L1_at b i hib, if_neg (by omega)]
theorem case_l0 (ha : a.length ≤ 14) (R : Bool) (hk : Ev (fun k => tickingref07_Case.l1 k (a.length : Int) 0 a b c) R) (m : Nat) : ∀ i, i + m = a.length → Ev (fun k => tickingref07_Case.l0 k (a.length : Int) (i : Int) a b c) ((a.drop i).all (inB 1 1000) && R) := by
 induction m with
 | zero =>
  intro i hi
  obtain rfl : i = a.length := by omega
  rw [List.drop_length]
  refine Ev.step (fun k => ?_) hk
  show tickingref07_Case.l0 (k + 1) (a.length : Int) (a.length : Int) a b c = _
  simp only [tickingref07_Case.l0]
  rw [if_neg (by omega)]
 | succ m ih =>
  intro i hi
  have hia : i < a.length := by omega
  have da : a.drop i = a[i] :: a.drop (i + 1) := List.drop_eq_getElem_cons hia
  rw [da, List.all_cons]
  by_cases h : inB 1 1000 a[i] = true
  ·have h' : 1 ≤ a[i] ∧ a[i] ≤ 1000 := by unfold inB at h; simpa using h
   rw [h, Bool.true_and]
   refine Ev.step (fun k => ?_) (ih (i + 1) (by omega))
   show tickingref07_Case.l0 (k + 1) (a.length : Int) (i : Int) a b c = _
   simp only [tickingref07_Case.l0]
   rw [if_pos (by omega), if_pos (by omega), if_pos (by omega), rd_at a i hia, if_neg (by omega), if_neg (by omega), w1 i (by omega)]
  ·have hf : inB 1 1000 a[i] = false := by simpa using h
   have h' : ¬ (1 ≤ a[i] ∧ a[i] ≤ 1000) := by unfold inB at hf; intro hh; simp [hh] at hf
   rw [hf, Bool.false_and, Bool.false_and]
   refine Ev.step (f := fun _ => some _) (fun k => ?_) (Ev.now _)
   simp only [tickingref07_Case.l0]
   rw [if_pos (by omega), if_pos (by omega), if_pos (by omega), rd_at a i hia]
   by_cases h0 : a[i] < 1
   ·rw [if_pos h0]
   ·rw [if_neg h0, if_pos (by omega)]
theorem case_ev (ha : a.length ≤ 14) (hb : b.length ≤ 14) (hc : c.length ≤ 14) : Ev (fun k => tickingref07_Case.f k a b c) (caseB a b c) := by
 have bad : Ev (fun k => tickingref07_Case.j0 k (a.length : Int) true a b c) false := by
  refine Ev.step (f := fun _ => some _) (fun k => ?_) (Ev.now _)
  simp only [tickingref07_Case.j0, if_true]
 unfold tickingref07_Case.f
 by_cases h1 : 1 ≤ a.length
 ·refine Ev.congr (fun k => if_neg (by omega)) ?_
  by_cases h2 : a.length ≤ 10
  ·refine Ev.congr (fun k => if_neg (by omega)) ?_
   by_cases h3 : b.length ≤ 12
   ·refine Ev.congr (fun k => if_neg (by omega)) ?_
    by_cases h4 : c.length = b.length
    ·have e : ((c.length : Int) != (b.length : Int)) = false := by simp [h4]
     rw [e]
     have hl := case_l0 a b c ha _ (case_l1 a b c a.length ha hb h4 b.length 0 (by omega)) a.length 0 (by omega)
     simp only [List.drop_zero] at hl
     have hr : caseB a b c = (a.all (inB 1 1000) && (b.all (rowOkB a.length) && c.all (inB 1 100))) := by
      unfold caseB
      simp only [h1, h2, h3, h4, decide_true, Bool.true_and, beq_self_eq_true]
      cases a.all (inB 1 1000) <;> cases b.all (rowOkB a.length) <;> cases c.all (inB 1 100) <;> rfl
     rw [hr]
     refine Ev.step (fun k => ?_) hl
     show tickingref07_Case.j0 (k + 1) (a.length : Int) false a b c = _
     simp only [tickingref07_Case.j0]; rw [if_neg (by decide)]; rfl
    ·have e : ((c.length : Int) != (b.length : Int)) = true := by simp; omega
     have hcf : caseB a b c = false := by unfold caseB; simp [h4]
     rw [e, hcf]; exact bad
   ·refine Ev.congr (fun k => if_pos (by omega)) ?_
    have hcf : caseB a b c = false := by unfold caseB; simp [h3]
    rw [hcf]; exact bad
  ·refine Ev.congr (fun k => if_pos (by omega)) ?_
   have hcf : caseB a b c = false := by unfold caseB; simp [h2]
   rw [hcf]; exact bad
 ·refine Ev.congr (fun k => if_pos (by omega)) ?_
  have hcf : caseB a b c = false := by unfold caseB; simp [h1]
  rw [hcf]; exact bad
end
end Go.Proofs.YtekmiepdodaidaaDoor.X
end

section
/- Layer 7, plain: TestsChecks. -/
set_option linter.unusedVariables false
namespace Go.Proofs.YtekmiepdodaidaaDoor.X
open Go.RowKit Go.Proofs.YtekmiepdodaidaaDoorW.PrintWords Go.Proofs.YtekmiepdodaidaaDoorW.PrintLast Go.Proofs.YtekmiepdodaidaaDoorW.PrintMore

theorem nodes_f (l : List S57) : tickinglaw07_nodes.f l = some (l.take 1001) := by
 have e : mn (l.length : Int) 1001 = ((min l.length 1001 : Nat) : Int) := by unfold mn; split <;> omega
 unfold tickinglaw07_nodes.f
 rw [e, if_pos (by omega), if_pos (by omega), Int.toNat_natCast]
 have ht : l.take (min l.length 1001) = l.take 1001 := by
  rw [List.take_eq_take_iff]; omega
 rw [ht]
 simp only [Option.bind_some, List.nil_append]
 rw [if_pos (by rw [List.length_take]; simp; omega)]
theorem TestsChecks_ev (a : List Int) (b : List (List Int)) (c : List Int) (l : List S57) (fault : Int) : Ev (fun k => tickinglaw07_TestsChecks.f k a b c l fault) true := by
 have awake : Ev (fun k => (tickinglaw07_awake.f k).bind fun t => some t) true := Ev.bind awake_ev (Ev.now _)
 unfold tickinglaw07_TestsChecks.f
 refine Ev.bind (own_ev a b c) ?_
 dsimp only
 have ha := cut14_len a
 have hb := cutB_len b
 have hcl := cut14_len c
 generalize cut14 a = a at *
 generalize cutB b = b at *
 generalize cut14 c = c at *
 rw [nodes_f]
 simp only [Option.bind_some]
 generalize l.take 1001 = p
 refine Ev.bind (check_ev a b c p) ?_
 refine Ev.bind (find_ev a b c p fault) ?_
 refine Ev.bind (case_ev a b c ha hb hcl) ?_
 unfold checkR findR
 by_cases hc : caseB a b c = true
 ·have hci := case_is hc
  refine Ev.congr (fun k => if_pos hc) ?_
  refine Ev.bind (rcorr_ev hci p) ?_
  simp only [if_pos hc]
  -- the second part
  have part : ∀ (x12 : List Int) (x13 : Int) (x16 : Bool), x16 = (corrR a b c p).2.2 → (x12, x13) = (if caseB a b c = true ∧ 0 ≤ fault ∧ fault < (a.length : Int) then (if (corrR a b c p).2.2 = true then ((wayP b p fault).1, (0 : Int)) else ([], 10)) else ([], 2)) →
    Ev (fun k => tickinglaw07_TestsChecks.j0 k fault p x12 x13 x16 false a b c) true := by
   intro x12 x13 x16 h16 h12
   by_cases hf : 0 ≤ fault ∧ fault < (a.length : Int)
   ·rw [if_pos ⟨hc, hf⟩] at h12
    obtain ⟨f, rfl⟩ : ∃ f : Nat, fault = (f : Int) := ⟨fault.toNat, by omega⟩
    have e1 : Ev (fun k => tickinglaw07_TestsChecks.j1 k (f : Int) p x12 x13 x16 false a b c) true := by
     by_cases hr : (corrR a b c p).2.2 = true
     ·rw [if_pos hr] at h12
      rw [hr] at h16
      subst h16
      obtain ⟨rfl, rfl⟩ := Prod.mk.inj h12
      have hp : planB a.length b.length p = true := by
       unfold corrR at hr
       cases hp : planB a.length b.length p with
       | true => rfl
       | false => rw [hp, Bool.false_and, if_neg Bool.false_ne_true] at hr; cases hr
      refine Ev.step (f := fun k => (tickingref07_Way.f k a b c p (f : Int)).bind _) (fun k => by simp only [tickinglaw07_TestsChecks.j1]; rw [if_neg Bool.false_ne_true, if_pos trivial]) ?_
      refine Ev.bind (rway_ev hci p (plan_is hp) f (by omega)) ?_
      refine Ev.bind (ints_ev _ _ (by have := (way_tests (a := a) (b := b) (plan_is hp) (f : Int)).1; omega)) ?_
      refine Ev.congr (fun k => if_pos (by simp)) ?_
      first | exact awake | (refine Ev.congr (fun k => if_pos trivial) ?_; exact awake) | (refine Ev.congr (fun k => if_pos rfl) ?_; exact awake)
     ·have hr2 : (corrR a b c p).2.2 = false := by simpa using hr
      rw [if_neg hr] at h12
      rw [hr2] at h16
      subst h16
      obtain ⟨rfl, rfl⟩ := Prod.mk.inj h12
      refine Ev.step (f := fun k => (tickinglaw07_awake.f k).bind fun t => some t) (fun k => by simp only [tickinglaw07_TestsChecks.j1]; rw [if_neg Bool.false_ne_true, if_neg Bool.false_ne_true, if_pos (by rfl), if_pos trivial]) ?_
      exact awake
    refine Ev.step (fun k => ?_) e1
    show tickinglaw07_TestsChecks.j0 (k + 1) (f : Int) p x12 x13 x16 false a b c = _
    simp only [tickinglaw07_TestsChecks.j0]
    rw [if_neg Bool.false_ne_true, if_neg (by omega), decide_eq_false (by omega)]
   ·rw [if_neg (fun h => hf h.2)] at h12
    obtain ⟨rfl, rfl⟩ := Prod.mk.inj h12
    have e1 : Ev (fun k => tickinglaw07_TestsChecks.j1 k fault p [] 2 x16 true a b c) true := by
     refine Ev.step (f := fun k => (tickinglaw07_awake.f k).bind fun t => some t) (fun k => by simp only [tickinglaw07_TestsChecks.j1]; rw [if_pos trivial, if_pos (by rfl), if_pos trivial]) ?_
     exact awake
    refine Ev.step (fun k => ?_) e1
    show tickinglaw07_TestsChecks.j0 (k + 1) fault p [] 2 x16 false a b c = _
    simp only [tickinglaw07_TestsChecks.j0]
    rw [if_neg Bool.false_ne_true]
    by_cases h0 : fault < 0
    ·rw [if_pos h0]
    ·rw [if_neg h0, decide_eq_true (by omega)]
  by_cases hr : (corrR a b c p).2.2 = true
  ·refine Ev.congr (fun k => if_pos hr) ?_
   simp only [if_pos hr]
   refine Ev.congr (fun k => if_pos trivial) ?_
   refine Ev.congr (fun k => if_pos trivial) ?_
   have hp := part _ _ (corrR a b c p).2.2 rfl (Prod.eta (if caseB a b c = true ∧ 0 ≤ fault ∧ fault < (a.length : Int) then (if (corrR a b c p).2.2 = true then ((wayP b p fault).1, (0 : Int)) else ([], 10)) else ([], 2)))
   simpa [hc, hr] using hp
  ·refine Ev.congr (fun k => if_neg hr) ?_
   simp only [if_neg hr]
   refine Ev.congr (fun k => if_pos trivial) ?_
   refine Ev.congr (fun k => if_pos trivial) ?_
   refine Ev.congr (fun k => if_pos trivial) ?_
   have hp := part _ _ (corrR a b c p).2.2 rfl (Prod.eta (if caseB a b c = true ∧ 0 ≤ fault ∧ fault < (a.length : Int) then (if (corrR a b c p).2.2 = true then ((wayP b p fault).1, (0 : Int)) else ([], 10)) else ([], 2)))
   simpa [hc, hr] using hp
 ·refine Ev.congr (fun k => if_neg hc) ?_
  rw [if_neg hc, if_neg (fun h => hc h.1)]
  refine Ev.congr (fun k => if_pos rfl) ?_
  refine Ev.congr (fun k => if_pos rfl) ?_
  refine Ev.congr (fun k => if_pos rfl) ?_
  refine Ev.congr (fun k => if_pos rfl) ?_
  refine Ev.congr (fun k => if_pos rfl) ?_
  exact awake
end Go.Proofs.YtekmiepdodaidaaDoor.X
end
