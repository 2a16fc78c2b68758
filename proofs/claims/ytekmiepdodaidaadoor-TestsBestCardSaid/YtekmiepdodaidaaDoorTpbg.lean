/- Texts behind TestsBest, part 33: contracts of the program's functions and the plain words for them. -/
import Derived.Deep.Slices
import Derived.Deep.Strs
import Derived.ProofKit
import Derived.OpenShut
import Derived.Lib.SmallJoins
import Derived.Lib.LaidTab
import Derived.Stop.LaidErr
import Derived.Test.YtekmiepdodaidaaDoorRows
import Derived.LaidMore
import Derived.Stop.Joined
import Derived.LaidHandle
import Derived.ChangeOld
import Derived.Test.YtekmiepdodaidaaDoorTpaa
import Derived.Test.YtekmiepdodaidaaDoorTpar
import Derived.Test.YtekmiepdodaidaaDoorTpau
import Derived.Test.YtekmiepdodaidaaDoorTpav
import Derived.Test.YtekmiepdodaidaaDoorTpaw
import Derived.Test.YtekmiepdodaidaaDoorTpax
import Derived.Test.YtekmiepdodaidaaDoorTpaz
import Derived.Test.YtekmiepdodaidaaDoorTpba
import Derived.Test.YtekmiepdodaidaaDoorTpbb
import Derived.Test.YtekmiepdodaidaaDoorTpbe
section
/- Arguments as they come in, opened kind by kind: what a value's cells read as is a word of the kind. -/
set_option linter.unusedVariables false
set_option linter.unusedSimpArgs false
namespace Go.Proofs.YtekmiepdodaidaaDoor.X
open Go.ChangeShapes Go.WideShapes Go.ChangeAt Go.RowKit Go.Proofs.YtekmiepdodaidaaDoorW.PrintWords
section
variable {H : Type} {enc : TypeId × Value → H} {P : Program} {W : World} {base : Nat} {held : Bool}
/-- Whatever is read of type t is a word of the kind, and it is good. -/
def Opens {α : Type} (enc : TypeId × Value → H) (P : Program) (W : World) (base : Nat) (held : Bool) (d : Kd α) (t : TypeId) (good : α → Prop) : Prop :=
 ∀ fuel cs x, DataW.trod enc P W base (fun _ => true) held fuel t cs = some x → ∃ a : α, d.K W a cs ∧ good a
theorem opens_int {t : TypeId} {k : IntKind} (ht : P.underlying t = some (.int k)) : Opens enc P W base held (Kd.int k) t (fun z => (Lit.int k z).wf = true) := by
 intro fuel cs x h
 obtain ⟨z, e, _, hw⟩ := DataW.trod_int ht h
 exact ⟨z, e, hw⟩
theorem opens_slice {α : Type} {d : Kd α} {t e : TypeId} {good : α → Prop} (ht : P.underlying t = some (.slice e)) (hs : P.cellsOf e = d.sz) (he : Opens enc P W base held d e good) :
  Opens enc P W base held (Kd.slice e d) t (fun l => l.length ≤ maxLen ∧ ∀ x ∈ l, good x) := by
 intro fuel cs x h
 rcases Go.Deep.open_slice ht h with ⟨rfl, _⟩ | ⟨a, len, cap, m, n, D, Pl, rfl, hb, hl, hm, hmm, hxx, hx⟩
 ·exact ⟨[], ⟨none, 0, rfl, Nat.le_refl _, Kd.C_nil _ _⟩, Nat.zero_le _, by simp⟩
 simp only [if_true] at hmm
 subst hmm
 have each : ∀ i, i < len → ∃ y : α, ∃ cs', W.cells? base (a.add (i * d.sz)) d.sz = some cs' ∧ d.K W y cs' ∧ good y := by
  intro i hi
  obtain ⟨cs', h1, h2⟩ := hx i (by omega)
  obtain ⟨y, h3, h4⟩ := he _ _ _ h2
  rw [hs] at h1
  exact ⟨y, cs', h1, h3, h4⟩
 have pick : ∃ l : List α, l.length = len ∧ ∀ i y, l[i]? = some y → ∃ cs', W.cells? base (a.add (i * d.sz)) d.sz = some cs' ∧ d.K W y cs' ∧ good y := by
  clear hl hm hx hxx h
  induction len with
  | zero => exact ⟨[], rfl, fun i y hy => by simp at hy⟩
  | succ len ih =>
   obtain ⟨l, hl, hy⟩ := ih (fun i hi => each i (by omega))
   obtain ⟨y0, hy0⟩ := each len (by omega)
   refine ⟨l ++ [y0], by simp [hl], fun i y hi => ?_⟩
   rcases Nat.lt_trichotomy i l.length with h | h | h
   ·rw [List.getElem?_append_left h] at hi
    exact hy i y hi
   ·rw [List.getElem?_append_right (by omega)] at hi
    have e0 : i - l.length = 0 := by omega
    rw [e0] at hi
    have : y0 = y := by simpa using hi
    subst this
    rw [h, hl]
    exact hy0
   ·rw [List.getElem?_eq_none (by simp; omega)] at hi
    cases hi
 obtain ⟨l, rfl, hy⟩ := pick
 refine ⟨l, ⟨some a, _, rfl, hl, rfl, ?_, fun hn => ⟨a, rfl, fun j p hj => ?_⟩⟩, Nat.le_trans hl hm, fun x hx => ?_⟩
 ·have := Nat.le_trans hl hm
  simpa [maxLen] using this
 ·obtain ⟨cs', h1, h2, _⟩ := hy j p hj
  obtain ⟨h3, h4, h5⟩ := World.cells?_some h1
  refine ⟨cs', h4, h2, fun i u hu => ?_⟩
  have hi : i < d.sz := by
   rcases Nat.lt_or_ge i d.sz with h | h
   ·exact h
   ·rw [List.getElem?_eq_none (by omega)] at hu
    cases hu
  have := h5 i hi
  rw [hu] at this
  rw [← this]
  congr 1
  simp only [Addr.add]
  by_cases h6 : i = 0
  ·subst h6; simp
  ·by_cases h7 : j * d.sz = 0
   ·simp [h6, h7]
   ·simp [h6, h7, Nat.add_assoc]
 ·obtain ⟨j, hj⟩ := List.getElem?_of_mem hx
  obtain ⟨_, _, _, h4⟩ := hy j x hj
  exact h4
theorem opens_arg {α : Type} {d : Kd α} {t : TypeId} {good : α → Prop} {v : Value} {x : DataW H} {p : List MemPlace} (ho : Opens enc P W base held d t good) (h : DataW.Trod enc P W base (fun _ => true) held t v x p) : ∃ a : α, d.K W a v.cells.toList ∧ good a := by
 obtain ⟨fuel, hf⟩ := h
 exact ho _ _ _ hf
/-- An argument that is a slice. -/
theorem open_slice {α : Type} {d : Kd α} {t e : TypeId} {good : α → Prop} {v : Value} {x : DataW H} {p : List MemPlace} (ht : P.underlying t = some (.slice e)) (hs : P.cellsOf e = d.sz) (he : Opens enc P W 0 true d e good)
  (hv : Value.okWide P W .any base t v) (h : DataW.Trod enc P W 0 (fun _ => true) true t v x p) :
  ∃ (a : Option Addr) (l : List α) (cap : Nat), v = .slice a l.length cap ∧ l.length ≤ cap ∧ Kd.C d W a l.length l ∧ l.length ≤ maxLen ∧ ∀ x ∈ l, good x := by
 obtain ⟨a, len, cap, rfl⟩ := okWide_slice ht hv
 obtain ⟨l, ⟨A, c, e1, h1, h2⟩, h3, h4⟩ := opens_arg (opens_slice ht hs he) h
 simp only [Value.cells, List.cons.injEq, Value.slice.injEq, and_true] at e1
 obtain ⟨rfl, rfl, rfl⟩ := e1
 exact ⟨_, l, _, rfl, h1, h2, h3, h4⟩
theorem okWide_struct {r : Reach} {fs : Array Field} {b0 : Nat} {t : TypeId} {v : Value} (ht : P.underlying t = some (.struct fs)) (h : Value.okWide P W r b0 t v) : ∃ cs, v = .agg cs ∧ cs.size = P.cellsOf t := by
 simp only [Value.okWide, ht] at h
 cases v <;> simp_all
/-- An argument that is a struct of three slices. -/
theorem open_three {α β γ : Type} {d0 : Kd α} {d1 : Kd β} {d2 : Kd γ} {t e0 e1 e2 : TypeId} {f0 f1 f2 : Field} {g0 : α → Prop} {g1 : β → Prop} {g2 : γ → Prop} {v : Value} {x : DataW H} {p : List MemPlace}
  (ht : P.underlying t = some (.struct #[f0, f1, f2])) (hc : P.cellsOf t = 3) (o0 : f0.offset = 0) (o1 : f1.offset = 1) (o2 : f2.offset = 2) (c0 : P.cellsOf f0.type = 1) (c1 : P.cellsOf f1.type = 1) (c2 : P.cellsOf f2.type = 1)
  (t0 : P.underlying f0.type = some (.slice e0)) (t1 : P.underlying f1.type = some (.slice e1)) (t2 : P.underlying f2.type = some (.slice e2)) (s0 : P.cellsOf e0 = d0.sz) (s1 : P.cellsOf e1 = d1.sz) (s2 : P.cellsOf e2 = d2.sz)
  (h0 : Opens enc P W 0 true d0 e0 g0) (h1 : Opens enc P W 0 true d1 e1 g1) (h2 : Opens enc P W 0 true d2 e2 g2)
  (hv : Value.okWide P W .any base t v) (h : DataW.Trod enc P W 0 (fun _ => true) true t v x p) :
  ∃ (a0 : Option Addr) (l0 : List α) (k0 : Nat) (a1 : Option Addr) (l1 : List β) (k1 : Nat) (a2 : Option Addr) (l2 : List γ) (k2 : Nat), v = .agg #[.slice a0 l0.length k0, .slice a1 l1.length k1, .slice a2 l2.length k2] ∧
   (l0.length ≤ k0 ∧ Kd.C d0 W a0 l0.length l0 ∧ l0.length ≤ maxLen ∧ ∀ x ∈ l0, g0 x) ∧ (l1.length ≤ k1 ∧ Kd.C d1 W a1 l1.length l1 ∧ l1.length ≤ maxLen ∧ ∀ x ∈ l1, g1 x) ∧ (l2.length ≤ k2 ∧ Kd.C d2 W a2 l2.length l2 ∧ l2.length ≤ maxLen ∧ ∀ x ∈ l2, g2 x) := by
 obtain ⟨cs, rfl, hsz⟩ := okWide_struct ht hv
 obtain ⟨fuel, hf⟩ := h
 obtain ⟨y0, y1, y2, n, _, hl, r0, r1, r2⟩ := Go.Deep.trod_struct3 ht hf
 rw [hc] at hl hsz
 obtain ⟨ls⟩ := cs
 match ls, hsz with
 | [u0, u1, u2], _ =>
  rw [o0, c0] at r0
  rw [o1, c1] at r1
  rw [o2, c2] at r2
  simp only [Value.cells, List.drop_zero, List.take_succ_cons, List.take_zero, List.drop_succ_cons] at r0 r1 r2
  obtain ⟨l0, ⟨a0, k0, q0, m0, n0⟩, w0⟩ := opens_slice t0 s0 h0 _ _ _ r0
  obtain ⟨l1, ⟨a1, k1, q1, m1, n1⟩, w1⟩ := opens_slice t1 s1 h1 _ _ _ r1
  obtain ⟨l2, ⟨a2, k2, q2, m2, n2⟩, w2⟩ := opens_slice t2 s2 h2 _ _ _ r2
  simp only [List.cons.injEq, and_true] at q0 q1 q2
  subst q0 q1 q2
  exact ⟨a0, l0, k0, a1, l1, k1, a2, l2, k2, rfl, ⟨m0, n0, w0⟩, ⟨m1, n1, w1⟩, ⟨m2, n2, w2⟩⟩
end
end Go.Proofs.YtekmiepdodaidaaDoor.X
end

section
/- What every row of this seat uses: what its condition gives, the door's heap, the listed tables, the arguments' kinds. -/
namespace Go.Proofs.YtekmiepdodaidaaDoor
open Go.ChangeShapes Go.WideShapes Go.ChangeAt Go.RowKit Go.Proofs.YtekmiepdodaidaaDoorW.PrintWords
theorem own : ownKnob Tryd.prog.godebug = none := by kernel_rfl
theorem laidOut : laidOutB Tryd.prog = true := by kernel_rfl
def laidTabs : List (String × DataW Unit) := [("math/bits.deBruijn32tab", Rows.laid_math_bits_deBruijn32tab), ("math/bits.deBruijn64tab", Rows.laid_math_bits_deBruijn64tab)]
theorem g64 : Tryd.prog.globalNamed "math/bits.deBruijn64tab" = some 1 := by kernel_rfl
theorem tab64 : Rows.laid_math_bits_deBruijn64tab (H := Unit) = Lib.tabData .u8 (Lib.deBruijn64tab.map fun n : Nat => (n : Int)) := rfl
set_option maxRecDepth 100000 in
theorem door_met (os : Os) (args : Array Value) : laidMetH Tryd.prog laidTabs ((World.doorLaid Tryd.prog 19 os).forCall (fun _ _ => 0) ⟨#[], args, []⟩).memory :=
 laidMetH_of_parts3 (fuel := 8) (laidMet_of_run' 8 (by kernel_rfl) (by kernel_rfl)) (by kernel_rfl) (by kernel_rfl)
set_option maxRecDepth 100000 in
theorem tab_of_laid {W : World} (h : laidMetH Tryd.prog laidTabs W) : X.Tab W := by
 rw [MakeChecks.laidMetH_plain _ _ _ (by kernel_rfl)] at h
 have h1 := laidMet.tail h
 rw [tab64] at h1
 have e : ∃ t n e, (Tryd.prog.globals[1]?).map (·.type) = some t ∧ Tryd.prog.underlying t = some (.array n e) ∧ Tryd.prog.underlying e = some (.int .u8) ∧ Tryd.prog.cellsOf e = 1 ∧ Tryd.prog.cellsOf t = n :=
  ⟨112, 64, 5, by kernel_rfl, by kernel_rfl, by kernel_rfl, by kernel_rfl, by kernel_rfl⟩
 obtain ⟨t, n, e, e1, e2, e3, e4, e5⟩ := e
 have h2 := Lib.tabIs_of_head g64 e1 e2 e3 e4 e5 h1
 have h3 : TabAt 1 Lib.deBruijn64tab W := by
  intro j hj
  have h4 := h2.cell g64 j (by simpa using hj)
  rw [h4]
  simp [List.getD, List.getElem?_map, List.getElem?_eq_getElem hj]
 refine ⟨h3, ?_⟩
 have h4 := h3 0 (by decide)
 unfold World.cell? at h4
 rcases Nat.lt_or_ge 1 W.heap.size with h | h
 ·exact h
 ·simp [Array.getElem?_eq_none h] at h4
section
variable {H : Type} {enc : TypeId × Value → H} {W : World} {base : Nat} {held : Bool}
theorem opens3 : X.Opens enc Tryd.prog W base held (Kd.int .i64) 3 (fun z => (Lit.int .i64 z).wf = true) := X.opens_int Tryd.underlying3
set_option maxRecDepth 100000 in
theorem opens22 : X.Opens enc Tryd.prog W base held (Kd.slice 3 (Kd.int .i64)) 22 (fun l => l.length ≤ maxLen ∧ ∀ z ∈ l, (Lit.int .i64 z).wf = true) := X.opens_slice Tryd.underlying22 (by kernel_rfl) opens3
set_option maxRecDepth 100000 in
theorem open_case {v : Value} {x : DataW H} {p : List MemPlace} (hv : Value.okWide Tryd.prog W .any base 25 v) (h : DataW.Trod enc Tryd.prog W 0 (fun _ => true) true 25 v x p) :
  ∃ (a0 : Option Addr) (l0 : List Int) (k0 : Nat) (a1 : Option Addr) (l1 : List (List Int)) (k1 : Nat) (a2 : Option Addr) (l2 : List Int) (k2 : Nat), v = .agg #[.slice a0 l0.length k0, .slice a1 l1.length k1, .slice a2 l2.length k2] ∧
   (l0.length ≤ k0 ∧ Kd.C (Kd.int .i64) W a0 l0.length l0 ∧ l0.length ≤ maxLen ∧ ∀ z ∈ l0, (Lit.int .i64 z).wf = true) ∧
   (l1.length ≤ k1 ∧ Kd.C (Kd.slice 3 (Kd.int .i64)) W a1 l1.length l1 ∧ l1.length ≤ maxLen ∧ ∀ l ∈ l1, l.length ≤ maxLen ∧ ∀ z ∈ l, (Lit.int .i64 z).wf = true) ∧
   (l2.length ≤ k2 ∧ Kd.C (Kd.int .i64) W a2 l2.length l2 ∧ l2.length ≤ maxLen ∧ ∀ z ∈ l2, (Lit.int .i64 z).wf = true) :=
 X.open_three Tryd.underlying25 (by kernel_rfl) rfl rfl rfl (by kernel_rfl) (by kernel_rfl) (by kernel_rfl) Tryd.underlying22 Tryd.underlying23 Tryd.underlying22 (by kernel_rfl) (by kernel_rfl) (by kernel_rfl) opens3 opens22 opens3 hv h
end
end Go.Proofs.YtekmiepdodaidaaDoor
end

section
/- Layer 7, plain: own, the reference's Case, ints, awake. -/
set_option linter.unusedVariables false
namespace Go.Proofs.YtekmiepdodaidaaDoor.X
open Go.RowKit Go.Proofs.YtekmiepdodaidaaDoorW.PrintWords Go.Proofs.YtekmiepdodaidaaDoorW.PrintLast Go.Proofs.YtekmiepdodaidaaDoorW.PrintMore

theorem w1 (i : Nat) (h : i < 1000000) : wrap64 ((i : Int) + 1) = ((i + 1 : Nat) : Int) := by unfold wrap64; omega
theorem rd_at (l : List Int) (i : Nat) (h : i < l.length) : rd l (i : Int) = l[i] := by simp [rd, List.getD_eq_getElem?_getD, List.getElem?_eq_getElem h]
theorem ints_l0 (x y : List Int) (hl : x.length = y.length) (hx : x.length < 100000) (m : Nat) : ∀ i, i + m = x.length → Ev (fun k => tickinglaw07_ints.l0 k x y (i : Int)) (decide (x.drop i = y.drop i)) := by
 induction m with
 | zero =>
  intro i hi
  obtain rfl : i = x.length := by omega
  refine Ev.step (f := fun _ => some _) (fun k => ?_) (Ev.now _)
  simp only [tickinglaw07_ints.l0]
  rw [if_neg (by omega), List.drop_length, hl, List.drop_length]; simp
 | succ m ih =>
  intro i hi
  have hix : i < x.length := by omega
  have hiy : i < y.length := by omega
  have dx : x.drop i = x[i] :: x.drop (i + 1) := List.drop_eq_getElem_cons hix
  have dy : y.drop i = y[i] :: y.drop (i + 1) := List.drop_eq_getElem_cons hiy
  by_cases he : x[i] = y[i]
  ·have : decide (x.drop i = y.drop i) = decide (x.drop (i + 1) = y.drop (i + 1)) := by rw [dx, dy, he]; exact decide_eq_decide.2 ⟨fun h => (List.cons.inj h).2, fun h => by rw [h]⟩
   rw [this]
   refine Ev.step (fun k => ?_) (ih (i + 1) (by omega))
   show tickinglaw07_ints.l0 (k + 1) x y (i : Int) = _
   simp only [tickinglaw07_ints.l0]
   rw [if_pos (by omega), if_pos (by omega), if_pos (by omega), rd_at x i hix, rd_at y i hiy, if_pos he, w1 i (by omega)]
  ·have : decide (x.drop i = y.drop i) = false := by rw [dx, dy]; exact decide_eq_false (fun h => he (List.cons.inj h).1)
   rw [this]
   refine Ev.step (f := fun _ => some _) (fun k => ?_) (Ev.now _)
   simp only [tickinglaw07_ints.l0]
   rw [if_pos (by omega), if_pos (by omega), if_pos (by omega), rd_at x i hix, rd_at y i hiy, if_neg he]
theorem ints_ev (x y : List Int) (hx : x.length < 100000) : Ev (fun k => tickinglaw07_ints.f k x y) (decide (x = y)) := by
 unfold tickinglaw07_ints.f
 by_cases h : x.length = y.length
 ·refine Ev.congr (fun k => if_pos (by omega)) ?_
  have := ints_l0 x y h hx x.length 0 (by omega)
  simpa using this
 ·refine Ev.congr (f := fun _ => some _) (fun k => if_neg (by omega)) ?_
  have : decide (x = y) = false := by simp; intro e; exact h (by rw [e])
  rw [this]; exact Ev.now _
def aw : List Int := [1, 1, 2]
def at_ : List (List Int) := [[1, 0, 0], [0, 1, 0]]
def ac : List Int := [1, 1]
set_option maxRecDepth 100000 in
theorem aw_best : (optRes (mfMean aw at_ ac) aw at_ ac).2 = (7, 0) := by decide +kernel
set_option maxRecDepth 100000 in
theorem aw_worst : (optRes (mfWorst aw at_ ac) aw at_ ac).2 = (2, 0) := by decide +kernel
set_option maxRecDepth 100000 in
theorem aw_cover : covRes aw at_ ac = ([0, 1], 0) := by decide +kernel
theorem alike_ev (a : List Int) (b : List (List Int)) (c : List Int) : Ev (fun k => tests_Alike.f k a b c) (if caseB a b c = true then (alikeL (onesOf b) a.length, 0) else ([], 2)) := by
 unfold tests_Alike.f
 refine Ev.bind (newTrial_all a b c) ?_
 unfold trialR
 by_cases h : caseB a b c = true
 ·rw [if_pos h, if_pos h]
  have h10 : a.length ≤ 10 := by unfold caseB at h; simp at h; omega
  simp only [if_true]
  unfold tests_trial_alike.f
  rw [if_pos h10]
  exact Ev.now _
 ·rw [if_neg h, if_neg h]
  exact Ev.now _
set_option maxRecDepth 100000 in
theorem aw_alike : (if caseB [1, 1] [] [] = true then (alikeL (onesOf []) [(1 : Int), 1].length, (0 : Int)) else ([], 2)) = ([(⟨0, 1⟩ : S53)], (0 : Int)) := by kernel_rfl
theorem j0_ev (v : Bool) : Ev (fun k => tickinglaw07_awake.j0 k v) (!v) := by
 refine Ev.step (f := fun _ => some _) (fun k => ?_) (Ev.now _)
 cases v <;> rfl
/-- The program is awake. -/
theorem awake_ev : Ev (fun k => tickinglaw07_awake.f k) true := by
 unfold tickinglaw07_awake.f
 simp only [Option.bind_some]
 obtain ⟨p, hp⟩ : ∃ p, tests_Best.f [1, 1, 2] [[1, 0, 0], [0, 1, 0]] [1, 1] = some (p, 7, 0) := ⟨_, by unfold tests_Best.f; rw [← aw_best]; rfl⟩
 obtain ⟨q, hq⟩ : ∃ q, tests_Worst.f [1, 1, 2] [[1, 0, 0], [0, 1, 0]] [1, 1] = some (q, 2, 0) := ⟨_, by unfold tests_Worst.f; rw [← aw_worst]; rfl⟩
 have hc : tests_Cover.f [1, 1, 2] [[1, 0, 0], [0, 1, 0]] [1, 1] = some ([0, 1], 0) := by unfold tests_Cover.f; rw [← aw_cover]; rfl
 rw [hp, hq, hc]
 simp only [Option.bind_some]
 have ha := alike_ev [1, 1] [] []
 rw [aw_alike] at ha
 refine Ev.bind ha ?_
 have hi := ints_ev [0, 1] [0, 1] (by decide)
 have e : (decide ([(0 : Int), 1] = [0, 1])) = true := by decide
 rw [e] at hi
 simp only [List.length_cons, List.length_nil]
 refine Ev.congr (f := fun k => (tickinglaw07_ints.f k [0, 1] [0, 1]).bind fun t => tickinglaw07_awake.j0 k (!t)) (fun k => ?_) ?_
 ·rfl
 ·exact Ev.bind hi (j0_ev false)
end Go.Proofs.YtekmiepdodaidaaDoor.X
end

section
/- Layer 7, plain: weights and parts of sets; the measures. -/
set_option linter.unusedVariables false
namespace Go.Proofs.YtekmiepdodaidaaDoor.X
open Go.RowKit Go.Proofs.YtekmiepdodaidaaDoorW.PrintWords Go.Proofs.YtekmiepdodaidaaDoorW.PrintLast Go.Proofs.YtekmiepdodaidaaDoorW.PrintMore

/-- The weight of a set. -/
def wOf : List Int → Nat → Int
 | [], _ => 0
 | x :: xs, s => (if s % 2 = 1 then x else 0) + wOf xs (s / 2)
theorem wOf_bounds : ∀ (l : List Int) (s : Nat), (∀ x ∈ l, 1 ≤ x ∧ x ≤ 1000) → 0 ≤ wOf l s ∧ wOf l s ≤ 1000 * (l.length : Int)
 | [], _, _ => ⟨Int.le_refl _, by simp [wOf]⟩
 | x :: xs, s, h => by
  have ih := wOf_bounds xs (s / 2) (fun y hy => h y (by simp [hy]))
  have hx := h x (by simp)
  simp only [wOf, List.length_cons]
  split <;> omega
theorem shr_nat (v i : Nat) (hi : i ≤ 10) : shr .i64 (v : Int) (i : Int) = ((v / 2 ^ i : Nat) : Int) := by
 unfold shr
 have hm : min (i : Int).toNat IntKind.i64.bits = i := by simp [IntKind.bits]; omega
 rw [hm]
 simp
theorem odd_nat (q : Nat) : (Int.tmod (q : Int) 2 = 1) ↔ q % 2 = 1 := by
 rw [Int.tmod_eq_emod_of_nonneg (Int.natCast_nonneg _)]
 omega
theorem shl_nat (i : Nat) (hi : i ≤ 10) : shl .i64 1 (i : Int) = ((2 ^ i : Nat) : Int) := by
 have hp : 2 ^ i ≤ 2 ^ 10 := Nat.pow_le_pow_right (by omega) (by omega)
 unfold shl
 have hm : min (i : Int).toNat IntKind.i64.bits = i := by simp [IntKind.bits]; omega
 have hz : (1 * 2 ^ i : Int) = ((2 ^ i : Nat) : Int) := by simp
 have hq : 0 < 2 ^ i := Nat.two_pow_pos i
 rw [hm, hz, IntKind.wrap_i64]
 generalize 2 ^ i = q at *
 clear hm hz
 omega
theorem div_next (s i : Nat) : s / 2 ^ (i + 1) = s / 2 ^ i / 2 := by rw [Nat.pow_succ, Nat.div_div_eq_div_mul]
theorem wOf_step (a : List Int) (i : Nat) (hi : i < a.length) (s : Nat) : wOf (a.drop i) (s / 2 ^ i) = (if s / 2 ^ i % 2 = 1 then a[i] else 0) + wOf (a.drop (i + 1)) (s / 2 ^ (i + 1)) := by
 rw [List.drop_eq_getElem_cons hi, div_next]; rfl
section
variable {a : List Int} {b : List (List Int)} {c : List Int}
/-- The reference's weight. -/
theorem rweight_l0 (ha : a.length ≤ 10) (hw : ∀ x ∈ a, 1 ≤ x ∧ x ≤ 1000) (s : Nat) (m : Nat) : ∀ (i : Nat) (acc : Int), i + m = a.length → 0 ≤ acc → acc ≤ 1000 * i → Ev (fun k => tickingref07_weight.l0 k (s : Int) acc (i : Int) a b c) (acc + wOf (a.drop i) (s / 2 ^ i)) := by
 induction m with
 | zero =>
  intro i acc hi h0 h1
  obtain rfl : i = a.length := by omega
  refine Ev.step (f := fun _ => some _) (fun k => ?_) (Ev.now _)
  simp only [tickingref07_weight.l0]
  rw [if_neg (by omega), List.drop_length]
  simp [wOf]
 | succ m ih =>
  intro i acc hi h0 h1
  have hia : i < a.length := by omega
  have hx := hw a[i] (List.getElem_mem hia)
  rw [wOf_step a i hia]
  by_cases ho : s / 2 ^ i % 2 = 1
  ·have := ih (i + 1) (acc + a[i]) (by omega) (by omega) (by omega)
   rw [if_pos ho, ← Int.add_assoc]
   refine Ev.step (fun k => ?_) this
   show tickingref07_weight.l0 (k + 1) (s : Int) acc (i : Int) a b c = _
   simp only [tickingref07_weight.l0]
   rw [if_pos (by omega), if_pos (by omega), shr_nat s i (by omega), if_pos ((odd_nat _).2 ho), rd_at a i hia, w1 i (by omega)]
   congr 1
   unfold wrap64; omega
  ·have := ih (i + 1) acc (by omega) (by omega) (by omega)
   rw [if_neg ho, Int.zero_add]
   refine Ev.step (fun k => ?_) this
   show tickingref07_weight.l0 (k + 1) (s : Int) acc (i : Int) a b c = _
   simp only [tickingref07_weight.l0]
   rw [if_pos (by omega), if_pos (by omega), shr_nat s i (by omega), if_neg (fun h => ho ((odd_nat _).1 h)), w1 i (by omega)]
theorem rweight_ev (ha : a.length ≤ 10) (hw : ∀ x ∈ a, 1 ≤ x ∧ x ≤ 1000) (s : Nat) : Ev (fun k => tickingref07_weight.f k a b c (s : Int)) (wOf a s) := by
 have := rweight_l0 (b := b) (c := c) ha hw s a.length 0 0 (by omega) (by omega) (by omega)
 simpa [tickingref07_weight.f] using this
/-- The program's weight. -/
theorem tweight_l0 (ha : a.length ≤ 10) (hw : ∀ x ∈ a, 1 ≤ x ∧ x ≤ 1000) (s : Nat) (hs : s < 1024) (m : Nat) : ∀ (i k : Nat) (acc : Int), i + m = a.length → m < k → 0 ≤ acc → acc ≤ 1000 * i → tests_trial_weight.l0 k (s : Int) acc a (a.length : Int) (i : Int) = some (acc + wOf (a.drop i) (s / 2 ^ i)) := by
 induction m with
 | zero =>
  intro i k acc hi hk h0 h1
  obtain rfl : i = a.length := by omega
  obtain ⟨k, rfl⟩ : ∃ k', k = k' + 1 := ⟨k - 1, by omega⟩
  simp only [tests_trial_weight.l0]
  rw [if_neg (by omega), List.drop_length]
  simp [wOf]
 | succ m ih =>
  intro i k acc hi hk h0 h1
  obtain ⟨k, rfl⟩ : ∃ k', k = k' + 1 := ⟨k - 1, by omega⟩
  have hia : i < a.length := by omega
  have hx := hw a[i] (List.getElem_mem hia)
  have hb : (Go.bits .and .u64 (shr .u64 (s : Int) (i : Int)) 1 == 1) = decide (s / 2 ^ i % 2 = 1) := by
   have := hasB_nat s i hs
   rw [Nat.testBit_eq_decide_div_mod_eq] at this
   exact this
  simp only [tests_trial_weight.l0]
  rw [if_pos (by omega), if_pos (by omega), if_pos (by omega)]
  unfold tests_faults_has.f
  rw [if_pos (by omega), hb, w1 i (by omega), wOf_step a i hia, rd_at a i hia]
  simp only [Option.bind_some]
  by_cases ho : s / 2 ^ i % 2 = 1
  ·rw [if_pos (by simpa using ho), if_pos ho, show wrap64 (acc + a[i]) = acc + a[i] from by unfold wrap64; omega]
   rw [ih (i + 1) k (acc + a[i]) (by omega) (by omega) (by omega) (by omega), Int.add_assoc]
  ·rw [if_neg (by simpa using ho), if_neg ho, ih (i + 1) k acc (by omega) (by omega) (by omega) (by omega), Int.zero_add]
theorem tweight_n (ha : a.length ≤ 10) (hw : ∀ x ∈ a, 1 ≤ x ∧ x ≤ 1000) (s : Nat) (hs : s < 1024) (k : Nat) (hk : a.length < k) (ones : List Int) (al : Int) : tests_trial_weight.f k a b c ones al (s : Int) = some (wOf a s) := by
 have := tweight_l0 ha hw s hs a.length 0 k 0 (by omega) hk (by omega) (by omega)
 simpa [tests_trial_weight.f] using this
/-- A cost. -/
theorem cost_at (h : CaseIs a b c) (t : Nat) (ht : t < b.length) : 1 ≤ rd c (t : Int) ∧ rd c (t : Int) ≤ 100 := by
 have hc := h.cb
 rw [rd_at c t (by omega)]
 exact h.wc _ (List.getElem_mem (by omega))
theorem mul_box (x y : Int) (hx : 1 ≤ x) (hx2 : x ≤ 100) (hy : 0 ≤ y) (hy2 : y ≤ 10000) : 0 ≤ x * y ∧ x * y ≤ 1000000 := by
 refine ⟨Int.mul_nonneg (by omega) hy, ?_⟩
 have := Int.mul_le_mul hx2 hy2 hy (by omega)
 omega
theorem mfMean_eq (h : CaseIs a b c) (t : Nat) (ht : t < b.length) (s : Nat) (hs : s < 1024) (z o : Int) (hz : 0 ≤ z ∧ z ≤ 1099511627776) (ho : 0 ≤ o ∧ o ≤ 1099511627776) : mfMean a b c (t : Int) (s : Int) z o = rd c (t : Int) * wOf a s + z + o := by
 have hc := h.cb
 have hk := cost_at h t ht
 have hw := wOf_bounds a s h.wa
 have ha := h.a10
 have hm := mul_box _ _ hk.1 hk.2 hw.1 (by omega)
 unfold mfMean tests_mean.f
 rw [if_pos (by omega), if_pos (by omega), tweight_n h.a10 h.wa s hs 12 (by omega)]
 simp only [Option.bind_some, Option.getD_some]
 unfold wrap64; omega
theorem mfWorst_eq (h : CaseIs a b c) (t : Nat) (ht : t < b.length) (s : Int) (z o : Int) (hz : 0 ≤ z ∧ z ≤ 1099511627776) (ho : 0 ≤ o ∧ o ≤ 1099511627776) : mfWorst a b c (t : Int) s z o = rd c (t : Int) + mx z o := by
 have hc := h.cb
 have hk := cost_at h t ht
 unfold mfWorst tests_worst.f
 rw [if_pos (by omega), if_pos (by omega)]
 simp only [Option.getD_some]
 unfold wrap64 mx
 split <;> omega
end
theorem and_half (x y : Nat) : x &&& y = (if x % 2 = 1 ∧ y % 2 = 1 then 1 else 0) + 2 * (x / 2 &&& y / 2) := by
 have e1 : (x &&& y) / 2 = x / 2 &&& y / 2 := Nat.and_div_two
 have m1 : (x &&& y) % 2 = 1 ↔ x % 2 = 1 ∧ y % 2 = 1 := Nat.and_mod_two_eq_one
 by_cases h : x % 2 = 1 ∧ y % 2 = 1
 ·rw [if_pos h]; have := m1.2 h; omega
 ·rw [if_neg h]; have : ¬ (x &&& y) % 2 = 1 := fun e => h (m1.1 e); omega
theorem rowV_drop (l : List Int) (hl : ∀ x ∈ l, x = 0 ∨ x = 1) (i : Nat) (hi : i < l.length) : rowV (l.drop i) % 2 = l[i].toNat ∧ rowV (l.drop i) / 2 = rowV (l.drop (i + 1)) := by
 have hx := hl _ (List.getElem_mem hi)
 rw [List.drop_eq_getElem_cons hi]
 simp only [rowV]
 omega
section
variable {a : List Int} {b : List (List Int)} {c : List Int}
theorem rones_l0 (n : Nat) (ha : a.length = n) (hn : n ≤ 10) (s t : Nat) (ht : t < b.length) (hl : b[t].length = n) (hb : ∀ x ∈ b[t], x = 0 ∨ x = 1) (m : Nat) : ∀ (i : Nat) (acc : Nat), i + m = n → acc < 2 ^ i →
  Ev (fun k => tickingref07_ones.l0 k (s : Int) (t : Int) (acc : Int) (i : Int) a b c) ((acc + 2 ^ i * (s / 2 ^ i &&& rowV (b[t].drop i)) : Nat) : Int) := by
 induction m with
 | zero =>
  intro i acc hi h0
  obtain rfl : i = n := by omega
  refine Ev.step (f := fun _ => some _) (fun k => ?_) (Ev.now _)
  simp only [tickingref07_ones.l0]
  rw [if_neg (by omega), ← hl, List.drop_length]
  simp [rowV]
 | succ m ih =>
  intro i acc hi h0
  have hib : i < b[t].length := by omega
  have hp : 2 ^ i ≤ 2 ^ 9 := Nat.pow_le_pow_right (by omega) (by omega)
  have hp1 : 2 ^ (i + 1) = 2 * 2 ^ i := by rw [Nat.pow_succ]; omega
  obtain ⟨e1, e2⟩ := rowV_drop b[t] hb i hib
  have hx := hb _ (List.getElem_mem hib)
  have hand := and_half (s / 2 ^ i) (rowV (b[t].drop i))
  rw [e1, e2, ← div_next] at hand
  rw [hand]
  by_cases ho : s / 2 ^ i % 2 = 1
  ·by_cases hr : b[t][i] = 1
   ·have := ih (i + 1) (acc + 2 ^ i) (by omega) (by omega)
    rw [if_pos ⟨ho, by omega⟩, show acc + 2 ^ i * (1 + 2 * (s / 2 ^ (i + 1) &&& rowV (b[t].drop (i + 1)))) = acc + 2 ^ i + 2 ^ (i + 1) * (s / 2 ^ (i + 1) &&& rowV (b[t].drop (i + 1))) from by rw [Nat.mul_add, Nat.mul_one, ← Nat.mul_assoc, Nat.mul_comm (2 ^ i) 2, ← hp1]; omega]
    refine Ev.step (fun k => ?_) this
    show tickingref07_ones.l0 (k + 1) (s : Int) (t : Int) (acc : Int) (i : Int) a b c = _
    simp only [tickingref07_ones.l0]
    rw [if_pos (by omega), if_pos (by omega), shr_nat s i (by omega), if_pos ((odd_nat _).2 ho), if_pos (by omega), if_pos (by omega), rd_L1_at b t ht, if_pos (by omega), rd_at _ i hib, if_pos hr, w1 i (by omega), shl_nat i (by omega)]
    congr 1
    unfold wrap64; omega
   ·have := ih (i + 1) acc (by omega) (by omega)
    rw [if_neg (by omega), show acc + 2 ^ i * (0 + 2 * (s / 2 ^ (i + 1) &&& rowV (b[t].drop (i + 1)))) = acc + 2 ^ (i + 1) * (s / 2 ^ (i + 1) &&& rowV (b[t].drop (i + 1))) from by rw [Nat.zero_add, ← Nat.mul_assoc, Nat.mul_comm (2 ^ i) 2, ← hp1]]
    refine Ev.step (fun k => ?_) this
    show tickingref07_ones.l0 (k + 1) (s : Int) (t : Int) (acc : Int) (i : Int) a b c = _
    simp only [tickingref07_ones.l0]
    rw [if_pos (by omega), if_pos (by omega), shr_nat s i (by omega), if_pos ((odd_nat _).2 ho), if_pos (by omega), if_pos (by omega), rd_L1_at b t ht, if_pos (by omega), rd_at _ i hib, if_neg hr, w1 i (by omega)]
  ·have := ih (i + 1) acc (by omega) (by omega)
   rw [if_neg (by omega), show acc + 2 ^ i * (0 + 2 * (s / 2 ^ (i + 1) &&& rowV (b[t].drop (i + 1)))) = acc + 2 ^ (i + 1) * (s / 2 ^ (i + 1) &&& rowV (b[t].drop (i + 1))) from by rw [Nat.zero_add, ← Nat.mul_assoc, Nat.mul_comm (2 ^ i) 2, ← hp1]]
   refine Ev.step (fun k => ?_) this
   show tickingref07_ones.l0 (k + 1) (s : Int) (t : Int) (acc : Int) (i : Int) a b c = _
   simp only [tickingref07_ones.l0]
   rw [if_pos (by omega), if_pos (by omega), shr_nat s i (by omega), if_neg (fun h => ho ((odd_nat _).1 h)), w1 i (by omega)]
/-- A row of a case. -/
theorem row_at (h : CaseIs a b c) (t : Nat) (ht : t < b.length) : b[t].length = a.length ∧ ∀ x ∈ b[t], x = 0 ∨ x = 1 := by
 have := List.all_eq_true.1 h.rows b[t] (List.getElem_mem ht)
 unfold rowOkB at this
 simp only [Bool.and_eq_true, beq_iff_eq] at this
 refine ⟨this.1, fun x hx => ?_⟩
 have := (all_inB _ _ _).1 this.2 x hx
 omega
theorem rones_ev (h : CaseIs a b c) (s t : Nat) (ht : t < b.length) : Ev (fun k => tickingref07_ones.f k a b c (s : Int) (t : Int)) ((s &&& rowV b[t] : Nat) : Int) := by
 obtain ⟨r1, r2⟩ := row_at h t ht
 have := rones_l0 (c := c) a.length rfl h.a10 s t ht r1 r2 a.length 0 0 (by omega) (by decide)
 simpa [tickingref07_ones.f] using this
end
end Go.Proofs.YtekmiepdodaidaaDoor.X
end

section
/- Layer 7, plain: the reference's Alike and Best. -/
set_option linter.unusedVariables false
namespace Go.Proofs.YtekmiepdodaidaaDoor.X
open Go.RowKit Go.Proofs.YtekmiepdodaidaaDoorW.PrintWords Go.Proofs.YtekmiepdodaidaaDoorW.PrintLast Go.Proofs.YtekmiepdodaidaaDoorW.PrintMore

theorem onesOf_at (b : List (List Int)) (t : Nat) (ht : t < b.length) : (onesOf b).drop t = (rowV b[t] : Int) :: (onesOf b).drop (t + 1) := by
 have hl : t < (onesOf b).length := by unfold onesOf; rw [List.length_map]; exact ht
 rw [List.drop_eq_getElem_cons hl]
 simp [onesOf]
section
variable {a : List Int} {b : List (List Int)} {c : List Int}
theorem row_lt (h : CaseIs a b c) (t : Nat) (ht : t < b.length) : rowV b[t] < 1024 := by
 obtain ⟨h1, h2⟩ := row_at h t ht
 have := rowV_lt b[t] h2
 rw [h1] at this
 exact Nat.lt_of_lt_of_le this (Nat.le_trans (Nat.pow_le_pow_right (by omega) h.a10) (by decide))
/-- Two faults are alike in a test exactly if their results are equal. -/
theorem same_row (h : CaseIs a b c) (t : Nat) (ht : t < b.length) (x y : Nat) (hx : x < a.length) (hy : y < a.length) : sameB (x : Int) (y : Int) (rowV b[t] : Int) = (rd b[t] (x : Int) == rd b[t] (y : Int)) := by
 obtain ⟨h1, h2⟩ := row_at h t ht
 have hl := row_lt h t ht
 have ha := h.a10
 unfold sameB
 rw [hasB_nat _ _ hl, hasB_nat _ _ hl, rowV_bit _ h2, rowV_bit _ h2]
 have ex : b[t].getD x 0 = b[t][x] := by simp [List.getD_eq_getElem?_getD, List.getElem?_eq_getElem (show x < b[t].length by omega)]
 have ey : b[t].getD y 0 = b[t][y] := by simp [List.getD_eq_getElem?_getD, List.getElem?_eq_getElem (show y < b[t].length by omega)]
 rw [ex, ey, rd_at _ x (by omega), rd_at _ y (by omega)]
 have := h2 b[t][x] (List.getElem_mem _)
 have := h2 b[t][y] (List.getElem_mem _)
 rcases h2 b[t][x] (List.getElem_mem _) with e1 | e1 <;> rcases h2 b[t][y] (List.getElem_mem _) with e2 | e2 <;> rw [e1, e2] <;> decide
theorem ralike_l1 (h : CaseIs a b c) (x : Nat) (hx : x < a.length) (m : Nat) : ∀ (y : Nat) (acc : List S53) (R : List S53), y + m = a.length → acc.length + m < 1000 →
  Ev (fun k => tickingref07_Alike.l0 k (acc ++ pairsIn (onesOf b) x y m) ((x + 1 : Nat) : Int) a b c) R → Ev (fun k => tickingref07_Alike.l1 k acc (x : Int) (y : Int) a b c) R := by
 have ha := h.a10
 induction m with
 | zero =>
  intro y acc R hm hl hR
  refine Ev.step (fun k => ?_) hR
  simp only [tickingref07_Alike.l1]
  rw [if_neg (by omega), w1 x (by omega)]
  simp [pairsIn]
 | succ m ih =>
  intro y acc R hm hl hR
  have key : Ev (fun k => tickingref07_Alike.l2 k acc (x : Int) (y : Int) true 0 a b c) R := by
   by_cases hs : (onesOf b).all (sameB (x : Int) (y : Int)) = true
   ·have e1 := ih (y + 1) (acc ++ [⟨(x : Int), (y : Int)⟩]) R (by omega) (by simp; omega) (by simpa [pairsIn, hs, List.append_assoc] using hR)
    have : ∀ (m t : Nat), t + m = b.length → Ev (fun k => tickingref07_Alike.l2 k acc (x : Int) (y : Int) true (t : Int) a b c) R := by
     intro m
     induction m with
     | zero =>
      intro t ht
      refine Ev.step (fun k => ?_) e1
      simp only [tickingref07_Alike.l2]
      rw [if_neg (by omega), if_pos trivial, if_pos (by omega), w1 y (by omega)]
     | succ m ih2 =>
      intro t ht
      have htl : t < b.length := by omega
      obtain ⟨r1, r2⟩ := row_at h t htl
      have hb12 := h.b12
      have hsm : (rd b[t] (x : Int) == rd b[t] (y : Int)) = true := by
       rw [← same_row h t htl x y (by omega) (by omega)]
       exact List.all_eq_true.1 hs _ (by unfold onesOf; exact List.mem_map.2 ⟨b[t], List.getElem_mem htl, rfl⟩)
      refine Ev.step (fun k => ?_) (ih2 (t + 1) (by omega))
      show tickingref07_Alike.l2 (k + 1) acc (x : Int) (y : Int) true (t : Int) a b c = _
      simp only [tickingref07_Alike.l2]
      rw [if_pos (by omega), if_pos trivial, if_pos (by omega), if_pos (by omega), rd_L1_at b t htl, if_pos (by omega), if_pos (by omega), if_pos (by omega), w1 t (by omega), hsm]
    exact this b.length 0 (by omega)
   ·have e2 := ih (y + 1) acc R (by omega) (by omega) (by simpa [pairsIn, hs] using hR)
    have : ∀ (m t : Nat) (s : Bool), t + m = b.length → (s = false ∨ ((onesOf b).drop t).all (sameB (x : Int) (y : Int)) = false) → Ev (fun k => tickingref07_Alike.l2 k acc (x : Int) (y : Int) s (t : Int) a b c) R := by
     intro m
     induction m with
     | zero =>
      intro t s ht hns
      have hsf : s = false := by
       rcases hns with h | h
       ·exact h
       ·have e : (onesOf b).drop t = [] := by rw [List.drop_eq_nil_iff, onesOf_len]; omega
        rw [e] at h; simp at h
      subst hsf
      refine Ev.step (fun k => ?_) e2
      simp only [tickingref07_Alike.l2]
      rw [if_neg (by omega), if_neg (by decide), w1 y (by omega)]
     | succ m ih2 =>
      intro t s ht hns
      have htl : t < b.length := by omega
      obtain ⟨r1, r2⟩ := row_at h t htl
      have hb12 := h.b12
      cases s
      ·refine Ev.step (fun k => ?_) (ih2 (t + 1) false (by omega) (.inl rfl))
       show tickingref07_Alike.l2 (k + 1) acc (x : Int) (y : Int) false (t : Int) a b c = _
       simp only [tickingref07_Alike.l2]
       rw [if_pos (by omega), if_neg (by decide), w1 t (by omega)]
      ·have hns' : (rd b[t] (x : Int) == rd b[t] (y : Int)) = false ∨ ((onesOf b).drop (t + 1)).all (sameB (x : Int) (y : Int)) = false := by
        rcases hns with h' | h'
        ·cases h'
        ·rw [onesOf_at b t htl, List.all_cons, same_row h t htl x y (by omega) (by omega)] at h'
         exact Bool.and_eq_false_iff.1 h'
       refine Ev.step (fun k => ?_) (ih2 (t + 1) _ (by omega) hns')
       show tickingref07_Alike.l2 (k + 1) acc (x : Int) (y : Int) true (t : Int) a b c = _
       simp only [tickingref07_Alike.l2]
       rw [if_pos (by omega), if_pos trivial, if_pos (by omega), if_pos (by omega), rd_L1_at b t htl, if_pos (by omega), if_pos (by omega), if_pos (by omega), w1 t (by omega)]
    exact this b.length 0 true (by omega) (.inr (by simpa using hs))
  refine Ev.step (fun k => ?_) key
  show tickingref07_Alike.l1 (k + 1) acc (x : Int) (y : Int) a b c = _
  simp only [tickingref07_Alike.l1]
  rw [if_pos (by omega)]
theorem ralike_l0 (h : CaseIs a b c) (m : Nat) : ∀ (x : Nat) (acc : List S53), x + m = a.length → acc.length + m * a.length < 900 → Ev (fun k => tickingref07_Alike.l0 k acc (x : Int) a b c) (acc ++ pairsOut (onesOf b) a.length x m) := by
 have ha := h.a10
 induction m with
 | zero =>
  intro x acc hm hl
  refine Ev.step (f := fun _ => some _) (fun k => ?_) (Ev.now _)
  simp only [tickingref07_Alike.l0]
  rw [if_neg (by omega)]
  simp [pairsOut]
 | succ m ih =>
  intro x acc hm hl
  have hpl := pairsIn_len (onesOf b) x (a.length - (x + 1)) (x + 1)
  have e := ih (x + 1) (acc ++ pairsIn (onesOf b) x (x + 1) (a.length - (x + 1))) (by omega) (by rw [List.length_append]; rw [Nat.add_mul] at hl; omega)
  have e2 := ralike_l1 h x (by omega) (a.length - (x + 1)) (x + 1) acc _ (by omega) (by omega) e
  rw [List.append_assoc] at e2
  refine Ev.step (fun k => ?_) e2
  show tickingref07_Alike.l0 (k + 1) acc (x : Int) a b c = _
  simp only [tickingref07_Alike.l0]
  rw [if_pos (by omega), w1 x (by omega)]
theorem ralike_ev (h : CaseIs a b c) : Ev (fun k => tickingref07_Alike.f k a b c) (alikeL (onesOf b) a.length) := by
 have ha := h.a10
 have hm : a.length * a.length ≤ 10 * 10 := Nat.mul_le_mul ha ha
 have := ralike_l0 h a.length 0 [] (by omega) (by simp only [List.length_nil]; omega)
 simpa [tickingref07_Alike.f, alikeL] using this
end
end Go.Proofs.YtekmiepdodaidaaDoor.X
end

section
/- Layer 7, plain: the reference's Best. -/
set_option linter.unusedVariables false
namespace Go.Proofs.YtekmiepdodaidaaDoor.X
open Go.RowKit Go.Proofs.YtekmiepdodaidaaDoorW.PrintWords Go.Proofs.YtekmiepdodaidaaDoorW.PrintLast Go.Proofs.YtekmiepdodaidaaDoorW.PrintMore

/-- A measure that keeps within bounds. -/
def MfOk (n : Nat) (mf : Int → Int → Int → Int → Int) : Prop := ∀ (t : Nat) (s : Nat) (z o : Int), t < n → s < 1024 → 0 ≤ z → z ≤ 1099511627776 → 0 ≤ o → o ≤ 1099511627776 → 0 ≤ mf (t : Int) (s : Int) z o ∧ mf (t : Int) (s : Int) z o ≤ 1000000 + z + o
theorem pickB_val {c : Int → Int → Int} {s : Int} {P : Int → Prop} : ∀ (l : List Int) (k : Nat) (b : Int × Int), P b.2 → (∀ j x, l[j]? = some x → splitB s x = true → P (c ((k + j : Nat) : Int) x)) → P (pickB c s k l b).2
 | [], k, b, hb, _ => hb
 | x :: xs, k, b, hb, h => by
  unfold pickB
  have h0 := h 0 x rfl
  have ht : ∀ b', P b'.2 → P (pickB c s ((k : Int) + 1) xs b').2 := fun b' hb' => by
   have := pickB_val (c := c) (s := s) (P := P) xs (k + 1) b' hb' (fun j y hj hs => by
    have := h (j + 1) y (by simpa using hj) hs
    rwa [show k + 1 + j = k + (j + 1) by omega])
   simpa using this
  refine ht _ ?_
  by_cases hx : splitB s x = true
  ·rw [if_pos hx]
   split
   ·simpa using h0 hx
   ·exact hb
  ·rw [if_neg hx]; exact hb
section
variable {mf : Int → Int → Int → Int → Int} {ones : List Int}
theorem cst_bounds (ho : ∀ x ∈ ones, SetB x) (hm : MfOk ones.length mf) : ∀ (d : Nat) (s : Int), SetB s → 1 ≤ s → s.toNat ≤ d → 0 ≤ cstB (chs mf ones) s ∧ cstB (chs mf ones) s ≤ 1000000 * (s - 1) := by
 intro d
 induction d with
 | zero => intro s hs h1 h2; omega
 | succ d ih =>
  intro s hs h1 h2
  unfold cstB
  by_cases hp : pcount s = 1
  ·rw [if_pos hp]; omega
  ·rw [if_neg hp, chs_eq mf ones ho s hs]
   unfold chsStep
   refine pickB_val (P := fun z => 0 ≤ z ∧ z ≤ 1000000 * (s - 1)) ones 0 (-1, 0) ?_ ?_
   ·show (0 : Int) ≤ 0 ∧ (0 : Int) ≤ 1000000 * (s - 1)
    omega
   ·intro j x hj hsp
    have hx : x ∈ ones := List.mem_of_getElem? hj
    obtain ⟨⟨a1, a2⟩, b1, b2⟩ := split_parts hs (ho x hx) hsp
    have hadd := bSub_add hs (ho x hx)
    have hs' := hs
    unfold SetB at hs'
    have e1 := ih (bSub s x) (by unfold SetB; omega) b1 (by omega)
    have e2 := ih (bAnd s x) (by unfold SetB; omega) a1 (by omega)
    have hjl : j < ones.length := by
     rcases Nat.lt_or_ge j ones.length with h | h
     ·exact h
     ·rw [List.getElem?_eq_none h] at hj; cases hj
    have := hm j s.toNat (cstB (chs mf ones) (bSub s x)) (cstB (chs mf ones) (bAnd s x)) hjl (by omega) e1.1 (by omega) e2.1 (by omega)
    rw [show ((s.toNat : Nat) : Int) = s from by omega] at this
    show 0 ≤ mf ((0 + j : Nat) : Int) s _ _ ∧ _
    rw [Nat.zero_add]
    omega
theorem cst_box (ho : ∀ x ∈ ones, SetB x) (hm : MfOk ones.length mf) (s : Int) (hs : SetB s) (h1 : 1 ≤ s) : 0 ≤ cstB (chs mf ones) s ∧ cstB (chs mf ones) s ≤ 1024000000 := by
 have := cst_bounds ho hm s.toNat s hs h1 (Nat.le_refl _)
 unfold SetB at hs
 omega
end
section
variable {a : List Int} {b : List (List Int)} {c : List Int}
theorem mean_ok (h : CaseIs a b c) : MfOk (onesOf b).length (mfMean a b c) := by
 intro t s z o ht hs hz hz2 ho ho2
 rw [onesOf_len] at ht
 rw [mfMean_eq h t ht s hs z o ⟨hz, hz2⟩ ⟨ho, ho2⟩]
 have hk := cost_at h t ht
 have hw := wOf_bounds a s h.wa
 have ha := h.a10
 have := mul_box _ _ hk.1 hk.2 hw.1 (by omega)
 omega
theorem worst_ok (h : CaseIs a b c) : MfOk (onesOf b).length (mfWorst a b c) := by
 intro t s z o ht hs hz hz2 ho ho2
 rw [onesOf_len] at ht
 rw [mfWorst_eq h t ht s z o ⟨hz, hz2⟩ ⟨ho, ho2⟩]
 have hk := cost_at h t ht
 unfold mx
 split <;> omega
def far : Int := 1099511627776
def Rel (b : Int × Int) (cur : Int) : Prop := (b.1 < 0 ∧ cur = far) ∨ (0 ≤ b.1 ∧ cur = b.2)
theorem rel_step {bb : Int × Int} {cur co : Int} {k : Nat} (h : Rel bb cur) (hco : co < far) : Rel (if bb.1 < 0 ∨ co < bb.2 then ((k : Int), co) else bb) (mn cur co) := by
 unfold Rel mn at *
 rcases h with ⟨h1, h2⟩ | ⟨h1, h2⟩
 ·rw [if_pos (.inl h1), if_pos (by omega)]
  exact .inr ⟨by simp, rfl⟩
 ·by_cases hc : co < bb.2
  ·rw [if_pos (.inr hc), if_pos (by omega)]
   exact .inr ⟨by simp, rfl⟩
  ·rw [if_neg (by omega), if_neg (by omega)]
   exact .inr ⟨h1, h2⟩
theorem split_nat {s x : Nat} (hs : s < 1024) (hx : x < 1024) : bAnd (s : Int) (x : Int) = ((s &&& x : Nat) : Int) ∧ bSub (s : Int) (x : Int) = (s : Int) - ((s &&& x : Nat) : Int) ∧ splitB (s : Int) (x : Int) = (!(((s &&& x : Nat) : Int) == 0) && !((s : Int) - ((s &&& x : Nat) : Int) == 0)) := by
 have h1 : SetB (s : Int) := by unfold SetB; omega
 have h2 : SetB (x : Int) := by unfold SetB; omega
 have e1 : bAnd (s : Int) (x : Int) = ((s &&& x : Nat) : Int) := by
  rw [bAnd_nat h1 h2]; simp
 have e2 : bSub (s : Int) (x : Int) = (s : Int) - ((s &&& x : Nat) : Int) := by
  have := bSub_add h1 h2
  omega
 refine ⟨e1, e2, ?_⟩
 unfold splitB
 rw [e1, e2]
theorem rd_set_ne (l : List Int) (s u : Nat) (x : Int) (h : u ≠ s) : rd (l.set s x) (u : Int) = rd l (u : Int) := by
 simp [rd, List.getD_eq_getElem?_getD, Ne.symm h]
theorem rd_set_eq (l : List Int) (s : Nat) (x : Int) (h : s < l.length) : rd (l.set s x) (s : Int) = x := by
 simp [rd, List.getD_eq_getElem?_getD, h]
theorem vm_arith (p x y : Int) (h0 : 0 ≤ p ∧ p ≤ 1000000) (h1 : 0 ≤ x ∧ x ≤ 1024000000) (h2 : 0 ≤ y ∧ y ≤ 1024000000) : wrap64 (wrap64 (wrap64 p + x) + y) = p + y + x ∧ p + y + x < far := by
 unfold wrap64 far; omega
theorem vw_arith (k x y : Int) (h0 : 1 ≤ k ∧ k ≤ 100) (h1 : 0 ≤ x ∧ x ≤ 1024000000) (h2 : 0 ≤ y ∧ y ≤ 1024000000) : wrap64 (k + mx x y) = k + mx y x ∧ k + mx y x < far := by
 unfold wrap64 far mx
 split <;> split <;> omega
theorem and_pred : ∀ s, s < 1024 → s ≠ 0 → Go.bits .and .i64 (s : Nat) ((s - 1 : Nat) : Int) = ((s &&& (s - 1) : Nat) : Int) := by decide +kernel
theorem wr_sub (s o : Nat) (h : s ≤ 1024) (ho : o ≤ s) : wrap64 ((s : Int) - (o : Int)) = ((s - o : Nat) : Int) := by unfold wrap64; omega
def cN (mf : Int → Int → Int → Int → Int) (b : List (List Int)) (s : Int) : Int := cstB (chs mf (onesOf b)) s
def cF (mf : Int → Int → Int → Int → Int) (b : List (List Int)) (s : Int) (k x : Int) : Int := mf k s (cN mf b (bSub s x)) (cN mf b (bAnd s x))
set_option maxHeartbeats 1000000 in
theorem rbest_l1 (h : CaseIs a b c) (N s : Nat) (hN : N ≤ 1024) (h1 : 1 ≤ s) (hs : s < N) (R : Int × Int) (m : Nat) : ∀ (t : Nat) (M W : List Int) (bm bw : Int × Int), t + m = b.length → M.length = N → W.length = N →
  (∀ u : Nat, 1 ≤ u → u < s → rd M (u : Int) = cN (mfMean a b c) b u) → (∀ u : Nat, 1 ≤ u → u < s → rd W (u : Int) = cN (mfWorst a b c) b u) → Rel bm (rd M (s : Int)) → Rel bw (rd W (s : Int)) →
  (∀ M' W' : List Int, M'.length = N → W'.length = N → (∀ u : Nat, u ≠ s → rd M' (u : Int) = rd M (u : Int)) → (∀ u : Nat, u ≠ s → rd W' (u : Int) = rd W (u : Int)) →
   Rel (pickB (cF (mfMean a b c) b s) s t ((onesOf b).drop t) bm) (rd M' (s : Int)) → Rel (pickB (cF (mfWorst a b c) b s) s t ((onesOf b).drop t) bw) (rd W' (s : Int)) →
   Ev (fun k => tickingref07_Best.l0 k (N : Int) M' W' ((s + 1 : Nat) : Int) a b c) R) →
  Ev (fun k => tickingref07_Best.l1 k (N : Int) M W (s : Int) (t : Int) a b c) R := by
 have ha := h.a10
 have hb12 := h.b12
 have ho := onesOf_set h.a10 h.rows
 induction m with
 | zero =>
  intro t M W bm bw hm hM hW hcm hcw rm rw_ hk
  have e : (onesOf b).drop t = [] := by rw [List.drop_eq_nil_iff, onesOf_len]; omega
  rw [e] at hk
  refine Ev.step (fun k => ?_) (hk M W hM hW (fun _ _ => rfl) (fun _ _ => rfl) rm rw_)
  simp only [tickingref07_Best.l1]
  rw [if_neg (by omega), w1 s (by omega)]
 | succ m ih =>
  intro t M W bm bw hm hM hW hcm hcw rm rw_ hk
  have ht : t < b.length := by omega
  have hrow := row_lt h t ht
  have hcb := h.cb
  obtain ⟨e1, e2, e3⟩ := split_nat (s := s) (x := rowV b[t]) (by omega) hrow
  have hand : s &&& rowV b[t] ≤ s := Nat.and_le_left
  rw [onesOf_at b t ht] at hk
  simp only [pickB, e3] at hk
  have hones := rones_ev h s t ht
  rcases Nat.eq_zero_or_pos (s &&& rowV b[t]) with z | z
  ·-- no fault with the result 1
   have hsp : (!(((s &&& rowV b[t] : Nat) : Int) == 0) && !((s : Int) - ((s &&& rowV b[t] : Nat) : Int) == 0)) = false := by rw [z]; rfl
   rw [hsp] at hk
   refine Ev.step (f := fun k => (tickingref07_ones.f k a b c (s : Int) (t : Int)).bind _) (fun k => by simp only [tickingref07_Best.l1]; rw [if_pos (by omega)]) ?_
   refine Ev.bind hones ?_
   refine Ev.congr (fun k => if_pos (by omega)) ?_
   rw [w1 t (by omega)]
   exact ih (t + 1) M W bm bw (by omega) hM hW hcm hcw rm rw_ (by simpa using hk)
  rcases Nat.lt_or_ge (s &&& rowV b[t]) s with y | y
  ·-- the test divides the set
   have hsp : (!(((s &&& rowV b[t] : Nat) : Int) == 0) && !((s : Int) - ((s &&& rowV b[t] : Nat) : Int) == 0)) = true := by
    simp only [Bool.and_eq_true, Bool.not_eq_true', beq_eq_false_iff_ne]
    omega
   rw [hsp] at hk
   generalize hone : s &&& rowV b[t] = one at *
   have hw1 := wr_sub s one (by omega) (by omega)
   have e2' : bSub (s : Int) (rowV b[t] : Int) = ((s - one : Nat) : Int) := by rw [e2]; omega
   have q1 := hcm one z y
   have q2 := hcm (s - one) (by omega) (by omega)
   have q3 := hcw one z y
   have q4 := hcw (s - one) (by omega) (by omega)
   have B1 : 0 ≤ cN (mfMean a b c) b (one : Int) ∧ cN (mfMean a b c) b (one : Int) ≤ 1024000000 := cst_box ho (mean_ok h) (one : Int) (by unfold SetB; omega) (by omega)
   have B2 : 0 ≤ cN (mfMean a b c) b ((s - one : Nat) : Int) ∧ cN (mfMean a b c) b ((s - one : Nat) : Int) ≤ 1024000000 := cst_box ho (mean_ok h) ((s - one : Nat) : Int) (by unfold SetB; omega) (by omega)
   have B3 : 0 ≤ cN (mfWorst a b c) b (one : Int) ∧ cN (mfWorst a b c) b (one : Int) ≤ 1024000000 := cst_box ho (worst_ok h) (one : Int) (by unfold SetB; omega) (by omega)
   have B4 : 0 ≤ cN (mfWorst a b c) b ((s - one : Nat) : Int) ∧ cN (mfWorst a b c) b ((s - one : Nat) : Int) ≤ 1024000000 := cst_box ho (worst_ok h) ((s - one : Nat) : Int) (by unfold SetB; omega) (by omega)
   have hk1 := cost_at h t ht
   have hwt := wOf_bounds a s h.wa
   have hmul := mul_box _ _ hk1.1 hk1.2 hwt.1 (by omega)
   have cm : cF (mfMean a b c) b s (t : Int) (rowV b[t] : Int) = rd c (t : Int) * wOf a s + cN (mfMean a b c) b ((s - one : Nat) : Int) + cN (mfMean a b c) b (one : Int) := by
    unfold cF
    rw [e1, e2']
    exact mfMean_eq h t ht s (Nat.lt_of_lt_of_le hs hN) _ _ ⟨B2.1, Int.le_trans B2.2 (by decide)⟩ ⟨B1.1, Int.le_trans B1.2 (by decide)⟩
   have cw : cF (mfWorst a b c) b s (t : Int) (rowV b[t] : Int) = rd c (t : Int) + mx (cN (mfWorst a b c) b ((s - one : Nat) : Int)) (cN (mfWorst a b c) b (one : Int)) := by
    unfold cF
    rw [e1, e2']
    exact mfWorst_eq h t ht s _ _ ⟨B4.1, Int.le_trans B4.2 (by decide)⟩ ⟨B3.1, Int.le_trans B3.2 (by decide)⟩
   obtain ⟨vm0, lm0⟩ := vm_arith _ _ _ hmul B1 B2
   obtain ⟨vw0, lw0⟩ := vw_arith _ _ _ hk1 B3 B4
   rw [← cm] at vm0 lm0
   rw [← cw] at vw0 lw0
   rw [← q1, ← q2] at vm0
   rw [← q3, ← q4] at vw0
   have lm := lm0
   have lw := lw0
   have vm := vm0
   have vw := vw0
   clear B1 B2 B3 B4 hmul hwt cm cw vm0 vw0 lm0 lw0 q1 q2 q3 q4 hk1
   refine Ev.step (f := fun k => (tickingref07_ones.f k a b c (s : Int) (t : Int)).bind _) (fun k => by simp only [tickingref07_Best.l1]; rw [if_pos (by omega)]) ?_
   refine Ev.bind hones ?_
   refine Ev.congr (fun k => if_neg (by omega)) ?_
   rw [hw1]
   refine Ev.congr (fun k => if_neg (by omega)) ?_
   refine Ev.congr (fun k => if_pos (by omega)) ?_
   refine Ev.congr (fun k => if_pos (by omega)) ?_
   refine Ev.congr (fun k => if_pos (by omega)) ?_
   refine Ev.congr (fun k => if_pos (by omega)) ?_
   refine Ev.bind (rweight_ev h.a10 h.wa s) ?_
   refine Ev.congr (fun k => if_pos (by omega)) ?_
   refine Ev.congr (fun k => if_pos (by omega)) ?_
   refine Ev.congr (fun k => if_pos (by omega)) ?_
   refine Ev.congr (fun k => if_pos (by omega)) ?_
   refine Ev.congr (fun k => if_pos (by omega)) ?_
   refine Ev.congr (fun k => if_pos (by omega)) ?_
   refine Ev.congr (fun k => if_pos (by omega)) ?_
   rw [vm, vw, w1 t (by omega), Int.toNat_natCast]
   clear hones e1 e2 e2' e3 hsp hw1 vm vw
   refine ih (t + 1) _ _ (if bm.1 < 0 ∨ cF (mfMean a b c) b s (t : Int) (rowV b[t] : Int) < bm.2 then ((t : Int), cF (mfMean a b c) b s (t : Int) (rowV b[t] : Int)) else bm) (if bw.1 < 0 ∨ cF (mfWorst a b c) b s (t : Int) (rowV b[t] : Int) < bw.2 then ((t : Int), cF (mfWorst a b c) b s (t : Int) (rowV b[t] : Int)) else bw) (by omega) (by rw [List.length_set]; exact hM) (by rw [List.length_set]; exact hW) (fun u hu hu2 => by rw [rd_set_ne _ _ _ _ (by omega)]; exact hcm u hu hu2) (fun u hu hu2 => by rw [rd_set_ne _ _ _ _ (by omega)]; exact hcw u hu hu2) ?_ ?_ ?_
   ·rw [rd_set_eq _ _ _ (by omega)]; exact rel_step rm lm
   ·rw [rd_set_eq _ _ _ (by omega)]; exact rel_step rw_ lw
   ·intro M' W' hM' hW' hu hu' hrm hrw
    refine hk M' W' hM' hW' (fun u hne => by rw [hu u hne, rd_set_ne _ _ _ _ hne]) (fun u hne => by rw [hu' u hne, rd_set_ne _ _ _ _ hne]) ?_ ?_
    ·simpa using hrm
    ·simpa using hrw
  ·-- all faults have the result 1
   have hes : s &&& rowV b[t] = s := by omega
   have hsp : (!(((s &&& rowV b[t] : Nat) : Int) == 0) && !((s : Int) - ((s &&& rowV b[t] : Nat) : Int) == 0)) = false := by rw [hes]; simp
   rw [hsp] at hk
   refine Ev.step (f := fun k => (tickingref07_ones.f k a b c (s : Int) (t : Int)).bind _) (fun k => by simp only [tickingref07_Best.l1]; rw [if_pos (by omega)]) ?_
   refine Ev.bind hones ?_
   refine Ev.congr (fun k => if_neg (by omega)) ?_
   refine Ev.congr (fun k => if_pos (by rw [hes]; unfold wrap64; omega)) ?_
   rw [w1 t (by omega)]
   exact ih (t + 1) M W bm bw (by omega) hM hW hcm hcw rm rw_ (by simpa using hk)
theorem one_and : ∀ v, v < 1024 → v ≠ 0 → (cntB v = 1 ↔ v &&& (v - 1) = 0) := by decide +kernel
theorem rel_chs (h : CaseIs a b c) (hal : alikeL (onesOf b) a.length = []) {mf : Int → Int → Int → Int → Int} {s : Nat} (h1 : 1 ≤ s) (hs : s < 2 ^ a.length) (hp : pcount (s : Int) ≠ 1) {cur : Int}
  (hr : Rel (pickB (cF mf b s) s 0 (onesOf b) (-1, 0)) cur) : cur = cN mf b s := by
 have ho := onesOf_set h.a10 h.rows
 have hp10 : 2 ^ a.length ≤ 2 ^ 10 := Nat.pow_le_pow_right (by omega) h.a10
 have hsb : SetB (s : Int) := by unfold SetB; omega
 have e : pickB (cF mf b s) s 0 (onesOf b) (-1, 0) = chs mf (onesOf b) s := (chs_eq mf (onesOf b) ho s hsb).symm
 have := (chs_test mf (onesOf b) ho s hsb (some_split h.a10 ho hal s hsb (by omega) (by omega) hp)).1
 rw [e] at hr
 unfold cN cstB
 rw [if_neg hp]
 rcases hr with ⟨h1, _⟩ | ⟨_, h2⟩
 ·omega
 ·exact h2
theorem rbest_l0 (h : CaseIs a b c) (hal : alikeL (onesOf b) a.length = []) (m : Nat) : ∀ (s : Nat) (M W : List Int), s + m = 2 ^ a.length → 1 ≤ s → M.length = 2 ^ a.length → W.length = 2 ^ a.length →
  (∀ u : Nat, 1 ≤ u → u < s → rd M (u : Int) = cN (mfMean a b c) b u) → (∀ u : Nat, 1 ≤ u → u < s → rd W (u : Int) = cN (mfWorst a b c) b u) → (∀ u : Nat, s ≤ u → rd M (u : Int) = 0 ∧ rd W (u : Int) = 0) →
  Ev (fun k => tickingref07_Best.l0 k ((2 ^ a.length : Nat) : Int) M W (s : Int) a b c) (cN (mfMean a b c) b (allOf a), cN (mfWorst a b c) b (allOf a)) := by
 have ha := h.a10
 have hp10 : 2 ^ a.length ≤ 2 ^ 10 := Nat.pow_le_pow_right (by omega) h.a10
 have hp1 : 2 ^ 1 ≤ 2 ^ a.length := Nat.pow_le_pow_right (by omega) h.a1
 have hall : allOf a = ((2 ^ a.length - 1 : Nat) : Int) := by unfold allOf; omega
 generalize hN : 2 ^ a.length = N at *
 induction m with
 | zero =>
  intro s M W hm h1 hM hW hcm hcw hz
  obtain rfl : s = N := by omega
  refine Ev.step (f := fun _ => some _) (fun k => ?_) (Ev.now _)
  simp only [tickingref07_Best.l0]
  rw [if_neg (by omega), show wrap64 ((s : Int) - 1) = ((s - 1 : Nat) : Int) from by unfold wrap64; omega, if_pos (by omega), if_pos (by omega), if_pos (by omega), hcm (s - 1) (by omega) (by omega), hcw (s - 1) (by omega) (by omega), hall]
 | succ m ih =>
  intro s M W hm h1 hM hW hcm hcw hz
  have hw : wrap64 ((s : Int) - 1) = ((s - 1 : Nat) : Int) := wr_sub s 1 (by omega) h1
  have hand := and_pred s (by omega) (by omega)
  have hpc := pcount_nat s (by omega)
  have hone : pcount (s : Int) = 1 ↔ s &&& (s - 1) = 0 := by rw [hpc, ← one_and s (by omega) (by omega)]; exact ⟨fun e => by exact_mod_cast e, fun e => by exact_mod_cast e⟩
  clear hpc
  by_cases hp : pcount (s : Int) = 1
  ·have hz0 : s &&& (s - 1) = 0 := hone.1 hp
   have hc0 : ∀ mf, cN mf b (s : Int) = 0 := fun mf => by unfold cN cstB; rw [if_pos hp]
   refine Ev.step (fun k => ?_) (ih (s + 1) M W (by omega) (by omega) hM hW (fun u hu hu2 => ?_) (fun u hu hu2 => ?_) (fun u hu => hz u (by omega)))
   ·show tickingref07_Best.l0 (k + 1) (N : Int) M W (s : Int) a b c = _
    simp only [tickingref07_Best.l0]
    rw [if_pos (by omega), hw, hand, hz0, if_pos (by rfl), w1 s (by omega)]
   ·rcases Nat.lt_or_ge u s with hlt | hge
    ·exact hcm u hu hlt
    ·obtain rfl : u = s := by omega
     rw [(hz u (Nat.le_refl _)).1, hc0]
   ·rcases Nat.lt_or_ge u s with hlt | hge
    ·exact hcw u hu hlt
    ·obtain rfl : u = s := by omega
     rw [(hz u (Nat.le_refl _)).2, hc0]
  ·have hz0 : ¬ (((s &&& (s - 1) : Nat) : Int) = 0) := fun e => hp (hone.2 (by exact_mod_cast e))
   have key : Ev (fun k => tickingref07_Best.l1 k (N : Int) (M.set s 1099511627776) (W.set s 1099511627776) (s : Int) 0 a b c) (cN (mfMean a b c) b (allOf a), cN (mfWorst a b c) b (allOf a)) := by
    have := rbest_l1 h N s hp10 h1 (by omega) (cN (mfMean a b c) b (allOf a), cN (mfWorst a b c) b (allOf a)) b.length 0 (M.set s 1099511627776) (W.set s 1099511627776) (-1, 0) (-1, 0) (by omega) (by rw [List.length_set]; exact hM) (by rw [List.length_set]; exact hW)
     (fun u hu hu2 => by rw [rd_set_ne _ _ _ _ (by omega)]; exact hcm u hu hu2) (fun u hu hu2 => by rw [rd_set_ne _ _ _ _ (by omega)]; exact hcw u hu hu2)
     (by rw [rd_set_eq _ _ _ (by omega)]; exact .inl ⟨by decide, rfl⟩) (by rw [rd_set_eq _ _ _ (by omega)]; exact .inl ⟨by decide, rfl⟩)
     (fun M' W' hM' hW' hu hu' hrm hrw => by
      rw [List.drop_zero] at hrm hrw
      have v1 := rel_chs h hal h1 (by omega) hp hrm
      have v2 := rel_chs h hal h1 (by omega) hp hrw
      refine ih (s + 1) M' W' (by omega) (by omega) hM' hW' (fun u hu1 hu2 => ?_) (fun u hu1 hu2 => ?_) (fun u hu1 => ?_)
      ·rcases Nat.lt_or_ge u s with hlt | hge
       ·rw [hu u (by omega), rd_set_ne _ _ _ _ (by omega)]; exact hcm u hu1 hlt
       ·obtain rfl : u = s := by omega
        exact v1
      ·rcases Nat.lt_or_ge u s with hlt | hge
       ·rw [hu' u (by omega), rd_set_ne _ _ _ _ (by omega)]; exact hcw u hu1 hlt
       ·obtain rfl : u = s := by omega
        exact v2
      ·rw [hu u (by omega), hu' u (by omega), rd_set_ne _ _ _ _ (by omega), rd_set_ne _ _ _ _ (by omega)]
       exact hz u (by omega))
    exact this
   refine Ev.step (fun k => ?_) key
   show tickingref07_Best.l0 (k + 1) (N : Int) M W (s : Int) a b c = _
   simp only [tickingref07_Best.l0]
   rw [if_pos (by omega), hw, hand, if_neg hz0, if_pos (by omega), if_pos (by omega), if_pos (by omega), Int.toNat_natCast]
theorem rbest_ev (h : CaseIs a b c) (hal : alikeL (onesOf b) a.length = []) : Ev (fun k => tickingref07_Best.f k a b c) (cN (mfMean a b c) b (allOf a), cN (mfWorst a b c) b (allOf a)) := by
 have ha := h.a10
 have hp10 : 2 ^ a.length ≤ 2 ^ 10 := Nat.pow_le_pow_right (by omega) h.a10
 have hq : 2 ^ 1 ≤ 2 ^ a.length := Nat.pow_le_pow_right (by omega) h.a1
 have hsh : shl .i64 1 (a.length : Int) = ((2 ^ a.length : Nat) : Int) := shl_nat a.length h.a10
 have hz : ∀ u : Nat, rd (List.replicate (2 ^ a.length) (0 : Int)) (u : Int) = 0 := fun u => by
  simp only [rd, Int.toNat_natCast, List.getD_eq_getElem?_getD, List.getElem?_replicate]
  split <;> rfl
 have := rbest_l0 h hal (2 ^ a.length - 1) 1 (List.replicate (2 ^ a.length) 0) (List.replicate (2 ^ a.length) 0) (by omega) (Nat.le_refl _) (List.length_replicate ..) (List.length_replicate ..) (fun u h1 h2 => by omega) (fun u h1 h2 => by omega) (fun u _ => ⟨hz u, hz u⟩)
 refine Ev.congr (fun k => ?_) this
 unfold tickingref07_Best.f
 rw [hsh, if_pos (by omega), if_pos (by omega), Int.toNat_natCast]
 rfl
end
end Go.Proofs.YtekmiepdodaidaaDoor.X
end

section
/- Layer 7, plain: plans: which lists are plans, the way of a fault, what a plan costs; the reference's Plan, Way, Correct. -/
set_option linter.unusedVariables false
namespace Go.Proofs.YtekmiepdodaidaaDoor.X
open Go.RowKit Go.Proofs.YtekmiepdodaidaaDoorW.PrintWords Go.Proofs.YtekmiepdodaidaaDoorW.PrintLast Go.Proofs.YtekmiepdodaidaaDoorW.PrintMore

def allB (P : Nat → Bool) : Nat → Nat → Bool
 | _, 0 => true
 | j, m + 1 => P j && allB P (j + 1) m
theorem allB_iff (P : Nat → Bool) : ∀ (m j : Nat), allB P j m = true ↔ ∀ i, j ≤ i → i < j + m → P i = true
 | 0, j => by simp [allB]; intro i h1 h2; omega
 | m + 1, j => by
  rw [allB, Bool.and_eq_true, allB_iff P m (j + 1)]
  constructor
  ·rintro ⟨h1, h2⟩ i h3 h4
   by_cases h : i = j
   ·rw [h]; exact h1
   ·exact h2 i (by omega) (by omega)
  ·intro h
   exact ⟨h j (Nat.le_refl _) (by omega), fun i h1 h2 => h i (by omega) (by omega)⟩
theorem allB_congr {P Q : Nat → Bool} : ∀ (m j : Nat), (∀ i, j ≤ i → i < j + m → P i = Q i) → allB P j m = allB Q j m
 | 0, j, _ => rfl
 | m + 1, j, h => by rw [allB, allB, h j (Nat.le_refl _) (by omega), allB_congr m (j + 1) (fun i h1 h2 => h i (by omega) (by omega))]
/-- Is this a node at place i of a plan of len nodes? -/
def nodeB (n nt len : Nat) (i : Nat) (x : S57) : Bool :=
 if x.f0 = -1 then decide (0 ≤ x.f1) && decide (x.f1 < (n : Int)) && decide (x.f2 = 0) && decide (x.f3 = 0)
 else decide (0 ≤ x.f0) && decide (x.f0 < (nt : Int)) && decide (x.f1 = 0) && decide ((i : Int) < x.f2) && decide (x.f2 < (len : Int)) && decide ((i : Int) < x.f3) && decide (x.f3 < (len : Int))
/-- How often a place is a node's Zero or One. -/
def kidK (x : S57) (j : Nat) : Int := if x.f0 = -1 then 0 else (if x.f2 = (j : Int) then 1 else 0) + (if x.f3 = (j : Int) then 1 else 0)
def cntK : List S57 → Nat → Int
 | [], _ => 0
 | x :: xs, j => kidK x j + cntK xs j
def planB (n nt : Nat) (plan : List S57) : Bool :=
 decide (1 ≤ plan.length) && decide (plan.length ≤ 1000) && allB (fun i => nodeB n nt plan.length i (rd_T57 plan i)) 0 plan.length && allB (fun j => cntK plan j == 1) 1 (plan.length - 1)
theorem rdT_at (l : List S57) (i : Nat) (h : i < l.length) : rd_T57 l (i : Int) = l[i] := by simp [rd_T57, List.getD_eq_getElem?_getD, List.getElem?_eq_getElem h]
theorem cntK_drop (plan : List S57) (i : Nat) (h : i < plan.length) (j : Nat) : cntK (plan.drop i) j = kidK (rd_T57 plan i) j + cntK (plan.drop (i + 1)) j := by
 rw [List.drop_eq_getElem_cons h, rdT_at plan i h]; rfl
section
variable {a : List Int} {b : List (List Int)} {c : List Int}
theorem rplan_l1 (len : Nat) (hlen : len ≤ 1000) (uses : List Int) (hu : uses.length = len) (m : Nat) : ∀ (j : Nat), 1 ≤ j → j + m = len ∨ (m = 0 ∧ len ≤ j) → Ev (fun k => tickingref07_Plan.l1 k (len : Int) uses (j : Int)) (allB (fun j => rd uses (j : Int) == 1) j m) := by
 induction m with
 | zero =>
  intro j h1 hj
  refine Ev.step (f := fun _ => some _) (fun k => ?_) (Ev.now _)
  simp only [tickingref07_Plan.l1]
  rw [if_neg (by omega)]; rfl
 | succ m ih =>
  intro j h1 hj
  by_cases h : rd uses (j : Int) = 1
  ·have := ih (j + 1) (by omega) (by omega)
   rw [allB, show (rd uses (j : Int) == 1) = true from by rw [h]; rfl, Bool.true_and]
   refine Ev.step (fun k => ?_) this
   show tickingref07_Plan.l1 (k + 1) (len : Int) uses (j : Int) = _
   simp only [tickingref07_Plan.l1]
   rw [if_pos (by omega), if_pos (by omega), if_pos (by omega), if_pos h, w1 j (by omega)]
  ·rw [allB, show (rd uses (j : Int) == 1) = false from by simpa using h, Bool.false_and]
   refine Ev.step (f := fun _ => some _) (fun k => ?_) (Ev.now _)
   simp only [tickingref07_Plan.l1]
   rw [if_pos (by omega), if_pos (by omega), if_pos (by omega), if_neg h]
theorem rd_set (l : List Int) (s u : Nat) (x : Int) (h : s < l.length) : rd (l.set s x) (u : Int) = if s = u then x else rd l (u : Int) := by
 by_cases e : s = u
 ·subst e; rw [if_pos rfl, rd_set_eq _ _ _ h]
 ·rw [if_neg e, rd_set_ne _ _ _ _ (fun e' => e e'.symm)]
/-- The uses behind an inner node. -/
theorem uses_two (uses : List Int) (z o : Nat) (hz : z < uses.length) (ho : o < uses.length) (hb : ∀ j : Nat, 0 ≤ rd uses (j : Int) ∧ rd uses (j : Int) ≤ 2000) (x : S57) (h0 : x.f0 ≠ -1) (e2 : x.f2 = (z : Int)) (e3 : x.f3 = (o : Int)) (j : Nat) :
  rd ((uses.set z (wrap64 (rd uses (z : Int) + 1))).set o (wrap64 (rd (uses.set z (wrap64 (rd uses (z : Int) + 1))) (o : Int) + 1))) (j : Int) = rd uses (j : Int) + kidK x j := by
 have w (y : Int) (h : 0 ≤ y ∧ y ≤ 2001) : wrap64 (y + 1) = y + 1 := by unfold wrap64; omega
 have hbz := hb z
 have hbo := hb o
 have hbj := hb j
 unfold kidK
 rw [if_neg h0, e2, e3, rd_set _ _ _ _ (by rw [List.length_set]; exact ho), rd_set _ _ _ _ hz, rd_set _ _ _ _ hz, w _ ⟨hbz.1, by omega⟩]
 by_cases c1 : o = j
 ·subst c1
  rw [if_pos rfl]
  by_cases c2 : z = o
  ·subst c2
   rw [if_pos rfl, if_pos rfl, w _ (by omega)]; omega
  ·rw [if_neg c2, if_neg (by omega), if_pos rfl, w _ (by omega)]; omega
 ·rw [if_neg c1]
  by_cases c2 : z = j
  ·subst c2
   rw [if_pos rfl, if_pos rfl, if_neg (by omega)]; omega
  ·rw [if_neg c2, if_neg (by omega), if_neg (by omega)]; omega
theorem rplan_l0 (plan : List S57) (hlen : plan.length ≤ 1000) (h1 : 1 ≤ plan.length) (m : Nat) : ∀ (i : Nat) (uses : List Int), i + m = plan.length → uses.length = plan.length → (∀ j : Nat, 0 ≤ rd uses (j : Int) ∧ rd uses (j : Int) ≤ 2 * (i : Int)) →
  Ev (fun k => tickingref07_Plan.l0 k plan (plan.length : Int) uses (i : Int) a b c) (allB (fun i => nodeB a.length b.length plan.length i (rd_T57 plan i)) i m && allB (fun j => rd uses (j : Int) + cntK (plan.drop i) j == 1) 1 (plan.length - 1)) := by
 induction m with
 | zero =>
  intro i uses hi hu hb
  obtain rfl : i = plan.length := by omega
  have := rplan_l1 plan.length hlen uses hu (plan.length - 1) 1 (Nat.le_refl _) (by omega)
  rw [List.drop_length, allB, Bool.true_and, allB_congr (Q := fun j => rd uses (j : Int) == 1) _ _ (fun j _ _ => by simp [cntK])]
  refine Ev.step (fun k => ?_) this
  show tickingref07_Plan.l0 (k + 1) plan (plan.length : Int) uses (plan.length : Int) a b c = _
  simp only [tickingref07_Plan.l0]
  rw [if_neg (by omega)]; rfl
 | succ m ih =>
  intro i uses hi hu hb
  have hil : i < plan.length := by omega
  rw [allB]
  generalize hx : rd_T57 plan (i : Int) = x
  -- a node that is none
  have bad : ∀ (f : Nat → Option Bool), (∀ k, tickingref07_Plan.l0 (k + 1) plan (plan.length : Int) uses (i : Int) a b c = f k) → Ev f false → nodeB a.length b.length plan.length i x = false →
    Ev (fun k => tickingref07_Plan.l0 k plan (plan.length : Int) uses (i : Int) a b c) ((nodeB a.length b.length plan.length i x && allB (fun i => nodeB a.length b.length plan.length i (rd_T57 plan i)) (i + 1) m) && allB (fun j => rd uses (j : Int) + cntK (plan.drop i) j == 1) 1 (plan.length - 1)) := by
   intro f h hf hn
   rw [hn, Bool.false_and, Bool.false_and]
   exact Ev.step h hf
  have now : Ev (fun _ => some false) false := Ev.now _
  have j2t : Ev (fun k => tickingref07_Plan.j2 k plan (plan.length : Int) uses (i : Int) true a b c) false := Ev.step (f := fun _ => some _) (fun k => by simp only [tickingref07_Plan.j2]; rw [if_pos trivial]) (Ev.now _)
  by_cases c0 : x.f0 = -1
  ·by_cases ok : nodeB a.length b.length plan.length i x = true
   ·have ok' := ok
    unfold nodeB at ok'
    rw [if_pos c0] at ok'
    simp only [Bool.and_eq_true, decide_eq_true_eq] at ok'
    obtain ⟨⟨⟨o1, o2⟩, o3⟩, o4⟩ := ok'
    have hk : ∀ j, kidK x j = 0 := fun j => by unfold kidK; rw [if_pos c0]
    have e := ih (i + 1) uses (by omega) hu (fun j => by have := hb j; omega)
    rw [ok, Bool.true_and, allB_congr (Q := fun j => rd uses (j : Int) + cntK (plan.drop (i + 1)) j == 1) (P := fun j => rd uses (j : Int) + cntK (plan.drop i) j == 1) _ _ (fun j _ _ => by rw [cntK_drop plan i hil, hx, hk]; simp)]
    have e2 : Ev (fun k => tickingref07_Plan.j2 k plan (plan.length : Int) uses (i : Int) false a b c) _ := Ev.step (fun k => by show tickingref07_Plan.j2 (k + 1) plan (plan.length : Int) uses (i : Int) false a b c = _; simp only [tickingref07_Plan.j2]; rw [if_neg (by decide), w1 i (by omega)]) e
    refine Ev.step (fun k => ?_) e2
    show tickingref07_Plan.l0 (k + 1) plan (plan.length : Int) uses (i : Int) a b c = _
    simp only [tickingref07_Plan.l0]
    rw [if_pos (by omega), if_pos (by omega), if_pos (by omega), hx, if_pos c0, if_neg (by omega), if_neg (by omega), if_pos o3, o4]; rfl
   ·have ok2 : nodeB a.length b.length plan.length i x = false := by simpa using ok
    have hn : ¬ (0 ≤ x.f1 ∧ x.f1 < (a.length : Int) ∧ x.f2 = 0 ∧ x.f3 = 0) := fun ⟨o1, o2, o3, o4⟩ => ok (by unfold nodeB; rw [if_pos c0]; simp [o1, o2, o3, o4])
    refine bad (fun k => tickingref07_Plan.j2 k plan (plan.length : Int) uses (i : Int) true a b c) (fun k => ?_) j2t ok2
    simp only [tickingref07_Plan.l0]
    rw [if_pos (by omega), if_pos (by omega), if_pos (by omega), hx, if_pos c0]
    by_cases d1 : x.f1 < 0
    ·rw [if_pos d1]
    ·rw [if_neg d1]
     by_cases d2 : x.f1 ≥ (a.length : Int)
     ·rw [if_pos d2]
     ·rw [if_neg d2]
      by_cases d3 : x.f2 = 0
      ·rw [if_pos d3, show (x.f3 != 0) = true from bne_iff_ne.2 (fun d4 => hn ⟨by omega, by omega, d3, d4⟩)]
      ·rw [if_neg d3]
  ·by_cases ok : nodeB a.length b.length plan.length i x = true
   ·have ok' := ok
    unfold nodeB at ok'
    rw [if_neg c0] at ok'
    simp only [Bool.and_eq_true, decide_eq_true_eq] at ok'
    obtain ⟨⟨⟨⟨⟨⟨o1, o2⟩, o3⟩, o4⟩, o5⟩, o6⟩, o7⟩ := ok'
    obtain ⟨z, hz⟩ : ∃ z : Nat, x.f2 = (z : Int) := ⟨x.f2.toNat, by omega⟩
    obtain ⟨o, ho⟩ : ∃ o : Nat, x.f3 = (o : Int) := ⟨x.f3.toNat, by omega⟩
    have hb2 : ∀ j : Nat, 0 ≤ rd uses (j : Int) ∧ rd uses (j : Int) ≤ 2000 := fun j => by have := hb j; omega
    have ht := uses_two uses z o (by omega) (by omega) hb2 x c0 hz ho
    have e := ih (i + 1) _ (by omega) (show ((uses.set z (wrap64 (rd uses (z : Int) + 1))).set o (wrap64 (rd (uses.set z (wrap64 (rd uses (z : Int) + 1))) (o : Int) + 1))).length = plan.length by rw [List.length_set, List.length_set]; exact hu)
     (fun j => by
      rw [ht j]
      have := hb j
      have : 0 ≤ kidK x j ∧ kidK x j ≤ 2 := by unfold kidK; split <;> (repeat' split) <;> omega
      omega)
    rw [ok, Bool.true_and, allB_congr (Q := fun j => rd ((uses.set z (wrap64 (rd uses (z : Int) + 1))).set o (wrap64 (rd (uses.set z (wrap64 (rd uses (z : Int) + 1))) (o : Int) + 1))) (j : Int) + cntK (plan.drop (i + 1)) j == 1) (P := fun j => rd uses (j : Int) + cntK (plan.drop i) j == 1) _ _ (fun j _ _ => by rw [cntK_drop plan i hil, hx, ht j, Int.add_assoc])]
    refine Ev.step (fun k => ?_) e
    show tickingref07_Plan.l0 (k + 1) plan (plan.length : Int) uses (i : Int) a b c = _
    simp only [tickingref07_Plan.l0]
    rw [if_pos (by omega), if_pos (by omega), if_pos (by omega), hx, if_neg c0, if_neg (by omega), if_neg (by omega), if_pos o3, if_neg (by omega), if_neg (by omega), if_neg (by omega), if_neg (by omega), if_pos (by omega), if_pos (by omega)]
    simp only [Option.bind_some]
    rw [if_pos (by omega), if_pos (by omega), hz, ho, w1 i (by omega)]
    simp only [Int.toNat_natCast]
   ·have ok2 : nodeB a.length b.length plan.length i x = false := by simpa using ok
    have hn : ¬ (0 ≤ x.f0 ∧ x.f0 < (b.length : Int) ∧ x.f1 = 0 ∧ (i : Int) < x.f2 ∧ x.f2 < (plan.length : Int) ∧ (i : Int) < x.f3 ∧ x.f3 < (plan.length : Int)) := fun ⟨o1, o2, o3, o4, o5, o6, o7⟩ => ok (by unfold nodeB; rw [if_neg c0]; simp [o1, o2, o3, o4, o5, o6, o7])
    refine bad (fun _ => some false) (fun k => ?_) now ok2
    simp only [tickingref07_Plan.l0]
    rw [if_pos (by omega), if_pos (by omega), if_pos (by omega), hx, if_neg c0]
    by_cases d1 : x.f0 < 0
    ·rw [if_pos d1]
    rw [if_neg d1]
    by_cases d2 : x.f0 ≥ (b.length : Int)
    ·rw [if_pos d2]
    rw [if_neg d2]
    by_cases d3 : x.f1 = 0
    ·rw [if_pos d3]
     by_cases d4 : x.f2 ≤ (i : Int)
     ·rw [if_pos d4]
     rw [if_neg d4]
     by_cases d5 : x.f2 ≥ (plan.length : Int)
     ·rw [if_pos d5]
     rw [if_neg d5]
     by_cases d6 : x.f3 ≤ (i : Int)
     ·rw [if_pos d6]
     rw [if_neg d6]
     by_cases d7 : x.f3 ≥ (plan.length : Int)
     ·rw [if_pos d7]
     exact absurd ⟨by omega, by omega, d3, by omega, by omega, by omega, by omega⟩ hn
    ·rw [if_neg d3]
theorem rplan_ev (plan : List S57) : Ev (fun k => tickingref07_Plan.f k a b c plan) (planB a.length b.length plan) := by
 unfold tickingref07_Plan.f planB
 by_cases h1 : plan.length < 1
 ·refine Ev.congr (fun k => if_pos (by omega)) ?_
  rw [show decide (1 ≤ plan.length) = false from decide_eq_false (by omega)]
  simp only [Bool.false_and]
  exact Ev.step (f := fun _ => some _) (fun k => by simp only [tickingref07_Plan.j0]; rw [if_pos trivial]) (Ev.now _)
 ·refine Ev.congr (fun k => if_neg (by omega)) ?_
  rw [show decide (1 ≤ plan.length) = true from decide_eq_true (by omega), Bool.true_and]
  by_cases h2 : plan.length > 1000
  ·rw [show decide (plan.length ≤ 1000) = false from decide_eq_false (by omega), show decide ((plan.length : Int) > 1000) = true from decide_eq_true (by omega)]
   simp only [Bool.false_and]
   exact Ev.step (f := fun _ => some _) (fun k => by simp only [tickingref07_Plan.j0]; rw [if_pos trivial]) (Ev.now _)
  ·rw [show decide (plan.length ≤ 1000) = true from decide_eq_true (by omega), Bool.true_and, show decide ((plan.length : Int) > 1000) = false from decide_eq_false (by omega)]
   have hz : ∀ u : Nat, rd (List.replicate plan.length (0 : Int)) (u : Int) = 0 := fun u => by
    simp only [rd, Int.toNat_natCast, List.getD_eq_getElem?_getD, List.getElem?_replicate]
    split <;> rfl
   have := rplan_l0 (a := a) (b := b) (c := c) plan (by omega) (by omega) plan.length 0 (List.replicate plan.length 0) (by omega) (List.length_replicate ..) (fun j => by rw [hz]; omega)
   rw [List.drop_zero, allB_congr (P := fun j => rd (List.replicate plan.length (0 : Int)) (j : Int) + cntK plan j == 1) (Q := fun j => cntK plan j == 1) _ _ (fun j _ _ => by rw [hz, Int.zero_add])] at this
   refine Ev.step (fun k => ?_) this
   simp only [tickingref07_Plan.j0]
   rw [if_neg (by decide), if_pos (by omega), if_pos (by omega), Int.toNat_natCast]; rfl
end
end Go.Proofs.YtekmiepdodaidaaDoor.X
end

section
/- Layer 7, plain: the way of a fault through a plan, what it costs; the reference's Correct. -/
set_option linter.unusedVariables false
namespace Go.Proofs.YtekmiepdodaidaaDoor.X
open Go.RowKit Go.Proofs.YtekmiepdodaidaaDoorW.PrintWords Go.Proofs.YtekmiepdodaidaaDoorW.PrintLast Go.Proofs.YtekmiepdodaidaaDoorW.PrintMore

/-- The tests on the way of a fault from place p on, and the fault of the leaf. -/
def wayN (b : List (List Int)) (plan : List S57) (f : Int) : Nat → Int → List Int × Int
 | 0, _ => ([], -1)
 | d + 1, p => if (rd_T57 plan p).f0 < 0 then ([], (rd_T57 plan p).f1) else
   let r := wayN b plan f d (if rd (rd_L1 b (rd_T57 plan p).f0) f = 1 then (rd_T57 plan p).f3 else (rd_T57 plan p).f2)
   ((rd_T57 plan p).f0 :: r.1, r.2)
def wayP (b : List (List Int)) (plan : List S57) (f : Int) : List Int × Int := wayN b plan f plan.length 0
def costL (c : List Int) : List Int → Int
 | [] => 0
 | t :: ts => rd c t + costL c ts
def sumR (g : Nat → Int) : Nat → Int
 | 0 => 0
 | n + 1 => sumR g n + g n
def maxR (g : Nat → Int) : Nat → Int
 | 0 => 0
 | n + 1 => mx (maxR g n) (g n)
def wayC (b : List (List Int)) (c : List Int) (plan : List S57) (f : Nat) : Int := costL c (wayP b plan f).1
def leafB (b : List (List Int)) (plan : List S57) (n : Nat) : Bool := allB (fun f => (wayP b plan f).2 == (f : Int)) 0 n
def corrR (a : List Int) (b : List (List Int)) (c : List Int) (plan : List S57) : Int × Int × Bool :=
 if (planB a.length b.length plan && leafB b plan a.length) = true then (sumR (fun f => rd a (f : Int) * wayC b c plan f) a.length, maxR (fun f => wayC b c plan f) a.length, true) else (0, 0, false)
/-- A plan's node. -/
structure PlanIs (n nt : Nat) (plan : List S57) : Prop where
 l1 : 1 ≤ plan.length
 l1000 : plan.length ≤ 1000
 node : ∀ i : Nat, i < plan.length → nodeB n nt plan.length i (rd_T57 plan i) = true
theorem plan_is {n nt : Nat} {plan : List S57} (h : planB n nt plan = true) : PlanIs n nt plan := by
 unfold planB at h
 simp only [Bool.and_eq_true, decide_eq_true_eq] at h
 obtain ⟨⟨⟨h1, h2⟩, h3⟩, h4⟩ := h
 exact ⟨h1, h2, fun i hi => (allB_iff _ _ _).1 h3 i (by omega) (by omega)⟩
theorem node_inner {n nt len i : Nat} {x : S57} (h : nodeB n nt len i x = true) (h0 : ¬ x.f0 < 0) : 0 ≤ x.f0 ∧ x.f0 < (nt : Int) ∧ x.f1 = 0 ∧ (i : Int) < x.f2 ∧ x.f2 < (len : Int) ∧ (i : Int) < x.f3 ∧ x.f3 < (len : Int) := by
 unfold nodeB at h
 rw [if_neg (by omega)] at h
 simp only [Bool.and_eq_true, decide_eq_true_eq] at h
 omega
theorem kid_at {n nt len i : Nat} {x : S57} (h : nodeB n nt len i x = true) (h0 : ¬ x.f0 < 0) (q : Prop) [Decidable q] : ∃ j : Nat, (if q then x.f3 else x.f2) = (j : Int) ∧ i < j ∧ j < len := by
 have := node_inner h h0
 split
 ·exact ⟨x.f3.toNat, by omega, by omega, by omega⟩
 ·exact ⟨x.f2.toNat, by omega, by omega, by omega⟩
section
variable {n nt : Nat} {plan : List S57} (H : PlanIs n nt plan) (b : List (List Int)) (c : List Int)
include H
theorem wayN_len (f : Int) : ∀ (d : Nat) (p : Nat), p < plan.length → (wayN b plan f d p).1.length ≤ d
 | 0, p, _ => by simp [wayN]
 | d + 1, p, hp => by
  unfold wayN
  by_cases h : (rd_T57 plan (p : Int)).f0 < 0
  ·rw [if_pos h]; simp
  ·rw [if_neg h]
   obtain ⟨j, e, h1, h2⟩ := kid_at (H.node p hp) h (rd (rd_L1 b (rd_T57 plan (p : Int)).f0) f = 1)
   rw [e]
   have := wayN_len f d j h2
   simp only [List.length_cons]; omega
theorem wayN_tests (f : Int) : ∀ (d p : Nat), p < plan.length → ∀ t ∈ (wayN b plan f d p).1, 0 ≤ t ∧ t < (nt : Int)
 | 0, p, _ => by simp [wayN]
 | d + 1, p, hp => by
  unfold wayN
  by_cases h : (rd_T57 plan (p : Int)).f0 < 0
  ·rw [if_pos h]; simp
  ·rw [if_neg h]
   obtain ⟨j, e, h1, h2⟩ := kid_at (H.node p hp) h (rd (rd_L1 b (rd_T57 plan (p : Int)).f0) f = 1)
   rw [e]
   have hn := node_inner (H.node p hp) h
   intro t ht
   rcases List.mem_cons.1 ht with rfl | ht
   ·omega
   ·exact wayN_tests f d j h2 t ht
end
theorem costL_bounds {c : List Int} {nt : Nat} (hc : ∀ t : Nat, t < nt → 1 ≤ rd c (t : Int) ∧ rd c (t : Int) ≤ 100) : ∀ (l : List Int), (∀ t ∈ l, 0 ≤ t ∧ t < (nt : Int)) → 0 ≤ costL c l ∧ costL c l ≤ 100 * (l.length : Int)
 | [], _ => by simp [costL]
 | t :: ts, h => by
  have ht := h t (by simp)
  have := hc t.toNat (by omega)
  rw [show ((t.toNat : Nat) : Int) = t from by omega] at this
  have ih := costL_bounds hc ts (fun u hu => h u (by simp [hu]))
  simp only [costL, List.length_cons]
  omega
section
variable {a : List Int} {b : List (List Int)} {c : List Int}
/-- The reference's Way. -/
theorem rway_l0 (h : CaseIs a b c) (plan : List S57) (H : PlanIs a.length b.length plan) (f : Nat) (hf : f < a.length) (d : Nat) : ∀ (p : Nat) (acc : List Int), p < plan.length → plan.length ≤ p + d → acc.length + d ≤ 2000 →
  Ev (fun k => tickingref07_Way.l0 k plan (f : Int) acc (p : Int) a b c) (acc ++ (wayN b plan (f : Int) d (p : Int)).1, (wayN b plan (f : Int) d (p : Int)).2 == (f : Int)) := by
 induction d with
 | zero => intro p acc hp hd; omega
 | succ d ih =>
  intro p acc hp hd hacc
  unfold wayN
  by_cases h0 : (rd_T57 plan (p : Int)).f0 < 0
  ·rw [if_pos h0]
   refine Ev.step (f := fun _ => some _) (fun k => ?_) (Ev.now _)
   simp only [tickingref07_Way.l0]
   rw [if_pos (by omega), if_pos (by omega), if_neg (by omega)]; simp
  ·rw [if_neg h0]
   obtain ⟨o1, o2, o3, o4, o5, o6, o7⟩ := node_inner (H.node p hp) h0
   obtain ⟨t, ht⟩ : ∃ t : Nat, (rd_T57 plan (p : Int)).f0 = (t : Int) := ⟨(rd_T57 plan (p : Int)).f0.toNat, by omega⟩
   obtain ⟨r1, r2⟩ := row_at h t (by omega)
   obtain ⟨j, e, h1, h2⟩ := kid_at (H.node p hp) h0 (rd (rd_L1 b (rd_T57 plan (p : Int)).f0) (f : Int) = 1)
   have := ih j (acc ++ [(t : Int)]) h2 (by omega) (by simp; omega)
   dsimp only
   rw [e, ht]
   rw [List.append_assoc] at this
   refine Ev.step (fun k => ?_) this
   show tickingref07_Way.l0 (k + 1) plan (f : Int) acc (p : Int) a b c = _
   simp only [tickingref07_Way.l0]
   rw [if_pos (by omega), if_pos (by omega), if_pos (by omega), if_pos (by omega)]
   simp only [Option.bind_some]
   rw [if_pos (by omega), if_pos (by omega), if_pos (by omega)]
   rw [← e]
   by_cases hb : rd (rd_L1 b (rd_T57 plan (p : Int)).f0) (f : Int) = 1
   ·rw [if_pos (by rw [ht, rd_L1_at b t (by omega)]; omega), if_pos hb, if_pos hb, ht]
   ·rw [if_pos (by rw [ht, rd_L1_at b t (by omega)]; omega), if_neg hb, if_neg hb, ht]
theorem rway_ev (h : CaseIs a b c) (plan : List S57) (H : PlanIs a.length b.length plan) (f : Nat) (hf : f < a.length) : Ev (fun k => tickingref07_Way.f k a b c plan (f : Int)) ((wayP b plan (f : Int)).1, (wayP b plan (f : Int)).2 == (f : Int)) := by
 have := rway_l0 h plan H f hf plan.length 0 [] (by have := H.l1; omega) (by omega) (by have := H.l1000; simp; omega)
 simpa [tickingref07_Way.f, wayP] using this
theorem way_tests {plan : List S57} (H : PlanIs a.length b.length plan) (f : Int) : (wayP b plan f).1.length ≤ 1000 ∧ ∀ t ∈ (wayP b plan f).1, 0 ≤ t ∧ t < (b.length : Int) := by
 have h1 := wayN_len H b f plan.length 0 (by have := H.l1; omega)
 have h2 := wayN_tests H b f plan.length 0 (by have := H.l1; omega)
 exact ⟨Nat.le_trans h1 H.l1000, h2⟩
theorem wayC_bounds (h : CaseIs a b c) {plan : List S57} (H : PlanIs a.length b.length plan) (f : Nat) : 0 ≤ wayC b c plan f ∧ wayC b c plan f ≤ 100000 := by
 obtain ⟨h1, h2⟩ := way_tests (a := a) (b := b) H (f : Int)
 have := costL_bounds (c := c) (fun t ht => cost_at h t ht) _ h2
 unfold wayC
 omega
theorem rcorr_l1 (h : CaseIs a b c) (plan : List S57) (f : Nat) (hf : f < a.length) (M W : Int) (l : List Int) (hl : ∀ t ∈ l, 0 ≤ t ∧ t < (b.length : Int)) (hn : l.length ≤ 1000) (R : Int × Int × Bool) (m : Nat) : ∀ (i : Nat) (acc : Int), i + m = l.length → 0 ≤ acc → acc + 100 * (m : Int) ≤ 100000 →
  Ev (fun k => tickingref07_Correct.l0 k plan (wrap64 (M + wrap64 (rd a (f : Int) * (acc + costL c (l.drop i))))) (mx W (acc + costL c (l.drop i))) ((f + 1 : Nat) : Int) a b c) R →
  Ev (fun k => tickingref07_Correct.l1 k plan M W (f : Int) l acc (i : Int) a b c) R := by
 have ha := h.a10
 have hcb := h.cb
 induction m with
 | zero =>
  intro i acc hi h0 h1 hR
  obtain rfl : i = l.length := by omega
  rw [List.drop_length] at hR
  refine Ev.step (fun k => ?_) hR
  simp only [tickingref07_Correct.l1]
  rw [if_neg (by omega), if_pos (by omega), if_pos (by omega), w1 f (by omega)]
  simp [costL]
 | succ m ih =>
  intro i acc hi h0 h1 hR
  have hil : i < l.length := by omega
  have ht := hl l[i] (List.getElem_mem hil)
  obtain ⟨t, et⟩ : ∃ t : Nat, l[i] = (t : Int) := ⟨l[i].toNat, by omega⟩
  have hc := cost_at h t (by omega)
  rw [List.drop_eq_getElem_cons hil, et] at hR
  simp only [costL] at hR
  have e := ih (i + 1) (acc + rd c (t : Int)) (by omega) (by omega) (by omega) (by rw [Int.add_assoc]; exact hR)
  refine Ev.step (fun k => ?_) e
  show tickingref07_Correct.l1 (k + 1) plan M W (f : Int) l acc (i : Int) a b c = _
  simp only [tickingref07_Correct.l1]
  rw [if_pos (by omega), if_pos (by omega), rd_at l i hil, et, if_pos (by omega), if_pos (by omega), w1 i (by omega), show wrap64 (acc + rd c (t : Int)) = acc + rd c (t : Int) from by unfold wrap64; omega]
theorem rcorr_l0 (h : CaseIs a b c) (plan : List S57) (H : PlanIs a.length b.length plan) (m : Nat) : ∀ (f : Nat), f + m = a.length →
  Ev (fun k => tickingref07_Correct.l0 k plan (sumR (fun f => rd a (f : Int) * wayC b c plan f) f) (maxR (fun f => wayC b c plan f) f) (f : Int) a b c)
   (if allB (fun f => (wayP b plan f).2 == (f : Int)) f m = true then (sumR (fun f => rd a (f : Int) * wayC b c plan f) a.length, maxR (fun f => wayC b c plan f) a.length, true) else (0, 0, false)) := by
 have ha := h.a10
 have sb : ∀ f, f ≤ a.length → 0 ≤ sumR (fun f => rd a (f : Int) * wayC b c plan f) f ∧ sumR (fun f => rd a (f : Int) * wayC b c plan f) f ≤ 100000000 * (f : Int) := by
  intro f
  induction f with
  | zero => intro _; simp [sumR]
  | succ f ih =>
   intro hf
   have i1 := ih (by omega)
   have hw := h.wa a[f] (List.getElem_mem (by omega))
   have hc := wayC_bounds h H f
   simp only [sumR]
   rw [rd_at a f (by omega)]
   have p1 : 0 ≤ a[f] * wayC b c plan f := Int.mul_nonneg (by omega) hc.1
   have p2 : a[f] * wayC b c plan f ≤ 1000 * 100000 := Int.mul_le_mul hw.2 hc.2 hc.1 (by omega)
   omega
 induction m with
 | zero =>
  intro f hf
  obtain rfl : f = a.length := by omega
  refine Ev.step (f := fun _ => some _) (fun k => ?_) (Ev.now _)
  simp only [tickingref07_Correct.l0]
  rw [if_neg (by omega)]; rfl
 | succ m ih =>
  intro f hf
  have hfl : f < a.length := by omega
  obtain ⟨hn, ht⟩ := way_tests (a := a) (b := b) (plan := plan) H (f : Int)
  refine Ev.step (f := fun k => (tickingref07_Way.f k a b c plan (f : Int)).bind _) (fun k => by simp only [tickingref07_Correct.l0]; rw [if_pos (by omega)]) ?_
  refine Ev.bind (rway_ev h plan H f hfl) ?_
  rw [allB]
  by_cases hleaf : ((wayP b plan (f : Int)).2 == (f : Int)) = true
  ·rw [hleaf, Bool.true_and]
   refine Ev.congr (fun k => if_pos rfl) ?_
   have e := ih (f + 1) (by omega)
   refine rcorr_l1 h plan f hfl _ _ _ ht hn _ (wayP b plan (f : Int)).1.length 0 0 (by omega) (by omega) (by omega) ?_
   rw [List.drop_zero, Int.zero_add]
   have hw := h.wa a[f] (List.getElem_mem hfl)
   have hc := wayC_bounds h H f
   have hs := sb f (by omega)
   have hra := rd_at a f hfl
   have p1 : 0 ≤ rd a (f : Int) * wayC b c plan f := Int.mul_nonneg (by omega) hc.1
   have p2 : rd a (f : Int) * wayC b c plan f ≤ 1000 * 100000 := Int.mul_le_mul (by omega) hc.2 hc.1 (by omega)
   have es : wrap64 (sumR (fun f => rd a (f : Int) * wayC b c plan f) f + wrap64 (rd a (f : Int) * costL c (wayP b plan (f : Int)).1)) = sumR (fun f => rd a (f : Int) * wayC b c plan f) (f + 1) := by
    simp only [sumR]
    show wrap64 (_ + wrap64 (rd a (f : Int) * wayC b c plan f)) = _
    generalize rd a (f : Int) * wayC b c plan f = p at *
    generalize sumR (fun f => rd a (f : Int) * wayC b c plan f) f = s at *
    clear e ih sb
    unfold wrap64; omega
   rw [es]
   exact e
  ·have hl2 : ((wayP b plan (f : Int)).2 == (f : Int)) = false := by simpa using hleaf
   rw [hl2, Bool.false_and, if_neg (by decide)]
   exact Ev.congr (f := fun _ => some _) (fun k => if_neg Bool.false_ne_true) (Ev.now _)
theorem rcorr_ev (h : CaseIs a b c) (plan : List S57) : Ev (fun k => tickingref07_Correct.f k a b c plan) (corrR a b c plan) := by
 unfold tickingref07_Correct.f corrR
 refine Ev.bind (rplan_ev plan) ?_
 by_cases hp : planB a.length b.length plan = true
 ·rw [hp, Bool.true_and]
  have e := rcorr_l0 h plan (plan_is hp) a.length 0 (by omega)
  refine Ev.congr (f := fun k => tickingref07_Correct.l0 k plan 0 0 0 a b c) (fun k => if_pos rfl) e
 ·have hp2 : planB a.length b.length plan = false := by simpa using hp
  rw [hp2, Bool.false_and, if_neg (by decide)]
  exact Ev.congr (f := fun _ => some _) (fun k => if_neg (by decide)) (Ev.now _)
end
end Go.Proofs.YtekmiepdodaidaaDoor.X
end
