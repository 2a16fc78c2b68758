/- Texts behind TestsLeft, part 30: contracts of the program's functions and the plain words for them. -/
import Derived.Deep.Slices
import Derived.Deep.Strs
import Derived.ProofKit
import Derived.OpenShut
import Derived.Lib.SmallJoins
import Derived.Lib.LaidTab
import Derived.Stop.LaidErr
import Derived.Test.YtekmiepdodaidaaDoorRows
import Derived.LaidMore
import Derived.Stop.Joined
import Derived.LaidHandle
import Derived.ChangeOld
import Derived.Test.YtekmiepdodaidaaDoorTpaa
import Derived.Test.YtekmiepdodaidaaDoorTpar
import Derived.Test.YtekmiepdodaidaaDoorTpas
import Derived.Test.YtekmiepdodaidaaDoorTpav
import Derived.Test.YtekmiepdodaidaaDoorTpaz
import Derived.Test.YtekmiepdodaidaaDoorTpbc
section
/- Arguments as they come in, opened kind by kind: what a value's cells read as is a word of the kind. -/
set_option linter.unusedVariables false
set_option linter.unusedSimpArgs false
namespace Go.Proofs.YtekmiepdodaidaaDoor.X
open Go.ChangeShapes Go.WideShapes Go.ChangeAt Go.RowKit Go.Proofs.YtekmiepdodaidaaDoorW.PrintWords
section
variable {H : Type} {enc : TypeId × Value → H} {P : Program} {W : World} {base : Nat} {held : Bool}
/-- Whatever is read of type t is a word of the kind, and it is good. -/
def Opens {α : Type} (enc : TypeId × Value → H) (P : Program) (W : World) (base : Nat) (held : Bool) (d : Kd α) (t : TypeId) (good : α → Prop) : Prop :=
  ∀ fuel cs x, DataW.trod enc P W base (fun _ => true) held fuel t cs = some x → ∃ a : α, d.K W a cs ∧ good a
theorem opens_int {t : TypeId} {k : IntKind} (ht : P.underlying t = some (.int k)) : Opens enc P W base held (Kd.int k) t (fun z => (Lit.int k z).wf = true) := by
  intro fuel cs x h
  obtain ⟨z, e, _, hw⟩ := DataW.trod_int ht h
  exact ⟨z, e, hw⟩
theorem opens_slice {α : Type} {d : Kd α} {t e : TypeId} {good : α → Prop} (ht : P.underlying t = some (.slice e)) (hs : P.cellsOf e = d.sz) (he : Opens enc P W base held d e good) :
    Opens enc P W base held (Kd.slice e d) t (fun l => l.length ≤ maxLen ∧ ∀ x ∈ l, good x) := by
  intro fuel cs x h
  rcases Go.Deep.open_slice ht h with ⟨rfl, _⟩ | ⟨a, len, cap, m, n, D, Pl, rfl, hb, hl, hm, hmm, hxx, hx⟩
  · exact ⟨[], ⟨none, 0, rfl, Nat.le_refl _, Kd.C_nil _ _⟩, Nat.zero_le _, by simp⟩
  simp only [if_true] at hmm
  subst hmm
  have each : ∀ i, i < len → ∃ y : α, ∃ cs', W.cells? base (a.add (i * d.sz)) d.sz = some cs' ∧ d.K W y cs' ∧ good y := by
    intro i hi
    obtain ⟨cs', h1, h2⟩ := hx i (by omega)
    obtain ⟨y, h3, h4⟩ := he _ _ _ h2
    rw [hs] at h1
    exact ⟨y, cs', h1, h3, h4⟩
  have pick : ∃ l : List α, l.length = len ∧ ∀ i y, l[i]? = some y → ∃ cs', W.cells? base (a.add (i * d.sz)) d.sz = some cs' ∧ d.K W y cs' ∧ good y := by
    clear hl hm hx hxx h
    induction len with
    | zero => exact ⟨[], rfl, fun i y hy => by simp at hy⟩
    | succ len ih =>
      obtain ⟨l, hl, hy⟩ := ih (fun i hi => each i (by omega))
      obtain ⟨y0, hy0⟩ := each len (by omega)
      refine ⟨l ++ [y0], by simp [hl], fun i y hi => ?_⟩
      rcases Nat.lt_trichotomy i l.length with h | h | h
      · rw [List.getElem?_append_left h] at hi
        exact hy i y hi
      · rw [List.getElem?_append_right (by omega)] at hi
        have e0 : i - l.length = 0 := by omega
        rw [e0] at hi
        have : y0 = y := by simpa using hi
        subst this
        rw [h, hl]
        exact hy0
      · rw [List.getElem?_eq_none (by simp; omega)] at hi
        cases hi
  obtain ⟨l, rfl, hy⟩ := pick
  refine ⟨l, ⟨some a, _, rfl, hl, rfl, ?_, fun hn => ⟨a, rfl, fun j p hj => ?_⟩⟩, Nat.le_trans hl hm, fun x hx => ?_⟩
  · have := Nat.le_trans hl hm
    simpa [maxLen] using this
  · obtain ⟨cs', h1, h2, _⟩ := hy j p hj
    obtain ⟨h3, h4, h5⟩ := World.cells?_some h1
    refine ⟨cs', h4, h2, fun i u hu => ?_⟩
    have hi : i < d.sz := by
      rcases Nat.lt_or_ge i d.sz with h | h
      · exact h
      · rw [List.getElem?_eq_none (by omega)] at hu
        cases hu
    have := h5 i hi
    rw [hu] at this
    rw [← this]
    congr 1
    simp only [Addr.add]
    by_cases h6 : i = 0
    · subst h6; simp
    · by_cases h7 : j * d.sz = 0
      · simp [h6, h7]
      · simp [h6, h7, Nat.add_assoc]
  · obtain ⟨j, hj⟩ := List.getElem?_of_mem hx
    obtain ⟨_, _, _, h4⟩ := hy j x hj
    exact h4
theorem opens_arg {α : Type} {d : Kd α} {t : TypeId} {good : α → Prop} {v : Value} {x : DataW H} {p : List MemPlace} (ho : Opens enc P W base held d t good) (h : DataW.Trod enc P W base (fun _ => true) held t v x p) : ∃ a : α, d.K W a v.cells.toList ∧ good a := by
  obtain ⟨fuel, hf⟩ := h
  exact ho _ _ _ hf
/-- An argument that is a slice. -/
theorem open_slice {α : Type} {d : Kd α} {t e : TypeId} {good : α → Prop} {v : Value} {x : DataW H} {p : List MemPlace} (ht : P.underlying t = some (.slice e)) (hs : P.cellsOf e = d.sz) (he : Opens enc P W 0 true d e good)
    (hv : Value.okWide P W .any base t v) (h : DataW.Trod enc P W 0 (fun _ => true) true t v x p) :
    ∃ (a : Option Addr) (l : List α) (cap : Nat), v = .slice a l.length cap ∧ l.length ≤ cap ∧ Kd.C d W a l.length l ∧ l.length ≤ maxLen ∧ ∀ x ∈ l, good x := by
  obtain ⟨a, len, cap, rfl⟩ := okWide_slice ht hv
  obtain ⟨l, ⟨A, c, e1, h1, h2⟩, h3, h4⟩ := opens_arg (opens_slice ht hs he) h
  simp only [Value.cells, List.cons.injEq, Value.slice.injEq, and_true] at e1
  obtain ⟨rfl, rfl, rfl⟩ := e1
  exact ⟨_, l, _, rfl, h1, h2, h3, h4⟩
theorem okWide_struct {r : Reach} {fs : Array Field} {b0 : Nat} {t : TypeId} {v : Value} (ht : P.underlying t = some (.struct fs)) (h : Value.okWide P W r b0 t v) : ∃ cs, v = .agg cs ∧ cs.size = P.cellsOf t := by
  simp only [Value.okWide, ht] at h
  cases v <;> simp_all
/-- An argument that is a struct of three slices. -/
theorem open_three {α β γ : Type} {d0 : Kd α} {d1 : Kd β} {d2 : Kd γ} {t e0 e1 e2 : TypeId} {f0 f1 f2 : Field} {g0 : α → Prop} {g1 : β → Prop} {g2 : γ → Prop} {v : Value} {x : DataW H} {p : List MemPlace}
    (ht : P.underlying t = some (.struct #[f0, f1, f2])) (hc : P.cellsOf t = 3) (o0 : f0.offset = 0) (o1 : f1.offset = 1) (o2 : f2.offset = 2) (c0 : P.cellsOf f0.type = 1) (c1 : P.cellsOf f1.type = 1) (c2 : P.cellsOf f2.type = 1)
    (t0 : P.underlying f0.type = some (.slice e0)) (t1 : P.underlying f1.type = some (.slice e1)) (t2 : P.underlying f2.type = some (.slice e2)) (s0 : P.cellsOf e0 = d0.sz) (s1 : P.cellsOf e1 = d1.sz) (s2 : P.cellsOf e2 = d2.sz)
    (h0 : Opens enc P W 0 true d0 e0 g0) (h1 : Opens enc P W 0 true d1 e1 g1) (h2 : Opens enc P W 0 true d2 e2 g2)
    (hv : Value.okWide P W .any base t v) (h : DataW.Trod enc P W 0 (fun _ => true) true t v x p) :
    ∃ (a0 : Option Addr) (l0 : List α) (k0 : Nat) (a1 : Option Addr) (l1 : List β) (k1 : Nat) (a2 : Option Addr) (l2 : List γ) (k2 : Nat), v = .agg #[.slice a0 l0.length k0, .slice a1 l1.length k1, .slice a2 l2.length k2] ∧
      (l0.length ≤ k0 ∧ Kd.C d0 W a0 l0.length l0 ∧ l0.length ≤ maxLen ∧ ∀ x ∈ l0, g0 x) ∧ (l1.length ≤ k1 ∧ Kd.C d1 W a1 l1.length l1 ∧ l1.length ≤ maxLen ∧ ∀ x ∈ l1, g1 x) ∧ (l2.length ≤ k2 ∧ Kd.C d2 W a2 l2.length l2 ∧ l2.length ≤ maxLen ∧ ∀ x ∈ l2, g2 x) := by
  obtain ⟨cs, rfl, hsz⟩ := okWide_struct ht hv
  obtain ⟨fuel, hf⟩ := h
  obtain ⟨y0, y1, y2, n, _, hl, r0, r1, r2⟩ := Go.Deep.trod_struct3 ht hf
  rw [hc] at hl hsz
  obtain ⟨ls⟩ := cs
  match ls, hsz with
  | [u0, u1, u2], _ =>
    rw [o0, c0] at r0
    rw [o1, c1] at r1
    rw [o2, c2] at r2
    simp only [Value.cells, List.drop_zero, List.take_succ_cons, List.take_zero, List.drop_succ_cons] at r0 r1 r2
    obtain ⟨l0, ⟨a0, k0, q0, m0, n0⟩, w0⟩ := opens_slice t0 s0 h0 _ _ _ r0
    obtain ⟨l1, ⟨a1, k1, q1, m1, n1⟩, w1⟩ := opens_slice t1 s1 h1 _ _ _ r1
    obtain ⟨l2, ⟨a2, k2, q2, m2, n2⟩, w2⟩ := opens_slice t2 s2 h2 _ _ _ r2
    simp only [List.cons.injEq, and_true] at q0 q1 q2
    subst q0 q1 q2
    exact ⟨a0, l0, k0, a1, l1, k1, a2, l2, k2, rfl, ⟨m0, n0, w0⟩, ⟨m1, n1, w1⟩, ⟨m2, n2, w2⟩⟩
end
end Go.Proofs.YtekmiepdodaidaaDoor.X
end

section
/- What every row of this seat uses: what its condition gives, the door's heap, the listed tables, the arguments' kinds. -/
namespace Go.Proofs.YtekmiepdodaidaaDoor
open Go.ChangeShapes Go.WideShapes Go.ChangeAt Go.RowKit Go.Proofs.YtekmiepdodaidaaDoorW.PrintWords
theorem own : ownKnob Tryd.prog.godebug = none := by kernel_rfl
theorem laidOut : laidOutB Tryd.prog = true := by kernel_rfl
def laidTabs : List (String × DataW Unit) := [("math/bits.deBruijn32tab", Rows.laid_math_bits_deBruijn32tab), ("math/bits.deBruijn64tab", Rows.laid_math_bits_deBruijn64tab)]
theorem g64 : Tryd.prog.globalNamed "math/bits.deBruijn64tab" = some 1 := by kernel_rfl
theorem tab64 : Rows.laid_math_bits_deBruijn64tab (H := Unit) = Lib.tabData .u8 (Lib.deBruijn64tab.map fun n : Nat => (n : Int)) := rfl
set_option maxRecDepth 100000 in
theorem door_met (os : Os) (args : Array Value) : laidMetH Tryd.prog laidTabs ((World.doorLaid Tryd.prog 19 os).forCall (fun _ _ => 0) ⟨#[], args, []⟩).memory :=
  laidMetH_of_parts3 (fuel := 8) (laidMet_of_run' 8 (by kernel_rfl) (by kernel_rfl)) (by kernel_rfl) (by kernel_rfl)
set_option maxRecDepth 100000 in
theorem tab_of_laid {W : World} (h : laidMetH Tryd.prog laidTabs W) : X.Tab W := by
  rw [MakeChecks.laidMetH_plain _ _ _ (by kernel_rfl)] at h
  have h1 := laidMet.tail h
  rw [tab64] at h1
  have e : ∃ t n e, (Tryd.prog.globals[1]?).map (·.type) = some t ∧ Tryd.prog.underlying t = some (.array n e) ∧ Tryd.prog.underlying e = some (.int .u8) ∧ Tryd.prog.cellsOf e = 1 ∧ Tryd.prog.cellsOf t = n :=
    ⟨112, 64, 5, by kernel_rfl, by kernel_rfl, by kernel_rfl, by kernel_rfl, by kernel_rfl⟩
  obtain ⟨t, n, e, e1, e2, e3, e4, e5⟩ := e
  have h2 := Lib.tabIs_of_head g64 e1 e2 e3 e4 e5 h1
  have h3 : TabAt 1 Lib.deBruijn64tab W := by
    intro j hj
    have h4 := h2.cell g64 j (by simpa using hj)
    rw [h4]
    simp [List.getD, List.getElem?_map, List.getElem?_eq_getElem hj]
  refine ⟨h3, ?_⟩
  have h4 := h3 0 (by decide)
  unfold World.cell? at h4
  rcases Nat.lt_or_ge 1 W.heap.size with h | h
  · exact h
  · simp [Array.getElem?_eq_none h] at h4
section
variable {H : Type} {enc : TypeId × Value → H} {W : World} {base : Nat} {held : Bool}
theorem opens3 : X.Opens enc Tryd.prog W base held (Kd.int .i64) 3 (fun z => (Lit.int .i64 z).wf = true) := X.opens_int Tryd.underlying3
set_option maxRecDepth 100000 in
theorem opens22 : X.Opens enc Tryd.prog W base held (Kd.slice 3 (Kd.int .i64)) 22 (fun l => l.length ≤ maxLen ∧ ∀ z ∈ l, (Lit.int .i64 z).wf = true) := X.opens_slice Tryd.underlying22 (by kernel_rfl) opens3
set_option maxRecDepth 100000 in
set_option linter.all false in
theorem opens53 : X.Opens enc Tryd.prog W base held X.k53 53 (fun _ => True) := by
  intro fuel cs x h
  obtain ⟨xs, m, _, _, hl, hn, hx⟩ := DataW.trod_array Tryd.underlying53 h
  have c3 : Tryd.prog.cellsOf 3 = 1 := by kernel_rfl
  have c53 : Tryd.prog.cellsOf 53 = 2 := by kernel_rfl
  rw [c53] at hl
  match cs, hl with
  | [u0, u1], _ =>
    have h0 := hx 0 (by omega)
    have h1 := hx 1 (by omega)
    rw [c3] at h0 h1
    rw [List.getElem?_eq_getElem (by omega)] at h0 h1
    obtain ⟨a, e0, _, w0⟩ := DataW.trod_int Tryd.underlying3 h0
    obtain ⟨b, e1, _, w1⟩ := DataW.trod_int Tryd.underlying3 h1
    simp at e0 e1
    subst e0 e1
    exact ⟨⟨a, b⟩, X.k53_mk W ⟨a, b⟩, trivial⟩
set_option maxRecDepth 100000 in
theorem open_case {v : Value} {x : DataW H} {p : List MemPlace} (hv : Value.okWide Tryd.prog W .any base 25 v) (h : DataW.Trod enc Tryd.prog W 0 (fun _ => true) true 25 v x p) :
    ∃ (a0 : Option Addr) (l0 : List Int) (k0 : Nat) (a1 : Option Addr) (l1 : List (List Int)) (k1 : Nat) (a2 : Option Addr) (l2 : List Int) (k2 : Nat), v = .agg #[.slice a0 l0.length k0, .slice a1 l1.length k1, .slice a2 l2.length k2] ∧
      (l0.length ≤ k0 ∧ Kd.C (Kd.int .i64) W a0 l0.length l0 ∧ l0.length ≤ maxLen ∧ ∀ z ∈ l0, (Lit.int .i64 z).wf = true) ∧
      (l1.length ≤ k1 ∧ Kd.C (Kd.slice 3 (Kd.int .i64)) W a1 l1.length l1 ∧ l1.length ≤ maxLen ∧ ∀ l ∈ l1, l.length ≤ maxLen ∧ ∀ z ∈ l, (Lit.int .i64 z).wf = true) ∧
      (l2.length ≤ k2 ∧ Kd.C (Kd.int .i64) W a2 l2.length l2 ∧ l2.length ≤ maxLen ∧ ∀ z ∈ l2, (Lit.int .i64 z).wf = true) :=
  X.open_three Tryd.underlying25 (by kernel_rfl) rfl rfl rfl (by kernel_rfl) (by kernel_rfl) (by kernel_rfl) Tryd.underlying22 Tryd.underlying23 Tryd.underlying22 (by kernel_rfl) (by kernel_rfl) (by kernel_rfl) opens3 opens22 opens3 hv h
end
end Go.Proofs.YtekmiepdodaidaaDoor
end

section
/- Layer 7, plain: own, the reference's Case, ints, awake. -/
set_option linter.unusedVariables false
namespace Go.Proofs.YtekmiepdodaidaaDoor.X
open Go.RowKit Go.Proofs.YtekmiepdodaidaaDoorW.PrintWords Go.Proofs.YtekmiepdodaidaaDoorW.PrintLast Go.Proofs.YtekmiepdodaidaaDoorW.PrintMore

theorem w1 (i : Nat) (h : i < 1000000) : wrap64 ((i : Int) + 1) = ((i + 1 : Nat) : Int) := by unfold wrap64; omega
theorem rd_at (l : List Int) (i : Nat) (h : i < l.length) : rd l (i : Int) = l[i] := by simp [rd, List.getD_eq_getElem?_getD, List.getElem?_eq_getElem h]
theorem ints_l0 (x y : List Int) (hl : x.length = y.length) (hx : x.length < 100000) (m : Nat) : ∀ i, i + m = x.length → Ev (fun k => tickinglaw07_ints.l0 k x y (i : Int)) (decide (x.drop i = y.drop i)) := by
  induction m with
  | zero =>
    intro i hi
    obtain rfl : i = x.length := by omega
    refine Ev.step (f := fun _ => some _) (fun k => ?_) (Ev.now _)
    simp only [tickinglaw07_ints.l0]
    rw [if_neg (by omega), List.drop_length, hl, List.drop_length]; simp
  | succ m ih =>
    intro i hi
    have hix : i < x.length := by omega
    have hiy : i < y.length := by omega
    have dx : x.drop i = x[i] :: x.drop (i + 1) := List.drop_eq_getElem_cons hix
    have dy : y.drop i = y[i] :: y.drop (i + 1) := List.drop_eq_getElem_cons hiy
    by_cases he : x[i] = y[i]
    · have : decide (x.drop i = y.drop i) = decide (x.drop (i + 1) = y.drop (i + 1)) := by rw [dx, dy, he]; exact decide_eq_decide.2 ⟨fun h => (List.cons.inj h).2, fun h => by rw [h]⟩
      rw [this]
      refine Ev.step (fun k => ?_) (ih (i + 1) (by omega))
      show tickinglaw07_ints.l0 (k + 1) x y (i : Int) = _
      simp only [tickinglaw07_ints.l0]
      rw [if_pos (by omega), if_pos (by omega), if_pos (by omega), rd_at x i hix, rd_at y i hiy, if_pos he, w1 i (by omega)]
    · have : decide (x.drop i = y.drop i) = false := by rw [dx, dy]; exact decide_eq_false (fun h => he (List.cons.inj h).1)
      rw [this]
      refine Ev.step (f := fun _ => some _) (fun k => ?_) (Ev.now _)
      simp only [tickinglaw07_ints.l0]
      rw [if_pos (by omega), if_pos (by omega), if_pos (by omega), rd_at x i hix, rd_at y i hiy, if_neg he]
theorem ints_ev (x y : List Int) (hx : x.length < 100000) : Ev (fun k => tickinglaw07_ints.f k x y) (decide (x = y)) := by
  unfold tickinglaw07_ints.f
  by_cases h : x.length = y.length
  · refine Ev.congr (fun k => if_pos (by omega)) ?_
    have := ints_l0 x y h hx x.length 0 (by omega)
    simpa using this
  · refine Ev.congr (f := fun _ => some _) (fun k => if_neg (by omega)) ?_
    have : decide (x = y) = false := by simp; intro e; exact h (by rw [e])
    rw [this]; exact Ev.now _
def aw : List Int := [1, 1, 2]
def at_ : List (List Int) := [[1, 0, 0], [0, 1, 0]]
def ac : List Int := [1, 1]
set_option maxRecDepth 100000 in
theorem aw_best : (optRes (mfMean aw at_ ac) aw at_ ac).2 = (7, 0) := by decide +kernel
set_option maxRecDepth 100000 in
theorem aw_worst : (optRes (mfWorst aw at_ ac) aw at_ ac).2 = (2, 0) := by decide +kernel
set_option maxRecDepth 100000 in
theorem aw_cover : covRes aw at_ ac = ([0, 1], 0) := by decide +kernel
theorem alike_ev (a : List Int) (b : List (List Int)) (c : List Int) : Ev (fun k => tests_Alike.f k a b c) (if caseB a b c = true then (alikeL (onesOf b) a.length, 0) else ([], 2)) := by
  unfold tests_Alike.f
  refine Ev.bind (newTrial_all a b c) ?_
  unfold trialR
  by_cases h : caseB a b c = true
  · rw [if_pos h, if_pos h]
    have h10 : a.length ≤ 10 := by unfold caseB at h; simp at h; omega
    simp only [if_true]
    unfold tests_trial_alike.f
    rw [if_pos h10]
    exact Ev.now _
  · rw [if_neg h, if_neg h]
    exact Ev.now _
set_option maxRecDepth 100000 in
theorem aw_alike : (if caseB [1, 1] [] [] = true then (alikeL (onesOf []) [(1 : Int), 1].length, (0 : Int)) else ([], 2)) = ([(⟨0, 1⟩ : S53)], (0 : Int)) := by kernel_rfl
theorem j0_ev (v : Bool) : Ev (fun k => tickinglaw07_awake.j0 k v) (!v) := by
  refine Ev.step (f := fun _ => some _) (fun k => ?_) (Ev.now _)
  cases v <;> rfl
/-- The program is awake. -/
theorem awake_ev : Ev (fun k => tickinglaw07_awake.f k) true := by
  unfold tickinglaw07_awake.f
  simp only [Option.bind_some]
  obtain ⟨p, hp⟩ : ∃ p, tests_Best.f [1, 1, 2] [[1, 0, 0], [0, 1, 0]] [1, 1] = some (p, 7, 0) := ⟨_, by unfold tests_Best.f; rw [← aw_best]; rfl⟩
  obtain ⟨q, hq⟩ : ∃ q, tests_Worst.f [1, 1, 2] [[1, 0, 0], [0, 1, 0]] [1, 1] = some (q, 2, 0) := ⟨_, by unfold tests_Worst.f; rw [← aw_worst]; rfl⟩
  have hc : tests_Cover.f [1, 1, 2] [[1, 0, 0], [0, 1, 0]] [1, 1] = some ([0, 1], 0) := by unfold tests_Cover.f; rw [← aw_cover]; rfl
  rw [hp, hq, hc]
  simp only [Option.bind_some]
  have ha := alike_ev [1, 1] [] []
  rw [aw_alike] at ha
  refine Ev.bind ha ?_
  have hi := ints_ev [0, 1] [0, 1] (by decide)
  have e : (decide ([(0 : Int), 1] = [0, 1])) = true := by decide
  rw [e] at hi
  simp only [List.length_cons, List.length_nil]
  refine Ev.congr (f := fun k => (tickinglaw07_ints.f k [0, 1] [0, 1]).bind fun t => tickinglaw07_awake.j0 k (!t)) (fun k => ?_) ?_
  · rfl
  · exact Ev.bind hi (j0_ev false)
end Go.Proofs.YtekmiepdodaidaaDoor.X
end

section
/- Layer 7, plain: own copies, and the reference's Case. -/
set_option linter.unusedVariables false
namespace Go.Proofs.YtekmiepdodaidaaDoor.X
open Go.RowKit Go.Proofs.YtekmiepdodaidaaDoorW.PrintWords Go.Proofs.YtekmiepdodaidaaDoorW.PrintLast Go.Proofs.YtekmiepdodaidaaDoorW.PrintMore

def cut14 (l : List Int) : List Int := l.take 14
def cutB (b : List (List Int)) : List (List Int) := (b.take 14).map cut14
theorem cut14_len (l : List Int) : (cut14 l).length ≤ 14 := by unfold cut14; rw [List.length_take]; omega
theorem cutB_len (b : List (List Int)) : (cutB b).length ≤ 14 := by unfold cutB; rw [List.length_map, List.length_take]; omega
theorem list_f (l : List Int) : tickinglaw07_list.f l = some (cut14 l) := by
  have hm : mn (l.length : Int) 14 = ((min l.length 14 : Nat) : Int) := by unfold mn; split <;> omega
  have e : l.take (min l.length 14) = l.take 14 := by
    by_cases h : l.length ≤ 14
    · rw [List.take_of_length_le (show l.length ≤ min l.length 14 by omega), List.take_of_length_le h]
    · rw [show min l.length 14 = 14 by omega]
  unfold tickinglaw07_list.f cut14
  rw [hm, if_pos (by omega), if_pos (by omega), Int.toNat_natCast, e, if_pos (by rw [List.length_take]; simp; omega), List.nil_append]
theorem own_l0 (a : List Int) (b : List (List Int)) (c : List Int) (x y : List Int) (m : Nat) : ∀ (i : Nat) (acc : List (List Int)), i + m = min b.length 14 → acc.length = i →
    Ev (fun k => tickinglaw07_own.l0 k (i : Int) a b c x acc y) (x, acc ++ ((b.take 14).drop i).map cut14, y) := by
  induction m with
  | zero =>
    intro i acc hi ha
    refine Ev.step (f := fun _ => some _) (fun k => ?_) (Ev.now _)
    simp only [tickinglaw07_own.l0]
    have hd : (b.take 14).drop i = [] := List.drop_eq_nil_of_le (by rw [List.length_take]; omega)
    rw [hd]
    by_cases h : (i : Int) < (b.length : Int)
    · rw [if_pos h, if_neg (by omega)]; simp
    · rw [if_neg h]; simp
  | succ m ih =>
    intro i acc hi ha
    have hib : i < b.length := by omega
    have hlt : i < (b.take 14).length := by rw [List.length_take]; omega
    have hd : (b.take 14).drop i = (b.take 14)[i] :: (b.take 14).drop (i + 1) := List.drop_eq_getElem_cons hlt
    have hg : (b.take 14)[i] = b[i] := List.getElem_take
    have h2 := ih (i + 1) (acc ++ [cut14 b[i]]) (by omega) (by simp [ha])
    have e : (acc ++ [cut14 b[i]]) ++ ((b.take 14).drop (i + 1)).map cut14 = acc ++ ((b.take 14).drop i).map cut14 := by rw [hd, hg, List.map_cons, List.append_assoc]; rfl
    rw [e] at h2
    refine Ev.step (fun k => ?_) h2
    show tickinglaw07_own.l0 (k + 1) (i : Int) a b c x acc y = _
    simp only [tickinglaw07_own.l0]
    rw [if_pos (by omega), if_pos (by omega), if_pos (by omega), rd_L1_at b i hib, list_f]
    simp only [Option.bind_some]
    rw [if_pos (by omega), w1 i (by omega)]
theorem own_ev (a : List Int) (b : List (List Int)) (c : List Int) : Ev (fun k => tickinglaw07_own.f k a b c) (cut14 a, cutB b, cut14 c) := by
  unfold tickinglaw07_own.f
  rw [list_f, list_f]
  simp only [Option.bind_some]
  have := own_l0 a b c (cut14 a) (cut14 c) (min b.length 14) 0 [] (by omega) rfl
  simpa [cutB] using this
section
variable (a : List Int) (b : List (List Int)) (c : List Int)
theorem case_l2 (n i : Nat) (hi : i < b.length) (hb : b.length ≤ 14) (hn : b[i].length = n) (hn2 : n ≤ 14) (R : Bool) (hk : Ev (fun k => tickingref07_Case.l1 k (n : Int) ((i + 1 : Nat) : Int) a b c) R) (m : Nat) : ∀ j, j + m = n →
    Ev (fun k => tickingref07_Case.l2 k (n : Int) (i : Int) (j : Int) a b c) ((b[i].drop j).all (inB 0 1) && R) := by
  induction m with
  | zero =>
    intro j hj
    obtain rfl : j = n := by omega
    have hd : b[i].drop j = [] := List.drop_eq_nil_of_le (by omega)
    rw [hd]
    refine Ev.step (fun k => ?_) hk
    show tickingref07_Case.l2 (k + 1) (j : Int) (i : Int) (j : Int) a b c = _
    simp only [tickingref07_Case.l2]
    rw [if_neg (by omega), w1 i (by omega)]
  | succ m ih =>
    intro j hj
    have hjl : j < b[i].length := by omega
    have hd : b[i].drop j = b[i][j] :: b[i].drop (j + 1) := List.drop_eq_getElem_cons hjl
    rw [hd, List.all_cons]
    by_cases h : inB 0 1 b[i][j] = true
    · rw [h, Bool.true_and]
      have h' : 0 ≤ b[i][j] ∧ b[i][j] ≤ 1 := by unfold inB at h; simpa using h
      refine Ev.step (fun k => ?_) (ih (j + 1) (by omega))
      show tickingref07_Case.l2 (k + 1) (n : Int) (i : Int) (j : Int) a b c = _
      simp only [tickingref07_Case.l2]
      rw [if_pos (by omega), if_pos (by omega), if_pos (by omega), if_pos (by omega), rd_L1_at b i hi, if_pos (by omega), rd_at _ j hjl, if_neg (by omega), if_neg (by omega), w1 j (by omega)]
    · have hf : inB 0 1 b[i][j] = false := by simpa using h
      rw [hf, Bool.false_and, Bool.false_and]
      have h' : ¬ (0 ≤ b[i][j] ∧ b[i][j] ≤ 1) := by unfold inB at hf; intro hh; simp [hh] at hf
      refine Ev.step (f := fun _ => some _) (fun k => ?_) (Ev.now _)
      simp only [tickingref07_Case.l2]
      rw [if_pos (by omega), if_pos (by omega), if_pos (by omega), if_pos (by omega), rd_L1_at b i hi, if_pos (by omega), rd_at _ j hjl]
      by_cases h0 : b[i][j] < 0
      · rw [if_pos h0]
      · rw [if_neg h0, if_pos (by omega)]
theorem case_l1 (n : Nat) (hn : n ≤ 14) (hb : b.length ≤ 14) (hc : c.length = b.length) (m : Nat) : ∀ i, i + m = b.length → Ev (fun k => tickingref07_Case.l1 k (n : Int) (i : Int) a b c) ((b.drop i).all (rowOkB n) && (c.drop i).all (inB 1 100)) := by
  induction m with
  | zero =>
    intro i hi
    obtain rfl : i = b.length := by omega
    refine Ev.step (f := fun _ => some _) (fun k => ?_) (Ev.now _)
    simp only [tickingref07_Case.l1]
    rw [if_neg (by omega), List.drop_length, ← hc, List.drop_length]; rfl
  | succ m ih =>
    intro i hi
    have hib : i < b.length := by omega
    have hic : i < c.length := by omega
    have db : b.drop i = b[i] :: b.drop (i + 1) := List.drop_eq_getElem_cons hib
    have dc : c.drop i = c[i] :: c.drop (i + 1) := List.drop_eq_getElem_cons hic
    rw [db, dc, List.all_cons, List.all_cons]
    have bad : Ev (fun k => tickingref07_Case.j3 k (n : Int) (i : Int) true a b c) false := by
      refine Ev.step (f := fun _ => some _) (fun k => ?_) (Ev.now _)
      simp only [tickingref07_Case.j3, if_true]
    by_cases hlen : b[i].length = n
    · by_cases hci : inB 1 100 c[i] = true
      · have hci' : 1 ≤ c[i] ∧ c[i] ≤ 100 := by unfold inB at hci; simpa using hci
        have h2 := case_l2 a b c n i hib hb hlen hn _ (ih (i + 1) (by omega)) n 0 (by omega)
        rw [List.drop_zero] at h2
        have hr : (rowOkB n b[i] && (b.drop (i + 1)).all (rowOkB n) && (inB 1 100 c[i] && (c.drop (i + 1)).all (inB 1 100))) = (b[i].all (inB 0 1) && ((b.drop (i + 1)).all (rowOkB n) && (c.drop (i + 1)).all (inB 1 100))) := by
          rw [hci]; unfold rowOkB; rw [hlen]; simp [Bool.and_assoc]
        rw [hr]
        have h3 : Ev (fun k => tickingref07_Case.j3 k (n : Int) (i : Int) false a b c) (b[i].all (inB 0 1) && ((b.drop (i + 1)).all (rowOkB n) && (c.drop (i + 1)).all (inB 1 100))) := by
          refine Ev.step (fun k => ?_) h2
          show tickingref07_Case.j3 (k + 1) (n : Int) (i : Int) false a b c = _
          simp only [tickingref07_Case.j3]; rw [if_neg (by decide)]; rfl
        refine Ev.step (fun k => ?_) h3
        show tickingref07_Case.l1 (k + 1) (n : Int) (i : Int) a b c = _
        simp only [tickingref07_Case.l1]
        rw [if_pos (by omega), if_pos (by omega), rd_L1_at b i hib, if_pos (by omega), if_pos (by omega), rd_at c i hic, if_neg (by omega), decide_eq_false (by omega)]
      · have hcf : inB 1 100 c[i] = false := by simpa using hci
        rw [hcf, Bool.false_and, Bool.and_false]
        have hci' : ¬ (1 ≤ c[i] ∧ c[i] ≤ 100) := by unfold inB at hcf; intro hh; simp [hh] at hcf
        refine Ev.step (fun k => ?_) bad
        show tickingref07_Case.l1 (k + 1) (n : Int) (i : Int) a b c = _
        simp only [tickingref07_Case.l1]
        rw [if_pos (by omega), if_pos (by omega), rd_L1_at b i hib, if_pos (by omega), if_pos (by omega), rd_at c i hic]
        by_cases h0 : c[i] < 1
        · rw [if_pos h0]
        · rw [if_neg h0, decide_eq_true (by omega)]
    · have hr : rowOkB n b[i] = false := by unfold rowOkB; simp [hlen]
      rw [hr, Bool.false_and, Bool.false_and]
      refine Ev.step (fun k => ?_) bad
      show tickingref07_Case.l1 (k + 1) (n : Int) (i : Int) a b c = _
      simp only [tickingref07_Case.l1]
      rw [if_pos (by omega), if_pos (by omega), rd_L1_at b i hib, if_neg (by omega)]
theorem case_l0 (ha : a.length ≤ 14) (R : Bool) (hk : Ev (fun k => tickingref07_Case.l1 k (a.length : Int) 0 a b c) R) (m : Nat) : ∀ i, i + m = a.length → Ev (fun k => tickingref07_Case.l0 k (a.length : Int) (i : Int) a b c) ((a.drop i).all (inB 1 1000) && R) := by
  induction m with
  | zero =>
    intro i hi
    obtain rfl : i = a.length := by omega
    rw [List.drop_length]
    refine Ev.step (fun k => ?_) hk
    show tickingref07_Case.l0 (k + 1) (a.length : Int) (a.length : Int) a b c = _
    simp only [tickingref07_Case.l0]
    rw [if_neg (by omega)]
  | succ m ih =>
    intro i hi
    have hia : i < a.length := by omega
    have da : a.drop i = a[i] :: a.drop (i + 1) := List.drop_eq_getElem_cons hia
    rw [da, List.all_cons]
    by_cases h : inB 1 1000 a[i] = true
    · have h' : 1 ≤ a[i] ∧ a[i] ≤ 1000 := by unfold inB at h; simpa using h
      rw [h, Bool.true_and]
      refine Ev.step (fun k => ?_) (ih (i + 1) (by omega))
      show tickingref07_Case.l0 (k + 1) (a.length : Int) (i : Int) a b c = _
      simp only [tickingref07_Case.l0]
      rw [if_pos (by omega), if_pos (by omega), if_pos (by omega), rd_at a i hia, if_neg (by omega), if_neg (by omega), w1 i (by omega)]
    · have hf : inB 1 1000 a[i] = false := by simpa using h
      have h' : ¬ (1 ≤ a[i] ∧ a[i] ≤ 1000) := by unfold inB at hf; intro hh; simp [hh] at hf
      rw [hf, Bool.false_and, Bool.false_and]
      refine Ev.step (f := fun _ => some _) (fun k => ?_) (Ev.now _)
      simp only [tickingref07_Case.l0]
      rw [if_pos (by omega), if_pos (by omega), if_pos (by omega), rd_at a i hia]
      by_cases h0 : a[i] < 1
      · rw [if_pos h0]
      · rw [if_neg h0, if_pos (by omega)]
theorem case_ev (ha : a.length ≤ 14) (hb : b.length ≤ 14) (hc : c.length ≤ 14) : Ev (fun k => tickingref07_Case.f k a b c) (caseB a b c) := by
  have bad : Ev (fun k => tickingref07_Case.j0 k (a.length : Int) true a b c) false := by
    refine Ev.step (f := fun _ => some _) (fun k => ?_) (Ev.now _)
    simp only [tickingref07_Case.j0, if_true]
  unfold tickingref07_Case.f
  by_cases h1 : 1 ≤ a.length
  · refine Ev.congr (fun k => if_neg (by omega)) ?_
    by_cases h2 : a.length ≤ 10
    · refine Ev.congr (fun k => if_neg (by omega)) ?_
      by_cases h3 : b.length ≤ 12
      · refine Ev.congr (fun k => if_neg (by omega)) ?_
        by_cases h4 : c.length = b.length
        · have e : ((c.length : Int) != (b.length : Int)) = false := by simp [h4]
          rw [e]
          have hl := case_l0 a b c ha _ (case_l1 a b c a.length ha hb h4 b.length 0 (by omega)) a.length 0 (by omega)
          simp only [List.drop_zero] at hl
          have hr : caseB a b c = (a.all (inB 1 1000) && (b.all (rowOkB a.length) && c.all (inB 1 100))) := by
            unfold caseB
            simp only [h1, h2, h3, h4, decide_true, Bool.true_and, beq_self_eq_true]
            cases a.all (inB 1 1000) <;> cases b.all (rowOkB a.length) <;> cases c.all (inB 1 100) <;> rfl
          rw [hr]
          refine Ev.step (fun k => ?_) hl
          show tickingref07_Case.j0 (k + 1) (a.length : Int) false a b c = _
          simp only [tickingref07_Case.j0]; rw [if_neg (by decide)]; rfl
        · have e : ((c.length : Int) != (b.length : Int)) = true := by simp; omega
          have hcf : caseB a b c = false := by unfold caseB; simp [h4]
          rw [e, hcf]; exact bad
      · refine Ev.congr (fun k => if_pos (by omega)) ?_
        have hcf : caseB a b c = false := by unfold caseB; simp [h3]
        rw [hcf]; exact bad
    · refine Ev.congr (fun k => if_pos (by omega)) ?_
      have hcf : caseB a b c = false := by unfold caseB; simp [h2]
      rw [hcf]; exact bad
  · refine Ev.congr (fun k => if_pos (by omega)) ?_
    have hcf : caseB a b c = false := by unfold caseB; simp [h1]
    rw [hcf]; exact bad
end
end Go.Proofs.YtekmiepdodaidaaDoor.X
end

section
/- Layer 7, plain: TestsLeft. -/
set_option linter.unusedVariables false
namespace Go.Proofs.YtekmiepdodaidaaDoor.X
open Go.RowKit Go.Proofs.YtekmiepdodaidaaDoorW.PrintWords Go.Proofs.YtekmiepdodaidaaDoorW.PrintLast Go.Proofs.YtekmiepdodaidaaDoorW.PrintMore

/-- Is a pair a result of a test? -/
def resOk (b : List (List Int)) (p : S53) : Bool := decide (0 ≤ p.f0) && decide (p.f0 < b.length) && inB 0 1 p.f1
def fits1 (b : List (List Int)) (i : Nat) (p : S53) : Bool := rd (rd_L1 b p.f0) (i : Int) == p.f1
/-- The faults from i on, m of them, that have all results. -/
def leftL (b : List (List Int)) (l : List S53) : Nat → Nat → List Int
  | _, 0 => []
  | i, m + 1 => (if l.all (fits1 b i) = true then [(i : Int)] else []) ++ leftL b l (i + 1) m
theorem rd_T53_at (l : List S53) (i : Nat) (h : i < l.length) : rd_T53 l (i : Int) = l[i] := by simp [rd_T53, List.getD_eq_getElem?_getD, List.getElem?_eq_getElem h]
theorem leftL_len (b : List (List Int)) (l : List S53) : ∀ m i, (leftL b l i m).length ≤ m
  | 0, _ => by simp [leftL]
  | m + 1, i => by
    have := leftL_len b l m (i + 1)
    unfold leftL; rw [List.length_append]; split <;> simp <;> omega
section
variable {a : List Int} {b : List (List Int)} {c : List Int} (hc : CaseIs a b c)
include hc
theorem row_is (k : Nat) (hk : k < b.length) : b[k].length = a.length ∧ ∀ x ∈ b[k], x = 0 ∨ x = 1 := by
  have h1 := List.all_eq_true.1 hc.rows b[k] (List.getElem_mem hk)
  unfold rowOkB at h1
  simp only [Bool.and_eq_true, beq_iff_eq] at h1
  exact ⟨h1.1, fun x hx => by have := (all_inB _ _ _).1 h1.2 x hx; omega⟩
/-- The last loop: the faults of the set. -/
theorem left_l1 (v : Nat) (hv : v < 1024) (l : List S53) (hbit : ∀ i, i < a.length → v.testBit i = l.all (fits1 b i)) (m : Nat) : ∀ (i : Nat) (acc : List Int), i + m = a.length → acc.length ≤ i →
    Ev (fun k => tests_Left.l1 k (v : Int) acc (a.length : Int) (i : Int)) (acc ++ leftL b l i m, 0) := by
  have h10 := hc.a10
  induction m with
  | zero =>
    intro i acc hi ha
    refine Ev.step (f := fun _ => some _) (fun k => ?_) (Ev.now _)
    simp only [tests_Left.l1, leftL]
    rw [if_neg (by omega), List.append_nil]
  | succ m ih =>
    intro i acc hi ha
    have hhas : tests_faults_has.f (v : Int) (i : Int) = some (l.all (fits1 b i)) := by
      rw [← hbit i (by omega), ← hasB_nat v i hv]
      unfold tests_faults_has.f hasB
      rw [if_pos (by omega)]
    by_cases h : l.all (fits1 b i) = true
    · have h2 := ih (i + 1) (acc ++ [(i : Int)]) (by omega) (by simp; omega)
      have e : (acc ++ [(i : Int)]) ++ leftL b l (i + 1) m = acc ++ leftL b l i (m + 1) := by
        show _ = acc ++ ((if l.all (fits1 b i) = true then [(i : Int)] else []) ++ leftL b l (i + 1) m)
        rw [if_pos h, List.append_assoc]
      rw [e] at h2
      refine Ev.step (fun k => ?_) h2
      show tests_Left.l1 (k + 1) (v : Int) acc (a.length : Int) (i : Int) = _
      simp only [tests_Left.l1]
      rw [if_pos (by omega), hhas, h]
      simp only [Option.bind_some, if_true]
      rw [if_pos (by omega), w1 i (by omega)]
    · have h2 := ih (i + 1) acc (by omega) (by omega)
      have e : acc ++ leftL b l (i + 1) m = acc ++ leftL b l i (m + 1) := by
        show _ = acc ++ ((if l.all (fits1 b i) = true then [(i : Int)] else []) ++ leftL b l (i + 1) m)
        rw [if_neg h, List.nil_append]
      rw [e] at h2
      refine Ev.step (fun k => ?_) h2
      show tests_Left.l1 (k + 1) (v : Int) acc (a.length : Int) (i : Int) = _
      simp only [tests_Left.l1]
      rw [if_pos (by omega), hhas]
      simp only [Option.bind_some]
      rw [if_neg h, w1 i (by omega)]
omit hc in
theorem ones_at (k : Nat) (hk : k < b.length) : rd (onesOf b) (k : Int) = ((rowV b[k] : Nat) : Int) := by
  rw [rd_at (onesOf b) k (by rw [onesOf_len]; exact hk)]; simp [onesOf]
theorem row_fits (k i : Nat) (hk : k < b.length) (hi : i < a.length) (p : S53) (h0 : p.f0 = (k : Int)) : ((p.f1 = 1 → fits1 b i p = (rowV b[k]).testBit i) ∧ (p.f1 = 0 → fits1 b i p = !(rowV b[k]).testBit i)) := by
  obtain ⟨hl, hb⟩ := row_is hc k hk
  have hil : i < b[k].length := by omega
  have hr : rd (rd_L1 b p.f0) (i : Int) = b[k][i] := by rw [h0, rd_L1_at b k hk, rd_at _ i hil]
  have ht : (rowV b[k]).testBit i = decide (b[k][i] = 1) := by rw [rowV_bit _ hb, List.getD_eq_getElem?_getD, List.getElem?_eq_getElem hil]; rfl
  have h01 := hb b[k][i] (List.getElem_mem hil)
  unfold fits1
  rw [hr, ht]
  constructor
  · intro h1; rw [h1]; rcases h01 with h | h <;> simp [h]
  · intro h1; rw [h1]; rcases h01 with h | h <;> simp [h]
/-- The loop over the results. -/
theorem left_l0 (l : List S53) (hl : l.length ≤ 100) (al : Int) (m : Nat) : ∀ (j v : Nat), j + m = l.length → v < 1024 → (∀ i, i < a.length → v.testBit i = (l.take j).all (fits1 b i)) →
    Ev (fun k => tests_Left.l0 k (v : Int) l (l.length : Int) (j : Int) a b c (onesOf b) al) (if (l.drop j).all (resOk b) = true then (leftL b l 0 a.length, 0) else ([], 2)) := by
  have h12 := hc.b12
  induction m with
  | zero =>
    intro j v hj hv hbit
    obtain rfl : j = l.length := by omega
    rw [List.take_length] at hbit
    rw [List.drop_length, List.all_nil, if_pos rfl]
    have h1 := left_l1 hc v hv l hbit a.length 0 [] (by omega) (by simp)
    rw [List.nil_append] at h1
    refine Ev.step (fun k => ?_) h1
    show tests_Left.l0 (k + 1) (v : Int) l (l.length : Int) (l.length : Int) a b c (onesOf b) al = _
    simp only [tests_Left.l0]
    rw [if_neg (by omega)]
    rfl
  | succ m ih =>
    intro j v hj hv hbit
    have hjl : j < l.length := by omega
    have hd : l.drop j = l[j] :: l.drop (j + 1) := List.drop_eq_getElem_cons hjl
    have ht : l.take (j + 1) = l.take j ++ [l[j]] := List.take_succ_eq_append_getElem hjl
    rw [hd, List.all_cons]
    have bad : ∀ v' x y, Ev (fun k => tests_Left.j2 k v' l (l.length : Int) (j : Int) true a b c (onesOf b) al x y) (([] : List Int), (2 : Int)) := by
      intro v' x y
      refine Ev.step (f := fun _ => some _) (fun k => ?_) (Ev.now _)
      simp only [tests_Left.j2, if_true]
    have hwn : wrap64 (((onesOf b).length : Int) - 1) = (b.length : Int) - 1 := by rw [onesOf_len]; unfold wrap64; omega
    by_cases h0 : 0 ≤ l[j].f0 ∧ l[j].f0 < b.length
    · by_cases h1 : 0 ≤ l[j].f1 ∧ l[j].f1 ≤ 1
      · have hok : resOk b l[j] = true := by unfold resOk inB; simp; omega
        rw [hok, Bool.true_and]
        obtain ⟨kk, hkk⟩ : ∃ kk : Nat, l[j].f0 = kk := ⟨l[j].f0.toNat, by omega⟩
        have hkb : kk < b.length := by omega
        obtain ⟨hrl, hrb⟩ := row_is hc kk hkb
        have hx : rowV b[kk] < 1024 := by
          have e1 := rowV_lt _ hrb
          have e2 : 2 ^ b[kk].length ≤ 2 ^ 10 := Nat.pow_le_pow_right (by omega) (by have := hc.a10; omega)
          omega
        have hset : SetB ((v : Nat) : Int) := by unfold SetB; omega
        have hsetx : SetB ((rowV b[kk] : Nat) : Int) := by unfold SetB; omega
        have main : ∀ v2 : Nat, v2 < 1024 → (∀ i, i < a.length → v2.testBit i = (v.testBit i && fits1 b i l[j])) → Ev (fun k => tests_Left.l0 k (v2 : Int) l (l.length : Int) ((j + 1 : Nat) : Int) a b c (onesOf b) al) (if (l.drop (j + 1)).all (resOk b) = true then (leftL b l 0 a.length, 0) else ([], 2)) := by
          intro v2 hv2 hb2
          refine ih (j + 1) v2 (by omega) hv2 (fun i hi => ?_)
          rw [hb2 i hi, hbit i hi, ht, List.all_append]
          simp
        have hj2 : Ev (fun k => tests_Left.j2 k (v : Int) l (l.length : Int) (j : Int) false a b c (onesOf b) al l[j].f0 l[j].f1) (if (l.drop (j + 1)).all (resOk b) = true then (leftL b l 0 a.length, 0) else ([], 2)) := by
          by_cases h11 : l[j].f1 = 1
          · have e1 : Go.bits .and .u64 (v : Int) (rd (onesOf b) (kk : Int)) = ((v &&& rowV b[kk] : Nat) : Int) := by rw [ones_at kk hkb]; exact bAnd_nat (s := (v : Int)) (x := ((rowV b[kk] : Nat) : Int)) hset hsetx
            refine Ev.step (fun k => ?_) (main (v &&& rowV b[kk]) (Nat.lt_of_le_of_lt Nat.and_le_left hv) (fun i hi => by rw [Nat.testBit_and, (row_fits hc kk i hkb hi _ hkk).1 h11]))
            show tests_Left.j2 (k + 1) (v : Int) l (l.length : Int) (j : Int) false a b c (onesOf b) al l[j].f0 l[j].f1 = _
            simp only [tests_Left.j2]
            rw [if_neg (by decide), if_pos h11, hkk, if_pos (by omega), if_pos (by rw [onesOf_len]; omega), e1, w1 j (by omega)]
          · have h10 : l[j].f1 = 0 := by omega
            have e1 : Go.bits .andNot .u64 (v : Int) (rd (onesOf b) (kk : Int)) = ((v &&& (18446744073709551615 - rowV b[kk]) : Nat) : Int) := by rw [ones_at kk hkb]; exact bSub_nat hv hx
            refine Ev.step (fun k => ?_) (main (v &&& (18446744073709551615 - rowV b[kk])) (Nat.lt_of_le_of_lt Nat.and_le_left hv) (fun i hi => by rw [Nat.testBit_and, not_bit hx (by have := hc.a10; omega), (row_fits hc kk i hkb hi _ hkk).2 h10]))
            show tests_Left.j2 (k + 1) (v : Int) l (l.length : Int) (j : Int) false a b c (onesOf b) al l[j].f0 l[j].f1 = _
            simp only [tests_Left.j2]
            rw [if_neg (by decide), if_neg h11, hkk, if_pos (by omega), if_pos (by rw [onesOf_len]; omega), e1, w1 j (by omega)]
        refine Ev.step (fun k => ?_) hj2
        show tests_Left.l0 (k + 1) (v : Int) l (l.length : Int) (j : Int) a b c (onesOf b) al = _
        simp only [tests_Left.l0]
        rw [if_pos (by omega), if_pos (by omega), if_pos (by omega), rd_T53_at l j hjl, hwn, within_yes _ _ _ (by omega) (by omega)]
        simp only [Option.bind_some, if_true]
        rw [within_yes _ _ _ h1.1 h1.2]
        rfl
      · have hok : resOk b l[j] = false := by unfold resOk inB; simp; omega
        rw [hok, Bool.false_and, if_neg (by decide)]
        refine Ev.step (fun k => ?_) (bad (v : Int) l[j].f0 l[j].f1)
        show tests_Left.l0 (k + 1) (v : Int) l (l.length : Int) (j : Int) a b c (onesOf b) al = _
        simp only [tests_Left.l0]
        rw [if_pos (by omega), if_pos (by omega), if_pos (by omega), rd_T53_at l j hjl, hwn, within_yes _ _ _ (by omega) (by omega)]
        simp only [Option.bind_some, if_true]
        rw [within_no _ _ _ h1]
        rfl
    · have hok : resOk b l[j] = false := by unfold resOk; simp; omega
      rw [hok, Bool.false_and, if_neg (by decide)]
      refine Ev.step (fun k => ?_) (bad (v : Int) l[j].f0 l[j].f1)
      show tests_Left.l0 (k + 1) (v : Int) l (l.length : Int) (j : Int) a b c (onesOf b) al = _
      simp only [tests_Left.l0]
      rw [if_pos (by omega), if_pos (by omega), if_pos (by omega), rd_T53_at l j hjl, hwn, within_no _ _ _ (by omega)]
      rfl
/-- The reference's loops. -/
theorem ref_l2 (l : List S53) (hl : l.length ≤ 100) (hok : ∀ p ∈ l, resOk b p = true) (i : Nat) (hi : i < a.length) (acc : List Int) (ha : acc.length ≤ i) (R : List Int × Bool)
    (hk : Ev (fun k => tickingref07_Left.l1 k l (acc ++ (if l.all (fits1 b i) = true then [(i : Int)] else [])) ((i + 1 : Nat) : Int) a b c) R) (m : Nat) : ∀ j, j + m = l.length →
    Ev (fun k => tickingref07_Left.l2 k l acc (i : Int) ((l.take j).all (fits1 b i)) (j : Int) a b c) R := by
  have h10 := hc.a10
  induction m with
  | zero =>
    intro j hj
    obtain rfl : j = l.length := by omega
    rw [List.take_length]
    refine Ev.step (fun k => ?_) hk
    show tickingref07_Left.l2 (k + 1) l acc (i : Int) (l.all (fits1 b i)) (l.length : Int) a b c = _
    simp only [tickingref07_Left.l2]
    rw [if_neg (by omega)]
    by_cases h : l.all (fits1 b i) = true
    · rw [if_pos h, if_pos (by omega), if_pos h, w1 i (by omega)]
    · rw [if_neg h, if_neg h, List.append_nil, w1 i (by omega)]
  | succ m ih =>
    intro j hj
    have hjl : j < l.length := by omega
    have ht : l.take (j + 1) = l.take j ++ [l[j]] := List.take_succ_eq_append_getElem hjl
    have hta : (l.take (j + 1)).all (fits1 b i) = ((l.take j).all (fits1 b i) && fits1 b i l[j]) := by rw [ht, List.all_append]; simp
    have h2 := ih (j + 1) (by omega)
    rw [hta] at h2
    have hp := hok l[j] (List.getElem_mem hjl)
    unfold resOk at hp
    simp only [Bool.and_eq_true, decide_eq_true_eq] at hp
    obtain ⟨kk, hkk⟩ : ∃ kk : Nat, l[j].f0 = kk := ⟨l[j].f0.toNat, by omega⟩
    have hkb : kk < b.length := by omega
    obtain ⟨hrl, hrb⟩ := row_is hc kk hkb
    refine Ev.step (fun k => ?_) h2
    show tickingref07_Left.l2 (k + 1) l acc (i : Int) ((l.take j).all (fits1 b i)) (j : Int) a b c = _
    simp only [tickingref07_Left.l2]
    rw [if_pos (by omega)]
    by_cases h : (l.take j).all (fits1 b i) = true
    · rw [if_pos h, if_pos (by omega), rd_T53_at l j hjl, hkk, if_pos (by omega), if_pos (by omega), if_pos (by omega), rd_L1_at b kk hkb, if_pos (by omega), w1 j (by omega), h, Bool.true_and]
      have : fits1 b i l[j] = (rd b[kk] (i : Int) == l[j].f1) := by unfold fits1; rw [hkk, rd_L1_at b kk hkb]
      rw [this]
    · rw [if_neg h, w1 j (by omega)]
      have hf : (l.take j).all (fits1 b i) = false := by simpa using h
      rw [hf, Bool.false_and]
theorem ref_l1 (l : List S53) (hl : l.length ≤ 100) (hok : ∀ p ∈ l, resOk b p = true) (m : Nat) : ∀ (i : Nat) (acc : List Int), i + m = a.length → acc.length ≤ i →
    Ev (fun k => tickingref07_Left.l1 k l acc (i : Int) a b c) (acc ++ leftL b l i m, true) := by
  have h10 := hc.a10
  induction m with
  | zero =>
    intro i acc hi ha
    refine Ev.step (f := fun _ => some _) (fun k => ?_) (Ev.now _)
    simp only [tickingref07_Left.l1, leftL]
    rw [if_neg (by omega), List.append_nil]
  | succ m ih =>
    intro i acc hi ha
    have h2 := ih (i + 1) (acc ++ (if l.all (fits1 b i) = true then [(i : Int)] else [])) (by omega) (by rw [List.length_append]; split <;> simp <;> omega)
    rw [List.append_assoc] at h2
    have h3 := ref_l2 hc l hl hok i (by omega) acc ha _ h2 l.length 0 (by omega)
    rw [List.take_zero, List.all_nil] at h3
    refine Ev.step (fun k => ?_) h3
    show tickingref07_Left.l1 (k + 1) l acc (i : Int) a b c = _
    simp only [tickingref07_Left.l1]
    rw [if_pos (by omega)]
    rfl
theorem ref_l0 (l : List S53) (hl : l.length ≤ 100) (m : Nat) : ∀ j, j + m = l.length → (∀ p ∈ l.take j, resOk b p = true) →
    Ev (fun k => tickingref07_Left.l0 k l (j : Int) a b c) (if (l.drop j).all (resOk b) = true then (leftL b l 0 a.length, true) else ([], false)) := by
  have h12 := hc.b12
  induction m with
  | zero =>
    intro j hj hok
    obtain rfl : j = l.length := by omega
    rw [List.take_length] at hok
    rw [List.drop_length, List.all_nil, if_pos rfl]
    have h1 := ref_l1 hc l hl hok a.length 0 [] (by omega) (by simp)
    rw [List.nil_append] at h1
    refine Ev.step (fun k => ?_) h1
    show tickingref07_Left.l0 (k + 1) l (l.length : Int) a b c = _
    simp only [tickingref07_Left.l0]
    rw [if_neg (by omega)]
    rfl
  | succ m ih =>
    intro j hj hok
    have hjl : j < l.length := by omega
    have hd : l.drop j = l[j] :: l.drop (j + 1) := List.drop_eq_getElem_cons hjl
    have ht : l.take (j + 1) = l.take j ++ [l[j]] := List.take_succ_eq_append_getElem hjl
    rw [hd, List.all_cons]
    by_cases h : resOk b l[j] = true
    · rw [h, Bool.true_and]
      have h' := h
      unfold resOk inB at h'
      simp only [Bool.and_eq_true, decide_eq_true_eq] at h'
      refine Ev.step (fun k => ?_) (ih (j + 1) (by omega) (fun p hp => by
        rw [ht] at hp
        rcases List.mem_append.1 hp with hp | hp
        · exact hok p hp
        · rw [List.mem_singleton] at hp; rw [hp]; exact h))
      show tickingref07_Left.l0 (k + 1) l (j : Int) a b c = _
      simp only [tickingref07_Left.l0]
      rw [if_pos (by omega), if_pos (by omega), rd_T53_at l j hjl, if_neg (by omega), if_neg (by omega), if_neg (by omega), if_neg (by omega), w1 j (by omega)]
    · have hf : resOk b l[j] = false := by simpa using h
      rw [hf, Bool.false_and, if_neg (by decide)]
      have h' : ¬ ((0 ≤ l[j].f0 ∧ l[j].f0 < b.length) ∧ (0 ≤ l[j].f1 ∧ l[j].f1 ≤ 1)) := fun h2 => by
        apply h; unfold resOk inB; simp; omega
      refine Ev.step (f := fun _ => some _) (fun k => ?_) (Ev.now _)
      simp only [tickingref07_Left.l0]
      rw [if_pos (by omega), if_pos (by omega), rd_T53_at l j hjl]
      by_cases g1 : l[j].f0 < 0
      · rw [if_pos g1]
      · rw [if_neg g1]
        by_cases g2 : l[j].f0 ≥ (b.length : Int)
        · rw [if_pos g2]
        · rw [if_neg g2]
          by_cases g3 : l[j].f1 < 0
          · rw [if_pos g3]
          · rw [if_neg g3, if_pos (by omega)]
end
def leftOk (b : List (List Int)) (l : List S53) : Bool := decide (l.length ≤ 100) && l.all (resOk b)
theorem left_ev (a : List Int) (b : List (List Int)) (c : List Int) (l : List S53) : Ev (fun k => tests_Left.f k a b c l) (if caseB a b c = true then (if leftOk b l = true then (leftL b l 0 a.length, 0) else ([], 2)) else ([], 2)) := by
  unfold tests_Left.f
  refine Ev.bind (newTrial_all a b c) ?_
  have bad : ∀ x1 x2 x3 x4 x5, Ev (fun k => tests_Left.j0 k l true x1 x2 x3 x4 x5) (([] : List Int), (2 : Int)) := by
    intro x1 x2 x3 x4 x5
    refine Ev.step (f := fun _ => some _) (fun k => ?_) (Ev.now _)
    simp only [tests_Left.j0, if_true]
  unfold trialR
  by_cases h : caseB a b c = true
  · rw [if_pos h, if_pos h]
    have hc := case_is h
    simp only [if_true]
    by_cases hl : l.length ≤ 100
    · have e : decide ((l.length : Int) > 100) = false := decide_eq_false (by omega)
      rw [e]
      have hv : 2 ^ a.length - 1 < 1024 := by
        have e2 : 2 ^ a.length ≤ 2 ^ 10 := Nat.pow_le_pow_right (by omega) hc.a10
        omega
      have hp : 0 < 2 ^ a.length := Nat.two_pow_pos _
      have h1 := left_l0 hc l hl (((2 ^ a.length : Nat) : Int) - 1) l.length 0 (2 ^ a.length - 1) (by omega) hv (fun i hi => by rw [List.take_zero, List.all_nil, Nat.testBit_two_pow_sub_one]; simp [hi])
      rw [List.drop_zero, show ((2 ^ a.length - 1 : Nat) : Int) = ((2 ^ a.length : Nat) : Int) - 1 by omega] at h1
      have hr : leftOk b l = l.all (resOk b) := by unfold leftOk; rw [decide_eq_true hl, Bool.true_and]
      rw [hr]
      refine Ev.step (fun k => ?_) h1
      show tests_Left.j0 (k + 1) l false a b c (onesOf b) _ = _
      simp only [tests_Left.j0]
      rw [if_neg (by decide)]
      rfl
    · have e : decide ((l.length : Int) > 100) = true := decide_eq_true (by omega)
      have hr : leftOk b l = false := by unfold leftOk; rw [decide_eq_false hl, Bool.false_and]
      rw [e, hr, if_neg (by decide)]
      exact bad _ _ _ _ _
  · rw [if_neg h, if_neg h]
    exact Ev.congr (fun k => if_neg (by decide)) (bad _ _ _ _ _)
theorem refLeft_ev (a : List Int) (b : List (List Int)) (c : List Int) (hc : CaseIs a b c) (l : List S53) : Ev (fun k => tickingref07_Left.f k a b c l) (if leftOk b l = true then (leftL b l 0 a.length, true) else ([], false)) := by
  unfold tickingref07_Left.f
  by_cases hl : l.length ≤ 100
  · refine Ev.congr (fun k => if_neg (by omega)) ?_
    have hr : leftOk b l = l.all (resOk b) := by unfold leftOk; rw [decide_eq_true hl, Bool.true_and]
    rw [hr]
    have := ref_l0 hc l hl l.length 0 (by omega) (by simp)
    simpa using this
  · refine Ev.congr (f := fun _ => some _) (fun k => if_pos (by omega)) ?_
    have hr : leftOk b l = false := by unfold leftOk; rw [decide_eq_false hl, Bool.false_and]
    rw [hr]; exact Ev.now _
theorem TestsLeft_ev (a : List Int) (b : List (List Int)) (c : List Int) (l : List S53) : Ev (fun k => tickinglaw07_TestsLeft.f k a b c l) true := by
  unfold tickinglaw07_TestsLeft.f
  refine Ev.bind (own_ev a b c) ?_
  have hm : mn (l.length : Int) 101 = ((min l.length 101 : Nat) : Int) := by unfold mn; split <;> omega
  have hlen : (l.take (min l.length 101)).length ≤ 101 := by rw [List.length_take]; omega
  simp only [hm, Int.toNat_natCast]
  refine Ev.congr (fun k => if_pos (by omega)) ?_
  refine Ev.congr (fun k => if_pos (by omega)) ?_
  simp only [Option.bind_some, List.nil_append]
  refine Ev.congr (fun k => if_pos (by simp; omega)) ?_
  generalize l.take (min l.length 101) = r at hlen ⊢
  generalize ha : cut14 a = x
  generalize hb : cutB b = y
  generalize hcc : cut14 c = z
  have hx : x.length ≤ 14 := by rw [← ha]; exact cut14_len a
  have hy : y.length ≤ 14 := by rw [← hb]; exact cutB_len b
  have hz : z.length ≤ 14 := by rw [← hcc]; exact cut14_len c
  refine Ev.bind (left_ev x y z r) ?_
  refine Ev.bind (case_ev x y z hx hy hz) ?_
  have hw := Ev.bind (f := fun _ t => some t) awake_ev (Ev.now true)
  by_cases h : caseB x y z = true
  · rw [if_pos h, h]
    have hc := case_is h
    simp only [if_true]
    refine Ev.bind (refLeft_ev x y z hc r) ?_
    by_cases hok : leftOk y r = true
    · rw [if_pos hok, if_pos hok]
      simp only [if_true]
      have hi := ints_ev (leftL y r 0 x.length) (leftL y r 0 x.length) (by have := leftL_len y r x.length 0; omega)
      rw [decide_eq_true rfl] at hi
      refine Ev.bind hi ?_
      simp only [if_true]
      exact hw
    · rw [if_neg hok, if_neg hok]
      refine Ev.congr (fun k => if_neg (by decide)) ?_
      simp only [List.length_nil]
      exact hw
  · have hf : caseB x y z = false := by simpa using h
    rw [if_neg h, hf]
    refine Ev.congr (fun k => if_neg (by decide)) ?_
    simp only [List.length_nil]
    exact hw
end Go.Proofs.YtekmiepdodaidaaDoor.X
end
