/- Texts behind SerialOwn, part 27: contracts of the program's functions and the plain words for them. -/
import Derived.RangeFuncNested
import Derived.RangeFuncBound
import Derived.RangeFuncCalls
import Derived.RangeFuncLeaves
import Derived.Shelf.Abstract
import Derived.Shelf.RegionOpen
import Derived.WalkKit
import Derived.OwnWalkIn
import Derived.TacticsInMore
import Derived.LoopNIn
import Derived.LoopIn
import Derived.WalkSpells
import Derived.Laws.EntriesVeiled
import Derived.Maps.OwnSet
import Derived.Test.YtdkncfmlehcjmaaTpat
import Derived.Test.YtdkncfmlehcjmaaTpav
import Derived.Test.YtdkncfmlehcjmaaTpaw
import Derived.Test.YtdkncfmlehcjmaaTpax
import Derived.Test.YtdkncfmlehcjmaaTpaz
section
/- A range over a function whose rounds leave all that was there as it was: the law of the statement, after the library's laws for iterators that name what a body must keep. -/
set_option linter.unusedVariables false
set_option linter.unusedSimpArgs false
namespace Go.Proofs.Ytdkncfmlehcjmaa.X
open Go Go.RowKit
variable {F : Fence} {n : Nat} {P : Program}
/-- Whatever lies from block b on is as it was. -/
def KeptFrom (b : Nat) (W W' : World) : Prop := ∀ k, b ≤ k → k < W.heap.size → W'.heap[k]? = W.heap[k]?
/-- The iterator's contract: it hands out values x of which G holds; a round either says 'go on', then No holds of x and all that was there is as it was, or it says 'no more', then Jx holds. -/
def SeqR {α : Type} (F : Fence) (n : Nat) (P : Program) (g : Nat) (lb : Array Value) (encs : α → Array Value) (G : Nat → α → World → Prop) (S : (α → Prop) → Prop) (Sp : (α → Prop) → α → Prop) (w : World) : Prop :=
  ∀ (l : Nat) (No : α → Prop) (Jx : α → World → Prop) (W : World), Below w.heap.size w W → l < W.heap.size →
    (∀ x W1, Below W.heap.size W W1 → G W.heap.size x W1 → YieldAt F (n - 1) P l (encs x) W1 fun e W' =>
      (e = .returned (.bool true) ∧ No x ∧ Below W1.heap.size W1 W') ∨ (e = .returned (.bool false) ∧ Jx x W' ∧ KeptFrom W.heap.size W1 W')) →
    CallsIn F n P g (#[.func (.yield l) #[] #[]] ++ lb) W fun e W' => (∃ v, e = .returned v) ∧ ((S No ∧ Below W.heap.size W W') ∨ (∃ x, Sp No x ∧ Jx x W'))
/-- How a round's body may be left. -/
def postR {α : Type} (b : Nat) (No : α → Prop) (Ix : Code → α → World → Prop) (x : α) (W : World) : Exit → Act → World → Prop
  | .normal, _, W' => No x ∧ Below W.heap.size W W'
  | .ret, _, W' => KeepsOthers W W' ∧ KeptFrom b W W' ∧ Ix .ret x W'
  | .exit id, _, W' => KeepsOthers W W' ∧ KeptFrom b W W' ∧ Ix (.exit id) x W'
  | .goto t, _, W' => KeepsOthers W W' ∧ KeptFrom b W W' ∧ Ix (.goto t) x W'
  | .panic _, _, _ => False
  | .outgrown, _, _ => False
/-- A round that has gone on, its record laid back: all is as it was. -/
theorem below_round {W W3 : World} {l : Nat} {o o1 : Obj} (hl : W.heap[l]? = some o) (h : Below (W.putObj l o1).heap.size (W.putObj l o1) W3) : Below W.heap.size W (W3.putObj l o) := by
  have hlt : l < W.heap.size := (Array.getElem?_eq_some_iff.1 hl).1
  have hs : W.heap.size ≤ W3.heap.size := by have := h.size; rw [World.putObj_size] at this; exact this
  refine ⟨h.os, h.tape, h.output, by rw [World.putObj_size]; exact hs, fun k hk => ?_⟩
  by_cases e : k = l
  · subst e; rw [World.putObj_heap_same (by omega), hl]
  · rw [World.putObj_heap_other e, h.block k (by rw [World.putObj_size]; exact hk), World.putObj_heap_other e]
theorem wpIn_rangeFunc_R {α : Type} {g : Operand} {ps : Array Tmp} {assign body : Code} {Q : Exit → Act → World → Prop} {a : Act} {w : World}
    (hro : F.round = none) (h1 : 1 ≤ n) {gf : Nat} {lb : Array Value} (hg : a.eval g = .func (.func gf) #[] lb) (hFg : F.fn gf) (eg : ∀ args w, (callFunc gf args).run P w = .ok (.enter gf args) w)
    {encs : α → Array Value} {G : Nat → α → World → Prop} {S : (α → Prop) → Prop} {Sp : (α → Prop) → α → Prop} (hseq : SeqR F (n - 1) P gf lb encs G S Sp w)
    (hps : ∀ x, (encs x).size = ps.size)
    (hG : ∀ b x W l o', l < b → G b x W → G b x (W.putObj l o'))
    (No : α → Prop) (Ix : Code → α → World → Prop)
    (hIx : ∀ c x W l o o', w.heap.size ≤ l → W.heap[l]? = some o → o.isCells = false → Ix c x W → Ix c x (W.putObj l o')) (a₁ : α → Act)
    (hassign : ∀ (l : Nat) (x : α) (W : World) (K : Act → World → Prop), K (a₁ x) W →
      assign.wpIn (F.inRound l) (n - 1 - 1) P (Exit.then K (fun _ _ _ => False)) { tmps := (ps.zip (encs x)).foldl (fun t (p, v) => t.setIfInBounds p v) a.tmps, defers := [] } W)
    (hbody : ∀ (l : Nat) (x : α) (W : World), w.heap.size ≤ l → w.heap.size + 2 ≤ W.heap.size → Below w.heap.size w W → G (w.heap.size + 2) x W → body.wpIn (F.inRound l) (n - 1 - 1) P (postR (w.heap.size + 2) No Ix x W) (a₁ x) W)
    (hdone : ∀ (D : Nat) (W : World), w.heap.size ≤ D → S No → Below w.heap.size w W → W.heap[D]? = some (.deferred (some [])) → Q .normal { a with defers := { target := .collected D, args := #[] } :: a.defers } W)
    (hstop : ∀ (D : Nat) (c : Code) (x : α) (W : World), w.heap.size ≤ D → Sp No x → Ix c x W → W.heap[D]? = some (.deferred (some [])) → c.wpIn F n P Q { a with defers := { target := .collected D, args := #[] } :: a.defers } W) :
    (Code.rangeFunc g ps assign body).wpIn F n P Q a w := by
  refine wpIn_rangeFunc ?_
  intro fn hfn
  rw [hro]
  obtain ⟨rec, hrec⟩ : ∃ rec : LoopState → Option Code → Loop, rec = fun st pe => { state := st, pending := pe, fn, tmps := a.tmps, params := ps, assign, body, defers := w.heap.size } := ⟨_, rfl⟩
  obtain ⟨W1, hW1⟩ : ∃ W1, (w.alloc (.deferred (some []))).alloc (.loop (rec .ready none)) = W1 := ⟨_, rfl⟩
  have hL1 : W1.heap[w.heap.size + 1]? = some (.loop (rec .ready none)) := by
    rw [← hW1]; have := World.alloc_heap_new (w.alloc (.deferred (some []))) (.loop (rec .ready none)); rwa [World.size_alloc] at this
  have hK1 : W1.heap[w.heap.size]? = some (.deferred (some [])) := by
    rw [← hW1]; exact (Below.heap_alloc _ _ _ (by simp)).trans (World.alloc_heap_new w _)
  have hs1 : W1.heap.size = w.heap.size + 2 := by rw [← hW1]; simp
  have hb1 : Below w.heap.size w W1 := by
    rw [← hW1]; exact ((Below.refl _ w).alloc (Nat.le_refl _) _).alloc (by simp) _
  refine ⟨w.heap.size + 1, [{ target := .collected w.heap.size, args := #[] }], W1, { target := .fn (.func gf) lb, args := #[.func (.yield (w.heap.size + 1)) #[] #[]] }, W1, gf,
    #[.func (.yield (w.heap.size + 1)) #[] #[]] ++ lb, W1, ?_, ?_, ?_, ?_, fun _ => h1, ?_⟩
  · rw [← hW1, hrec]; exact run_enterLoop_outer _ _ _ _ _
  · simp only [resolve, hg]
    simp [go_sem]
  · intro f' hf'; simp [Target.leads] at hf'; subst hf'; exact hFg
  · simp [invoke, go_sem, eg]
  · refine (hseq (w.heap.size + 1) No
      (fun x W => ∃ c, Ix c x W ∧ W.heap[w.heap.size + 1]? = some (.loop (rec .done (some c))) ∧ W.heap[w.heap.size]? = some (.deferred (some [])))
      W1 hb1 (by omega) ?_).mono ?_
    · rintro x W hbW hGx
      have hl : W.heap[w.heap.size + 1]? = some (.loop (rec .ready none)) := (hbW.block _ (by omega)).trans hL1
      have hk : W.heap[w.heap.size]? = some (.deferred (some [])) := (hbW.block _ (by omega)).trans hK1
      have hlt : w.heap.size + 1 < W.heap.size := (Array.getElem?_eq_some_iff.1 hl).1
      have hy := run_yield (P := P) (args := encs x) hl (by rw [hrec]; exact hps x)
      rw [hrec] at hy
      refine ⟨fn, _, assign, body, hy, roundIn_of_wpIn hfn (hassign _ x W _ ⟨_, run_beginRound hl (by rw [hrec]), ?_⟩)⟩
      have hl2 : (W.putObj (w.heap.size + 1) (.loop { rec .ready none with state := .busy })).heap[w.heap.size + 1]? = some (.loop { rec .ready none with state := .busy }) := World.putObj_heap_same hlt
      have hk2 : (W.putObj (w.heap.size + 1) (.loop { rec .ready none with state := .busy })).heap[w.heap.size]? = some (.deferred (some [])) := (World.putObj_heap_other (by omega)).trans hk
      have hbw : Below w.heap.size w (W.putObj (w.heap.size + 1) (.loop { rec .ready none with state := .busy })) :=
        (hb1.trans (hbW.mono (by omega))).grown (grownBy_putObj' W _ _) (by omega) (fun k e => by cases e; omega)
      have hG2 : G (w.heap.size + 2) x (W.putObj (w.heap.size + 1) (.loop { rec .ready none with state := .busy })) := hG _ _ _ _ _ (by omega) (by rw [← hs1]; exact hGx)
      refine wpIn_mono (hbody _ x _ (by omega) (by rw [World.putObj_size]; omega) hbw hG2) ?_
      have fin : ∀ (jump : Option Code) (W3 : World), W3.heap[w.heap.size + 1]? = some (.loop { rec .ready none with state := .busy }) → W3.heap[w.heap.size]? = some (.deferred (some [])) →
          (Instr.endRound (w.heap.size + 1) jump).run P W3 = .ok (.bool jump.isNone) (W3.putObj (w.heap.size + 1) (.loop (rec (if jump.isNone then .ready else .done) jump))) ∧
          (W3.putObj (w.heap.size + 1) (.loop (rec (if jump.isNone then .ready else .done) jump))).heap[w.heap.size + 1]? = some (.loop (rec (if jump.isNone then .ready else .done) jump)) ∧
          (W3.putObj (w.heap.size + 1) (.loop (rec (if jump.isNone then .ready else .done) jump))).heap[w.heap.size]? = some (.deferred (some [])) := fun jump W3 hl3 hk3 => by
        have := run_endRound (P := P) jump hl3
        rw [hrec] at this ⊢
        exact ⟨this, World.putObj_heap_same (Array.getElem?_eq_some_iff.1 hl3).1, (World.putObj_heap_other (by omega)).trans hk3⟩
      have kept : ∀ {W3 : World} {o : Obj}, KeptFrom (w.heap.size + 2) (W.putObj (w.heap.size + 1) (.loop { rec .ready none with state := .busy })) W3 → KeptFrom W1.heap.size W (W3.putObj (w.heap.size + 1) o) := fun {W3 o} h k hk1 hk2 => by
        rw [World.putObj_heap_other (by omega), h k (by omega) (by rw [World.putObj_size]; exact hk2), World.putObj_heap_other (by omega)]
      rintro e a3 W3 hp
      cases e with
      | normal =>
        obtain ⟨hno, hk3⟩ := hp
        have h3l := (hk3.block _ (by rw [World.putObj_size]; omega)).trans hl2
        have h3k := (hk3.block _ (by rw [World.putObj_size]; omega)).trans hk2
        obtain ⟨hr, hl4, hk4⟩ := fin none W3 h3l h3k
        exact ⟨_, _, hr, .inl ⟨rfl, hno, below_round hl hk3⟩⟩
      | ret =>
        obtain ⟨hk3, hf3, hi3⟩ := hp
        have h3l := hk3.same _ _ hl2 rfl
        obtain ⟨hr, hl4, hk4⟩ := fin (some .ret) W3 h3l (hk3.same _ _ hk2 rfl)
        exact ⟨_, _, hr, .inr ⟨rfl, ⟨.ret, hIx _ _ _ _ _ _ (by omega) h3l rfl hi3, hl4, hk4⟩, kept hf3⟩⟩
      | exit id =>
        obtain ⟨hk3, hf3, hi3⟩ := hp
        have h3l := hk3.same _ _ hl2 rfl
        obtain ⟨hr, hl4, hk4⟩ := fin (some (.exit id)) W3 h3l (hk3.same _ _ hk2 rfl)
        exact ⟨_, _, hr, .inr ⟨rfl, ⟨.exit id, hIx _ _ _ _ _ _ (by omega) h3l rfl hi3, hl4, hk4⟩, kept hf3⟩⟩
      | goto t =>
        obtain ⟨hk3, hf3, hi3⟩ := hp
        have h3l := hk3.same _ _ hl2 rfl
        obtain ⟨hr, hl4, hk4⟩ := fin (some (.goto t)) W3 h3l (hk3.same _ _ hk2 rfl)
        exact ⟨_, _, hr, .inr ⟨rfl, ⟨.goto t, hIx _ _ _ _ _ _ (by omega) h3l rfl hi3, hl4, hk4⟩, kept hf3⟩⟩
      | panic ch => exact hp.elim
      | outgrown => exact hp.elim
    · rintro e W2 ⟨⟨v, rfl⟩, (⟨hS, hb2⟩ | ⟨x, hSp, c, hi, hl, hk⟩)⟩
      · have hl := (hb2.block _ (by omega)).trans hL1
        have hk := (hb2.block _ (by omega)).trans hK1
        refine ⟨none, _, by have := run_endLoop (P := P) hl (by rw [hrec]; simp); rw [hrec] at this; exact this, hdone _ _ (Nat.le_refl _) hS ?_ ((World.putObj_heap_other (by omega)).trans hk)⟩
        exact (hb1.trans (hb2.mono (by omega))).grown (grownBy_putObj' W2 _ _) (by have := hb1.size; have := hb2.size; omega) (fun k e => by cases e; omega)
      · exact ⟨some c, _, by have := run_endLoop (P := P) hl (by rw [hrec]; simp); rw [hrec] at this; exact this, hstop _ c x _ (Nat.le_refl _) hSp (hIx _ _ _ _ _ _ (by omega) hl rfl hi) ((World.putObj_heap_other (by omega)).trans hk)⟩
end Go.Proofs.Ytdkncfmlehcjmaa.X
end

section
/- serial.numbers, by hand: its closures hand out all numbers of at most five digits, the short ones first; what a round that goes on leaves is as it was. -/
set_option linter.unusedVariables false
set_option linter.unusedSimpArgs false
namespace Go.Proofs.Ytdkncfmlehcjmaa.X
open Go Go.RowKit Go.Proofs.YtdkncfmlehcjmaaW.PrintWords Go.Proofs.YtdkncfmlehcjmaaW.PrintLast Go.Proofs.YtdkncfmlehcjmaaW.PrintMore
attribute [local go_sem] Oper.semAt_some
/-- The numbers that begin with p and have so many digits more. -/
def ext (n : Nat) : Nat → List Int → List (List Int)
  | 0, p => [p]
  | left + 1, p => (List.range n).flatMap fun (d : Nat) => ext n left (p ++ [(d : Int)])
def allTo (n s : Nat) : List (List Int) := (List.range s).flatMap fun s => ext n s []
/-- The closure's value: it holds yield, n and itself. -/
def numV (gy gn ge : Nat) : Value := .func (.func 81) #[] #[.pointer (some ⟨gy, 0, none⟩), .pointer (some ⟨gn, 0, none⟩), .pointer (some ⟨ge, 0, none⟩)]
/-- What the closure comes back with: true, and no number of xs has stopped it, and all is as it was; or false: one has. -/
def NumC (b0 : Nat) (No : List Int → Prop) (Jx : List Int → World → Prop) (xs : List (List Int)) (W w' : World) (b : Bool) : Prop :=
  (b = true → (∀ d ∈ xs, No d) ∧ Below W.heap.size W w') ∧ (b = false → (∃ pre d post, xs = pre ++ d :: post ∧ (∀ x ∈ pre, No x) ∧ Jx d w') ∧ KeptFrom b0 W w')
def NumP (b0 : Nat) (No : List Int → Prop) (Jx : List Int → World → Prop) (xs : List (List Int)) (W : World) (e : Ending) (w' : World) : Prop :=
  ∃ b : Bool, e = .returned (.bool b) ∧ NumC b0 No Jx xs W w' b
def YieldsAt (W0 : World) (l n : Nat) (No : List Int → Prop) (Jx : List Int → World → Prop) : Prop :=
  ∀ m v ds W1, Below W0.heap.size W0 W1 → Kd.R (Kd.int .i64) 3 W1 W0.heap.size (fun _ => True) v ds → digs ds n = true → ds.length ≤ 5 →
    YieldAt Fence.wide m Try.prog l #[v] W1 fun e W' => (e = .returned (.bool true) ∧ No ds ∧ Below W1.heap.size W1 W') ∨ (e = .returned (.bool false) ∧ Jx ds W' ∧ KeptFrom W0.heap.size W1 W')
set_option maxHeartbeats 4000000 in
set_option maxRecDepth 100000 in
theorem num_end (W0 : World) (l n gy gn ge : Nat) (No : List Int → Prop) (Jx : List Int → World → Prop) (HY : YieldsAt W0 l n No Jx) (A : Option Addr) (c : Nat) (ds : List Int) (W : World)
    (hb : Below W0.heap.size W0 W) (hy : W.heap[gy]? = some (.cells #[.func (.yield l) #[] #[]] 104 (0, 0))) (hR : Kd.R (Kd.int .i64) 3 W W0.heap.size (fun _ => True) (.slice A ds.length c) ds) (hd : digs ds n = true) (hl : ds.length ≤ 5) :
    Calls Try.prog 81 #[.slice A ds.length c, .int .i64 0, .pointer (some ⟨gy, 0, none⟩), .pointer (some ⟨gn, 0, none⟩), .pointer (some ⟨ge, 0, none⟩)] W (NumP W0.heap.size No Jx [ds] W) := by
  have hcy : W.cell? ⟨gy, 0, none⟩ = some (.func (.yield l) #[] #[]) := (blk_cell hy 0).trans rfl
  refine (callsIn_wide (n := 3)).1 (callsIn_of_wp Try.func81 rfl trivial ?_)
  simp only [Try.ntmps81, List.size_toArray, List.length_cons, List.length_nil, Nat.reduceAdd, Nat.reduceSub, Array.replicate_succ, Array.replicate_zero, List.push_toArray, List.append_toArray, List.nil_append, List.cons_append]
  obtain ⟨fn, tmps, assign, body, hyy, hRR⟩ := HY 2 (.slice A ds.length c) ds W hb hR hd hl
  clear hy hR hd hl HY hb
  gi_wp2
  refine hRR.mono ?_
  rintro e W' (⟨rfl, hno, hb⟩ | ⟨rfl, hjx, hkf⟩)
  · have HN := Aside0.mk hno
    have HB := Aside0.mk hb
    clear hno hb hRR hyy
    gi_wp2
    go_ret
    exact ⟨true, rfl, fun _ => ⟨by intro d hd; rw [List.mem_singleton] at hd; subst hd; exact HN.out, HB.out⟩, fun h => by cases h⟩
  · have HJ := Aside0.mk hjx
    have HK := Aside0.mk hkf
    clear hjx hRR hyy hkf
    gi_wp2
    go_ret
    exact ⟨false, rfl, fun h => (by cases h), fun _ => ⟨⟨[], ds, [], rfl, by simp, HJ.out⟩, HK.out⟩⟩
theorem c_new1 (W : World) (x : Int) : Kd.C (Kd.int .i64) (W.alloc (.cells #[.int .i64 x] 3)) (some ⟨W.heap.size, 0, none⟩) 1 [x] :=
  (Kd.R_reads' (A := some ⟨W.heap.size, 0, none⟩) (n := 1) (c := 1) (xs := [x]) (e := 3) (base := 0) (ok := fun _ => True) (show Kd.R (Kd.int .i64) 3 _ 0 (fun _ => True) (.slice (some ⟨W.heap.size, 0, none⟩) 1 1) [x] from
    ⟨fun _ _ => trivial, [.int .i64 x], ⟨rfl, .inr ⟨W.heap.size, 1, #[.int .i64 x], rfl, Nat.zero_le _, blk_new _ _, Nat.le_refl _, by decide, rfl, rfl⟩⟩, Reps.one (show Kd.M (Kd.int .i64) _ _ _ x [.int .i64 x] from rfl) (Reps.none _ _)⟩)).2.2
theorem digs_snoc {p : List Int} {n : Nat} (h : digs p n = true) (x : Nat) (hx : x < n) : digs (p ++ [(x : Int)]) n = true := by
  unfold digs at h ⊢
  rw [List.all_append, h]
  simp; omega
theorem kce {wr w' : World} {gy gn ge : Nat} (h : wr.heap[ge]? = some (.cells #[numV gy gn ge] 105 (0, 0))) (hb : Below wr.heap.size wr w') : w'.cell? ⟨ge, 0, none⟩ = some (.func (.func 81) #[] #[.pointer (some ⟨gy, 0, none⟩), .pointer (some ⟨gn, 0, none⟩), .pointer (some ⟨ge, 0, none⟩)]) :=
  (blk_cell (blk_below h hb) 0).trans rfl
theorem kce_c {b0 : Nat} {No : List Int → Prop} {Jx : List Int → World → Prop} {xs : List (List Int)} {wr w6 w' : World} {b : Bool} {gy gn ge : Nat} (hg : b0 ≤ ge) (h : wr.heap[ge]? = some (.cells #[numV gy gn ge] 105 (0, 0))) (hb : Below wr.heap.size wr w6) (hc : NumC b0 No Jx xs w6 w' b) : w'.cell? ⟨ge, 0, none⟩ = some (.func (.func 81) #[] #[.pointer (some ⟨gy, 0, none⟩), .pointer (some ⟨gn, 0, none⟩), .pointer (some ⟨ge, 0, none⟩)]) := by
  have h6 := blk_below h hb
  refine (blk_cell (w := w') (show w'.heap[ge]? = some (.cells #[numV gy gn ge] 105 (0, 0)) from ?_) 0).trans rfl
  cases b with
  | true => exact blk_below h6 (hc.1 rfl).2
  | false => exact ((hc.2 rfl).2 ge hg (Array.getElem?_eq_some_iff.1 h6).1).trans h6
theorem no_snoc {No : List Int → Prop} {F : Nat → List (List Int)} {x : Nat} (h : ∀ d ∈ (List.range x).flatMap F, No d) (h2 : ∀ d ∈ F x, No d) : ∀ d ∈ (List.range (x + 1)).flatMap F, No d := by
  intro d hd
  rw [List.range_succ, List.flatMap_append, List.mem_append] at hd
  rcases hd with hd | hd
  · exact h d hd
  · exact h2 d (by simpa using hd)
theorem fall_snoc {b0 n left x : Nat} {No : List Int → Prop} {Jx : List Int → World → Prop} {p nx : List Int} {W w6 w' : World} (hx : x < n) (h : ∀ d ∈ (List.range x).flatMap (fun (d : Nat) => ext n left (p ++ [(d : Int)])), No d) (hnx : nx = p ++ [(x : Int)]) (hb : Below W.heap.size W w6)
    (hc : (∃ pre d post, ext n left nx = pre ++ d :: post ∧ (∀ x ∈ pre, No x) ∧ Jx d w') ∧ KeptFrom b0 w6 w') : (∃ pre d post, ext n (left + 1) p = pre ++ d :: post ∧ (∀ x ∈ pre, No x) ∧ Jx d w') ∧ KeptFrom b0 W w' := by
  obtain ⟨⟨pre, d, post, h1, h2, h3⟩, h4⟩ := hc
  refine ⟨⟨(List.range x).flatMap (fun (d : Nat) => ext n left (p ++ [(d : Int)])) ++ pre, d, post ++ (List.range' (x + 1) (n - x - 1)).flatMap (fun (d : Nat) => ext n left (p ++ [(d : Int)])), ?_, ?_, h3⟩, fun k hk1 hk2 => (h4 k hk1 (Nat.lt_of_lt_of_le hk2 hb.size)).trans (hb.block k hk2)⟩
  · have e : List.range n = List.range x ++ (x :: List.range' (x + 1) (n - x - 1)) := by
      rw [List.range_eq_range', List.range_eq_range', show n = x + (n - x - 1 + 1) by omega, List.range'_append_1.symm, List.range'_succ]
      simp
    show (List.range n).flatMap _ = _
    rw [e, List.flatMap_append, List.flatMap_cons, ← hnx, h1]
    simp
  · intro y hy
    rcases List.mem_append.1 hy with hy | hy
    · exact h y hy
    · exact h2 y hy
set_option maxHeartbeats 8000000 in
set_option maxRecDepth 100000 in
theorem num_step (W0 : World) (l n gy gn ge : Nat) (No : List Int → Prop) (Jx : List Int → World → Prop) (hn : n ≤ 12) (hgb : W0.heap.size ≤ ge) (left : Nat) (p : List Int) (hpl : p.length + left ≤ 4) (hd : digs p n = true)
    (ih : ∀ (A : Option Addr) (c : Nat) (ds : List Int) (W : World), ds.length + left ≤ 5 → digs ds n = true → Below W0.heap.size W0 W → W.heap[gy]? = some (.cells #[.func (.yield l) #[] #[]] 104 (0, 0)) → W.heap[gn]? = some (.cells #[.int .i64 n] 3 (0, 0)) → W.heap[ge]? = some (.cells #[numV gy gn ge] 105 (0, 0)) → Kd.R (Kd.int .i64) 3 W W0.heap.size (fun _ => True) (.slice A ds.length c) ds →
      Calls Try.prog 81 #[.slice A ds.length c, .int .i64 left, .pointer (some ⟨gy, 0, none⟩), .pointer (some ⟨gn, 0, none⟩), .pointer (some ⟨ge, 0, none⟩)] W (NumP W0.heap.size No Jx (ext n left ds) W))
    (A : Option Addr) (c : Nat) (W : World) (hb : Below W0.heap.size W0 W) (hy : W.heap[gy]? = some (.cells #[.func (.yield l) #[] #[]] 104 (0, 0))) (hgn : W.heap[gn]? = some (.cells #[.int .i64 n] 3 (0, 0))) (hge : W.heap[ge]? = some (.cells #[numV gy gn ge] 105 (0, 0))) (hR : Kd.R (Kd.int .i64) 3 W W0.heap.size (fun _ => True) (.slice A p.length c) p) (hA : A = none → p = []) :
    Calls Try.prog 81 #[.slice A p.length c, .int .i64 ((left + 1 : Nat) : Int), .pointer (some ⟨gy, 0, none⟩), .pointer (some ⟨gn, 0, none⟩), .pointer (some ⟨ge, 0, none⟩)] W (NumP W0.heap.size No Jx (ext n (left + 1) p) W) := by
  have HR := Aside0.mk hR
  have HW := Aside0.mk hb
  have HY := Aside0.mk hy
  have HN := Aside0.mk hgn
  have HE := Aside0.mk hge
  have HAA := Aside0.mk hA
  have IH := Aside0.mk ih
  have HPL := Aside0.mk hpl
  have HD := Aside0.mk hd
  have HN12 := Aside0.mk hn
  have hcn : W.cell? ⟨gn, 0, none⟩ = some (.int .i64 n) := (blk_cell hgn 0).trans rfl
  have hb0 : ((((left + 1 : Nat) : Int)) == 0) = false := by simp; omega
  obtain ⟨lf, hlf⟩ : ∃ lf : Int, ((left + 1 : Nat) : Int) = lf := ⟨_, rfl⟩
  have HLF := Aside0.mk hlf
  rw [hlf] at hb0 ⊢
  have hsub : IntKind.i64.wrap (lf - 1) = (left : Int) := by rw [IntKind.wrap_i64]; omega
  have HB := Aside0.mk (Below.refl W.heap.size W)
  have HNo : Aside0 (∀ d ∈ (List.range 0).flatMap (fun (d : Nat) => ext n left (p ++ [(d : Int)])), No d) := ⟨by simp⟩
  clear hR hb hy hgn hge hA ih hpl hd hn hlf
  go_enter Try.func81, Try.ntmps81
  go_wp2
  go_loopg [15] n (fun kq v15 w' => ∃ x : Nat, v15 = .int .i64 x ∧ Aside0 (kq + x = n) ∧ Aside0 (∀ d ∈ (List.range x).flatMap (fun (d : Nat) => ext n left (p ++ [(d : Int)])), No d) ∧ Aside0 (Below W.heap.size W w'))
  case atStart => exact ⟨0, rfl, ⟨by omega⟩, HNo, HB⟩
  case round =>
    clear HB HNo
    obtain ⟨x, rfl, HK, HNo, HB⟩ := hrel
    obtain ⟨k1, rfl⟩ : ∃ k1, k1 = gk := ⟨_, rfl⟩
    by_cases hx : x < n
    · have hxb : (x < n) = True := eq_true hx
      have HX := Aside0.mk hx
      clear hx
      go_upto_region 6 with (fail)
      have HEr := Aside0.mk (blk_below HE.out HB.out)
      have hce : wr.cell? ⟨ge, 0, none⟩ = some (.func (.func 81) #[] #[.pointer (some ⟨gy, 0, none⟩), .pointer (some ⟨gn, 0, none⟩), .pointer (some ⟨ge, 0, none⟩)]) := (blk_cell HEr.out 0).trans rfl
      have hB1 := Aside0.mk (Below.refl wr.heap.size wr)
      have hCl := Aside0.mk (Kd.C_below (Kd.R_reads' HR.out).2.2 HB.out)
      have hL : p.length ≤ 1000000 := by have := HPL.out; omega
      have HL := Aside0.mk hL
      clear hL
      obtain ⟨nx, hnx⟩ : ∃ nx, nx = p ++ [(x : Int)] := ⟨_, rfl⟩
      have HNX := Aside0.mk hnx
      clear hnx
      have HWr := Aside0.mk (HW.out.trans (HB.out.mono HW.out.size))
      go_region_held3 (fun w' => w'.cell? ⟨ge, 0, none⟩ = some (.func (.func 81) #[] #[.pointer (some ⟨gy, 0, none⟩), .pointer (some ⟨gn, 0, none⟩), .pointer (some ⟨ge, 0, none⟩)])) (first | exact hce | exact kce HEr.out (below_alloc hB1.out _) | exact kce HEr.out (below_alloc (below_drew hB1.out) _) | exact kce HEr.out HB6.out | exact kce HEr.out HB5.out | exact kce HEr.out (below_alloc HB5.out _) | exact kce_c hgb HEr.out HB6.out hend)
        (first | (go_at_call 82; (with_reducible refine (cloneN_calls A c p _ ?side1 HAA.out HL.out).mono ?_); (case side1 => exact Kd.C_below hCl.out (by first | exact hB1.out | exact below_drew hB1.out | exact below_alloc hB1.out _ | exact below_alloc (below_drew hB1.out) _)); rintro e w5 ⟨v1, rfl, ho, hb⟩; have HB5 := Aside0.mk (below_step (by first | exact hB1.out | exact below_drew hB1.out | exact below_alloc hB1.out _ | exact below_alloc (below_drew hB1.out) _) hb); have HO5 := Aside0.mk (Kd.R_lower ho (below_size (by first | exact hB1.out | exact below_drew hB1.out | exact below_alloc hB1.out _ | exact below_alloc (below_drew hB1.out) _))); have HBc := Aside0.mk hb; clear ho hb) | (refine Kd.R_append_rows_step (Kd.int .i64) (w0 := wr) wr.heap.size (by rfl) (.tmp 20) (.tmp 22) 94 3 (.int .i64 0) 8 (by rfl) Try.underlying94 info3 (by rfl) (by decide) (by omega) v1 p [(x : Int)] _ 1 1 (fun _ => True) (fun _ => False) (by rfl) (by rfl) ?aO ?aR (fun _ _ h => h) (fun _ h => h.elim) ?aF ?aB ?aS ?aL ?_; (case aO => first | exact HO5.out | exact Kd.R_alloc HO5.out _); (case aR => first | exact c_new1 _ _ | exact Kd.C_below (c_new1 _ _) HBc.out | exact Kd.C_below (Kd.C_drew (c_new1 _ _)) HBc.out); (case aF => exact fun _ _ => trivial); (case aB => first | exact HB5.out | exact below_alloc HB5.out _); (case aS => first | exact below_size HB5.out | exact below_size (below_alloc HB5.out _)); (case aL => have := HL.out; omega); intro v2 w6 ho hb hg hat; have HB6 := Aside0.mk hb; rw [← HNX.out] at ho; have HO6 := Aside0.mk ho; clear ho hb hg hat HBc HO5; obtain ⟨A2, c2, rfl⟩ := Kd.R_slice HO6.out) | (go_at_call 81; (with_reducible refine (IH.out A2 c2 nx _ ?s1 ?s2 ?s3 ?s4 ?s5 ?s6 ?s7).mono ?_); (case s1 => have := HPL.out; rw [HNX.out, List.length_append]; simp; omega); (case s2 => rw [HNX.out]; exact digs_snoc HD.out x HX.out); (case s3 => exact HWr.out.trans (HB6.out.mono HWr.out.size)); (case s4 => exact blk_below (blk_below HY.out HB.out) HB6.out); (case s5 => exact blk_below (blk_below HN.out HB.out) HB6.out); (case s6 => exact blk_below HEr.out HB6.out); (case s7 => exact Kd.R_lower HO6.out HWr.out.size); rintro e w10 ⟨b, rfl, hend⟩))
      all_goals
        have HEND := Aside0.mk hend
        clear hend
        cases b with
        | true =>
          go_wp2
          go_roundg (k1 - 1)
          case measure => have := HK.out; have := HX.out; omega
          case rel => exact ⟨x + 1, (by have h1 := HX.out; have h2 := HN12.out; first | (rw [w64 (by omega) (by omega)]; rfl) | (rw [IntKind.wrap_i64, w64 (by omega) (by omega)]; rfl) | go_num), ⟨by have := HK.out; have := HX.out; omega⟩, ⟨no_snoc HNo.out (by rw [← HNX.out]; exact (HEND.out.1 rfl).1)⟩, ⟨below_step HB.out (below_step HB6.out (HEND.out.1 rfl).2)⟩⟩
        | false =>
          go_wp2
          go_ret
          exact ⟨false, rfl, fun h => (by cases h), fun _ => fall_snoc HX.out HNo.out HNX.out (below_step HB.out HB6.out) (HEND.out.2 rfl)⟩
    · have hxb : (x < n) = False := eq_false hx
      have hxe : x = n := by have := HK.out; omega
      have HXE := Aside0.mk hxe
      clear hx hxe
      go_wp2
      go_ret
      exact ⟨true, rfl, fun _ => ⟨by have h1 := HNo.out; have h2 := HXE.out; subst h2; exact h1, HB.out⟩, fun h => by cases h⟩
theorem num_calls (W0 : World) (l n gy gn ge : Nat) (No : List Int → Prop) (Jx : List Int → World → Prop) (HY : YieldsAt W0 l n No Jx) (hn : n ≤ 12) (hgb : W0.heap.size ≤ ge) (left : Nat) :
    ∀ (A : Option Addr) (c : Nat) (ds : List Int) (W : World), ds.length + left ≤ 5 → digs ds n = true → Below W0.heap.size W0 W → W.heap[gy]? = some (.cells #[.func (.yield l) #[] #[]] 104 (0, 0)) → W.heap[gn]? = some (.cells #[.int .i64 n] 3 (0, 0)) → W.heap[ge]? = some (.cells #[numV gy gn ge] 105 (0, 0)) → Kd.R (Kd.int .i64) 3 W W0.heap.size (fun _ => True) (.slice A ds.length c) ds →
      Calls Try.prog 81 #[.slice A ds.length c, .int .i64 left, .pointer (some ⟨gy, 0, none⟩), .pointer (some ⟨gn, 0, none⟩), .pointer (some ⟨ge, 0, none⟩)] W (NumP W0.heap.size No Jx (ext n left ds) W) := by
  induction left with
  | zero => intro A c ds W hl hd hb hy hgn hge hR; exact num_end W0 l n gy gn ge No Jx HY A c ds W hb hy hR hd (by omega)
  | succ left ih =>
    intro A c ds W hl hd hb hy hgn hge hR
    refine num_step W0 l n gy gn ge No Jx hn hgb left ds (by omega) hd ih A c W hb hy hgn hge hR (fun hA => ?_)
    rcases Nat.eq_zero_or_pos ds.length with h | h
    · exact List.eq_nil_of_length_eq_zero h
    · obtain ⟨g, cap, he, _⟩ := Kd.R_form hR h
      rw [hA] at he; injection he with h1 _ _; cases h1
theorem allTo_succ (n s : Nat) : allTo n (s + 1) = allTo n s ++ ext n s [] := by simp [allTo, List.range_succ]
theorem fall_all {b0 n s : Nat} {No : List Int → Prop} {Jx : List Int → World → Prop} {W w' : World} (h : ∀ d ∈ allTo n s, No d) (hs : s < 6)
    (hc : (∃ pre d post, ext n s [] = pre ++ d :: post ∧ (∀ x ∈ pre, No x) ∧ Jx d w') ∧ KeptFrom b0 W w') : ∃ pre d post, allTo n 6 = pre ++ d :: post ∧ (∀ x ∈ pre, No x) ∧ Jx d w' := by
  obtain ⟨⟨pre, d, post, h1, h2, h3⟩, _⟩ := hc
  refine ⟨allTo n s ++ pre, d, post ++ (List.range' (s + 1) (6 - s - 1)).flatMap (fun s => ext n s []), ?_, ?_, h3⟩
  · have e : List.range 6 = List.range s ++ (s :: List.range' (s + 1) (6 - s - 1)) := by
      rw [List.range_eq_range', List.range_eq_range', show 6 = s + (6 - s - 1 + 1) by omega, List.range'_append_1.symm, List.range'_succ]
      simp
    unfold allTo
    rw [e, List.flatMap_append, List.flatMap_cons, h1]
    simp
  · intro y hy
    rcases List.mem_append.1 hy with hy | hy
    · exact h y hy
    · exact h2 y hy
set_option maxHeartbeats 8000000 in
set_option maxRecDepth 100000 in
theorem num_all (W : World) (l n gn : Nat) (No : List Int → Prop) (Jx : List Int → World → Prop) (HY : YieldsAt W l n No Jx) (hn : n ≤ 12) (hgn : W.heap[gn]? = some (.cells #[.int .i64 n] 3 (0, 0))) :
    Calls Try.prog 80 #[.func (.yield l) #[] #[], .pointer (some ⟨gn, 0, none⟩)] W fun e w' => (∃ v, e = .returned v) ∧ (((∀ d ∈ allTo n 6, No d) ∧ Below W.heap.size W w') ∨ (∃ pre d post, allTo n 6 = pre ++ d :: post ∧ (∀ x ∈ pre, No x) ∧ Jx d w')) := by
  have HYY := Aside0.mk HY
  have HN12 := Aside0.mk hn
  have HN := Aside0.mk hgn
  have HB := Aside0.mk (Below.refl W.heap.size W)
  clear HY hn hgn
  go_enter Try.func80, Try.ntmps80
  go_wp2
  obtain ⟨W3, hW3⟩ : ∃ W3, ((W.alloc (.cells #[.func (.yield l) #[] #[]] 104)).alloc (.cells #[numV W.heap.size gn (W.heap.size + 1)] 105)) = W3 := ⟨_, rfl⟩
  have e0 : W3.heap[W.heap.size]? = some (.cells #[.func (.yield l) #[] #[]] 104 (0, 0)) := by rw [← hW3]; exact blk_alloc (blk_new W _) _
  have e1 : W3.heap[W.heap.size + 1]? = some (.cells #[numV W.heap.size gn (W.heap.size + 1)] 105 (0, 0)) := by rw [← hW3]; have := blk_new (W.alloc (.cells #[.func (.yield l) #[] #[]] 104)) (.cells #[numV W.heap.size gn (W.heap.size + 1)] 105); rwa [World.size_alloc] at this
  have HB3 : Aside0 (Below W.heap.size W W3) := ⟨by rw [← hW3]; exact below_alloc (below_alloc HB.out _) _⟩
  have e2 : W3.heap[gn]? = some (.cells #[.int .i64 n] 3 (0, 0)) := blk_below HN.out HB3.out
  rw [show ((W.alloc (.cells #[.func (.yield l) #[] #[]] 104)).alloc (.cells #[.func (.func 81) #[] #[.pointer (some ⟨W.heap.size, 0, none⟩), .pointer (some ⟨gn, 0, none⟩), .pointer (some ⟨W.heap.size + 1, 0, none⟩)]] 105)) = W3 from hW3]
  have E0 := Aside0.mk e0
  have E1 := Aside0.mk e1
  have E2 := Aside0.mk e2
  have HBr := Aside0.mk (Below.refl W3.heap.size W3)
  have HNo : Aside0 (∀ d ∈ allTo n 0, No d) := ⟨by simp [allTo]⟩
  clear e0 e1 e2 hW3 HB
  go_loopg [6] 6 (fun kq v6 w' => ∃ x : Nat, v6 = .int .i64 x ∧ Aside0 (kq + x = 6) ∧ Aside0 (∀ d ∈ allTo n x, No d) ∧ Aside0 (Below W3.heap.size W3 w'))
  case atStart => exact ⟨0, rfl, ⟨rfl⟩, HNo, HBr⟩
  case round =>
    clear HBr HNo
    obtain ⟨x, rfl, HK, HNo, HB⟩ := hrel
    obtain ⟨k1, rfl⟩ : ∃ k1, k1 = gk := ⟨_, rfl⟩
    by_cases hx : x < 6
    · have hxb : ((x : Int) < 6) = True := eq_true (by omega)
      have HX := Aside0.mk hx
      clear hx
      have hce : wr.cell? ⟨W.heap.size + 1, 0, none⟩ = some (.func (.func 81) #[] #[.pointer (some ⟨W.heap.size, 0, none⟩), .pointer (some ⟨gn, 0, none⟩), .pointer (some ⟨W.heap.size + 1, 0, none⟩)]) := kce E1.out HB.out
      have IH : Aside0 (Calls Try.prog 81 #[.slice none 0 0, .int .i64 x, .pointer (some ⟨W.heap.size, 0, none⟩), .pointer (some ⟨gn, 0, none⟩), .pointer (some ⟨W.heap.size + 1, 0, none⟩)] wr (NumP W.heap.size No Jx (ext n x []) wr)) := Aside0.mk (num_calls W l n W.heap.size gn (W.heap.size + 1) No Jx HYY.out HN12.out (Nat.le_succ _) x none 0 [] wr (by have := HX.out; simp; omega) rfl (HB3.out.trans (HB.out.mono HB3.out.size)) (blk_below E0.out HB.out) (blk_below E2.out HB.out) (blk_below E1.out HB.out) (Kd.R_nil _ _ _ _ _))
      go_wp2_with (go_at_call 81; (with_reducible refine IH.out.mono ?_); rintro e w10 ⟨b, rfl, hend⟩; have HEND := Aside0.mk hend; clear hend)
      · have hbb : b = false := by have h : (!b) = true := by assumption
                                   simpa using h
        subst hbb
        refine bodyPost_ret (results_none rfl _ _ _) rfl ?_
        exact ⟨⟨_, rfl⟩, .inr (fall_all HNo.out HX.out (HEND.out.2 rfl))⟩
      · have hbb : b = true := by have h : (!b) = false := by assumption
                                  simpa using h
        subst hbb
        go_roundg (k1 - 1)
        case measure => have := HK.out; have := HX.out; omega
        case rel => exact ⟨x + 1, (by have h1 := HX.out; first | (rw [w64 (by omega) (by omega)]; rfl) | (rw [IntKind.wrap_i64, w64 (by omega) (by omega)]; rfl) | go_num), ⟨by have := HK.out; have := HX.out; omega⟩, ⟨by rw [allTo_succ]; intro d hd; rcases List.mem_append.1 hd with hd | hd; exact HNo.out d hd; exact (HEND.out.1 rfl).1 d hd⟩, ⟨below_step HB.out (HEND.out.1 rfl).2⟩⟩
    · have hxb : ((x : Int) < 6) = False := eq_false (by omega)
      have hxe : x = 6 := by have := HK.out; omega
      subst hxe
      clear hx
      go_wp2
      go_end0
      exact ⟨⟨_, rfl⟩, .inl ⟨HNo.out, HB3.out.trans (HB.out.mono HB3.out.size)⟩⟩
/-- What the iterator hands out: a number in memory of its own. -/
def NumG (n : Nat) (b : Nat) (x : Value × List Int) (W : World) : Prop := Kd.R (Kd.int .i64) 3 W b (fun _ => True) x.1 x.2 ∧ digs x.2 n = true ∧ x.2.length ≤ 5
theorem numbers_seq (m n gn : Nat) (w : World) (hn : n ≤ 12) (hgn : w.heap[gn]? = some (.cells #[.int .i64 n] 3 (0, 0))) :
    SeqR (α := Value × List Int) Fence.wide m Try.prog 80 #[.pointer (some ⟨gn, 0, none⟩)] (fun x => #[x.1]) (NumG n) (fun No => ∀ d ∈ allTo n 6, ∃ v, No (v, d)) (fun No x => ∃ pre post, allTo n 6 = pre ++ x.2 :: post ∧ ∀ y ∈ pre, ∃ v, No (v, y)) w := by
  intro l No Jx W hW hl hY
  have hYY : YieldsAt W l n (fun d => ∃ v, No (v, d)) (fun d w' => ∃ v, Jx (v, d) w') := by
    intro m' v ds W1 hb hR hd hlen
    obtain ⟨fn, tmps, assign, body, hy, hRR⟩ := hY (v, ds) W1 hb ⟨hR, hd, hlen⟩
    refine ⟨fn, tmps, assign, body, hy, ?_⟩
    have h2 : RoundIn Fence.wide m' Try.prog l fn tmps assign body W1 _ := ⟨hRR.1, fun c cs _ => hRR.2 c cs (room_wide _)⟩
    refine h2.mono ?_
    rintro e W' (⟨h1, h2, h3⟩ | ⟨h1, h2, h3⟩)
    · exact .inl ⟨h1, ⟨v, h2⟩, h3⟩
    · exact .inr ⟨h1, ⟨v, h2⟩, h3⟩
  refine (callsIn_wide (n := m)).2 ((num_all W l n gn _ _ hYY hn (blk_below hgn hW)).mono ?_)
  rintro e w' ⟨h1, h2 | ⟨pre, d, post, h3, h4, v, h5⟩⟩
  · exact ⟨h1, .inl h2⟩
  · exact ⟨h1, .inr ⟨(v, d), ⟨pre, post, h3, h4⟩, h5⟩⟩
set_option maxRecDepth 100000 in
theorem numbers_calls (n : Nat) (w : World) : Calls Try.prog 67 #[.int .i64 n] w fun e w' => e = .returned (.func (.func 80) #[] #[.pointer (some ⟨w.heap.size, 0, none⟩)]) ∧ w' = w.alloc (.cells #[.int .i64 n] 3) := by
  go_enter Try.func67, Try.ntmps67
  go_wp2
  go_ret
  exact ⟨rfl, rfl⟩
end Go.Proofs.Ytdkncfmlehcjmaa.X
end

section
/- serial.Miss, by hand: a map of four functions, a range over an iterator; the first sound number that has a sound change, and the first of these. -/
set_option linter.unusedVariables false
set_option linter.unusedSimpArgs false
namespace Go.Proofs.Ytdkncfmlehcjmaa.X
open Go Go.RowKit Go.Proofs.YtdkncfmlehcjmaaW.PrintWords Go.Proofs.YtdkncfmlehcjmaaW.PrintLast Go.Proofs.YtdkncfmlehcjmaaW.PrintMore
attribute [local go_sem] Oper.semAt_some
def fnElem (v : Value) : Option (DataW Unit × List MemPlace) :=
  match v with
  | .func (.func f) a b => if a.size = 0 ∧ b.size = 0 then some (.lit (.int .i64 f), []) else none
  | .nilFunc => some (.lit (.int .i64 (-1)), [])
  | _ => none
def kindsD : DataW Unit := ((((DataW.map []).put (.int .i64 0) (.lit (.int .i64 76))).put (.int .i64 1) (.lit (.int .i64 77))).put (.int .i64 2) (.lit (.int .i64 78))).put (.int .i64 3) (.lit (.int .i64 79))
theorem keyed3 : Maps.Keyed Try.prog 3 := Maps.int_keyed Try.underlying3
set_option maxRecDepth 100000 in
theorem kinds_calls (w : World) : Calls Try.prog 66 #[] w fun e w' => e = .returned (.map (some w.heap.size)) ∧ w'.ownsMap Try.prog 3 fnElem w.heap.size 4 kindsD ∧ Below w.heap.size w w' := by
  have hmm := @run_makeMap Try.prog
  obtain ⟨w1, r1, o1, g1⟩ := (World.ownsMap_made w Try.prog 3 fnElem).update keyed3 Try.underlying89 (by decide) (Maps.keyOf_int_mk Try.underlying3 (a := 0) rfl) (val := .func (.func 76) #[] #[]) rfl
  obtain ⟨w2, r2, o2, g2⟩ := o1.update keyed3 Try.underlying89 (by decide) (Maps.keyOf_int_mk Try.underlying3 (a := 1) rfl) (val := .func (.func 77) #[] #[]) rfl
  obtain ⟨w3, r3, o3, g3⟩ := o2.update keyed3 Try.underlying89 (by decide) (Maps.keyOf_int_mk Try.underlying3 (a := 2) rfl) (val := .func (.func 78) #[] #[]) rfl
  obtain ⟨w4, r4, o4, g4⟩ := o3.update keyed3 Try.underlying89 (by decide) (Maps.keyOf_int_mk Try.underlying3 (a := 3) rfl) (val := .func (.func 79) #[] #[]) rfl
  have HO := Aside0.mk o4
  have hb0 := below_alloc (Below.refl w.heap.size w) (.map #[] 0)
  have hb1 := hb0.grown g1 hb0.size (fun k e => by cases e; exact Nat.le_refl _)
  have hb2 := hb1.grown g2 hb1.size (fun k e => by cases e; exact Nat.le_refl _)
  have hb3 := hb2.grown g3 hb2.size (fun k e => by cases e; exact Nat.le_refl _)
  have HB := Aside0.mk (hb3.grown g4 hb3.size (fun k e => by cases e; exact Nat.le_refl _))
  clear o1 o2 o3 o4 g1 g2 g3 g4 hb0 hb1 hb2 hb3
  go_enter Try.func66, Try.ntmps66
  go_wp2
  go_ret
  exact ⟨rfl, HO.out, HB.out⟩
theorem fnElem_inv {v : Value} {f : Nat} {ps : List MemPlace} (h : fnElem v = some (.lit (.int .i64 f), ps)) : v = .func (.func f) #[] #[] := by
  unfold fnElem at h
  split at h
  · split at h
    · rename_i hs
      simp only [Option.some.injEq, Prod.mk.injEq, DataW.lit.injEq, Lit.int.injEq] at h
      obtain ⟨⟨_, h⟩, _⟩ := h
      rw [Int.ofNat.inj h, Array.eq_empty_of_size_eq_zero hs.1, Array.eq_empty_of_size_eq_zero hs.2]
    · cases h
  · simp only [Option.some.injEq, Prod.mk.injEq, DataW.lit.injEq, Lit.int.injEq] at h
    omega
  · cases h
theorem kinds_look (W : World) (b : Nat) (ho : W.ownsMap Try.prog 3 fnElem b 4 kindsD) (kd : Nat) (hk : kd < 4) : (Instr.lookup 89 (.map (some b)) (.int .i64 kd) false).run Try.prog W = .ok (.func (.func (76 + kd)) #[] #[]) W := by
  obtain ⟨v, ps, hrun, hv⟩ := ho.lookup keyed3 Try.underlying89 (z := .nilFunc) (zd := .lit (.int .i64 (-1))) (Try.zeroValue88 _) rfl (Maps.keyOf_int_mk Try.underlying3 (a := kd) (WalkArith.wf_i64 (by omega)))
  rw [hrun]
  have : v = .func (.func (76 + kd)) #[] #[] := by
    have hc : kd = 0 ∨ kd = 1 ∨ kd = 2 ∨ kd = 3 := by omega
    rcases hc with rfl | rfl | rfl | rfl <;> exact fnElem_inv hv
  rw [this]
def bstep (t : List (List Int)) (b m : List Int) : List Int := if traceP t 0 m = 0 ∧ (b = [] ∨ lexLt m b = true) then m else b
def bestOf (t : List (List Int)) (es : List (List Int)) : List Int := es.foldl (bstep t) []
def goodM (t : List (List Int)) (kd : Nat) (l : List Int) : Bool := decide (traceP t 0 l = 0) && !(bestOf t (errsOf kd l t.length)).isEmpty
def serial_Miss.f (t : List (List Int)) (kind : Int) : Option (List Int × List Int × Int) :=
  some (if isTab t = true ∧ t.length ≤ 6 ∧ 0 ≤ kind ∧ kind ≤ 3 then
    (match (allTo t.length 6).find? (goodM t kind.toNat) with
     | some l => (l, bestOf t (errsOf kind.toNat l t.length), 0)
     | none => ([], [], 6))
  else ([], [], 2))
def MPost (w : World) (r1 r2 : List Int) (r3 : Int) (e : Ending) (w' : World) : Prop :=
  ∃ v0_ v1_ : Value, e = .returned (.tuple #[v0_, v1_, .int .i64 r3]) ∧ Kd.R (Kd.int .i64) 3 w' w.heap.size (fun k_ => some k_ ≠ (v1_ : Value).ownBlock) v0_ r1 ∧ Kd.R (Kd.int .i64) 3 w' w.heap.size (fun k_ => some k_ ≠ (v0_ : Value).ownBlock) v1_ r2 ∧ Below w.heap.size w w'
theorem res51 (tmps : Array Value) (w : World) (g4 g5 g6 : Nat) (va vb vc : Value) (h4 : tmps.getD 4 undef = .pointer (some ⟨g4, 0, none⟩)) (h5 : tmps.getD 5 undef = .pointer (some ⟨g5, 0, none⟩)) (h6 : tmps.getD 6 undef = .pointer (some ⟨g6, 0, none⟩))
    (c4 : w.cell? ⟨g4, 0, none⟩ = some va) (c5 : w.cell? ⟨g5, 0, none⟩ = some vb) (c6 : w.cell? ⟨g6, 0, none⟩ = some vc) : (results Try.f51 tmps).run Try.prog w = .ok (.tuple #[va, vb, vc]) w := by
  have h4' : tmps[4]?.getD undef = .pointer (some ⟨g4, 0, none⟩) := by simpa using h4
  have h5' : tmps[5]?.getD undef = .pointer (some ⟨g5, 0, none⟩) := by simpa using h5
  have h6' : tmps[6]?.getD undef = .pointer (some ⟨g6, 0, none⟩) := by simpa using h6
  simp [results, Try.f51, asAddr, h4', h5', h6', c4, c5, c6, go_sem]
theorem tab_r (A0 : Option Addr) (c0 : Nat) (l0 : List (List Int)) (r : Bool) (h : isTab l0 = r) (hc0 : l0.length ≤ c0) (W : World) (hr0 : Kd.C (Kd.slice 3 (Kd.int .i64)) W A0 l0.length l0) :
    Calls Try.prog 53 #[.slice A0 l0.length c0] W fun e w' => e = .returned (.bool r) ∧ Below W.heap.size W w' := serial_isTable.calls A0 c0 l0 r W hr0 hc0 (congrArg some h)
theorem blk_4 (w : World) (o1 o2 o3 o4 : Obj) : ((((w.alloc o1).alloc o2).alloc o3).alloc o4).heap[w.heap.size]? = some o1 ∧ ((((w.alloc o1).alloc o2).alloc o3).alloc o4).heap[w.heap.size + 1]? = some o2 ∧ ((((w.alloc o1).alloc o2).alloc o3).alloc o4).heap[w.heap.size + 1 + 1]? = some o3 ∧ ((((w.alloc o1).alloc o2).alloc o3).alloc o4).heap[w.heap.size + 1 + 1 + 1]? = some o4 := by
  have s : ∀ (w : World) (o : Obj), (w.alloc o).heap.size = w.heap.size + 1 := fun w o => World.size_alloc w o
  refine ⟨blk_alloc (blk_alloc (blk_alloc (blk_new w o1) o2) o3) o4, ?_, ?_, ?_⟩
  · have := blk_alloc (blk_alloc (blk_new (w.alloc o1) o2) o3) o4
    rwa [s] at this
  · have := blk_alloc (blk_new ((w.alloc o1).alloc o2) o3) o4
    rwa [s, s] at this
  · have := blk_new (((w.alloc o1).alloc o2).alloc o3) o4
    rwa [s, s, s] at this
/-- The four variables of Miss. -/
abbrev MV (w : World) (A0 : Option Addr) (n c0 : Nat) : World := (((w.alloc (.cells #[.slice A0 n c0] 22)).alloc (.cells #[.slice none 0 0] 23)).alloc (.cells #[.slice none 0 0] 23)).alloc (.cells #[.int .i64 0] 27)
theorem mv_all (w : World) (A0 : Option Addr) (c0 : Nat) (l0 : List (List Int)) (hr0 : Kd.C (Kd.slice 3 (Kd.int .i64)) w A0 l0.length l0) : Kd.C (Kd.slice 3 (Kd.int .i64)) (MV w A0 l0.length c0) A0 l0.length l0 ∧ Below w.heap.size w (MV w A0 l0.length c0) ∧
    (MV w A0 l0.length c0).heap[w.heap.size]? = some (.cells #[.slice A0 l0.length c0] 22 (0, 0)) ∧ (MV w A0 l0.length c0).heap[w.heap.size + 1]? = some (.cells #[.slice none 0 0] 23 (0, 0)) ∧ (MV w A0 l0.length c0).heap[w.heap.size + 1 + 1]? = some (.cells #[.slice none 0 0] 23 (0, 0)) ∧ (MV w A0 l0.length c0).heap[w.heap.size + 1 + 1 + 1]? = some (.cells #[.int .i64 0] 27 (0, 0)) := by
  obtain ⟨b1, b2, b3, b4⟩ := blk_4 w (.cells #[.slice A0 l0.length c0] 22) (.cells #[.slice none 0 0] 23) (.cells #[.slice none 0 0] 23) (.cells #[.int .i64 0] 27)
  exact ⟨Kd.C_alloc (Kd.C_alloc (Kd.C_alloc (Kd.C_alloc hr0 _) _) _) _, below_alloc (below_alloc (below_alloc (below_alloc (Below.refl _ _) _) _) _) _, b1, b2, b3, b4⟩
/-- Where the results' variables lie, and that they may be written. -/
theorem mv_cells {w W0 w5 : World} (h4 : W0.heap[w.heap.size + 1]? = some (.cells #[.slice none 0 0] 23 (0, 0))) (h5 : W0.heap[w.heap.size + 1 + 1]? = some (.cells #[.slice none 0 0] 23 (0, 0))) (h6 : W0.heap[w.heap.size + 1 + 1 + 1]? = some (.cells #[.int .i64 0] 27 (0, 0))) (hb : Below W0.heap.size W0 w5) :
    (w5.cell? ⟨w.heap.size + 1, 0, none⟩ = some (.slice none 0 0) ∧ w5.frozen? ⟨w.heap.size + 1, 0, none⟩ = false) ∧ (w5.cell? ⟨w.heap.size + 1 + 1, 0, none⟩ = some (.slice none 0 0) ∧ w5.frozen? ⟨w.heap.size + 1 + 1, 0, none⟩ = false) ∧ (w5.cell? ⟨w.heap.size + 1 + 1 + 1, 0, none⟩ = some (.int .i64 0) ∧ w5.frozen? ⟨w.heap.size + 1 + 1 + 1, 0, none⟩ = false) :=
  ⟨⟨(blk_cell (blk_below h4 hb) 0).trans rfl, blk_frozen (blk_below h4 hb) _⟩, ⟨(blk_cell (blk_below h5 hb) 0).trans rfl, blk_frozen (blk_below h5 hb) _⟩, ⟨(blk_cell (blk_below h6 hb) 0).trans rfl, blk_frozen (blk_below h6 hb) _⟩⟩
abbrev st3 (w5 : World) (b : Nat) (va vb vc : Value) : World := ((w5.setCell ⟨b + 1, 0, none⟩ va).setCell ⟨b + 1 + 1, 0, none⟩ vb).setCell ⟨b + 1 + 1 + 1, 0, none⟩ vc
theorem st3_cells {w5 : World} {b : Nat} {x y z va vb vc : Value} (c4 : w5.cell? ⟨b + 1, 0, none⟩ = some x) (c5 : w5.cell? ⟨b + 1 + 1, 0, none⟩ = some y) (c6 : w5.cell? ⟨b + 1 + 1 + 1, 0, none⟩ = some z) :
    (st3 w5 b va vb vc).cell? ⟨b + 1, 0, none⟩ = some va ∧ (st3 w5 b va vb vc).cell? ⟨b + 1 + 1, 0, none⟩ = some vb ∧ (st3 w5 b va vb vc).cell? ⟨b + 1 + 1 + 1, 0, none⟩ = some vc := by
  refine ⟨?_, ?_, ?_⟩
  · rw [World.cell?_setCell_far _ _ _ _ (show b + 1 + 1 + 1 ≠ b + 1 by omega), World.cell?_setCell_far _ _ _ _ (show b + 1 + 1 ≠ b + 1 by omega)]
    exact World.cell?_setCell_same' _ _ _ (by rw [c4]; rfl)
  · rw [World.cell?_setCell_far _ _ _ _ (show b + 1 + 1 + 1 ≠ b + 1 + 1 by omega)]
    exact World.cell?_setCell_same' _ _ _ (by rw [World.cell?_setCell_far _ _ _ _ (show b + 1 ≠ b + 1 + 1 by omega), c5]; rfl)
  · exact World.cell?_setCell_same' _ _ _ (by rw [World.cell?_setCell_far _ _ _ _ (show b + 1 + 1 ≠ b + 1 + 1 + 1 by omega), World.cell?_setCell_far _ _ _ _ (show b + 1 ≠ b + 1 + 1 + 1 by omega), c6]; rfl)
theorem st3_below {w w5 : World} {va vb vc : Value} (h : Below w.heap.size w w5) : Below w.heap.size w (st3 w5 w.heap.size va vb vc) :=
  ((h.setCell (p := ⟨w.heap.size + 1, 0, none⟩) (by simp) _).setCell (p := ⟨w.heap.size + 1 + 1, 0, none⟩) (by simp; omega) _).setCell (p := ⟨w.heap.size + 1 + 1 + 1, 0, none⟩) (by simp; omega) _
theorem post_nil {w w5 : World} {er : Int} (h : Below w.heap.size w w5) : MPost w [] [] er (.returned (.tuple #[.slice none 0 0, .slice none 0 0, .int .i64 er])) (st3 w5 w.heap.size (.slice none 0 0) (.slice none 0 0) (.int .i64 er)) :=
  ⟨_, _, rfl, Kd.R_nil _ _ _ _ _, Kd.R_nil _ _ _ _ _, st3_below h⟩
set_option maxHeartbeats 4000000 in
set_option maxRecDepth 100000 in
theorem miss_bad (A0 : Option Addr) (c0 : Nat) (l0 : List (List Int)) (a1 : Int) (w : World) (hr0 : Kd.C (Kd.slice 3 (Kd.int .i64)) w A0 l0.length l0) (hc0 : l0.length ≤ c0) (h : ¬ (isTab l0 = true ∧ l0.length ≤ 6 ∧ 0 ≤ a1 ∧ a1 ≤ 3)) :
    Calls Try.prog 51 #[.slice A0 l0.length c0, .int .i64 a1] w (MPost w [] [] 2) := by
  obtain ⟨m1, m2, m3, m4, m5, m6⟩ := mv_all w A0 c0 l0 hr0
  have HR := Aside0.mk m1
  have HM := Aside0.mk m2
  have M3 := Aside0.mk m3
  have M4 := Aside0.mk m4
  have M5 := Aside0.mk m5
  have M6 := Aside0.mk m6
  have HC := Aside0.mk hc0
  clear hr0 hc0 m1 m2 m3 m4 m5 m6
  cases h1 : isTab l0 with
  | false =>
    have HT := Aside0.mk (tab_r A0 c0 l0 false h1 HC.out (MV w A0 l0.length c0) HR.out)
    clear h1 h
    go_enter Try.func51, Try.ntmps51
    go_wp2_with (go_at_call 53; (with_reducible refine HT.out.mono ?_); rintro e w5 ⟨rfl, hb⟩; have HB5 := Aside0.mk hb; obtain ⟨⟨c4, f4⟩, ⟨c5, f5⟩, ⟨c6, f6⟩⟩ := mv_cells M4.out M5.out M6.out hb; clear hb)
    obtain ⟨d4, d5, d6⟩ := st3_cells (va := .slice none 0 0) (vb := .slice none 0 0) (vc := .int .i64 2) c4 c5 c6
    exact bodyPost_ret (res51 _ _ _ _ _ _ _ _ rfl rfl rfl d4 d5 d6) rfl (post_nil (HM.out.trans (HB5.out.mono HM.out.size)))
  | true =>
    by_cases h2 : l0.length ≤ 6
    · have HT := Aside0.mk (tab_r A0 c0 l0 true h1 HC.out (MV w A0 l0.length c0) HR.out)
      have hl : ((6 : Int) < (l0.length : Int)) = False := eq_false (by omega)
      have HK := Aside0.mk (show ¬ (0 ≤ a1 ∧ a1 ≤ 3) from fun h3 => h ⟨h1, h2, h3⟩)
      clear h1 h h2
      go_enter Try.func51, Try.ntmps51
      go_wp2_with (first | (go_at_call 53; (with_reducible refine HT.out.mono ?_); rintro e w5 ⟨rfl, hb⟩; have HB5 := Aside0.mk hb; obtain ⟨⟨c4, f4⟩, ⟨c5, f5⟩, ⟨c6, f6⟩⟩ := mv_cells M4.out M5.out M6.out hb; have hcl : w5.cell? ⟨w.heap.size, 0, none⟩ = some (.slice A0 l0.length c0) := (blk_cell (blk_below M3.out hb) 0).trans rfl; clear hb) | (go_at_call 56; (with_reducible refine (within_f _ _ _ _ HK.out).mono ?_); rintro e w' ⟨rfl, rfl⟩))
      obtain ⟨d4, d5, d6⟩ := st3_cells (va := .slice none 0 0) (vb := .slice none 0 0) (vc := .int .i64 2) c4 c5 c6
      exact bodyPost_ret (res51 _ _ _ _ _ _ _ _ rfl rfl rfl d4 d5 d6) rfl (post_nil (HM.out.trans (HB5.out.mono HM.out.size)))
    · have HT := Aside0.mk (tab_r A0 c0 l0 true h1 HC.out (MV w A0 l0.length c0) HR.out)
      have hl : ((6 : Int) < (l0.length : Int)) = True := eq_true (by omega)
      clear h1 h h2
      go_enter Try.func51, Try.ntmps51
      go_wp2_with (first | (go_at_call 53; (with_reducible refine HT.out.mono ?_); rintro e w5 ⟨rfl, hb⟩; have HB5 := Aside0.mk hb; obtain ⟨⟨c4, f4⟩, ⟨c5, f5⟩, ⟨c6, f6⟩⟩ := mv_cells M4.out M5.out M6.out hb; have hcl : w5.cell? ⟨w.heap.size, 0, none⟩ = some (.slice A0 l0.length c0) := (blk_cell (blk_below M3.out hb) 0).trans rfl; clear hb))
      obtain ⟨d4, d5, d6⟩ := st3_cells (va := .slice none 0 0) (vb := .slice none 0 0) (vc := .int .i64 2) c4 c5 c6
      exact bodyPost_ret (res51 _ _ _ _ _ _ _ _ rfl rfl rfl d4 d5 d6) rfl (post_nil (HM.out.trans (HB5.out.mono HM.out.size)))
def missV (t : List (List Int)) (kd : Nat) : List Int × List Int × Int :=
  match (allTo t.length 6).find? (goodM t kd) with
  | some l => (l, bestOf t (errsOf kd l t.length), 0)
  | none => ([], [], 6)
def MR (w : World) (l0 : List (List Int)) (kd : Nat) (e : Ending) (w' : World) : Prop := MPost w (missV l0 kd).1 (missV l0 kd).2.1 (missV l0 kd).2.2 e w'
theorem kinds_arm (w0 : World) (h : w0.heap.size ≤ w0.heap.size) (kd : Nat) (hk : kd < 4) : Calls Try.prog 66 #[] w0 fun e w' => ∃ b, e = .returned (.map (some b)) ∧ (Instr.lookup 89 (.map (some b)) (.int .i64 kd) false).run Try.prog w' = .ok (.func (.func (76 + kd)) #[] #[]) w' ∧ Below w0.heap.size w0 w' :=
  (kinds_calls w0).mono fun e w' ⟨h1, h2, h3⟩ => ⟨_, h1, kinds_look w' _ h2 kd hk, h3⟩
/-- A round has left: the results lie in their variables. -/
def RetI (w : World) (l0 : List (List Int)) (kd : Nat) (x : Value × List Int) (W : World) : Prop :=
  ∃ bv : Value, W.cell? ⟨w.heap.size + 1, 0, none⟩ = some x.1 ∧ W.cell? ⟨w.heap.size + 1 + 1, 0, none⟩ = some bv ∧ W.cell? ⟨w.heap.size + 1 + 1 + 1, 0, none⟩ = some (.int .i64 0) ∧
    Kd.R (Kd.int .i64) 3 W w.heap.size (fun k => some k ≠ bv.ownBlock) x.1 x.2 ∧ Kd.R (Kd.int .i64) 3 W w.heap.size (fun k => some k ≠ x.1.ownBlock) bv (bestOf l0 (errsOf kd x.2 l0.length)) ∧ goodM l0 kd x.2 = true ∧ Below w.heap.size w W
theorem R_put {W : World} {b l : Nat} {ok : Nat → Prop} {o o' : Obj} {v : Value} {xs : List Int} (hl : W.heap[l]? = some o) (ho : o.isCells = false) (h : Kd.R (Kd.int .i64) 3 W b ok v xs) : Kd.R (Kd.int .i64) 3 (W.putObj l o') b ok v xs :=
  Kd.R_mono (Kd.R_move (Kd.R_bound h) (fun k hk => World.putObj_heap_other (fun e => by
    obtain ⟨_, _, _, q, _, cells, hc⟩ := hk
    subst e
    rw [hl] at hc
    cases hc
    cases ho))) (fun _ hk => hk.1)
theorem R_put_lt {W : World} {b l : Nat} {ok : Nat → Prop} {o' : Obj} {v : Value} {xs : List Int} (hl : l < b) (h : Kd.R (Kd.int .i64) 3 W b ok v xs) : Kd.R (Kd.int .i64) 3 (W.putObj l o') b ok v xs :=
  Kd.R_mono (Kd.R_move (Kd.R_bound h) (fun k hk => World.putObj_heap_other (by have := hk.2.1; omega))) (fun _ hk => hk.1)
theorem cell_put {W : World} {l : Nat} {o o' : Obj} {a : Addr} {v : Value} (hl : W.heap[l]? = some o) (ho : o.isCells = false) (h : W.cell? a = some v) : (W.putObj l o').cell? a = some v :=
  (cell_kept h (grownBy_putObj' W l o') (fun r e => by cases e; exact ⟨o, hl, ho⟩))
theorem RetI_put {w : World} {l0 : List (List Int)} {kd : Nat} {x : Value × List Int} {W : World} {l : Nat} {o o' : Obj} (hwl : w.heap.size ≤ l) (hl : W.heap[l]? = some o) (ho : o.isCells = false) (h : RetI w l0 kd x W) : RetI w l0 kd x (W.putObj l o') := by
  obtain ⟨bv, a1, a2, a3, a4, a5, a6, a7⟩ := h
  exact ⟨bv, cell_put hl ho a1, cell_put hl ho a2, cell_put hl ho a3, R_put hl ho a4, R_put hl ho a5, a6, a7.grown (grownBy_putObj' W l o') a7.size (fun k e => by cases e; exact hwl)⟩
theorem missV_none {l0 : List (List Int)} {kd : Nat} (h : ∀ d ∈ allTo l0.length 6, goodM l0 kd d = false) : missV l0 kd = ([], [], 6) := by
  unfold missV
  rw [List.find?_eq_none.2 (fun d hd => by simp [h d hd])]
theorem missV_some {l0 : List (List Int)} {kd : Nat} {pre post : List (List Int)} {d : List Int} (h : allTo l0.length 6 = pre ++ d :: post) (hp : ∀ y ∈ pre, goodM l0 kd y = false) (hd : goodM l0 kd d = true) : missV l0 kd = (d, bestOf l0 (errsOf kd d l0.length), 0) := by
  unfold missV
  rw [h, List.find?_append, List.find?_eq_none.2 (fun y hy => by simp [hp y hy]), Option.none_or, List.find?_cons_of_pos hd]
theorem digs_iff (l : List Int) (n : Int) : digs l n = true ↔ ∀ x ∈ l, 0 ≤ x ∧ x < n := by simp [digs]
theorem digs_with {l ds : List Int} {n : Int} (i : Int) (h : digs l n = true) (hd : digs ds n = true) : digs (withN l i ds) n = true := by
  rw [digs_iff] at h hd ⊢
  intro x hx
  unfold withN at hx
  rcases List.mem_append.1 hx with hx | hx
  · exact h x (List.mem_of_mem_take hx)
  · rcases List.mem_append.1 hx with hx | hx
    · exact hd x hx
    · exact h x (List.mem_of_mem_drop hx)
theorem with_len {l ds : List Int} (i : Nat) (h : i + ds.length ≤ l.length) : (withN l (i : Int) ds).length = l.length := by
  simp [withN]; omega
theorem rd_digs {l : List Int} {n : Nat} (h : digs l n = true) (i : Nat) (hi : i < l.length) : 0 ≤ rd l (i : Int) ∧ rd l (i : Int) < n := by
  rw [rd_nat l i hi]; exact (digs_iff l n).1 h _ (List.getElem_mem _)
theorem errs_ok {l : List Int} {n kd : Nat} (h : digs l n = true) (hk : kd < 4) : ∀ m ∈ errsOf kd l n, digs m n = true ∧ m.length = l.length := by
  intro m hm
  unfold errsOf errTo at hm
  obtain ⟨i, hi, hm⟩ := List.mem_flatMap.1 hm
  have hi := List.mem_range.1 hi
  have hc : kd = 0 ∨ kd = 1 ∨ kd = 2 ∨ kd = 3 := by omega
  rcases hc with rfl | rfl | rfl | rfl
  · simp only [errN] at hi
    obtain ⟨x, hx, hm⟩ := List.mem_flatMap.1 hm
    have hx := List.mem_range.1 hx
    split at hm
    · simp at hm
    · rw [List.mem_singleton] at hm
      subst hm
      exact ⟨digs_with _ h (by rw [digs_iff]; simp; omega), with_len i (by simp; omega)⟩
  · simp only [errN] at hi
    simp only [errAt] at hm
    split at hm
    · simp at hm
    · rw [List.mem_singleton] at hm
      subst hm
      have h1 := rd_digs h i (by omega)
      have h2 := rd_digs h (i + 1) (by omega)
      exact ⟨digs_with _ h (by rw [digs_iff]; intro x hx; simp only [List.mem_cons, List.not_mem_nil, or_false] at hx; rcases hx with rfl | rfl; exact h2; exact h1), with_len i (by simp; omega)⟩
  · simp only [errN] at hi
    obtain ⟨x, hx, hm⟩ := List.mem_flatMap.1 hm
    have hx := List.mem_range.1 hx
    split at hm
    · split at hm
      · simp at hm
      · rw [List.mem_singleton] at hm
        subst hm
        exact ⟨digs_with _ h (by rw [digs_iff]; simp; omega), with_len i (by simp; omega)⟩
    · simp at hm
  · simp only [errN] at hi
    simp only [errAt] at hm
    split at hm
    · simp at hm
    · rw [List.mem_singleton] at hm
      subst hm
      have h1 := rd_digs h i (by omega)
      have h2 := rd_digs h (i + 1) (by omega)
      have h3 := rd_digs h (i + 2) (by omega)
      exact ⟨digs_with _ h (by rw [digs_iff]; intro x hx; simp only [List.mem_cons, List.not_mem_nil, or_false] at hx; rcases hx with rfl | rfl | rfl; exact h3; exact h2; exact h1), with_len i (by simp; omega)⟩
theorem tr_in (lo m : Nat) {t : List (List Int)} (ht : isTab t = true) {ds : List Int} (hd : digs ds t.length = true) (hl : ds.length ≤ 1000) (A0 : Option Addr) (c0 : Nat) (A1 : Option Addr) (c1 : Nat) (W : World) (hc0 : t.length ≤ c0) (hc1 : ds.length ≤ c1)
    (h0 : Kd.C (Kd.slice 3 (Kd.int .i64)) W A0 t.length t) (h1 : Kd.C (Kd.int .i64) W A1 ds.length ds) :
    CallsIn (Fence.wide.inRound lo) m Try.prog 55 #[.slice A0 t.length c0, .slice A1 ds.length c1] W fun e w' => e = .returned (.int .i64 (traceP t 0 ds)) ∧ Below W.heap.size W w' := by
  obtain ⟨K, hK⟩ := ev_trace (of_decide_eq_true ht) ds hd (by omega)
  exact CallsIn.inRound lo (callsIn_wide.2 ((serial_table_trace.calls K A0 c0 t A1 c1 ds _ W h0 hc0 h1 hc1 (hK K (Nat.le_refl _))).mono fun e w' ⟨a, b⟩ => ⟨a, b.below⟩))
theorem err_in (lo m : Nat) {kd f : Nat} (hf : f = 76 + kd) (hk : kd < 4) {n : Nat} (hn : 1 ≤ n) (hn2 : n ≤ 12) {ds : List Int} (hl : ds.length ≤ 1000) (A1 : Option Addr) (c1 : Nat) (W : World) (hc1 : ds.length ≤ c1) (h1 : Kd.C (Kd.int .i64) W A1 ds.length ds) :
    CallsIn (Fence.wide.inRound lo) m Try.prog f #[.slice A1 ds.length c1, .int .i64 n] W fun e w' => ∃ v0 : Value, e = .returned v0 ∧ Kd.S (Kd.slice 3 (Kd.int .i64)) 94 w' W.heap.size (fun _ => True) v0 (errsOf kd ds n) ∧ Below W.heap.size W w' := by
  subst hf
  have hc : kd = 0 ∨ kd = 1 ∨ kd = 2 ∨ kd = 3 := by omega
  rcases hc with rfl | rfl | rfl | rfl
  · obtain ⟨K, hK⟩ := ev_singles hl hn hn2
    exact CallsIn.inRound lo (callsIn_wide.2 (serial_number_singles.calls K A1 c1 ds n _ W h1 hc1 (hK K (Nat.le_refl _))))
  · obtain ⟨K, hK⟩ := ev_neighbors hl hn hn2
    exact CallsIn.inRound lo (callsIn_wide.2 (serial_number_neighbors.calls K A1 c1 ds n _ W h1 hc1 (hK K (Nat.le_refl _))))
  · obtain ⟨K, hK⟩ := ev_twins hl hn hn2
    exact CallsIn.inRound lo (callsIn_wide.2 (serial_number_twins.calls K A1 c1 ds n _ W h1 hc1 (hK K (Nat.le_refl _))))
  · obtain ⟨K, hK⟩ := ev_jumps hl hn hn2
    exact CallsIn.inRound lo (callsIn_wide.2 (serial_number_jumps.calls K A1 c1 ds n _ W h1 hc1 (hK K (Nat.le_refl _))))
theorem cmp_in (lo : Nat) {a b : List Int} (hab : a.length = b.length) (hl : a.length ≤ 1000) :
    ∃ c : Int, (c < 0 ↔ lexLt a b = true) ∧ ∀ (m : Nat) (A0 : Option Addr) (c0 : Nat) (A1 : Option Addr) (c1 : Nat) (W : World), a.length ≤ c0 → b.length ≤ c1 → Kd.C (Kd.int .i64) W A0 a.length a → Kd.C (Kd.int .i64) W A1 b.length b →
      CallsIn (Fence.wide.inRound lo) m Try.prog 68 #[.slice A0 a.length c0, .slice A1 b.length c1] W fun e w' => e = .returned (.int .i64 c) ∧ Below W.heap.size W w' := by
  obtain ⟨c, ⟨K, hK⟩, hc⟩ := ev_cmp a b hab hl
  exact ⟨c, hc, fun m A0 c0 A1 c1 W hc0 hc1 h0 h1 => CallsIn.inRound lo (callsIn_wide.2 ((serial_number_int_68.calls K A0 c0 a A1 c1 b _ W h0 hc0 h1 hc1 (hK K (Nat.le_refl _))).mono fun e w' ⟨a, b⟩ => ⟨a, b.below⟩))⟩
def bl (t es : List (List Int)) (j : Nat) : List Int := bestOf t (es.take j)
theorem bl_succ (t es : List (List Int)) (j : Nat) (h : j < es.length) : bl t es (j + 1) = bstep t (bl t es j) es[j] := by
  unfold bl bestOf
  rw [List.take_succ_eq_append_getElem h, List.foldl_append]; rfl
theorem bl_all (t es : List (List Int)) : bl t es es.length = bestOf t es := by unfold bl; rw [List.take_length]
theorem best_in (t : List (List Int)) (es : List (List Int)) : bestOf t es = [] ∨ bestOf t es ∈ es := by
  have gen : ∀ (es : List (List Int)) (b : List Int), es.foldl (bstep t) b = b ∨ es.foldl (bstep t) b ∈ es := by
    intro es
    induction es with
    | nil => intro b; exact .inl rfl
    | cons e es ih =>
      intro b
      rw [List.foldl_cons]
      rcases ih (bstep t b e) with h | h
      · rw [h]; unfold bstep; split
        · exact .inr (List.mem_cons_self)
        · exact .inl rfl
      · exact .inr (List.mem_cons_of_mem _ h)
  exact gen es []
theorem bl_len {t es : List (List Int)} {n : Nat} (h : ∀ m ∈ es, m.length = n) (j : Nat) (hb : bl t es j ≠ []) : (bl t es j).length = n := by
  rcases best_in t (es.take j) with h1 | h1
  · exact absurd h1 hb
  · exact h _ (List.mem_of_mem_take h1)
theorem keepsOf {W W' : World} (h : Below W.heap.size W W') : KeepsOthers W W' := ⟨h.size, fun k o hk _ => (h.block k (Array.getElem?_eq_some_iff.1 hk).1).trans hk⟩
theorem row_get {W : World} {base g n c : Nat} {es : List (List Int)} (h : Kd.S (Kd.slice 3 (Kd.int .i64)) 94 W base (fun _ => True) (.slice (some ⟨g, 0, none⟩) n c) es) (j : Nat) (hj : j < es.length) :
    ∃ Aj cj, W.cell? ⟨g, j, none⟩ = some (.slice Aj es[j].length cj) ∧ Kd.R (Kd.int .i64) 3 W base (fun _ => True) (.slice Aj es[j].length cj) es[j] := by
  have hn : n = es.length := (Kd.S_reads' h).1
  obtain ⟨cs, hcl, hM, hcell⟩ := Kd.S_get h [] (j : Int) (by omega) (by omega)
  have e : es.getD (j : Int).toNat [] = es[j] := by simp [List.getD_eq_getElem?_getD, hj]
  rw [e] at hM
  obtain ⟨v, rfl, hR⟩ := hM
  obtain ⟨Aj, cj, rfl⟩ := Kd.R_slice hR
  have hc := hcell 0 _ rfl
  refine ⟨Aj, cj, ?_, Kd.R_mono hR (fun _ _ => trivial)⟩
  have ea : (⟨g, 0, none⟩ : Addr).add ((j : Int).toNat * (Kd.slice 3 (Kd.int .i64)).sz + 0) = ⟨g, j, none⟩ := by
    have : (j : Int).toNat * (Kd.slice 3 (Kd.int .i64)).sz + 0 = j := by show (j : Int).toNat * 1 + 0 = j; omega
    rw [this]; simp [Addr.add]; try (intro h; omega)
  rw [ea] at hc
  exact hc
/-- The inner loop's relation: what the best is so far. -/
def InR (W w9 : World) (l0 es : List (List Int)) (v9 : Value) (j : Nat) (wr : World) : Prop :=
  Aside0 (j ≤ es.length) ∧ ∃ A9 c9, v9 = .slice A9 (bl l0 es j).length c9 ∧ Aside0 (Kd.R (Kd.int .i64) 3 wr W.heap.size (fun _ => True) (.slice A9 (bl l0 es j).length c9) (bl l0 es j)) ∧ Aside0 (bl l0 es j = [] → A9 = none ∧ c9 = 0) ∧ Aside0 (Below w9.heap.size w9 wr)
def InRel (W w9 : World) (l0 es : List (List Int)) (v9 v42 : Value) (wr : World) : Prop := ∃ j : Nat, v42 = .int .i64 j ∧ InR W w9 l0 es v9 j wr
theorem bstep_no {t : List (List Int)} {b m : List Int} (h : ¬ (traceP t 0 m = 0 ∧ (b = [] ∨ lexLt m b = true))) : bstep t b m = b := if_neg h
theorem bstep_yes {t : List (List Int)} {b m : List Int} (h : traceP t 0 m = 0 ∧ (b = [] ∨ lexLt m b = true)) : bstep t b m = m := if_pos h
theorem errs_pos {l : List Int} {n kd : Nat} (m : List Int) (h : m ∈ errsOf kd l n) : 0 < l.length := by
  unfold errsOf errTo at h
  obtain ⟨i, hi, _⟩ := List.mem_flatMap.1 h
  have hi := List.mem_range.1 hi
  unfold errN at hi
  split at hi <;> omega
theorem errs_count_le {kd n : Nat} {l : List Int} {es : List (List Int)} (hn : 1 ≤ n) (hn2 : n ≤ 12) (hl : l.length ≤ 1000) (h : errsOf kd l n = es) : es.length ≤ 12000 := by
  rw [← h]
  have h1 : errN kd l.length ≤ 1000 := by unfold errN; split <;> omega
  exact errTo_small kd l n _ hn hn2 h1
theorem undef_no {b : Bool} (h : some undef = some (Value.bool b)) : False := by
  injection h with h
  unfold undef at h
  cases h
theorem meas_lt {n j : Nat} (h1 : j < n) (h2 : n ≤ 12000) : n - (intOf (Value.int IntKind.i64 (wrap64 ((j : Int) + 1)))).toNat < n - (intOf (Value.int IntKind.i64 (j : Int))).toNat := by
  rw [w64 (by omega) (by omega)]
  simp only [intOf]
  omega
theorem inr_yes {W w9 wr w11 : World} {b0 : Nat} {l0 es : List (List Int)} {j : Nat} {mj : List Int} {Aj : Option Addr} {cj : Nat} (hj : j < es.length) (hbs : bl l0 es (j + 1) = bstep l0 (bl l0 es j) mj) (h : traceP l0 0 mj = 0 ∧ (bl l0 es j = [] ∨ lexLt mj (bl l0 es j) = true)) (hm : 0 < mj.length)
    (hR : Kd.R (Kd.int .i64) 3 wr b0 (fun _ => True) (.slice Aj mj.length cj) mj) (hlow : W.heap.size ≤ b0) (hb : Below w9.heap.size w9 wr) (hb2 : Below wr.heap.size wr w11) : InR W w9 l0 es (.slice Aj mj.length cj) (j + 1) w11 := by
  rw [bstep_yes h] at hbs
  unfold InR
  rw [hbs]
  exact ⟨⟨hj⟩, Aj, cj, rfl, ⟨Kd.R_lower (Kd.R_below hR hb2) hlow⟩, ⟨fun e => by subst e; simp at hm⟩, ⟨below_step hb hb2⟩⟩
theorem inr_no {W w9 wr w11 : World} {l0 es : List (List Int)} {j : Nat} {mj : List Int} {A9 : Option Addr} {c9 : Nat} (hj : j < es.length) (hbs : bl l0 es (j + 1) = bstep l0 (bl l0 es j) mj) (h : ¬ (traceP l0 0 mj = 0 ∧ (bl l0 es j = [] ∨ lexLt mj (bl l0 es j) = true)))
    (hR : Kd.R (Kd.int .i64) 3 wr W.heap.size (fun _ => True) (.slice A9 (bl l0 es j).length c9) (bl l0 es j)) (hnil : bl l0 es j = [] → A9 = none ∧ c9 = 0) (hb : Below w9.heap.size w9 wr) (hb2 : Below wr.heap.size wr w11) : InR W w9 l0 es (.slice A9 (bl l0 es j).length c9) (j + 1) w11 := by
  rw [bstep_no h] at hbs
  unfold InR
  rw [hbs]
  exact ⟨⟨hj⟩, A9, c9, rfl, ⟨Kd.R_below hR hb2⟩, ⟨hnil⟩, ⟨below_step hb hb2⟩⟩
theorem good_yes {l0 : List (List Int)} {kd : Nat} {ds : List Int} {es : List (List Int)} {tv : Int} (h1 : traceP l0 0 ds = tv) (h2 : tv = 0) (h3 : errsOf kd ds l0.length = es) (h4 : bl l0 es es.length ≠ []) : goodM l0 kd ds = true := by
  unfold goodM
  rw [h1, h2, h3, ← bl_all]
  cases h : bl l0 es es.length with
  | nil => exact absurd h h4
  | cons a x => rfl
theorem good_no {l0 : List (List Int)} {kd : Nat} {ds : List Int} {es : List (List Int)} (h3 : errsOf kd ds l0.length = es) (h4 : bl l0 es es.length = []) : goodM l0 kd ds = false := by
  unfold goodM
  rw [h3, ← bl_all, h4]; simp
/-- A round that leaves: its results are stored. -/
theorem leave_ok {w W wr W8 : World} {l0 : List (List Int)} {kd : Nat} {ds : List Int} {es : List (List Int)} {A1 A9 : Option Addr} {c1 c9 n9 : Nat} (h8 : w.heap.size + 3 < W8.heap.size) (hw : Below w.heap.size w W) (hbr : Below W.heap.size W wr)
    (c4 : wr.cell? ⟨w.heap.size + 1, 0, none⟩ = some (.slice none 0 0)) (c5 : wr.cell? ⟨w.heap.size + 1 + 1, 0, none⟩ = some (.slice none 0 0)) (c6 : wr.cell? ⟨w.heap.size + 1 + 1 + 1, 0, none⟩ = some (.int .i64 0))
    (hx : Kd.R (Kd.int .i64) 3 W (W8.heap.size + 2) (fun _ => True) (.slice A1 ds.length c1) ds) (h9 : Kd.R (Kd.int .i64) 3 wr W.heap.size (fun _ => True) (.slice A9 n9 c9) (bl l0 es es.length)) (hes : errsOf kd ds l0.length = es) (hg : goodM l0 kd ds = true) (hW : W8.heap.size + 2 ≤ W.heap.size) :
    KeepsOthers W (st3 wr w.heap.size (.slice A1 ds.length c1) (.slice A9 n9 c9) (.int .i64 0)) ∧ KeptFrom (W8.heap.size + 2) W (st3 wr w.heap.size (.slice A1 ds.length c1) (.slice A9 n9 c9) (.int .i64 0)) ∧ RetI w l0 kd (.slice A1 ds.length c1, ds) (st3 wr w.heap.size (.slice A1 ds.length c1) (.slice A9 n9 c9) (.int .i64 0)) := by
  have far : ∀ k, w.heap.size + 3 < k → (st3 wr w.heap.size (.slice A1 ds.length c1) (.slice A9 n9 c9) (.int .i64 0)).heap[k]? = wr.heap[k]? := fun k hk => by
    rw [Below.heap_setCell _ _ _ _ (show k ≠ w.heap.size + 1 + 1 + 1 by omega), Below.heap_setCell _ _ _ _ (show k ≠ w.heap.size + 1 + 1 by omega), Below.heap_setCell _ _ _ _ (show k ≠ w.heap.size + 1 by omega)]
  obtain ⟨d4, d5, d6⟩ := st3_cells (va := .slice A1 ds.length c1) (vb := .slice A9 n9 c9) (vc := .int .i64 0) c4 c5 c6
  refine ⟨(((keepsOf hbr).trans (KeepsOthers.setCell _ _ _)).trans (KeepsOthers.setCell _ _ _)).trans (KeepsOthers.setCell _ _ _), fun k hk1 hk2 => (far k (by omega)).trans (hbr.block k hk2), .slice A9 n9 c9, d4, d5, d6, ?_, ?_, hg, st3_below (hw.trans (hbr.mono hw.size))⟩
  · -- the number's blocks are older than the best's
    have hx2 := Kd.R_bound (Kd.R_below hx hbr)
    have hx3 := Kd.R_bound hx
    refine Kd.R_lower (base := W8.heap.size + 2) (Kd.R_mono (Kd.R_step (Kd.R_mono (Kd.R_below (Kd.R_bound hx) hbr) (ok' := fun k => W8.heap.size + 2 ≤ k ∧ k < W.heap.size) (fun k hk => ⟨hk.2.1, hk.2.2.1⟩)) (fun k hk _ => far k (by omega))) (fun k hk => ?_)) (by omega)
    intro e
    have := (Kd.R_bound h9).1 k e.symm
    have := this.2.1
    omega
  · rw [hes, ← bl_all]
    refine Kd.R_lower (base := W.heap.size) (Kd.R_mono (Kd.R_step (Kd.R_mono (Kd.R_bound h9) (ok' := fun k => W.heap.size ≤ k) (fun k hk => hk.2.1)) (fun k hk _ => far k (by omega))) (fun k hk => ?_)) hw.size
    intro e
    have := (Kd.R_bound hx).1 k e.symm
    have := this.2.2.1
    omega
set_option maxHeartbeats 16000000 in
set_option maxRecDepth 100000 in
theorem miss_good (A0 : Option Addr) (c0 : Nat) (l0 : List (List Int)) (kd : Nat) (w : World) (hr0 : Kd.C (Kd.slice 3 (Kd.int .i64)) w A0 l0.length l0) (hc0 : l0.length ≤ c0) (h1 : isTab l0 = true) (h2 : l0.length ≤ 6) (hk : kd < 4) :
    Calls Try.prog 51 #[.slice A0 l0.length c0, .int .i64 kd] w (MR w l0 kd) := by
  obtain ⟨m1, m2, m3, m4, m5, m6⟩ := mv_all w A0 c0 l0 hr0
  have HR := Aside0.mk m1
  have HM := Aside0.mk m2
  have M3 := Aside0.mk m3
  have M4 := Aside0.mk m4
  have M5 := Aside0.mk m5
  have M6 := Aside0.mk m6
  have HC := Aside0.mk hc0
  have HT := Aside0.mk (tab_r A0 c0 l0 true h1 HC.out (MV w A0 l0.length c0) HR.out)
  have hl : ((6 : Int) < (l0.length : Int)) = False := eq_false (by omega)
  have HK := Aside0.mk hk
  have HT1 := Aside0.mk h1
  have HL := Aside0.mk h2
  have HI := Aside0.mk (show (0 : Int) ≤ kd ∧ (kd : Int) ≤ 3 by omega)
  clear hr0 hc0 m1 m2 m3 m4 m5 m6 h1 h2 hk
  refine (callsIn_wide (n := 3)).1 (callsIn_of_wp_marks Try.func51 rfl trivial (wpIn_wide.2 ?_))
  simp only [Try.ntmps51, List.size_toArray, List.length_cons, List.length_nil, Nat.reduceAdd, Nat.reduceSub, Array.replicate_succ, Array.replicate_zero, List.push_toArray, List.append_toArray, List.nil_append, List.cons_append]
  go_wp2_with (first | (go_at_call 53; (with_reducible refine HT.out.mono ?_); rintro e w5 ⟨rfl, hb⟩; have HB5 := Aside0.mk hb; have hcl : w5.cell? ⟨w.heap.size, 0, none⟩ = some (.slice A0 l0.length c0) := (blk_cell (blk_below M3.out hb) 0).trans rfl; clear hb) | (go_at_call 56; (with_reducible refine (within_t _ _ _ _ HI.out.1 HI.out.2).mono ?_); rintro e w' ⟨rfl, rfl⟩) | (go_at_call 66; (with_reducible refine (kinds_arm _ (Nat.le_refl _) kd HK.out).mono ?_); rintro e w6 ⟨mb, rfl, hlook, hb⟩; have HB6 := Aside0.mk (below_step HB5.out hb); clear hcl hb; have hcl : w6.cell? ⟨w.heap.size, 0, none⟩ = some (.slice A0 l0.length c0) := (blk_cell (blk_below M3.out HB6.out) 0).trans rfl; have hclA : ∀ o : Obj, (w6.alloc o).cell? ⟨w.heap.size, 0, none⟩ = some (.slice A0 l0.length c0) := fun o => (blk_cell (blk_alloc (blk_below M3.out HB6.out) o) 0).trans rfl) | (go_at_call 67; (with_reducible refine (numbers_calls l0.length _).mono ?_); rintro e w7 ⟨rfl, rfl⟩))
  obtain ⟨W8, hW8⟩ : ∃ W8, ((w6.alloc (.cells #[.func (.func (76 + kd)) #[] #[]] 88)).alloc (.cells #[.int .i64 (l0.length : Int)] 3)) = W8 := ⟨_, rfl⟩
  have hB8 : Below (MV w A0 l0.length c0).heap.size (MV w A0 l0.length c0) W8 := by rw [← hW8]; exact below_alloc (below_alloc HB6.out _) _
  have hf8 : W8.heap[w6.heap.size]? = some (.cells #[.func (.func (76 + kd)) #[] #[]] 88 (0, 0)) := by rw [← hW8]; exact blk_alloc (blk_new _ _) _
  have hn8 : W8.heap[w6.heap.size + 1]? = some (.cells #[.int .i64 (l0.length : Int)] 3 (0, 0)) := by rw [← hW8]; have := blk_new (w6.alloc (.cells #[.func (.func (76 + kd)) #[] #[]] 88)) (.cells #[.int .i64 (l0.length : Int)] 3); rwa [World.size_alloc] at this
  rw [hW8]
  have HB8 := Aside0.mk hB8
  have HF8 := Aside0.mk hf8
  have HN8 := Aside0.mk hn8
  clear hW8 hB8 hf8 hn8 hclA hcl hlook HB5 HB6 HT
  have HW8 := Aside0.mk (HM.out.trans (HB8.out.mono HM.out.size))
  refine (wpIn_wide (n := 3)).1 ?_
  refine wpIn_rangeFunc_R (F := Fence.wide) rfl (by decide) (gf := 80) (lb := #[.pointer (some ⟨w6.heap.size + 1, 0, none⟩)]) rfl trivial (enters_of Try.func80 (by kernel_rfl) rfl) (numbers_seq 2 l0.length (w6.heap.size + 1) W8 (by have := HL.out; omega) HN8.out) (fun _ => rfl)
    (fun b x W l o' hlb hg => ⟨R_put_lt hlb hg.1, hg.2⟩) (fun x => goodM l0 kd x.2 = false) (fun c x W => c = .ret ∧ RetI w l0 kd x W)
    (fun c x W l o o' hl ho hoc hi => ⟨hi.1, RetI_put (Nat.le_trans HW8.out.size hl) ho hoc hi.2⟩) ?a1 ?assign ?body ?done ?stop
  case assign =>
    intro l x W K hK
    gi_wp2
    exact hK
  case body =>
    rintro l ⟨v, ds⟩ W hwl hW2 hB ⟨hR, hd, hlen⟩
    have HB2 := Aside0.mk hW2
    clear hW2
    dsimp only at hR hd hlen ⊢
    obtain ⟨A1, c1, rfl⟩ := Kd.R_slice hR
    have hBW := below_step HB8.out hB
    have hct : W.cell? ⟨w.heap.size, 0, none⟩ = some (.slice A0 l0.length c0) := (blk_cell (blk_below M3.out hBW) 0).trans rfl
    have hCt := Kd.C_below HR.out hBW
    have hCd := (Kd.R_reads' hR).2.2
    have hc1 := (Kd.R_reads' hR).2.1
    obtain ⟨tv, htv⟩ : ∃ tv, traceP l0 0 ds = tv := ⟨_, rfl⟩
    have TR := fun m => tr_in l m HT1.out hd (by omega) A0 c0 A1 c1 W HC.out hc1 hCt hCd
    rw [htv] at TR
    have TR := Aside0.mk TR
    have HTV := Aside0.mk htv
    have HBW := Aside0.mk hBW
    have HRx := Aside0.mk hR
    have HD := Aside0.mk hd
    have HLen := Aside0.mk hlen
    have HCt := Aside0.mk hCt
    have HCd := Aside0.mk hCd
    have HC1 := Aside0.mk hc1
    have HWl := Aside0.mk hwl
    have HB := Aside0.mk hB
    clear htv hBW hR hd hlen hCt hCd hc1 hwl hB
    by_cases ht : tv = 0
    · have hb1 : (tv != 0) = false := bne_eq_false_iff_eq.mpr ht
      have hb2 : (tv == 0) = true := beq_iff_eq.mpr ht
      have HT0 := Aside0.mk ht
      have HN1 : Aside0 (1 ≤ l0.length) := ⟨by have h := (of_decide_eq_true HT1.out : TabOk l0).1; omega⟩
      have HN12 : Aside0 (l0.length ≤ 12) := ⟨by have := HL.out; omega⟩
      have HLen3 : Aside0 (ds.length ≤ 1000) := ⟨by have := HLen.out; omega⟩
      have HF := Aside0.mk (blk_below HF8.out HB.out)
      clear ht
      obtain ⟨es, hes⟩ : ∃ es, errsOf kd ds l0.length = es := ⟨_, rfl⟩
      have HES := Aside0.mk hes
      have HOK := Aside0.mk (errs_ok (kd := kd) HD.out HK.out)
      rw [hes] at HOK
      clear hes
      have hkc : kd = 0 ∨ kd = 1 ∨ kd = 2 ∨ kd = 3 := by have := HK.out; omega
      rcases hkc with rfl | rfl | rfl | rfl
      all_goals
        gi_wp2_with (first | (refine ⟨trivial, ?_⟩; gi_at_call 55; (with_reducible refine (TR.out _).mono ?_); rintro e w5 ⟨rfl, hb5⟩; have HB5 := Aside0.mk hb5; have hct5 : w5.cell? ⟨w.heap.size, 0, none⟩ = some (.slice A0 l0.length c0) := (blk_cell (blk_below M3.out (below_step HBW.out hb5)) 0).trans rfl; have hcf5 := (blk_cell (blk_below HF.out hb5) 0).trans rfl; clear hb5) | (refine ⟨trivial, ?_⟩; (first | (gi_at_call 76; (with_reducible refine (err_in (f := 76) l _ rfl HK.out HN1.out HN12.out HLen3.out A1 c1 _ HC1.out (Kd.C_below HCd.out HB5.out)).mono ?_)) | (gi_at_call 77; (with_reducible refine (err_in (f := 77) l _ rfl HK.out HN1.out HN12.out HLen3.out A1 c1 _ HC1.out (Kd.C_below HCd.out HB5.out)).mono ?_)) | (gi_at_call 78; (with_reducible refine (err_in (f := 78) l _ rfl HK.out HN1.out HN12.out HLen3.out A1 c1 _ HC1.out (Kd.C_below HCd.out HB5.out)).mono ?_)) | (gi_at_call 79; (with_reducible refine (err_in (f := 79) l _ rfl HK.out HN1.out HN12.out HLen3.out A1 c1 _ HC1.out (Kd.C_below HCd.out HB5.out)).mono ?_))); rintro e w9 ⟨v0, rfl, hs, hb⟩; rw [HES.out] at hs; have HS9 := Aside0.mk hs; have HB9 := Aside0.mk (below_step HB5.out hb); clear hb; obtain ⟨A5, c5, rfl, _, _⟩ := Kd.S_reads hs; clear hs))
        have HES5 := Aside0.mk (errs_count_le HN1.out HN12.out HLen3.out HES.out)
        gi_loopw [9, 42] (fun v9 v42 wr => InRel W w9 l0 es v9 v42 wr) (fun v9 v42 wr => es.length - (intOf v42).toNat)
        case atStart => exact ⟨0, rfl, ⟨Nat.zero_le _⟩, none, 0, rfl, ⟨Kd.R_nil _ _ _ _ _⟩, ⟨fun _ => ⟨rfl, rfl⟩⟩, ⟨Below.refl _ _⟩⟩
        case round =>
          obtain ⟨j, rfl, HJ, A9, c9, rfl, HR9, HNil, HBr⟩ := hrel
          have HB9r := Aside0.mk (below_step HB9.out HBr.out)
          by_cases hj : j < es.length
          · have hjb : (j < es.length) = True := eq_true hj
            have hj0 : (0 : Int) ≤ (j : Int) := by omega
            obtain ⟨g5, c5', e5, _⟩ := Kd.S_form HS9.out (by omega)
            injection e5 with e51 e52 e53
            subst e51 e53
            obtain ⟨Aj, cj, hrow, hRj⟩ := row_get (Kd.S_below HS9.out HBr.out) j hj
            obtain ⟨mj, hmj⟩ : ∃ mj, es[j] = mj := ⟨_, rfl⟩
            rw [hmj] at hrow hRj
            have hok := HOK.out mj (by rw [← hmj]; exact List.getElem_mem _)
            have hpos : 0 < mj.length := by rw [hok.2]; exact errs_pos mj (by rw [HES.out, ← hmj]; exact List.getElem_mem _)
            have hbs := bl_succ l0 es j hj
            rw [hmj] at hbs
            obtain ⟨tj, htj⟩ : ∃ tj, traceP l0 0 mj = tj := ⟨_, rfl⟩
            have TRj := fun m => tr_in l m HT1.out hok.1 (by have := HLen.out; omega) A0 c0 Aj cj wr HC.out (Kd.R_reads' hRj).2.1 (Kd.C_below HCt.out HB9r.out) (Kd.R_reads' hRj).2.2
            rw [htj] at TRj
            have TRj := Aside0.mk TRj
            have hctr : wr.cell? ⟨w.heap.size, 0, none⟩ = some (.slice A0 l0.length c0) := (blk_cell (blk_below M3.out (below_step HBW.out HB9r.out)) 0).trans rfl
            have HRj := Aside0.mk hRj
            have HJl := Aside0.mk hj
            have HOKj := Aside0.mk hok
            have HPos := Aside0.mk hpos
            have HBS := Aside0.mk hbs
            have HTJ := Aside0.mk htj
            have HLow : Aside0 (W.heap.size ≤ w5.heap.size) := ⟨HB5.out.size⟩
            clear hj hmj hok hbs htj hRj hpos
            have q94 : ∀ (w : World) (a : Option Addr) (n c n' c' : Nat), (binOp .eql 94 (.slice a n c) (.slice none n' c')).run Try.prog w = .ok (.bool a.isNone) w := fun w a n c n' c' => Lib.run_eql_slice_nil w _ _ a n c n' c' Try.underlying94
            by_cases ht : tj = 0
            · have hb3 : (tj == 0) = true := beq_iff_eq.mpr ht
              have HTJ0 := Aside0.mk ht
              clear ht
              by_cases hnil : bl l0 es j = []
              · obtain ⟨rfl, rfl⟩ := HNil.out hnil
                have HNI := Aside0.mk hnil
                have hlen0 : (bl l0 es j).length = 0 := by rw [hnil]; rfl
                rw [hlen0]
                clear hnil
                gi_wp2_with (refine ⟨trivial, ?_⟩; gi_at_call 55; (with_reducible refine (TRj.out _).mono ?_); rintro e w11 ⟨rfl, hb11⟩; have HB11 := Aside0.mk hb11; clear hb11)
                refine ⟨trivial, ?_⟩
                gi_wp2
                go_roundw
                case rel => exact ⟨j + 1, (by have h1 := HJl.out; have h2 := HES5.out; first | (rw [w64 (by omega) (by omega)]; rfl) | (rw [IntKind.wrap_i64, w64 (by omega) (by omega)]; rfl) | go_num), inr_yes HJl.out HBS.out ⟨HTJ.out.trans HTJ0.out, .inl HNI.out⟩ HPos.out HRj.out HLow.out HBr.out HB11.out⟩
                case measure => exact meas_lt HJl.out HES5.out
              · obtain ⟨g9, c9', e9, _⟩ := Kd.R_form HR9.out (List.length_pos_iff.2 hnil)
                injection e9 with e91 e92 e93
                subst e91 e93
                obtain ⟨cc, hcc, CM⟩ := cmp_in l (a := mj) (b := bl l0 es j) (by rw [HOKj.out.2]; exact (bl_len (fun m hm => (HOK.out m hm).2) j hnil).symm) (by rw [HOKj.out.2]; exact HLen3.out)
                have CMA := Aside0.mk CM
                have HNI := Aside0.mk hnil
                have HCC := Aside0.mk hcc
                clear hnil CM hcc
                by_cases hlt : cc < 0
                · have hltb : (cc < 0) = True := eq_true hlt
                  have HLT := Aside0.mk hlt
                  clear hlt
                  gi_wp2_with (first | (refine ⟨trivial, ?_⟩; gi_at_call 55; (with_reducible refine (TRj.out _).mono ?_); rintro e w11 ⟨rfl, hb11⟩; have HB11 := Aside0.mk hb11; clear hb11) | (refine ⟨trivial, ?_⟩; gi_at_call 68; (with_reducible refine (CMA.out _ Aj cj (some ⟨g9, 0, none⟩) c9 w11 (Kd.R_reads' HRj.out).2.1 (Kd.R_reads' HR9.out).2.1 (Kd.C_below (Kd.R_reads' HRj.out).2.2 HB11.out) (Kd.C_below (Kd.R_reads' HR9.out).2.2 HB11.out)).mono ?_); rintro e w12 ⟨rfl, hb12⟩; have HB12 := Aside0.mk (below_step HB11.out hb12); clear hb12))
                  go_roundw
                  case rel => exact ⟨j + 1, (by have h1 := HJl.out; have h2 := HES5.out; first | (rw [w64 (by omega) (by omega)]; rfl) | (rw [IntKind.wrap_i64, w64 (by omega) (by omega)]; rfl) | go_num), inr_yes HJl.out HBS.out ⟨HTJ.out.trans HTJ0.out, .inr (HCC.out.1 HLT.out)⟩ HPos.out HRj.out HLow.out HBr.out HB12.out⟩
                  case measure => exact meas_lt HJl.out HES5.out
                · have hltb : (cc < 0) = False := eq_false hlt
                  have HLT := Aside0.mk hlt
                  clear hlt
                  gi_wp2_with (first | (refine ⟨trivial, ?_⟩; gi_at_call 55; (with_reducible refine (TRj.out _).mono ?_); rintro e w11 ⟨rfl, hb11⟩; have HB11 := Aside0.mk hb11; clear hb11) | (refine ⟨trivial, ?_⟩; gi_at_call 68; (with_reducible refine (CMA.out _ Aj cj (some ⟨g9, 0, none⟩) c9 w11 (Kd.R_reads' HRj.out).2.1 (Kd.R_reads' HR9.out).2.1 (Kd.C_below (Kd.R_reads' HRj.out).2.2 HB11.out) (Kd.C_below (Kd.R_reads' HR9.out).2.2 HB11.out)).mono ?_); rintro e w12 ⟨rfl, hb12⟩; have HB12 := Aside0.mk (below_step HB11.out hb12); clear hb12))
                  go_roundw
                  case rel => exact ⟨j + 1, (by have h1 := HJl.out; have h2 := HES5.out; first | (rw [w64 (by omega) (by omega)]; rfl) | (rw [IntKind.wrap_i64, w64 (by omega) (by omega)]; rfl) | go_num), inr_no HJl.out HBS.out (fun h => h.2.elim HNI.out (fun h2 => by have h3 := HLT.out; have h4 := HCC.out.2 h2; omega)) HR9.out HNil.out HBr.out HB12.out⟩
                  case measure => exact meas_lt HJl.out HES5.out
            · have hb3 : (tj == 0) = false := beq_eq_false_iff_ne.mpr ht
              have HTJ0 := Aside0.mk ht
              clear ht
              gi_wp2_with (refine ⟨trivial, ?_⟩; gi_at_call 55; (with_reducible refine (TRj.out _).mono ?_); rintro e w11 ⟨rfl, hb11⟩; have HB11 := Aside0.mk hb11; clear hb11)
              all_goals first | (exfalso; exact undef_no (by assumption)) | skip
              refine ⟨trivial, ?_⟩
              gi_wp2
              go_roundw
              case rel => exact ⟨j + 1, (by have h1 := HJl.out; have h2 := HES5.out; first | (rw [w64 (by omega) (by omega)]; rfl) | (rw [IntKind.wrap_i64, w64 (by omega) (by omega)]; rfl) | go_num), inr_no HJl.out HBS.out (fun h => HTJ0.out (HTJ.out.symm.trans h.1)) HR9.out HNil.out HBr.out HB11.out⟩
              case measure => exact meas_lt HJl.out HES5.out
          · have hjb : (j < es.length) = False := eq_false hj
            obtain rfl : j = es.length := by have := HJ.out; omega
            have q94n : ∀ (w : World) (a : Option Addr) (n c n' c' : Nat), (binOp .neq 94 (.slice a n c) (.slice none n' c')).run Try.prog w = .ok (.bool (!a.isNone)) w := fun w a n c n' c' => run_neq_slice_nil_any w _ _ a n c n' c' Try.underlying94
            have h8 : w.heap.size + 3 < W8.heap.size := by have := HB8.out.size; have := (Array.getElem?_eq_some_iff.1 M6.out).1; omega
            have H8 := Aside0.mk h8
            obtain ⟨⟨c4, f4⟩, ⟨c5, f5⟩, ⟨c6, f6⟩⟩ := mv_cells M4.out M5.out M6.out (below_step HBW.out HB9r.out)
            clear hj h8
            by_cases hnil : bl l0 es es.length = []
            · obtain ⟨rfl, rfl⟩ := HNil.out hnil
              have HNI := Aside0.mk hnil
              clear hnil
              gi_wp2
              exact ⟨good_no HES.out HNI.out, HB9r.out⟩
            · obtain ⟨g9, c9', e9, _⟩ := Kd.R_form HR9.out (List.length_pos_iff.2 hnil)
              injection e9 with e91 e92 e93
              subst e91 e93
              have HNI := Aside0.mk hnil
              have C4 := Aside0.mk c4
              have C5 := Aside0.mk c5
              have C6 := Aside0.mk c6
              clear hnil
              gi_wp2
              have hh := leave_ok H8.out (HW8.out.trans (HB.out.mono HW8.out.size)) HB9r.out C4.out C5.out C6.out HRx.out HR9.out HES.out (good_yes HTV.out HT0.out HES.out HNI.out) HB2.out
              exact ⟨hh.1, hh.2.1, rfl, hh.2.2⟩
    · have hb1 : (tv != 0) = true := bne_iff_ne.mpr ht
      have hb2 : (tv == 0) = false := beq_eq_false_iff_ne.mpr ht
      have HT0 := Aside0.mk ht
      clear ht
      gi_wp2_with (refine ⟨trivial, ?_⟩; gi_at_call 55; (with_reducible refine (TR.out _).mono ?_); rintro e w5 ⟨rfl, hb5⟩; have HB5 := Aside0.mk hb5; clear hb5)
      exact ⟨by show goodM l0 kd ds = false; unfold goodM; rw [HTV.out, decide_eq_false HT0.out]; rfl, HB5.out⟩
  case done =>
    rintro D W hD hS hB hKd
    obtain ⟨⟨c4, f4⟩, ⟨c5, f5⟩, ⟨c6, f6⟩⟩ := mv_cells M4.out M5.out M6.out (below_step HB8.out hB)
    have hWB := HW8.out.trans (hB.mono HW8.out.size)
    have h3 : w.heap.size + 3 < D := by have := HB8.out.size; have := (Array.getElem?_eq_some_iff.1 M6.out).1; omega
    obtain ⟨d4, d5, d6⟩ := st3_cells (va := .slice none 0 0) (vb := .slice none 0 0) (vc := .int .i64 6) c4 c5 c6
    have hD3 : (st3 W w.heap.size (.slice none 0 0) (.slice none 0 0) (.int .i64 6)).heap[D]? = some (.deferred (some [])) := by
      rw [Below.heap_setCell _ _ _ _ (show D ≠ w.heap.size + 1 + 1 + 1 by omega), Below.heap_setCell _ _ _ _ (show D ≠ w.heap.size + 1 + 1 by omega), Below.heap_setCell _ _ _ _ (show D ≠ w.heap.size + 1 by omega)]; exact hKd
    have HS := Aside0.mk hS
    have HWB := Aside0.mk hWB
    have H3 := Aside0.mk h3
    have HD3 := Aside0.mk hD3
    clear hS hWB hB hKd hD h3 hD3
    go_wp2
    refine ⟨by simp, .inl ⟨_, _, rfl, run_takeDeferred HD3.out, ?_⟩⟩
    refine ⟨_, res51 _ _ _ _ _ _ _ _ rfl rfl rfl (cell_put HD3.out rfl d4) (cell_put HD3.out rfl d5) (cell_put HD3.out rfl d6), ?_⟩
    show MPost w (missV l0 kd).1 (missV l0 kd).2.1 (missV l0 kd).2.2 _ _
    rw [missV_none (fun d hd => by obtain ⟨_, h⟩ := HS.out d hd; exact h)]
    exact ⟨_, _, rfl, Kd.R_nil _ _ _ _ _, Kd.R_nil _ _ _ _ _, (st3_below HWB.out).grown (grownBy_putObj' _ D _) (st3_below HWB.out).size (fun k e => by cases e; have := H3.out; omega)⟩
  case stop =>
    rintro D c x W hD ⟨pre, post, hS1, hS2⟩ ⟨rfl, hi⟩ hKd
    have HI := Aside0.mk hi
    have HKd := Aside0.mk hKd
    have HS1 := Aside0.mk hS1
    have HS2 := Aside0.mk hS2
    have hwD : w.heap.size ≤ D := Nat.le_trans HW8.out.size hD
    have HWD := Aside0.mk hwD
    clear hi hKd hS1 hS2 hwD hD
    gi_wp2
    refine ⟨by simp, .inl ⟨_, _, rfl, run_takeDeferred HKd.out, ?_⟩⟩
    obtain ⟨bv, a1, a2, a3, a4, a5, a6, a7⟩ := RetI_put (o' := .deferred none) HWD.out HKd.out rfl HI.out
    refine ⟨_, res51 _ _ _ _ _ _ _ _ rfl rfl rfl a1 a2 a3, ?_⟩
    show MPost w (missV l0 kd).1 (missV l0 kd).2.1 (missV l0 kd).2.2 _ _
    rw [missV_some HS1.out (fun y hy => by obtain ⟨_, h⟩ := HS2.out y hy; exact h) a6]
    exact ⟨_, _, rfl, a4, a5, a7⟩
theorem serial_Miss.calls (A0 : Option Addr) (c0 : Nat) (l0 : List (List Int)) (a1 : Int) (r1 r2 : List Int) (r3 : Int) (w : World) (hr0 : Kd.C (Kd.slice 3 (Kd.int .i64)) w A0 l0.length l0) (hc0 : l0.length ≤ c0) (h : serial_Miss.f l0 a1 = some (r1, r2, r3)) :
    Calls Try.prog 51 #[.slice A0 l0.length c0, .int .i64 a1] w fun e w' => ∃ v0_ v1_ : Value, e = .returned (.tuple #[v0_, v1_, .int .i64 r3]) ∧ Kd.R (Kd.int .i64) 3 w' w.heap.size (fun k_ => some k_ ≠ (v1_ : Value).ownBlock) v0_ r1 ∧ Kd.R (Kd.int .i64) 3 w' w.heap.size (fun k_ => some k_ ≠ (v0_ : Value).ownBlock) v1_ r2 ∧ Below w.heap.size w w' := by
  unfold serial_Miss.f at h
  have h := Option.some.inj h
  by_cases hc : isTab l0 = true ∧ l0.length ≤ 6 ∧ 0 ≤ a1 ∧ a1 ≤ 3
  · rw [if_pos hc] at h
    obtain ⟨kd, rfl⟩ : ∃ kd : Nat, a1 = kd := ⟨a1.toNat, by omega⟩
    have hm : missV l0 kd = (r1, r2, r3) := h
    have hk : kd < 4 := by omega
    have hcl := miss_good A0 c0 l0 kd w hr0 hc0 hc.1 hc.2.1 hk
    refine hcl.mono fun e w' hh => ?_
    unfold MR at hh
    rw [hm] at hh
    exact hh
  · rw [if_neg hc] at h
    injection h with e1 e2
    injection e2 with e2 e3
    subst e1 e2 e3
    exact miss_bad A0 c0 l0 a1 w hr0 hc0 hc
end Go.Proofs.Ytdkncfmlehcjmaa.X
end

section
/- Weighed sums, and the search loops over a table: the program's and the reference's find the same. -/
set_option linter.unusedVariables false
set_option linter.unusedSimpArgs false
namespace Go.Proofs.Ytdkncfmlehcjmaa.X
open Go.RowKit Go.Proofs.YtdkncfmlehcjmaaW.PrintWords

theorem digs_rd {l : List Int} {n : Int} (h : digs l n = true) (i : Nat) (hi : i < l.length) : 0 ≤ rd l i ∧ rd l i < n := by
  rw [rd_nat l i hi]; exact digs_at h i hi
end Go.Proofs.Ytdkncfmlehcjmaa.X
end
