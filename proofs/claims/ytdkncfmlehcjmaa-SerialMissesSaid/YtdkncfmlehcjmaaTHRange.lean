/- A range over a function whose rounds leave all that was there as it was: the law of the statement, after the library's laws for iterators that name what a body must keep. -/
import Derived.RangeFuncNested
import Derived.RangeFuncBound
import Derived.RangeFuncCalls
import Derived.RangeFuncLeaves
set_option linter.unusedVariables false
set_option linter.unusedSimpArgs false
namespace Go.Proofs.Ytdkncfmlehcjmaa.X
open Go Go.RowKit
variable {F : Fence} {n : Nat} {P : Program}
/-- Whatever lies from block b on is as it was. -/
def KeptFrom (b : Nat) (W W' : World) : Prop := ∀ k, b ≤ k → k < W.heap.size → W'.heap[k]? = W.heap[k]?
/-- The iterator's contract: it hands out values x of which G holds; a round either says 'go on', then No holds of x and all that was there is as it was, or it says 'no more', then Jx holds. -/
def SeqR {α : Type} (F : Fence) (n : Nat) (P : Program) (g : Nat) (lb : Array Value) (encs : α → Array Value) (G : Nat → α → World → Prop) (S : (α → Prop) → Prop) (Sp : (α → Prop) → α → Prop) (w : World) : Prop :=
  ∀ (l : Nat) (No : α → Prop) (Jx : α → World → Prop) (W : World), Below w.heap.size w W → l < W.heap.size →
    (∀ x W1, Below W.heap.size W W1 → G W.heap.size x W1 → YieldAt F (n - 1) P l (encs x) W1 fun e W' =>
      (e = .returned (.bool true) ∧ No x ∧ Below W1.heap.size W1 W') ∨ (e = .returned (.bool false) ∧ Jx x W' ∧ KeptFrom W.heap.size W1 W')) →
    CallsIn F n P g (#[.func (.yield l) #[] #[]] ++ lb) W fun e W' => (∃ v, e = .returned v) ∧ ((S No ∧ Below W.heap.size W W') ∨ (∃ x, Sp No x ∧ Jx x W'))
/-- How a round's body may be left. -/
def postR {α : Type} (b : Nat) (No : α → Prop) (Ix : Code → α → World → Prop) (x : α) (W : World) : Exit → Act → World → Prop
  | .normal, _, W' => No x ∧ Below W.heap.size W W'
  | .ret, _, W' => KeepsOthers W W' ∧ KeptFrom b W W' ∧ Ix .ret x W'
  | .exit id, _, W' => KeepsOthers W W' ∧ KeptFrom b W W' ∧ Ix (.exit id) x W'
  | .goto t, _, W' => KeepsOthers W W' ∧ KeptFrom b W W' ∧ Ix (.goto t) x W'
  | .panic _, _, _ => False
  | .outgrown, _, _ => False
/-- A round that has gone on, its record laid back: all is as it was. -/
theorem below_round {W W3 : World} {l : Nat} {o o1 : Obj} (hl : W.heap[l]? = some o) (h : Below (W.putObj l o1).heap.size (W.putObj l o1) W3) : Below W.heap.size W (W3.putObj l o) := by
  have hlt : l < W.heap.size := (Array.getElem?_eq_some_iff.1 hl).1
  have hs : W.heap.size ≤ W3.heap.size := by have := h.size; rw [World.putObj_size] at this; exact this
  refine ⟨h.os, h.tape, h.output, by rw [World.putObj_size]; exact hs, fun k hk => ?_⟩
  by_cases e : k = l
  · subst e; rw [World.putObj_heap_same (by omega), hl]
  · rw [World.putObj_heap_other e, h.block k (by rw [World.putObj_size]; exact hk), World.putObj_heap_other e]
theorem wpIn_rangeFunc_R {α : Type} {g : Operand} {ps : Array Tmp} {assign body : Code} {Q : Exit → Act → World → Prop} {a : Act} {w : World}
    (hro : F.round = none) (h1 : 1 ≤ n) {gf : Nat} {lb : Array Value} (hg : a.eval g = .func (.func gf) #[] lb) (hFg : F.fn gf) (eg : ∀ args w, (callFunc gf args).run P w = .ok (.enter gf args) w)
    {encs : α → Array Value} {G : Nat → α → World → Prop} {S : (α → Prop) → Prop} {Sp : (α → Prop) → α → Prop} (hseq : SeqR F (n - 1) P gf lb encs G S Sp w)
    (hps : ∀ x, (encs x).size = ps.size)
    (hG : ∀ b x W l o', l < b → G b x W → G b x (W.putObj l o'))
    (No : α → Prop) (Ix : Code → α → World → Prop)
    (hIx : ∀ c x W l o o', w.heap.size ≤ l → W.heap[l]? = some o → o.isCells = false → Ix c x W → Ix c x (W.putObj l o')) (a₁ : α → Act)
    (hassign : ∀ (l : Nat) (x : α) (W : World) (K : Act → World → Prop), K (a₁ x) W →
      assign.wpIn (F.inRound l) (n - 1 - 1) P (Exit.then K (fun _ _ _ => False)) { tmps := (ps.zip (encs x)).foldl (fun t (p, v) => t.setIfInBounds p v) a.tmps, defers := [] } W)
    (hbody : ∀ (l : Nat) (x : α) (W : World), w.heap.size ≤ l → w.heap.size + 2 ≤ W.heap.size → Below w.heap.size w W → G (w.heap.size + 2) x W → body.wpIn (F.inRound l) (n - 1 - 1) P (postR (w.heap.size + 2) No Ix x W) (a₁ x) W)
    (hdone : ∀ (D : Nat) (W : World), w.heap.size ≤ D → S No → Below w.heap.size w W → W.heap[D]? = some (.deferred (some [])) → Q .normal { a with defers := { target := .collected D, args := #[] } :: a.defers } W)
    (hstop : ∀ (D : Nat) (c : Code) (x : α) (W : World), w.heap.size ≤ D → Sp No x → Ix c x W → W.heap[D]? = some (.deferred (some [])) → c.wpIn F n P Q { a with defers := { target := .collected D, args := #[] } :: a.defers } W) :
    (Code.rangeFunc g ps assign body).wpIn F n P Q a w := by
  refine wpIn_rangeFunc ?_
  intro fn hfn
  rw [hro]
  obtain ⟨rec, hrec⟩ : ∃ rec : LoopState → Option Code → Loop, rec = fun st pe => { state := st, pending := pe, fn, tmps := a.tmps, params := ps, assign, body, defers := w.heap.size } := ⟨_, rfl⟩
  obtain ⟨W1, hW1⟩ : ∃ W1, (w.alloc (.deferred (some []))).alloc (.loop (rec .ready none)) = W1 := ⟨_, rfl⟩
  have hL1 : W1.heap[w.heap.size + 1]? = some (.loop (rec .ready none)) := by
    rw [← hW1]; have := World.alloc_heap_new (w.alloc (.deferred (some []))) (.loop (rec .ready none)); rwa [World.size_alloc] at this
  have hK1 : W1.heap[w.heap.size]? = some (.deferred (some [])) := by
    rw [← hW1]; exact (Below.heap_alloc _ _ _ (by simp)).trans (World.alloc_heap_new w _)
  have hs1 : W1.heap.size = w.heap.size + 2 := by rw [← hW1]; simp
  have hb1 : Below w.heap.size w W1 := by
    rw [← hW1]; exact ((Below.refl _ w).alloc (Nat.le_refl _) _).alloc (by simp) _
  refine ⟨w.heap.size + 1, [{ target := .collected w.heap.size, args := #[] }], W1, { target := .fn (.func gf) lb, args := #[.func (.yield (w.heap.size + 1)) #[] #[]] }, W1, gf,
    #[.func (.yield (w.heap.size + 1)) #[] #[]] ++ lb, W1, ?_, ?_, ?_, ?_, fun _ => h1, ?_⟩
  · rw [← hW1, hrec]; exact run_enterLoop_outer _ _ _ _ _
  · simp only [resolve, hg]
    simp [go_sem]
  · intro f' hf'; simp [Target.leads] at hf'; subst hf'; exact hFg
  · simp [invoke, go_sem, eg]
  · refine (hseq (w.heap.size + 1) No
      (fun x W => ∃ c, Ix c x W ∧ W.heap[w.heap.size + 1]? = some (.loop (rec .done (some c))) ∧ W.heap[w.heap.size]? = some (.deferred (some [])))
      W1 hb1 (by omega) ?_).mono ?_
    · rintro x W hbW hGx
      have hl : W.heap[w.heap.size + 1]? = some (.loop (rec .ready none)) := (hbW.block _ (by omega)).trans hL1
      have hk : W.heap[w.heap.size]? = some (.deferred (some [])) := (hbW.block _ (by omega)).trans hK1
      have hlt : w.heap.size + 1 < W.heap.size := (Array.getElem?_eq_some_iff.1 hl).1
      have hy := run_yield (P := P) (args := encs x) hl (by rw [hrec]; exact hps x)
      rw [hrec] at hy
      refine ⟨fn, _, assign, body, hy, roundIn_of_wpIn hfn (hassign _ x W _ ⟨_, run_beginRound hl (by rw [hrec]), ?_⟩)⟩
      have hl2 : (W.putObj (w.heap.size + 1) (.loop { rec .ready none with state := .busy })).heap[w.heap.size + 1]? = some (.loop { rec .ready none with state := .busy }) := World.putObj_heap_same hlt
      have hk2 : (W.putObj (w.heap.size + 1) (.loop { rec .ready none with state := .busy })).heap[w.heap.size]? = some (.deferred (some [])) := (World.putObj_heap_other (by omega)).trans hk
      have hbw : Below w.heap.size w (W.putObj (w.heap.size + 1) (.loop { rec .ready none with state := .busy })) :=
        (hb1.trans (hbW.mono (by omega))).grown (grownBy_putObj' W _ _) (by omega) (fun k e => by cases e; omega)
      have hG2 : G (w.heap.size + 2) x (W.putObj (w.heap.size + 1) (.loop { rec .ready none with state := .busy })) := hG _ _ _ _ _ (by omega) (by rw [← hs1]; exact hGx)
      refine wpIn_mono (hbody _ x _ (by omega) (by rw [World.putObj_size]; omega) hbw hG2) ?_
      have fin : ∀ (jump : Option Code) (W3 : World), W3.heap[w.heap.size + 1]? = some (.loop { rec .ready none with state := .busy }) → W3.heap[w.heap.size]? = some (.deferred (some [])) →
          (Instr.endRound (w.heap.size + 1) jump).run P W3 = .ok (.bool jump.isNone) (W3.putObj (w.heap.size + 1) (.loop (rec (if jump.isNone then .ready else .done) jump))) ∧
          (W3.putObj (w.heap.size + 1) (.loop (rec (if jump.isNone then .ready else .done) jump))).heap[w.heap.size + 1]? = some (.loop (rec (if jump.isNone then .ready else .done) jump)) ∧
          (W3.putObj (w.heap.size + 1) (.loop (rec (if jump.isNone then .ready else .done) jump))).heap[w.heap.size]? = some (.deferred (some [])) := fun jump W3 hl3 hk3 => by
        have := run_endRound (P := P) jump hl3
        rw [hrec] at this ⊢
        exact ⟨this, World.putObj_heap_same (Array.getElem?_eq_some_iff.1 hl3).1, (World.putObj_heap_other (by omega)).trans hk3⟩
      have kept : ∀ {W3 : World} {o : Obj}, KeptFrom (w.heap.size + 2) (W.putObj (w.heap.size + 1) (.loop { rec .ready none with state := .busy })) W3 → KeptFrom W1.heap.size W (W3.putObj (w.heap.size + 1) o) := fun {W3 o} h k hk1 hk2 => by
        rw [World.putObj_heap_other (by omega), h k (by omega) (by rw [World.putObj_size]; exact hk2), World.putObj_heap_other (by omega)]
      rintro e a3 W3 hp
      cases e with
      | normal =>
        obtain ⟨hno, hk3⟩ := hp
        have h3l := (hk3.block _ (by rw [World.putObj_size]; omega)).trans hl2
        have h3k := (hk3.block _ (by rw [World.putObj_size]; omega)).trans hk2
        obtain ⟨hr, hl4, hk4⟩ := fin none W3 h3l h3k
        exact ⟨_, _, hr, .inl ⟨rfl, hno, below_round hl hk3⟩⟩
      | ret =>
        obtain ⟨hk3, hf3, hi3⟩ := hp
        have h3l := hk3.same _ _ hl2 rfl
        obtain ⟨hr, hl4, hk4⟩ := fin (some .ret) W3 h3l (hk3.same _ _ hk2 rfl)
        exact ⟨_, _, hr, .inr ⟨rfl, ⟨.ret, hIx _ _ _ _ _ _ (by omega) h3l rfl hi3, hl4, hk4⟩, kept hf3⟩⟩
      | exit id =>
        obtain ⟨hk3, hf3, hi3⟩ := hp
        have h3l := hk3.same _ _ hl2 rfl
        obtain ⟨hr, hl4, hk4⟩ := fin (some (.exit id)) W3 h3l (hk3.same _ _ hk2 rfl)
        exact ⟨_, _, hr, .inr ⟨rfl, ⟨.exit id, hIx _ _ _ _ _ _ (by omega) h3l rfl hi3, hl4, hk4⟩, kept hf3⟩⟩
      | goto t =>
        obtain ⟨hk3, hf3, hi3⟩ := hp
        have h3l := hk3.same _ _ hl2 rfl
        obtain ⟨hr, hl4, hk4⟩ := fin (some (.goto t)) W3 h3l (hk3.same _ _ hk2 rfl)
        exact ⟨_, _, hr, .inr ⟨rfl, ⟨.goto t, hIx _ _ _ _ _ _ (by omega) h3l rfl hi3, hl4, hk4⟩, kept hf3⟩⟩
      | panic ch => exact hp.elim
      | outgrown => exact hp.elim
    · rintro e W2 ⟨⟨v, rfl⟩, (⟨hS, hb2⟩ | ⟨x, hSp, c, hi, hl, hk⟩)⟩
      · have hl := (hb2.block _ (by omega)).trans hL1
        have hk := (hb2.block _ (by omega)).trans hK1
        refine ⟨none, _, by have := run_endLoop (P := P) hl (by rw [hrec]; simp); rw [hrec] at this; exact this, hdone _ _ (Nat.le_refl _) hS ?_ ((World.putObj_heap_other (by omega)).trans hk)⟩
        exact (hb1.trans (hb2.mono (by omega))).grown (grownBy_putObj' W2 _ _) (by have := hb1.size; have := hb2.size; omega) (fun k e => by cases e; omega)
      · exact ⟨some c, _, by have := run_endLoop (P := P) hl (by rw [hrec]; simp); rw [hrec] at this; exact this, hstop _ c x _ (Nat.le_refl _) hSp (hIx _ _ _ _ _ _ (by omega) hl rfl hi) ((World.putObj_heap_other (by omega)).trans hk)⟩
end Go.Proofs.Ytdkncfmlehcjmaa.X
