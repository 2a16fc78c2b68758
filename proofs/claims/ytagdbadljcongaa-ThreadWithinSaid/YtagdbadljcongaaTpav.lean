/- Texts behind ThreadWithin, part 22: contracts of the program's functions and the plain words for them. -/
import Derived.Deep.LoopGhost
import Derived.OrdersIn
import Derived.Sort.CutIn
import Derived.Deep.QuietTactic
import Derived.Lib.OthersKept
import Derived.Lib.TrimU
import Derived.Laws.RangeString
import Derived.Shelf.GgClosure.Gives
import Derived.Test.YtagdbadljcongaaTpae
import Derived.Test.YtagdbadljcongaaTpau
section
/- thread.Item. -/
set_option linter.unusedVariables false
set_option linter.unusedSimpArgs false
namespace Go.Proofs.Ytagdbadljcongaa.X
open Go Go.RowKit Go.Proofs.YtagdbadljcongaaW.PrintWords Go.Proofs.YtagdbadljcongaaW.PrintLast Go.Proofs.YtagdbadljcongaaW.PrintMore
attribute [local go_sem] Oper.semAt_some
/-- Where the variables lie. -/
structure ItG where
  gk : Nat
  b : Nat
  gx : Nat
  gn : Nat
  go : Nat
  ga : Nat
  top : Nat
def ItG.Ok (E : ItG) (lo : Nat) : Prop := lo ≤ E.gk ∧ E.gk < E.b ∧ E.b < E.gx ∧ E.gx < E.gn ∧ E.gn < E.go ∧ E.go < E.ga ∧ E.ga < E.top
/-- What the variables hold. -/
structure ItAt (s : ByteArray) (E : ItG) (k : Int) (i : Int) (o : ByteArray) (W : World) : Prop where
  ck : W.heap[E.gk]? = some (.cells #[.int .i64 k] 3 (0, 0))
  cx : W.heap[E.gx]? = some (.cells #[.pointer (some ⟨E.b, 0, none⟩)] 70 (0, 0))
  cn : W.heap[E.gn]? = some (.cells (acells (cntF (bl s))) 84 (0, 0))
  co : W.heap[E.go]? = some (.cells #[.string o] 9 (0, 0))
  ca : W.heap[E.ga]? = some (.cells #[.int .i64 i] 3 (0, 0))
  wd : WordAt W E.b s
theorem ItAt.kept {s : ByteArray} {E : ItG} {k i : Int} {o : ByteArray} {W W' : World} (h : ItAt s E k i o W) (hk : ∀ g ob, W.heap[g]? = some ob → g < W.heap.size → W'.heap[g]? = some ob) : ItAt s E k i o W' := by
  obtain ⟨f, h1, h2⟩ := h.wd.ex
  exact ⟨hk _ _ h.ck (blk_lt h.ck), hk _ _ h.cx (blk_lt h.cx), hk _ _ h.cn (blk_lt h.cn), hk _ _ h.co (blk_lt h.co), hk _ _ h.ca (blk_lt h.ca), ⟨f, hk _ _ h1 (blk_lt h1), h2⟩⟩
theorem ItAt.below {s : ByteArray} {E : ItG} {k i : Int} {o : ByteArray} {W W' : World} (h : ItAt s E k i o W) (hb : Below W.heap.size W W') : ItAt s E k i o W' := h.kept fun g ob e _ => blk_below e hb
theorem ItAt.put {s : ByteArray} {E : ItG} {k i : Int} {o : ByteArray} {W : World} (h : ItAt s E k i o W) {l : Nat} {ob : Obj} (hl : W.heap[l]? = some ob) (hc : ob.isCells = false) (ob' : Obj) : ItAt s E k i o (W.putObj l ob') := by
  obtain ⟨f, h1, h2⟩ := h.wd.ex
  have hk : ∀ (g : Nat) (cs : Array Value) (t : TypeId), W.heap[g]? = some (.cells cs t (0, 0)) → (W.putObj l ob').heap[g]? = some (.cells cs t (0, 0)) := fun g cs t e => by
    rw [World.putObj_heap_other (fun e2 => by subst e2; rw [hl] at e; injection e with e; subst e; cases hc)]; exact e
  exact ⟨hk _ _ _ h.ck, hk _ _ _ h.cx, hk _ _ _ h.cn, hk _ _ _ h.co, hk _ _ _ h.ca, ⟨f, hk _ _ _ h1, h2⟩⟩
theorem ItAt.setO {s : ByteArray} {E : ItG} {lo : Nat} {k i : Int} {o : ByteArray} {W : World} (h : ItAt s E k i o W) (hE : E.Ok lo) (o' : ByteArray) : ItAt s E k i o' (W.setCell ⟨E.go, 0, none⟩ (.string o')) := by
  obtain ⟨f, h1, h2⟩ := h.wd.ex
  obtain ⟨e0, e1, e2, e3, e4, e5, e6⟩ := hE
  exact ⟨blk_far h.ck (by show E.gk ≠ E.go; omega) _, blk_far h.cx (by show E.gx ≠ E.go; omega) _, blk_far h.cn (by show E.gn ≠ E.go; omega) _, (blk_set h.co 0 _).trans rfl, blk_far h.ca (by show E.ga ≠ E.go; omega) _, ⟨f, blk_far h1 (by show E.b ≠ E.go; omega) _, h2⟩⟩
theorem ItAt.setA {s : ByteArray} {E : ItG} {lo : Nat} {k i : Int} {o : ByteArray} {W : World} (h : ItAt s E k i o W) (hE : E.Ok lo) (i' : Int) : ItAt s E k i' o (W.setCell ⟨E.ga, 0, none⟩ (.int .i64 i')) := by
  obtain ⟨f, h1, h2⟩ := h.wd.ex
  obtain ⟨e0, e1, e2, e3, e4, e5, e6⟩ := hE
  exact ⟨blk_far h.ck (by show E.gk ≠ E.ga; omega) _, blk_far h.cx (by show E.gx ≠ E.ga; omega) _, blk_far h.cn (by show E.gn ≠ E.ga; omega) _, blk_far h.co (by show E.go ≠ E.ga; omega) _, (blk_set h.ca 0 _).trans rfl, ⟨f, blk_far h1 (by show E.b ≠ E.ga; omega) _, h2⟩⟩
/-- The loop's state. -/
structure ItLoop (s : ByteArray) (E : ItG) (w : World) (R : List Nat) (k i : Nat) (o : ByteArray) (ds : List Deferred) (W : World) : Prop where
  at_ : ItAt s E k i o W
  bel : Below w.heap.size w W
  mks : Marks w.heap.size W ds
  top : E.top ≤ W.heap.size
  hi : i ≤ s.size
  hk : k < cs ((bl s).drop i)
  ho : o.size ≤ i
  eq : bl o ++ itemL ((bl s).drop i) k = R
/-- Where a range stands when c letters have been tried; what a pick leaves. -/
structure ItR (s : ByteArray) (E : ItG) (w : World) (T n i : Nat) (o : ByteArray) (ds : List Deferred) (c : Nat) (W : World) : Prop where
  ex : ∃ m : Nat, m + less ((bl s).drop i) c = n ∧ ItAt s E m i o W
  bel : Below w.heap.size w W
  mks : Marks w.heap.size W ds
  dl : ∀ D, ({ target := .collected D, args := #[] } : Deferred) ∈ ds → D < T
  top : E.top ≤ W.heap.size
structure ItX (s : ByteArray) (E : ItG) (w : World) (T n i : Nat) (o : ByteArray) (ds : List Deferred) (c : Nat) (W : World) : Prop where
  ex : ∃ m q : Nat, nx (bl s) i (97 + c) = q ∧ q < s.size ∧ m + less ((bl s).drop i) c = n ∧ m < cs ((bl s).drop (q + 1)) ∧ ItAt s E m ((q : Int) + 1) (o ++ ltr c) W
  bel : Below w.heap.size w W
  mks : Marks w.heap.size W ds
  dl : ∀ D, ({ target := .collected D, args := #[] } : Deferred) ∈ ds → D < T
  top : E.top ≤ W.heap.size
theorem below_put {w W : World} (h : Below w.heap.size w W) {l : Nat} (hl : w.heap.size ≤ l) (ob : Obj) : Below w.heap.size w (W.putObj l ob) := h.grown (grownBy_putObj' W l ob) h.size (fun k e => by cases e; exact hl)
theorem ItR.put {s : ByteArray} {E : ItG} {w W : World} {T n i : Nat} {o : ByteArray} {ds : List Deferred} {c : Nat} (h : ItR s E w T n i o ds c W) (hT : w.heap.size ≤ T) {l : Nat} {ob : Obj} (hl : T ≤ l) (ho : W.heap[l]? = some ob) (hc : ob.isCells = false) (ob' : Obj) : ItR s E w T n i o ds c (W.putObj l ob') := by
  obtain ⟨m, h1, h2⟩ := h.ex
  exact ⟨⟨m, h1, h2.put ho hc ob'⟩, below_put h.bel (by omega) _, h.mks.put (fun D hD e => by have := h.dl D hD; omega) _, h.dl, by rw [World.putObj_size]; exact h.top⟩
theorem ItX.put {s : ByteArray} {E : ItG} {w W : World} {T n i : Nat} {o : ByteArray} {ds : List Deferred} {c : Nat} (h : ItX s E w T n i o ds c W) (hT : w.heap.size ≤ T) {l : Nat} {ob : Obj} (hl : T ≤ l) (ho : W.heap[l]? = some ob) (hc : ob.isCells = false) (ob' : Obj) : ItX s E w T n i o ds c (W.putObj l ob') := by
  obtain ⟨m, q, h1, h2, h3, h4, h5⟩ := h.ex
  exact ⟨⟨m, q, h1, h2, h3, h4, h5.put ho hc ob'⟩, below_put h.bel (by omega) _, h.mks.put (fun D hD e => by have := h.dl D hD; omega) _, h.dl, by rw [World.putObj_size]; exact h.top⟩
theorem ItR.below {s : ByteArray} {E : ItG} {w W W' : World} {T n i : Nat} {o : ByteArray} {ds : List Deferred} {c : Nat} (h : ItR s E w T n i o ds c W) (hb : Below W.heap.size W W') : ItR s E w T n i o ds c W' := by
  obtain ⟨m, h1, h2⟩ := h.ex
  exact ⟨⟨m, h1, h2.below hb⟩, below_step h.bel hb, h.mks.below hb, h.dl, Nat.le_trans h.top hb.size⟩
theorem keepsOf {W W' : World} (h : Below W.heap.size W W') : KeepsOthers W W' := ⟨h.size, fun k o hk _ => (h.block k (Array.getElem?_eq_some_iff.1 hk).1).trans hk⟩
theorem bl_ltr (o : ByteArray) {c : Nat} (hc : c < 4) : bl (o ++ ltr c) = bl o ++ [97 + c] := by
  have hcc : c = 0 ∨ c = 1 ∨ c = 2 ∨ c = 3 := by omega
  unfold bl
  rw [ByteArray.data_append, Array.toList_append, List.map_append]
  rcases hcc with rfl | rfl | rfl | rfl <;> rfl
theorem size_ltr (o : ByteArray) (c : Nat) : (o ++ ltr c).size = o.size + 1 := by rw [ByteArray.size_append]; rfl
/-- A letter was picked: the loop goes on. -/
theorem ItX.next {s : ByteArray} {E : ItG} {w W : World} {T n i : Nat} {o : ByteArray} {ds : List Deferred} {c D : Nat} {R : List Nat} (h : ItX s E w T n i o ds c W) (hc : c < 4) (hi : i ≤ s.size) (hk : n + 1 < cs ((bl s).drop i)) (ho : o.size ≤ i) (heq : bl o ++ itemL ((bl s).drop i) (n + 1) = R)
    (hT : w.heap.size ≤ T) (hD : T ≤ D) (hDW : W.heap[D]? = some (.deferred (some []))) : ∃ m q : Nat, m < n + 1 ∧ ItLoop s E w R m (q + 1) (o ++ ltr c) ({ target := .collected D, args := #[] } :: ds) W := by
  obtain ⟨m, q, h1, h2, h3, h4, h5⟩ := h.ex
  have hq := nx_le (bl s) i (97 + c) (by rw [bl_length]; exact hi)
  rw [h1] at hq
  refine ⟨m, q, by omega, ⟨by simpa using h5, h.bel, ?_, h.top, by omega, h4, by rw [size_ltr]; omega, ?_⟩⟩
  · exact h.mks.cons (by omega) hDW (fun D' hD' e => by have := h.dl D' hD'; omega)
  · have ht : term ((bl s).drop i) (97 + c) = cs ((bl s).drop (q + 1)) := by rw [term_at _ _ _ (by rw [bl_length]; exact hi), h1, if_pos (by rw [bl_length]; exact h2)]
    rw [itemL_at (by rw [bl_length]; exact hi) h1 hc (by omega) (by rw [less_succ, ht]; omega) hk, show n - less ((bl s).drop i) c = m by omega] at heq
    rw [bl_ltr o hc, ← heq]
    simp
theorem after_in (lo m' : Nat) (w : World) (b : Nat) (s : ByteArray) (hw : WordAt w b s) (hs : s.size ≤ 60) (i c q : Nat) (r : Bool) (hi : i ≤ s.size) (hc : c < 4) (hq : nx (bl s) i (97 + c) = q) (hr : decide (q < s.size) = r) :
    CallsIn (Fence.wide.inRound lo) m' Try.prog 57 #[.pointer (some ⟨b, 0, none⟩), .int .i64 i, .int .i64 c] w fun e w' => e = .returned (.tuple #[.int .i64 (q + 1 : Int), .bool r]) ∧ Drawn0 w w' :=
  CallsIn.inRound lo (callsIn_wide.2 (after_c w b s hw hs i c q r hi hc hq hr))
end Go.Proofs.Ytagdbadljcongaa.X
end

section
/- A region that draws its order, in a round of a range: the walk's steps (start_, pure_, take_ ..) serve there too. -/
set_option linter.unusedVariables false
set_option linter.unusedSimpArgs false
namespace Go.Proofs.Ytagdbadljcongaa.X
open Go Go.RowKit Go.Proofs.YtagdbadljcongaaW.PrintWords Go.Proofs.YtagdbadljcongaaW.PrintLast Go.Proofs.YtagdbadljcongaaW.PrintMore
variable {P : Program} {ops : Array Oper} {Q : Exit → Act → World → Prop} {lo n : Nat}
theorem rows_round {row : String} {args : Array Value} {w : World} {R : Value → World → Prop} (h : Rows P row args w R) : RowsIn (Fence.wide.inRound lo) n P row args w R := by
  intro c cs _
  obtain ⟨v, w', r, s⟩ := h c cs
  exact ⟨v, w', r, stepsIn_wide.2 s⟩
def noDefer (o : Oper) : Bool := match o.op with | .defer _ => false | _ => true
theorem op_round {o : Oper} {a : Act} {w : World} {K : Act → World → Prop} (hd : noDefer o = true) (h : o.wp P a w K Q) : o.wpIn (Fence.wide.inRound lo) n P a w K Q := by
  refine ⟨fun _ _ => trivial, ?_⟩
  have hs : o.semAt (Fence.wide.inRound lo).round a.eval = execOp a.eval o := Oper.semAt_eq _ _ _ (fun c e => by unfold noDefer at hd; rw [e] at hd; cases hd)
  rw [hs]
  unfold Oper.wp at h
  generalize (execOp a.eval o).run P w = r at *
  cases r with
  | ok x w' =>
    cases x <;> simp only [Oper.upon] at h <;> simp only [Oper.uponIn] <;>
      first
        | exact h
        | exact ⟨fun h => (by cases h), CallsIn.inRound lo (callsIn_wide.2 h)⟩
        | exact ⟨fun h => (by cases h), rows_round h⟩
        | exact h.elim
  | halt x w' => cases x <;> simp only [Oper.upon] at h <;> simp only [Oper.uponIn] <;> exact h
theorem any_round (hd : ops.all noDefer = true) (hQ : ¬ LetsOut Q) (md : Region.Mode) : ∀ (fuel : Nat) (listed : Array Bool) (a : Act) (w : World), wpAny P md ops Q fuel listed a w → wpAnyIn (Fence.wide.inRound lo) n P md ops Q fuel listed a w
  | 0, listed, a, w, h => h
  | fuel + 1, listed, a, w, h => by
    refine ⟨h.1, fun i hi => ?_⟩
    have h2 := h.2 i hi
    have ih := any_round hd hQ md fuel (listed.setIfInBounds i true)
    unfold wpOp at h2
    unfold wpOpIn
    cases ho : ops[i]? with
    | none => rw [ho] at h2; exact ih _ _ h2
    | some o =>
      rw [ho] at h2
      simp only at h2 ⊢
      have hdo : noDefer o = true := (Array.all_eq_true_iff_forall_mem.1 hd) o (Array.mem_of_getElem? ho)
      split
      · rename_i hw
        rw [if_pos hw] at h2
        rcases h2 with h2 | ⟨_, h2⟩
        · exact Oper.wpIn_mono (fun a w h => ih a w h) (op_round hdo h2)
        · exact absurd h2 hQ
      · rename_i hw
        rw [if_neg hw] at h2
        exact ⟨fun _ _ => trivial, ih _ _ h2⟩
theorem start_in {S : World → Prop} {ds : List Nat} {id m : Nat} {a : Act} {w : World} (l : Array Bool) (hm : P.follows .mixedOrders = true) (hn : ops.size = m) (hl : Array.replicate m false = l) (hS : S w.drew) (hd : ops.all noDefer = true) (hQ : ¬ LetsOut Q)
    (h : S w.drew → wpAnyLast P .any ops Q S ds m l a w.drew) : (Code.region id ops true).wpIn (Fence.wide.inRound lo) n P Q a w := by
  subst hn
  subst hl
  exact wpIn_region_any hm (any_round hd hQ _ _ _ _ _ (wpAny_of_last _ _ _ _ (h hS)))
theorem list_round (hQ : ¬ LetsOut Q) : ∀ (rest : List Oper) (a : Act) (w : World), rest.all noDefer = true → wpList P ops Q rest a w → wpListIn (Fence.wide.inRound lo) n P ops Q rest a w
  | [], a, w, _, h => h
  | o :: rest, a, w, hd, h => by
    rw [List.all_cons, Bool.and_eq_true] at hd
    unfold wpList at h
    unfold wpListIn
    split
    · rename_i hw
      rw [if_pos hw] at h
      rcases h with h | ⟨_, h⟩
      · exact Oper.wpIn_mono (fun a w h => list_round hQ rest a w hd.2 h) (op_round hd.1 h)
      · exact absurd h hQ
    · rename_i hw
      rw [if_neg hw] at h
      exact ⟨fun _ _ => trivial, list_round hQ rest _ w hd.2 h⟩
/-- A region that does not draw, in a round: walked as everywhere. -/
theorem region_in {id : Nat} {l : List Oper} {a : Act} {w : World} (hd : l.all noDefer = true) (hQ : ¬ LetsOut Q) (h : wpList P l.toArray Q l a w) : (Code.region id l.toArray false).wpIn (Fence.wide.inRound lo) n P Q a w :=
  wpIn_region_lit (list_round hQ l a w hd h)
end Go.Proofs.Ytagdbadljcongaa.X
end

section
namespace Go.Proofs.Ytagdbadljcongaa.X
open Go.RowKit Go.Proofs.YtagdbadljcongaaW.PrintWords Go.Proofs.YtagdbadljcongaaW.PrintLast Go.Proofs.YtagdbadljcongaaW.PrintMore
attribute [local go_sem] max2_int min2_int max_two min_two max_three min_three max_four min_four   -- for this text's walks alone
set_option linter.unusedVariables false
set_option linter.unusedSimpArgs false

def tickingref03_Letters.l0 : Nat → ByteArray → Int → Int → Option (Bool)
 | 0, _, _, _ => none
 | k + 1, x0, x1, x5 => if x5 < (x0.size : Int) then (if 0 ≤ x5 then (if (bt x0 x5) < 97 then (some false) else (if (((bt x0 x5) - 97) % 256) ≥ x1 then (some false) else (tickingref03_Letters.l0 k x0 x1 (wrap64 (x5 + 1))))) else (none)) else (some true)
def tickingref03_Letters.f (k : Nat) (a0 : ByteArray) (a1 : Int) : Option (Bool) := tickingref03_Letters.l0 k a0 a1 0
set_option maxHeartbeats 8000000 in
set_option maxRecDepth 100000 in
theorem tickingref03_Letters.calls (k : Nat) (a0 : ByteArray) (a1 : Int) (r : Bool) (w : World) (h : tickingref03_Letters.f k a0 a1 = some r) :
  Calls Try.prog 21 #[.string a0, .int .i64 a1] w fun e w' => e = .returned (.bool r) ∧ Drawn0 w w' := by
 have H : (tickingref03_Letters.l0 k a0 a1 0) = some r := h
 clear h
 have H' := Aside0.mk H
 clear H
 go_enter Try.func21, Try.ntmps21
 go_wp2
 go_loopg [5] k (fun kq v5 w' => ∃ (x5_1 : Int), v5 = .int .i64 x5_1 ∧ Aside0 (tickingref03_Letters.l0 kq a0 a1 x5_1 = some r) ∧ Aside0 (kq ≤ k) ∧ Drawn0 w w')
 case atStart => exact ⟨(0), (by first | rfl | (simp; done) | (simp [*]; done)), H', ⟨Nat.le_refl _⟩, by repeat (first | exact Drawn0.refl _ | apply Drawn0.step)⟩
 case round =>
  clear H'
  try clear c2
  try clear p2
  obtain ⟨x5_1, rfl, HA, HK1, ⟨m1, rfl⟩⟩ := hrel
  cases gk with
  | zero => exact absurd HA.out (by simp [tickingref03_Letters.l0])
  | succ k1 =>
   have H := HA.out
   clear HA
   simp only [tickingref03_Letters.l0] at H
   by_cases c3 : x5_1 < (a0.size : Int)
   ·rw [if_pos c3] at H
    have c3b0 : decide (x5_1 < (a0.size : Int)) = true := decide_eq_true c3
    clear c3
    by_cases c4 : 0 ≤ x5_1
    ·rw [if_pos c4] at H
     have c4b0 : decide (0 ≤ x5_1) = true := decide_eq_true c4
     clear c4
     by_cases c6 : (bt a0 x5_1) < 97
     ·rw [if_pos c6] at H
      have c6b0 : decide ((bt a0 x5_1) < 97) = true := decide_eq_true c6
      clear c6
      obtain rfl := Option.some.inj H
      have p5 : 0 ≤ (x5_1 : Int) := of_decide_eq_true az
      have q5 : x5_1 < (a0.size : Int) := of_decide_eq_true az
      have hx5 := bt_at a0 x5_1
      replace p5 := eq_true p5
      replace q5 := eq_true q5
      go_wp2
      go_ret
      exact ⟨by first | rfl | (simp; done) | (simp [*]; done), by repeat (first | exact Drawn0.refl _ | apply Drawn0.step)⟩
     ·rw [if_neg c6] at H
      have c6b0 : decide ((bt a0 x5_1) < 97) = false := decide_eq_false c6
      clear c6
      by_cases c8 : (((bt a0 x5_1) - 97) % 256) ≥ a1
      ·rw [if_pos c8] at H
       have c8b0 : decide (a1 ≤ (((bt a0 x5_1) - 97) % 256)) = true := decide_eq_true c8
       clear c8
       obtain rfl := Option.some.inj H
       have p5 : 0 ≤ (x5_1 : Int) := of_decide_eq_true az
       have q5 : x5_1 < (a0.size : Int) := of_decide_eq_true az
       have hx5 := bt_at a0 x5_1
       replace p5 := eq_true p5
       replace q5 := eq_true q5
       have p7 : 0 ≤ (x5_1 : Int) := of_decide_eq_true az
       have q7 : x5_1 < (a0.size : Int) := of_decide_eq_true az
       have hx7 := bt_at a0 x5_1
       replace p7 := eq_true p7
       replace q7 := eq_true q7
       go_wp2
       go_ret
       exact ⟨by first | rfl | (simp; done) | (simp [*]; done), by repeat (first | exact Drawn0.refl _ | apply Drawn0.step)⟩
      ·rw [if_neg c8] at H
       have c8b0 : decide (a1 ≤ (((bt a0 x5_1) - 97) % 256)) = false := decide_eq_false c8
       clear c8
       have H' := Aside0.mk H
       clear H
       have p5 : 0 ≤ (x5_1 : Int) := of_decide_eq_true az
       have q5 : x5_1 < (a0.size : Int) := of_decide_eq_true az
       have hx5 := bt_at a0 x5_1
       replace p5 := eq_true p5
       replace q5 := eq_true q5
       have p7 : 0 ≤ (x5_1 : Int) := of_decide_eq_true az
       have q7 : x5_1 < (a0.size : Int) := of_decide_eq_true az
       have hx7 := bt_at a0 x5_1
       replace p7 := eq_true p7
       replace q7 := eq_true q7
       go_wp2
       go_roundg k1
       case measure => have := HK1.out; omega
       case rel => exact ⟨(wrap64 (x5_1 + 1)), (by first | rfl | (simp; done) | (simp [*]; done)), H', ⟨by have := HK1.out; omega⟩, by repeat (first | exact Drawn0.refl _ | apply Drawn0.step)⟩
    ·rw [if_neg c4] at H
     exact absurd H (by simp)
   ·rw [if_neg c3] at H
    have c3b0 : decide (x5_1 < (a0.size : Int)) = false := decide_eq_false c3
    clear c3
    obtain rfl := Option.some.inj H
    go_wp2
    go_ret
    exact ⟨by first | rfl | (simp; done) | (simp [*]; done), by repeat (first | exact Drawn0.refl _ | apply Drawn0.step)⟩

end Go.Proofs.Ytagdbadljcongaa.X
end

section
namespace Go.Proofs.Ytagdbadljcongaa.X
open Go.RowKit Go.Proofs.YtagdbadljcongaaW.PrintWords Go.Proofs.YtagdbadljcongaaW.PrintLast Go.Proofs.YtagdbadljcongaaW.PrintMore
attribute [local go_sem] max2_int min2_int max_two min_two max_three min_three max_four min_four   -- for this text's walks alone
set_option linter.unusedVariables false
set_option linter.unusedSimpArgs false

def tickingref03_Word.f (k : Nat) (a0 : ByteArray) : Option (Bool) := if (a0.size : Int) ≤ 60 then ((tickingref03_Letters.f k a0 4).bind fun t101 => (some t101)) else (some false)
set_option maxHeartbeats 8000000 in
set_option maxRecDepth 100000 in
theorem tickingref03_Word.calls (k : Nat) (a0 : ByteArray) (r : Bool) (w : World) (h : tickingref03_Word.f k a0 = some r) :
  Calls Try.prog 20 #[.string a0] w fun e w' => e = .returned (.bool r) ∧ Drawn0 w w' := by
 have H : (if (a0.size : Int) ≤ 60 then ((tickingref03_Letters.f k a0 4).bind fun t101 => (some t101)) else (some false)) = some r := h
 clear h
 by_cases c2 : (a0.size : Int) ≤ 60
 ·rw [if_pos c2] at H
  have c2b0 : decide ((a0.size : Int) ≤ 60) = true := decide_eq_true c2
  have c2b1 : decide (a0.size ≤ 60) = true := decide_eq_true (by omega)
  clear c2
  replace H := Option.bind_eq_some_iff.mp H
  obtain ⟨t101, A30, H⟩ := H
  replace H : (some t101) = some r := H
  have A3 := Aside0.mk A30
  clear A30
  obtain rfl := Option.some.inj H
  go_enter Try.func20, Try.ntmps20
  go_wp2_with (first | (go_at_call 21; (with_reducible refine (tickingref03_Letters.calls k a0 4 t101 _ A3.out).mono ?_); rintro e w' ⟨rfl, ⟨nd, rfl⟩⟩))
  go_ret
  exact ⟨by first | rfl | (simp; done) | (simp [*]; done), by repeat (first | exact Drawn0.refl _ | apply Drawn0.step)⟩
 ·rw [if_neg c2] at H
  have c2b0 : decide ((a0.size : Int) ≤ 60) = false := decide_eq_false c2
  have c2b1 : decide (a0.size ≤ 60) = false := decide_eq_false (by omega)
  clear c2
  obtain rfl := Option.some.inj H
  go_enter Try.func20, Try.ntmps20
  go_wp2
  go_ret
  exact ⟨by first | rfl | (simp; done) | (simp [*]; done), by repeat (first | exact Drawn0.refl _ | apply Drawn0.step)⟩

end Go.Proofs.Ytagdbadljcongaa.X
end

section
namespace Go.Proofs.Ytagdbadljcongaa.X
open Go.RowKit Go.Proofs.YtagdbadljcongaaW.PrintWords Go.Proofs.YtagdbadljcongaaW.PrintLast Go.Proofs.YtagdbadljcongaaW.PrintMore
attribute [local go_sem] max2_int min2_int max_two min_two max_three min_three max_four min_four   -- for this text's walks alone
set_option linter.unusedVariables false
set_option linter.unusedSimpArgs false

def tickingref03_Next.l0 : Nat → ByteArray → Int → Int → Option (Int)
 | 0, _, _, _ => none
 | k + 1, x0, x2, x7 => if x7 < (x0.size : Int) then (if 0 ≤ x7 then (if (bt x0 x7) = x2 then (some (wrap64 (x7 + 1))) else (tickingref03_Next.l0 k x0 x2 (wrap64 (x7 + 1)))) else (none)) else (some (-1))
def tickingref03_Next.f (k : Nat) (a0 : ByteArray) (a1 : Int) (a2 : Int) : Option (Int) := tickingref03_Next.l0 k a0 a2 a1
theorem tickingref03_Next.mono_l : ∀ k, (∀ y0 y1 y2, LeO (tickingref03_Next.l0 k y0 y1 y2) (tickingref03_Next.l0 (k + 1) y0 y1 y2))
 | 0 => fun _ _ _ r h => by simp [tickingref03_Next.l0] at h
 | k + 1 => by
  have ih0 := tickingref03_Next.mono_l k
  ·intro y0 y1 y2
   unfold tickingref03_Next.l0
   repeat' first
   | (with_reducible exact ih0 _ _ _)
   | (with_reducible exact LeO.refl _)
   | (with_reducible exact LeO.none _)
   | (with_reducible refine LeO.ite ?_ ?_)
   | (with_reducible refine LeO.bind ?_ (fun _ => ?_))
   | exact ih0 _ _ _
   | exact LeO.none _
   | refine LeO.ite ?_ ?_
   | refine LeO.bind ?_ (fun _ => ?_)
theorem tickingref03_Next.mono : ∀ a0 a1 a2 k, LeO (tickingref03_Next.f k a0 a1 a2) (tickingref03_Next.f (k + 1) a0 a1 a2) := by
 intro a0 a1 a2 k
 have ih0 := tickingref03_Next.mono_l k
 unfold tickingref03_Next.f
 repeat' first
   | (with_reducible exact ih0 _ _ _)
   | (with_reducible exact LeO.refl _)
   | (with_reducible exact LeO.none _)
   | (with_reducible refine LeO.ite ?_ ?_)
   | (with_reducible refine LeO.bind ?_ (fun _ => ?_))
   | exact ih0 _ _ _
   | exact LeO.none _
   | refine LeO.ite ?_ ?_
   | refine LeO.bind ?_ (fun _ => ?_)
set_option maxHeartbeats 8000000 in
set_option maxRecDepth 100000 in
theorem tickingref03_Next.calls (k : Nat) (a0 : ByteArray) (a1 : Int) (a2 : Int) (r : Int) (w : World) (h : tickingref03_Next.f k a0 a1 a2 = some r) :
  Calls Try.prog 55 #[.string a0, .int .i64 a1, .int .u8 a2] w fun e w' => e = .returned (.int .i64 r) ∧ Drawn0 w w' := by
 have H : (tickingref03_Next.l0 k a0 a2 a1) = some r := h
 clear h
 have H' := Aside0.mk H
 clear H
 go_enter Try.func55, Try.ntmps55
 go_wp2
 go_loopg [7] k (fun kq v7 w' => ∃ (x7_1 : Int), v7 = .int .i64 x7_1 ∧ Aside0 (tickingref03_Next.l0 kq a0 a2 x7_1 = some r) ∧ Aside0 (kq ≤ k) ∧ Drawn0 w w')
 case atStart => exact ⟨(a1), (by first | rfl | (simp; done) | (simp [*]; done)), H', ⟨Nat.le_refl _⟩, by repeat (first | exact Drawn0.refl _ | apply Drawn0.step)⟩
 case round =>
  clear H'
  try clear p2
  obtain ⟨x7_1, rfl, HA, HK1, ⟨m1, rfl⟩⟩ := hrel
  cases gk with
  | zero => exact absurd HA.out (by simp [tickingref03_Next.l0])
  | succ k1 =>
   have H := HA.out
   clear HA
   simp only [tickingref03_Next.l0] at H
   by_cases c4 : x7_1 < (a0.size : Int)
   ·rw [if_pos c4] at H
    have c4b0 : decide (x7_1 < (a0.size : Int)) = true := decide_eq_true c4
    clear c4
    by_cases c5 : 0 ≤ x7_1
    ·rw [if_pos c5] at H
     have c5b0 : decide (0 ≤ x7_1) = true := decide_eq_true c5
     clear c5
     by_cases c7 : (bt a0 x7_1) = a2
     ·rw [if_pos c7] at H
      have c7b0 : ((bt a0 x7_1) == a2) = true := beq_iff_eq.mpr c7
      have c7b1 : ((bt a0 x7_1) != a2) = false := bne_eq_false_iff_eq.mpr c7
      clear c7
      obtain rfl := Option.some.inj H
      have p6 : 0 ≤ (x7_1 : Int) := of_decide_eq_true az
      have q6 : x7_1 < (a0.size : Int) := of_decide_eq_true az
      have hx6 := bt_at a0 x7_1
      replace p6 := eq_true p6
      replace q6 := eq_true q6
      go_wp2
      go_ret
      exact ⟨by first | rfl | (simp; done) | (simp [*]; done), by repeat (first | exact Drawn0.refl _ | apply Drawn0.step)⟩
     ·rw [if_neg c7] at H
      have c7b0 : ((bt a0 x7_1) == a2) = false := beq_eq_false_iff_ne.mpr c7
      have c7b1 : ((bt a0 x7_1) != a2) = true := bne_iff_ne.mpr c7
      have H' := Aside0.mk H
      clear H
      have p6 : 0 ≤ (x7_1 : Int) := of_decide_eq_true az
      have q6 : x7_1 < (a0.size : Int) := of_decide_eq_true az
      have hx6 := bt_at a0 x7_1
      replace p6 := eq_true p6
      replace q6 := eq_true q6
      go_wp2
      go_roundg k1
      case measure => have := HK1.out; omega
      case rel => exact ⟨(wrap64 (x7_1 + 1)), (by first | rfl | (simp; done) | (simp [*]; done)), H', ⟨by have := HK1.out; omega⟩, by repeat (first | exact Drawn0.refl _ | apply Drawn0.step)⟩
    ·rw [if_neg c5] at H
     exact absurd H (by simp)
   ·rw [if_neg c4] at H
    have c4b0 : decide (x7_1 < (a0.size : Int)) = false := decide_eq_false c4
    clear c4
    obtain rfl := Option.some.inj H
    go_wp2
    go_ret
    exact ⟨by first | rfl | (simp; done) | (simp [*]; done), by repeat (first | exact Drawn0.refl _ | apply Drawn0.step)⟩

end Go.Proofs.Ytagdbadljcongaa.X
end

section
namespace Go.Proofs.Ytagdbadljcongaa.X
open Go.RowKit Go.Proofs.YtagdbadljcongaaW.PrintWords Go.Proofs.YtagdbadljcongaaW.PrintLast Go.Proofs.YtagdbadljcongaaW.PrintMore
attribute [local go_sem] max2_int min2_int max_two min_two max_three min_three max_four min_four   -- for this text's walks alone
set_option linter.unusedVariables false
set_option linter.unusedSimpArgs false

def tickingref03_Within.l0 : Nat → ByteArray → ByteArray → List Int → Int → Int → Option (List Int × Bool)
 | 0, _, _, _, _, _ => none
 | k + 1, x0, x1, x6, x7, x8 => if x8 < (x0.size : Int) then (if 0 ≤ x8 then ((tickingref03_Next.f k x1 x7 (bt x0 x8)).bind fun t153 => (if t153 < 0 then (some (([] : List Int), false)) else (if x6.length < 17592186044416 then (tickingref03_Within.l0 k x0 x1 (x6 ++ [wrap64 (t153 - 1)]) t153 (wrap64 (x8 + 1))) else (none)))) else (none)) else (some (x6, true))
def tickingref03_Within.f (k : Nat) (a0 : ByteArray) (a1 : ByteArray) : Option (List Int × Bool) := tickingref03_Within.l0 k a0 a1 ([] : List Int) 0 0
set_option maxHeartbeats 8000000 in
set_option maxRecDepth 100000 in
theorem tickingref03_Within.calls (k : Nat) (a0 : ByteArray) (a1 : ByteArray) (r1 : List Int) (r2 : Bool) (w : World) (h : tickingref03_Within.f k a0 a1 = some (r1, r2)) :
  Calls Try.prog 34 #[.string a0, .string a1] w fun e w' => ∃ v0_ : Value, e = .returned (.tuple #[v0_, .bool r2]) ∧ Kd.R (Kd.int .i64) 3 w' w.heap.size (fun _ => True) v0_ r1 ∧ Below w.heap.size w w' := by
 have HB := Aside0.mk (Below.refl w.heap.size w)
 have H : (tickingref03_Within.l0 k a0 a1 ([] : List Int) 0 0) = some (r1, r2) := h
 clear h
 have H' := Aside0.mk H
 clear H
 go_enter Try.func34, Try.ntmps34
 go_wp2
 go_loopg [6, 7, 8] k (fun kq v6 v7 v8 w' => ∃ (x6_1 : List Int) (x7_1 : Int) (x8_1 : Int), v7 = .int .i64 x7_1 ∧ v8 = .int .i64 x8_1 ∧ Aside0 (tickingref03_Within.l0 kq a0 a1 x6_1 x7_1 x8_1 = some (r1, r2)) ∧ Aside0 (kq ≤ k) ∧ Aside0 (Kd.R (Kd.int .i64) 3 w' w.heap.size (fun _ => True) v6 x6_1) ∧ Aside0 (Below w.heap.size w w'))
 case atStart => exact ⟨(([] : List Int)), (0), (0), (by first | rfl | (simp; done) | (simp [*]; done)), (by first | rfl | (simp; done) | (simp [*]; done)), H', ⟨Nat.le_refl _⟩, ⟨by first | exact Kd.R_nil _ _ _ _ _ | exact Kd.N_nil _ _ _ _ _ | exact Kd.V_nil _ _ _ _ _ | exact Kd.Q_nil _ _ _ _ _ | exact Kd.S_nil _ _ _ _ _⟩, ⟨by repeat (first | (with_reducible first | exact HB.out | apply below_alloc | apply pw_below_drewN | apply below_drew1) | exact HB.out)⟩⟩
 case round =>
  clear H'
  try clear p2
  obtain ⟨x6_1, x7_1, x8_1, rfl, rfl, HA, HK1, HO_6, HB⟩ := hrel
  cases gk with
  | zero => exact absurd HA.out (by simp [tickingref03_Within.l0])
  | succ k1 =>
   have H := HA.out
   clear HA
   simp only [tickingref03_Within.l0] at H
   by_cases c3 : x8_1 < (a0.size : Int)
   ·rw [if_pos c3] at H
    have c3b0 : decide (x8_1 < (a0.size : Int)) = true := decide_eq_true c3
    clear c3
    by_cases c4 : 0 ≤ x8_1
    ·rw [if_pos c4] at H
     have c4b0 : decide (0 ≤ x8_1) = true := decide_eq_true c4
     clear c4
     replace H := Option.bind_eq_some_iff.mp H
     obtain ⟨t153, A60, H⟩ := H
     replace H : (if t153 < 0 then (some (([] : List Int), false)) else (if x6_1.length < 17592186044416 then (tickingref03_Within.l0 k1 a0 a1 (x6_1 ++ [wrap64 (t153 - 1)]) t153 (wrap64 (x8_1 + 1))) else (none))) = some (r1, r2) := H
     have A6 := Aside0.mk A60
     clear A60
     by_cases c7 : t153 < 0
     ·rw [if_pos c7] at H
      have c7b0 : decide (t153 < 0) = true := decide_eq_true c7
      clear c7
      simp only [Option.some.injEq, Prod.mk.injEq] at H
      obtain ⟨rfl, rfl⟩ := H
      have p5 : 0 ≤ (x8_1 : Int) := of_decide_eq_true az
      have q5 : x8_1 < (a0.size : Int) := of_decide_eq_true az
      have hx5 := bt_at a0 x8_1
      replace p5 := eq_true p5
      replace q5 := eq_true q5
      go_wp2_with (first | ((with_reducible refine gate_callee (f := 55) rfl ?_); refine goesL_ (some 20) rfl rfl Try.func55 (by kernel_rfl) rfl #[.string a1, .int .i64 x7_1, .int .u8 (bt a0 x8_1)] rfl dz ?_; (with_reducible refine (tickingref03_Next.calls k1 a1 x7_1 (bt a0 x8_1) t153 _ A6.out).mono ?_); rintro e w' ⟨rfl, ⟨nd, rfl⟩⟩; refine ⟨_, rfl, ?_⟩))
      go_ret2
      exact ⟨_, by first | rfl | (simp [errW_none, errW_some] <;> rfl) | (simp [*, errW_none, errW_some] <;> rfl), by first | exact Kd.R_nil _ _ _ _ _ | exact Kd.N_nil _ _ _ _ _ | exact Kd.V_nil _ _ _ _ _ | exact Kd.Q_nil _ _ _ _ _ | exact Kd.S_nil _ _ _ _ _, by repeat (first | (with_reducible first | exact HB.out | apply below_alloc | apply pw_below_drewN | apply below_drew1) | exact HB.out)⟩
     ·rw [if_neg c7] at H
      have c7b0 : decide (t153 < 0) = false := decide_eq_false c7
      clear c7
      by_cases c8 : x6_1.length < 17592186044416
      ·rw [if_pos c8] at H
       have LMc8 := Aside0.mk c8
       clear c8
       obtain ⟨y154, hy154⟩ : ∃ y_ : List Int, y_ = (x6_1 ++ [wrap64 (t153 - 1)]) := ⟨_, rfl⟩
       replace H : (tickingref03_Within.l0 k1 a0 a1 y154 t153 (wrap64 (x8_1 + 1))) = some (r1, r2) := by first | (rw [hy154]; with_reducible exact H) | (have H2_ := (Option.bind_some _ _).symm.trans H; rw [hy154]; with_reducible exact H2_) | (have H2_ := (Option.bind_some _ _).symm.trans H; with_reducible exact H2_) | with_reducible exact H | (rw [hy154]; exact H) | exact H
       have Ny154 := Aside0.mk hy154
       clear hy154
       have H' := Aside0.mk H
       clear H
       have p5 : 0 ≤ (x8_1 : Int) := of_decide_eq_true az
       have q5 : x8_1 < (a0.size : Int) := of_decide_eq_true az
       have hx5 := bt_at a0 x8_1
       replace p5 := eq_true p5
       replace q5 := eq_true q5
       go_wp2_with (first | ((with_reducible refine gate_callee (f := 55) rfl ?_); refine goesL_ (some 20) rfl rfl Try.func55 (by kernel_rfl) rfl #[.string a1, .int .i64 x7_1, .int .u8 (bt a0 x8_1)] rfl dz ?_; (with_reducible refine (tickingref03_Next.calls k1 a1 x7_1 (bt a0 x8_1) t153 _ A6.out).mono ?_); rintro e w' ⟨rfl, ⟨nd, rfl⟩⟩; refine ⟨_, rfl, ?_⟩) | ((with_reducible refine gate_builtin (b := .append) (xs := #[.tmp 23, .tmp 26]) rfl ?_); at_builtin; refine Kd.R_append (Kd.int .i64) (w0 := w) w.heap.size rfl (.tmp 23) (.tmp 26) 23 3 (.int .i64 0) 8 rfl Try.underlying23 info3 rfl (by decide) (by omega) u6 x6_1 (wrap64 (t153 - 1)) [.int .i64 (wrap64 (t153 - 1))] (fun _ => True) (fun _ => False) rfl rfl ?aP (fun _ hk => hk.elim) ?aF ?aO ?aB ?aS ?aL ?_; (case aP => exact rfl); (case aB => exact bz); (case aF => exact (fun _ _ => trivial)); (case aO => exact (rz HO_6.out)); (case aS => exact (below_size bz)); (case aL => have := LMc8.out; omega); intro v155 w9 ho hb hg hat; rw [← Ny154.out] at ho; have n0_ := Aside0.mk (hb); have n1_ := Aside0.mk (ho); clear HB; clear HO_6; have HB := n0_; have HO156 := n1_; clear n0_ n1_; clear ho hb hg hat))
       go_roundg k1
       case measure => have := HK1.out; omega
       case rel => exact ⟨(y154), (t153), (wrap64 (x8_1 + 1)), (by first | rfl | (simp; done) | (simp [*]; done)), (by first | rfl | (simp; done) | (simp [*]; done)), H', ⟨by have := HK1.out; omega⟩, ⟨by (with_reducible repeat (first | apply Kd.R_alloc | apply Kd.R_drewN | apply Kd.R_drew)); exact HO156.out⟩, ⟨by repeat (first | (with_reducible first | exact HB.out | apply below_alloc | apply pw_below_drewN | apply below_drew1) | exact HB.out)⟩⟩
      ·rw [if_neg c8] at H
       exact absurd H (by simp)
    ·rw [if_neg c4] at H
     exact absurd H (by simp)
   ·rw [if_neg c3] at H
    have c3b0 : decide (x8_1 < (a0.size : Int)) = false := decide_eq_false c3
    clear c3
    simp only [Option.some.injEq, Prod.mk.injEq] at H
    obtain ⟨rfl, rfl⟩ := H
    go_wp2
    go_ret2
    exact ⟨_, by first | rfl | (simp [errW_none, errW_some] <;> rfl) | (simp [*, errW_none, errW_some] <;> rfl), by (with_reducible repeat (first | apply Kd.R_alloc | apply Kd.R_drewN | apply Kd.R_drew)); exact HO_6.out, by repeat (first | (with_reducible first | exact HB.out | apply below_alloc | apply pw_below_drewN | apply below_drew1) | exact HB.out)⟩

end Go.Proofs.Ytagdbadljcongaa.X
end

section
/- What the reference computes: Letters, Word, Next, Within. -/
set_option linter.unusedVariables false
set_option linter.unusedSimpArgs false
namespace Go.Proofs.Ytagdbadljcongaa.X
open Go Go.RowKit Go.Proofs.YtagdbadljcongaaW.PrintWords Go.Proofs.YtagdbadljcongaaW.PrintLast Go.Proofs.YtagdbadljcongaaW.PrintMore
theorem bt_bl2 (s : ByteArray) (i : Nat) (h : i < s.size) : bt s (i : Int) = ((bl s)[i]'(by rw [bl_length]; exact h) : Nat) := by
  rw [bl_get s i h, ← bt_at s (i : Int) (by simpa using h)]
  simp
theorem wr1 {i : Nat} (h : i ≤ 1000000000) : wrap64 ((i : Int) + 1) = ((i + 1 : Nat) : Int) := by rw [IntWalk.wrap64_in _ (by omega)]; omega
theorem byte_lt (s : ByteArray) (i : Nat) (h : i < s.size) : (bl s)[i]'(by rw [bl_length]; exact h) < 256 := by
  rw [bl_get s i h]
  exact (s[i]'h).toNat_lt
theorem letters_ev (s : ByteArray) (hs : s.size ≤ 1000000) : ∀ d i k, i + d = s.size → d < k → tickingref03_Letters.l0 k s 4 (i : Int) = some (((bl s).drop i).all ltrB)
  | 0, i, 0, h, hk => absurd hk (by omega)
  | 0, i, k + 1, h, hk => by
    unfold tickingref03_Letters.l0
    rw [if_neg (by omega), List.drop_eq_nil_of_le (by rw [bl_length]; omega)]
    rfl
  | d + 1, i, 0, h, hk => absurd hk (by omega)
  | d + 1, i, k + 1, h, hk => by
    have hi : i < s.size := by omega
    have hb := byte_lt s i hi
    unfold tickingref03_Letters.l0
    rw [if_pos (by omega), if_pos (by omega), bt_bl2 s i hi, List.drop_eq_getElem_cons (by rw [bl_length]; exact hi), List.all_cons]
    generalize (bl s)[i]'(by rw [bl_length]; exact hi) = b at hb
    by_cases h1 : b < 97
    · rw [if_pos (by omega)]
      have : ltrB b = false := by unfold ltrB; exact decide_eq_false (by omega)
      rw [this]; rfl
    · rw [if_neg (by omega)]
      by_cases h2 : 101 ≤ b
      · rw [if_pos (by omega)]
        have : ltrB b = false := by unfold ltrB; exact decide_eq_false (by omega)
        rw [this]; rfl
      · rw [if_neg (by omega), wr1 (by omega), letters_ev s hs d (i + 1) k (by omega) (by omega)]
        have : ltrB b = true := by unfold ltrB; exact decide_eq_true (by omega)
        rw [this]; rfl
theorem word_ev (s : ByteArray) (hs : s.size ≤ 1000000) : tickingref03_Word.f (s.size + 1) s = some (isW (bl s)) := by
  unfold tickingref03_Word.f isW
  rw [bl_length]
  by_cases h : s.size ≤ 60
  · rw [if_pos (by omega)]
    have := letters_ev s hs s.size 0 (s.size + 1) (by omega) (by omega)
    unfold tickingref03_Letters.f
    rw [show ((0 : Nat) : Int) = 0 from rfl, List.drop_zero] at this
    rw [this, decide_eq_true h]
    rfl
  · rw [if_neg (by omega), decide_eq_false h]
    rfl
theorem word_any (s : ByteArray) (r : Bool) (w : World) (hs : s.size ≤ 1000000) (hr : isW (bl s) = r) : Calls Try.prog 20 #[.string s] w fun e w' => e = .returned (.bool r) ∧ Drawn0 w w' :=
  tickingref03_Word.calls _ s r w (by rw [word_ev s hs, hr])
/-- Next's answer. -/
def nxI (l : List Nat) (i c : Nat) : Int := if nx l i c < l.length then ((nx l i c + 1 : Nat) : Int) else -1
theorem next_ev (s : ByteArray) (hs : s.size ≤ 1000000) (c : Nat) : ∀ d i k, i + d = s.size → d < k → tickingref03_Next.l0 k s (c : Int) (i : Int) = some (nxI (bl s) i c)
  | 0, i, 0, h, hk => absurd hk (by omega)
  | 0, i, k + 1, h, hk => by
    unfold tickingref03_Next.l0 nxI
    obtain rfl : i = s.size := by omega
    rw [if_neg (by omega), if_neg (by rw [← bl_length, nx_end]; omega)]
  | d + 1, i, 0, h, hk => absurd hk (by omega)
  | d + 1, i, k + 1, h, hk => by
    have hi : i < s.size := by omega
    unfold tickingref03_Next.l0
    rw [if_pos (by omega), if_pos (by omega), bt_bl2 s i hi]
    have hi2 : i < (bl s).length := by rw [bl_length]; exact hi
    by_cases h1 : (bl s)[i] = c
    · rw [if_pos (by rw [h1]), wr1 (by omega)]
      unfold nxI
      rw [nx_same hi2 h1, if_pos hi2]
    · rw [if_neg (by omega), wr1 (by omega), next_ev s hs c d (i + 1) k (by omega) (by omega)]
      unfold nxI
      rw [nx_next hi2 h1]
theorem next_f (s : ByteArray) (hs : s.size ≤ 1000000) (c i k : Nat) (hi : i ≤ s.size) (hk : s.size < k) : tickingref03_Next.f k s (i : Int) (c : Int) = some (nxI (bl s) i c) :=
  next_ev s hs c (s.size - i) i k (by omega) (by omega)
/-- Within's answer. -/
def wthI (l u : List Nat) (i : Nat) (pre : List Int) : List Int × Bool := match wth l i u with
  | some xs => (pre ++ xs.map fun (n : Nat) => (n : Int), true)
  | none => ([], false)
theorem within_ev (u s : ByteArray) (hu : u.size ≤ 1000000) (hs : s.size ≤ 1000000) : ∀ d j k i pre, j + d = u.size → i ≤ s.size → pre.length ≤ j → d + s.size + 1 < k → tickingref03_Within.l0 k u s pre (i : Int) (j : Int) = some (wthI (bl s) ((bl u).drop j) i pre)
  | 0, j, 0, i, pre, h, hi, hp, hk => absurd hk (by omega)
  | 0, j, k + 1, i, pre, h, hi, hp, hk => by
    unfold tickingref03_Within.l0
    rw [if_neg (by omega), List.drop_eq_nil_of_le (by rw [bl_length]; omega)]
    simp [wthI, wth]
  | d + 1, j, 0, i, pre, h, hi, hp, hk => absurd hk (by omega)
  | d + 1, j, k + 1, i, pre, h, hi, hp, hk => by
    have hj : j < u.size := by omega
    unfold tickingref03_Within.l0
    rw [if_pos (by omega), if_pos (by omega), bt_bl2 u j hj, next_f s hs _ i k hi (by omega), List.drop_eq_getElem_cons (by rw [bl_length]; exact hj)]
    generalize (bl u)[j]'(by rw [bl_length]; exact hj) = c
    show (if nxI (bl s) i c < 0 then some (([] : List Int), false) else if pre.length < 17592186044416 then tickingref03_Within.l0 k u s (pre ++ [wrap64 (nxI (bl s) i c - 1)]) (nxI (bl s) i c) (wrap64 ((j : Int) + 1)) else none) = _
    have hq := nx_le (bl s) i c (by rw [bl_length]; exact hi)
    rw [bl_length] at hq
    unfold wthI wth
    by_cases h1 : nx (bl s) i c < (bl s).length
    · have e : nxI (bl s) i c = ((nx (bl s) i c + 1 : Nat) : Int) := by unfold nxI; rw [if_pos h1]
      rw [bl_length] at h1
      rw [e, if_neg (by omega), if_pos (by omega), wr1 (by omega)]
      rw [show wrap64 (((nx (bl s) i c + 1 : Nat) : Int) - 1) = (nx (bl s) i c : Int) by rw [IntWalk.wrap64_in _ (by omega)]; omega]
      rw [within_ev u s hu hs d (j + 1) k (nx (bl s) i c + 1) _ (by omega) (by omega) (by simp; omega) (by omega), if_pos (by rw [bl_length]; exact h1)]
      unfold wthI
      cases wth (bl s) (nx (bl s) i c + 1) ((bl u).drop (j + 1)) <;> simp
    · have e : nxI (bl s) i c = -1 := by unfold nxI; rw [if_neg h1]
      rw [e, if_pos (by omega), if_neg h1]
theorem rwithin_any (u s : ByteArray) (w : World) (hu : u.size ≤ 1000000) (hs : s.size ≤ 1000000) (r : Option (List Nat)) (hr : wth (bl s) 0 (bl u) = r) :
    Calls Try.prog 34 #[.string u, .string s] w fun e w' => ∃ v, e = .returned (.tuple #[v, .bool r.isSome]) ∧ Aside0 (∀ xs, r = some xs → Kd.R (Kd.int .i64) 3 w' w.heap.size (fun _ => True) v (xs.map fun (n : Nat) => (n : Int))) ∧ Below w.heap.size w w' := by
  have h := within_ev u s hu hs u.size 0 (u.size + s.size + 2) 0 [] (by omega) (by omega) (by simp) (by omega)
  rw [List.drop_zero] at h
  unfold wthI at h
  rw [hr] at h
  cases r with
  | none =>
    refine (tickingref03_Within.calls _ u s [] false w h).mono ?_
    rintro e w' ⟨v, rfl, h1, h2⟩
    exact ⟨v, rfl, ⟨fun xs h => by cases h⟩, h2⟩
  | some xs =>
    refine (tickingref03_Within.calls _ u s _ true w h).mono ?_
    rintro e w' ⟨v, rfl, h1, h2⟩
    exact ⟨v, rfl, ⟨fun xs' h => by injection h with h; subst h; simpa using h1⟩, h2⟩
end Go.Proofs.Ytagdbadljcongaa.X
end

section
namespace Go.Proofs.Ytagdbadljcongaa.X
open Go.RowKit Go.Proofs.YtagdbadljcongaaW.PrintWords Go.Proofs.YtagdbadljcongaaW.PrintLast Go.Proofs.YtagdbadljcongaaW.PrintMore
attribute [local go_sem] max2_int min2_int max_two min_two max_three min_three max_four min_four   -- for this text's walks alone
set_option linter.unusedVariables false
set_option linter.unusedSimpArgs false

def tickingref03_Counts.T11 : Bool × List (List Nat × List Nat) := (true, [([], []), ([], []), ([], []), ([], []), ([2, 3], [2, 3]), ([4], [4]), ([], []), ([], []), ([6, 7], [6, 7]), ([8], [8]), ([5, 9], [5, 9]), ([0, 1, 0, 1, 2, 3, 4, 5, 6, 7, 8, 9, 10], [0, 1]), ([11, 10, 0, 1, 2, 3, 4, 5, 6, 7, 8, 9, 10], [10, 11])])
def tickingref03_Counts.B11 : List Nat := [0, 0, 0, 0, 12, 28, 0, 0, 192, 448, 1020, 2047, 4095]
theorem tickingref03_Counts.tab11 : rtab .any (opsOf Try.f37 11) = tickingref03_Counts.T11 := by kernel_rfl
theorem tickingref03_Counts.bits11 : waitsOk tickingref03_Counts.T11.2 tickingref03_Counts.B11 = true := by kernel_rfl
end Go.Proofs.Ytagdbadljcongaa.X
end

section
/- What the reference computes: Counts, Index. -/
set_option linter.unusedVariables false
set_option linter.unusedSimpArgs false
namespace Go.Proofs.Ytagdbadljcongaa.X
open Go Go.RowKit Go.Proofs.YtagdbadljcongaaW.PrintWords Go.Proofs.YtagdbadljcongaaW.PrintLast Go.Proofs.YtagdbadljcongaaW.PrintMore
/-- The counts are right from place m on. -/
structure CtL (s : ByteArray) (m : Nat) (L : List Int) : Prop where
  len : L.length = s.size + 1
  at_ : ∀ j : Nat, m ≤ j → j ≤ s.size → rd L (j : Int) = (cs ((bl s).drop j) : Int)
end Go.Proofs.Ytagdbadljcongaa.X
end

section
/- thread.isOver: through strings.ContainsFunc, IndexFunc and indexFunc with its closure, at a word. -/
set_option linter.unusedVariables false
set_option linter.unusedSimpArgs false
namespace Go.Proofs.Ytagdbadljcongaa.X
open Go Go.RowKit Go.Proofs Go.Proofs.YtagdbadljcongaaW.PrintWords Go.Proofs.YtagdbadljcongaaW.PrintLast Go.Proofs.YtagdbadljcongaaW.PrintMore
/-- Whether a word has the first k letters only. -/
def ovr (l : List Nat) (k : Nat) : Bool := l.all fun b => decide (b < 97 + k)
set_option maxHeartbeats 2000000 in
set_option maxRecDepth 100000 in
theorem over_yes (g d k : Nat) (W : World) (hg : W.cell? ⟨g, 0, none⟩ = some (.int .i64 k)) (hd : d < 4) (hk : 1 ≤ k) (hk4 : k ≤ 4) (h : d < k) : Calls Try.prog 69 #[.int .i32 (97 + (d : Int)), .pointer (some ⟨g, 0, none⟩)] W fun e w' => e = .returned (.bool false) ∧ Drawn0 W w' := by
  have h1 : (0 : Int) ≤ (d : Int) := by omega
  have h2 : (d : Int) < 4 := by omega
  have h3 : (d : Int) ≤ (k : Int) - 1 := by omega
  have h4 : (k : Int) ≤ 4 := by omega
  have h5 : (97 : Int) + (d : Int) - 97 = (d : Int) := by omega
  clear hd hk hk4 h
  go_enter Try.func69, Try.ntmps69
  go_wp2_with (go_at_call 49; (with_reducible refine (within_y _ _ _ _ (by omega) (by omega)).mono ?_); rintro e w1 ⟨rfl, HD⟩; have HDD := Aside0.mk HD; clear HD)
  go_ret
  exact ⟨rfl, HDD.out⟩
set_option maxHeartbeats 2000000 in
set_option maxRecDepth 100000 in
theorem over_no (g d k : Nat) (W : World) (hg : W.cell? ⟨g, 0, none⟩ = some (.int .i64 k)) (hd : d < 4) (hk : 1 ≤ k) (hk4 : k ≤ 4) (h : ¬ d < k) : Calls Try.prog 69 #[.int .i32 (97 + (d : Int)), .pointer (some ⟨g, 0, none⟩)] W fun e w' => e = .returned (.bool true) ∧ Drawn0 W w' := by
  have h1 : (0 : Int) ≤ (d : Int) := by omega
  have h2 : (d : Int) < 4 := by omega
  have h3 : ¬ ((0 : Int) ≤ (d : Int) ∧ (d : Int) ≤ (k : Int) - 1) := by omega
  have h4 : (k : Int) ≤ 4 := by omega
  have h5 : (97 : Int) + (d : Int) - 97 = (d : Int) := by omega
  have H3 := Aside0.mk h3
  clear hd hk hk4 h h3
  go_enter Try.func69, Try.ntmps69
  go_wp2_with (go_at_call 49; (with_reducible refine (within_n _ _ _ _ H3.out).mono ?_); rintro e w1 ⟨rfl, HD⟩; have HDD := Aside0.mk HD; clear HD)
  go_ret
  exact ⟨rfl, HDD.out⟩
set_option maxHeartbeats 4000000 in
set_option maxRecDepth 1000000 in
theorem idxf (s : ByteArray) (g k : Nat) (w : World) (hs : isW (bl s) = true) (hg : w.cell? ⟨g, 0, none⟩ = some (.int .i64 k)) (hgl : g < w.heap.size) (hk : 1 ≤ k) (hk4 : k ≤ 4) :
    Calls Try.prog 92 #[.string s, .func (.func 69) #[] #[.pointer (some ⟨g, 0, none⟩)], .bool true] w fun e w' => ∃ r : Int, e = .returned (.int .i64 r) ∧ Aside0 (-1 ≤ r ∧ r ≤ 60 ∧ (0 ≤ r ↔ ovr (bl s) k = false)) ∧ Below w.heap.size w w' := by
  have HS := Aside0.mk hs
  have HG := Aside0.mk hg
  have HGL := Aside0.mk hgl
  have HK := Aside0.mk hk
  have HK4 := Aside0.mk hk4
  have hs60 : s.size ≤ 60 := by rw [← bl_length]; exact ((isW_iff _).1 hs).1
  have HS60 := Aside0.mk hs60
  clear hs hg hgl hk hk4 hs60
  go_enter Try.func92, Try.ntmps92
  go_wp2
  go_loopg [] s.size (fun gf wx => ∃ pos : Nat, Aside0 (wx.heap[w.heap.size]? = some (.stringIter s pos)) ∧ Aside0 (Below w.heap.size w wx) ∧ Aside0 (∀ j, j < pos → ∀ h : j < (bl s).length, (bl s)[j] < 97 + k) ∧ Aside0 (pos + gf = s.size))
  case atStart => exact ⟨0, ⟨World.iter_heap w s 0⟩, ⟨(Below.refl _ w).alloc (Nat.le_refl _) _⟩, ⟨by omega⟩, ⟨by omega⟩⟩
  case round =>
    obtain ⟨pos, HIT, HBW, HAL, HFU⟩ := hrel
    by_cases hps : pos < s.size
    · obtain ⟨g', rfl⟩ : ∃ g', gk = g' + 1 := ⟨gk - 1, by have := HFU.out; omega⟩
      obtain ⟨d, hd, hd4⟩ : ∃ c, (bl s)[pos]'(by rw [bl_length]; exact hps) = 97 + c ∧ c < 4 := by
        have := ((isW_iff (bl s)).1 HS.out).2 _ (List.getElem_mem (by rw [bl_length]; exact hps))
        exact ⟨(bl s)[pos]'(by rw [bl_length]; exact hps) - 97, by omega, by omega⟩
      have hdec : Utf8.decode s pos = (97 + d, 1) := by
        have h2 : (s[pos]'hps).toNat = 97 + d := by rw [← bl_get s pos hps]; exact hd
        rw [decode_ascii s pos hps (by omega), h2]
      have hnx : ∀ ty, (Instr.next (.pointer (some ⟨w.heap.size, 0, none⟩)) true ty).run Try.prog wr = _ := fun ty => Lib.run_next_any_at wr w.heap.size s pos ty HIT.out hps
      rw [hdec] at hnx
      have hit2 := Lib.iterAt_heap wr w.heap.size s pos (pos + 1) HIT.out
      have hbw2 := Lib.below_iterAt HBW.out (k := w.heap.size) (Nat.le_refl _) s (pos + 1)
      obtain ⟨W, hWd⟩ : ∃ W, wr.iterAt w.heap.size s (pos + 1) = W := ⟨_, rfl⟩
      rw [hWd] at hnx hit2 hbw2
      have e97 : ((97 + d : Nat) : Int) = 97 + (d : Int) := by simp
      simp only [e97] at hnx
      have HIT2 := Aside0.mk hit2
      have HBW2 := Aside0.mk hbw2
      have HPS := Aside0.mk hps
      have HD := Aside0.mk (show ∀ h : pos < (bl s).length, (bl s)[pos] = 97 + d from fun _ => hd)
      have HD4 := Aside0.mk hd4
      have hcg : W.cell? ⟨g, 0, none⟩ = some (.int .i64 k) := (hbw2.cell (p := ⟨g, 0, none⟩) HGL.out).trans HG.out
      have HCG := Aside0.mk hcg
      clear hdec hit2 hbw2 hWd hps hd hd4 e97 hcg
      by_cases hdk : d < k
      · have HDK := Aside0.mk hdk
        clear hdk
        go_wp2_with (go_at_call 69; (with_reducible refine (over_yes g d k W HCG.out HD4.out HK.out HK4.out HDK.out).mono ?_); rintro e W' ⟨rfl, HDR⟩; have HB3 := Aside0.mk HDR.below; clear HDR)
        go_roundg g'
        case measure => omega
        case rel => exact ⟨pos + 1, ⟨blk_below HIT2.out HB3.out⟩, ⟨below_step HBW2.out HB3.out⟩, ⟨fun j hj h => by
          by_cases e : j = pos
          · subst e; rw [HD.out h]; have := HDK.out; omega
          · exact HAL.out j (by omega) h⟩, ⟨by have := HFU.out; omega⟩⟩
      · have HDK := Aside0.mk hdk
        clear hdk
        go_wp2_with (go_at_call 69; (with_reducible refine (over_no g d k W HCG.out HD4.out HK.out HK4.out HDK.out).mono ?_); rintro e W' ⟨rfl, HDR⟩; have HB3 := Aside0.mk HDR.below; clear HDR)
        go_ret
        refine ⟨_, rfl, ⟨by have := HPS.out; have := HS60.out; omega, by have := HPS.out; have := HS60.out; omega, ?_⟩, below_step HBW2.out HB3.out⟩
        refine iff_of_true (by omega) ?_
        rw [Bool.eq_false_iff]
        intro h
        have := List.all_eq_true.1 h _ (List.getElem_mem (show pos < (bl s).length by rw [bl_length]; exact HPS.out))
        rw [HD.out (by rw [bl_length]; exact HPS.out)] at this
        have h2 := HDK.out
        simp at this; omega
    · have hnx : ∀ ty, (Instr.next (.pointer (some ⟨w.heap.size, 0, none⟩)) true ty).run Try.prog wr = _ := fun ty => Lib.run_next_end_at wr w.heap.size s pos ty HIT.out hps
      have HPS := Aside0.mk hps
      clear hps
      go_wp2
      go_ret
      refine ⟨_, rfl, ⟨by omega, by omega, iff_of_false (by omega) ?_⟩, HBW.out⟩
      rw [Bool.not_eq_false]
      refine List.all_eq_true.2 fun b hb => ?_
      obtain ⟨j, hj, rfl⟩ := List.getElem_of_mem hb
      exact decide_eq_true (HAL.out j (by have h1 := HPS.out; rw [bl_length] at hj; omega) hj)
set_option maxHeartbeats 2000000 in
set_option maxRecDepth 100000 in
theorem idxf2 (s : ByteArray) (g k : Nat) (w : World) (hs : isW (bl s) = true) (hg : w.cell? ⟨g, 0, none⟩ = some (.int .i64 k)) (hgl : g < w.heap.size) (hk : 1 ≤ k) (hk4 : k ≤ 4) :
    Calls Try.prog 79 #[.string s, .func (.func 69) #[] #[.pointer (some ⟨g, 0, none⟩)]] w fun e w' => ∃ r : Int, e = .returned (.int .i64 r) ∧ Aside0 (-1 ≤ r ∧ r ≤ 60 ∧ (0 ≤ r ↔ ovr (bl s) k = false)) ∧ Below w.heap.size w w' := by
  have H := Aside0.mk (idxf s g k w hs hg hgl hk hk4)
  clear hs hg hgl hk hk4
  go_enter Try.func79, Try.ntmps79
  go_wp2_with (go_at_call 92; (with_reducible refine H.out.mono ?_); rintro e w1 ⟨r, rfl, HR, hb⟩; have HB := Aside0.mk hb; clear hb)
  go_ret
  exact ⟨r, rfl, HR, HB.out⟩
set_option maxHeartbeats 2000000 in
set_option maxRecDepth 100000 in
theorem contf (s : ByteArray) (g k : Nat) (w : World) (hs : isW (bl s) = true) (hg : w.cell? ⟨g, 0, none⟩ = some (.int .i64 k)) (hgl : g < w.heap.size) (hk : 1 ≤ k) (hk4 : k ≤ 4) (r : Bool) (hr : ovr (bl s) k = r) :
    Calls Try.prog 68 #[.string s, .func (.func 69) #[] #[.pointer (some ⟨g, 0, none⟩)]] w fun e w' => e = .returned (.bool (!r)) ∧ Below w.heap.size w w' := by
  have H := Aside0.mk (idxf2 s g k w hs hg hgl hk hk4)
  have HR := Aside0.mk hr
  clear hs hg hgl hk hk4 hr
  cases r with
  | true =>
    go_enter Try.func68, Try.ntmps68
    go_wp2_with (go_at_call 79; (with_reducible refine H.out.mono ?_); rintro e w1 ⟨r, rfl, HR2, hb⟩; have HB := Aside0.mk hb; have hr0 : decide (0 ≤ r) = false := decide_eq_false (fun h => by have := HR2.out.2.2.1 h; rw [HR.out] at this; cases this); clear hb)
    go_ret
    exact ⟨rfl, HB.out⟩
  | false =>
    go_enter Try.func68, Try.ntmps68
    go_wp2_with (go_at_call 79; (with_reducible refine H.out.mono ?_); rintro e w1 ⟨r, rfl, HR2, hb⟩; have HB := Aside0.mk hb; have hr0 : decide (0 ≤ r) = true := decide_eq_true (HR2.out.2.2.2 HR.out); clear hb)
    go_ret
    exact ⟨rfl, HB.out⟩
set_option maxHeartbeats 2000000 in
set_option maxRecDepth 100000 in
theorem over_any (s : ByteArray) (k : Nat) (w : World) (hs : isW (bl s) = true) (hk : 1 ≤ k) (hk4 : k ≤ 4) (r : Bool) (hr : ovr (bl s) k = r) :
    Calls Try.prog 50 #[.string s, .int .i64 k] w fun e w' => e = .returned (.bool r) ∧ Below w.heap.size w w' := by
  have H := Aside0.mk (contf s w.heap.size k (w.alloc (.cells #[.int .i64 (k : Int)] 3)) hs ((blk_cell (blk_new w _) 0).trans rfl) (by rw [World.size_alloc]; omega) hk hk4 r hr)
  clear hs hk hk4 hr
  go_enter Try.func50, Try.ntmps50
  go_wp2_with (go_at_call 68; (with_reducible refine H.out.mono ?_); rintro e w1 ⟨rfl, hb⟩; have HB := Aside0.mk (below_step (below_alloc (Below.refl _ _) _) hb); clear hb)
  go_ret
  exact ⟨by simp, HB.out⟩
end Go.Proofs.Ytagdbadljcongaa.X
end

section
/- tickinglaw03.tame. -/
set_option linter.unusedVariables false
set_option linter.unusedSimpArgs false
namespace Go.Proofs.Ytagdbadljcongaa.X
open Go Go.RowKit Go.Proofs Go.Proofs.YtagdbadljcongaaW.PrintWords Go.Proofs.YtagdbadljcongaaW.PrintLast Go.Proofs.YtagdbadljcongaaW.PrintMore
/-- A word of the first k letters of at most m letters. -/
structure Tame (s : ByteArray) (m k : Nat) : Prop where
  size : s.size ≤ m
  let_ : ∀ b ∈ bl s, 97 ≤ b ∧ b < 97 + k
theorem Tame.isW {s : ByteArray} {m k : Nat} (h : Tame s m k) (hm : m ≤ 60) (hk : k ≤ 4) : isW (bl s) = true :=
  (isW_iff _).2 ⟨by rw [bl_length]; have := h.size; omega, fun b hb => by have := h.let_ b hb; omega⟩
theorem Tame.ovr {s : ByteArray} {m k : Nat} (h : Tame s m k) : ovr (bl s) k = true := List.all_eq_true.2 fun b hb => decide_eq_true (h.let_ b hb).2
end Go.Proofs.Ytagdbadljcongaa.X
end

section
/- The search through pairs of places, as the program does it. -/
set_option linter.unusedVariables false
set_option linter.unusedSimpArgs false
namespace Go.Proofs.Ytagdbadljcongaa.X
open Go.RowKit Go.Proofs.YtagdbadljcongaaW.PrintWords
/-- An entry of the queue: two places, and the word that leads there. -/
structure Ent where
  i : Nat
  j : Nat
  wd : List Nat
deriving DecidableEq
def knownB (Q : List Ent) (i j : Nat) : Bool := Q.any fun e => e.i == i && e.j == j
theorem knownB_iff (Q : List Ent) (i j : Nat) : knownB Q i j = true ↔ ∃ e ∈ Q, e.i = i ∧ e.j = j := by simp [knownB]
/-- One entry's letters: the word that tells the two apart, or the queue grown. -/
def bfsR (u w : List Nat) (p : Ent) : List Nat → List Ent → Option (List Nat) × List Ent
  | [], Q => (none, Q)
  | c :: cs, Q =>
    if decide (nx u p.i (97 + c) < u.length) != decide (nx w p.j (97 + c) < w.length) then (some (p.wd ++ [97 + c]), Q)
    else if nx u p.i (97 + c) < u.length ∧ knownB Q (nx u p.i (97 + c) + 1) (nx w p.j (97 + c) + 1) = false then bfsR u w p cs (Q ++ [⟨nx u p.i (97 + c) + 1, nx w p.j (97 + c) + 1, p.wd ++ [97 + c]⟩])
    else bfsR u w p cs Q
def bfs (u w : List Nat) : Nat → Nat → List Ent → Option (List Nat)
  | 0, _, _ => none
  | f + 1, q, Q => match Q[q]? with
    | none => none
    | some p => match bfsR u w p [0, 1, 2, 3] Q with
      | (some r, _) => some r
      | (none, Q') => bfs u w f (q + 1) Q'
def root : Ent := ⟨0, 0, []⟩
/-- The first word that is a subsequence of one of two words. -/
def diffW (u w : List Nat) : Option (List Nat) := bfs u w 3845 0 [root]
/-- What holds of the queue. -/
structure QOk (u w : List Nat) (Q : List Ent) : Prop where
  hd : ∃ t, Q = root :: t ∧ ∀ e ∈ t, 1 ≤ e.i ∧ e.i ≤ u.length ∧ 1 ≤ e.j ∧ e.j ≤ w.length
  nd : Q.Pairwise (fun a b => ¬ (a.i = b.i ∧ a.j = b.j))
  par : ∀ m (h : m < Q.length), 0 < m → ∃ m' c, ∃ h' : m' < m, c < 4 ∧ (Q[m]).wd = (Q[m']'(by omega)).wd ++ [97 + c]
theorem QOk.start (u w : List Nat) : QOk u w [root] := ⟨⟨[], rfl, by simp⟩, by simp, fun m h h0 => by simp at h; omega⟩
theorem QOk.le {u w : List Nat} {Q : List Ent} (h : QOk u w Q) {e : Ent} (he : e ∈ Q) : e.i ≤ u.length ∧ e.j ≤ w.length := by
  obtain ⟨t, rfl, ht⟩ := h.hd
  rcases List.mem_cons.1 he with rfl | he
  · exact ⟨Nat.zero_le _, Nat.zero_le _⟩
  · have := ht e he; omega
theorem QOk.push {u w : List Nat} {Q : List Ent} (h : QOk u w Q) {m c : Nat} (hm : m < Q.length) (hc : c < 4) {i j : Nat} (hi : 1 ≤ i ∧ i ≤ u.length) (hj : 1 ≤ j ∧ j ≤ w.length) (hk : knownB Q i j = false) : QOk u w (Q ++ [⟨i, j, (Q[m]).wd ++ [97 + c]⟩]) := by
  refine ⟨?_, ?_, ?_⟩
  · obtain ⟨t, rfl, ht⟩ := h.hd
    refine ⟨t ++ [_], rfl, fun e he => ?_⟩
    rcases List.mem_append.1 he with he | he
    · exact ht e he
    · rw [List.mem_singleton] at he; subst he; exact ⟨hi.1, hi.2, hj.1, hj.2⟩
  · rw [List.pairwise_append]
    refine ⟨h.nd, by simp, fun a ha b hb e => ?_⟩
    rw [List.mem_singleton] at hb; subst hb
    have : knownB Q i j = true := (knownB_iff Q i j).2 ⟨a, ha, e.1, e.2⟩
    rw [hk] at this; cases this
  · intro m2 h2 h0
    by_cases e : m2 < Q.length
    · obtain ⟨m', c', h', a, b⟩ := h.par m2 e h0
      exact ⟨m', c', h', a, by rw [List.getElem_append_left e, List.getElem_append_left (by omega)]; exact b⟩
    · have e2 : m2 = Q.length := by simp at h2; omega
      subst e2
      exact ⟨m, c, hm, hc, by rw [List.getElem_append_right (Nat.le_refl _), List.getElem_append_left hm]; simp⟩
theorem nodup_le {α : Type} [DecidableEq α] : ∀ (l L : List α), l.Pairwise (fun a b => a ≠ b) → (∀ x ∈ l, x ∈ L) → l.length ≤ L.length
  | [], _, _, _ => Nat.zero_le _
  | x :: r, L, h, hs => by
    obtain ⟨h1, h2⟩ := List.pairwise_cons.1 h
    have hx := hs x (by simp)
    have := nodup_le r (L.erase x) h2 (fun y hy => (List.mem_erase_of_ne (fun e => h1 y hy e.symm)).2 (hs y (by simp [hy])))
    rw [List.length_erase_of_mem hx] at this
    have hp := List.length_pos_of_mem hx
    simp; omega
theorem QOk.size {u w : List Nat} {Q : List Ent} (h : QOk u w Q) (hu : u.length ≤ 60) (hw : w.length ≤ 60) : Q.length ≤ 3844 := by
  have h1 := nodup_le (Q.map fun e => e.i * 62 + e.j) (List.range 3844) (by
    rw [List.pairwise_map]
    refine h.nd.imp_of_mem fun {a b} ha hb hab e => hab ?_
    have := h.le ha; have := h.le hb
    omega) (fun x hx => by
    obtain ⟨e, he, rfl⟩ := List.mem_map.1 hx
    have := h.le he
    exact List.mem_range.2 (by omega))
  simpa using h1
end Go.Proofs.Ytagdbadljcongaa.X
end

section
/- The subsequences of a word, and how many there are. -/
set_option linter.unusedVariables false
set_option linter.unusedSimpArgs false
namespace Go.Proofs.Ytagdbadljcongaa.X
open Go Go.RowKit Go.Proofs.YtagdbadljcongaaW.PrintWords Go.Proofs.YtagdbadljcongaaW.PrintLast Go.Proofs.YtagdbadljcongaaW.PrintMore
theorem sub_nxl (c : Nat) (u : List Nat) : ∀ m : List Nat, (c :: u).Sublist m ↔ nxl m c < m.length ∧ u.Sublist (m.drop (nxl m c + 1))
  | [] => by simp [nxl]
  | b :: m => by
    by_cases e : b = c
    · subst e
      simp [nxl]
    · have h : nxl (b :: m) c = nxl m c + 1 := by rw [nxl_cons, if_neg e]
      rw [h, List.sublist_cons_iff, sub_nxl c u m]
      simp only [List.length_cons, List.drop_succ_cons]
      constructor
      · rintro (h1 | ⟨r, h1, _⟩)
        · exact ⟨by omega, h1.2⟩
        · injection h1 with h1
          exact absurd h1.symm e
      · exact fun h1 => .inl ⟨by omega, h1.2⟩
theorem wth_sub (l : List Nat) : ∀ (u : List Nat) (i : Nat), i ≤ l.length → ((wth l i u).isSome = true ↔ u.Sublist (l.drop i))
  | [], i, hi => by simp [wth]
  | c :: u, i, hi => by
    rw [sub_nxl, List.length_drop, List.drop_drop]
    have hn := nxl_le (l.drop i) c
    rw [List.length_drop] at hn
    unfold wth nx
    by_cases h : i + nxl (l.drop i) c < l.length
    · rw [if_pos h, Option.isSome_map, wth_sub l u _ (by omega)]
      rw [show i + nxl (l.drop i) c + 1 = i + (nxl (l.drop i) c + 1) by omega]
      exact ⟨fun h2 => ⟨by omega, h2⟩, fun h2 => h2.2⟩
    · rw [if_neg h]
      exact ⟨fun h2 => (by cases h2), fun h2 => (by omega)⟩
end Go.Proofs.Ytagdbadljcongaa.X
end

section
/- Arches, and the first word that is no subsequence. -/
set_option linter.unusedVariables false
set_option linter.unusedSimpArgs false
namespace Go.Proofs.Ytagdbadljcongaa.X
open Go.RowKit Go.Proofs.YtagdbadljcongaaW.PrintWords
/-- The greatest of f 0, .., f k. -/
def maxF (f : Nat → Nat) : Nat → Nat
  | 0 => f 0
  | k + 1 => max (maxF f k) (f (k + 1))
theorem maxF_ge (f : Nat → Nat) : ∀ (k j : Nat), j ≤ k → f j ≤ maxF f k
  | 0, j, h => by obtain rfl : j = 0 := by omega
                  exact Nat.le_refl _
  | k + 1, j, h => by
    show f j ≤ max (maxF f k) (f (k + 1))
    by_cases e : j = k + 1
    · subst e; omega
    · have := maxF_ge f k j (by omega); omega
theorem maxF_le (f : Nat → Nat) (m : Nat) : ∀ k : Nat, (∀ j, j ≤ k → f j ≤ m) → maxF f k ≤ m
  | 0, h => h 0 (Nat.le_refl _)
  | k + 1, h => by
    show max (maxF f k) (f (k + 1)) ≤ m
    have h1 := maxF_le f m k (fun j hj => h j (by omega))
    have h2 := h (k + 1) (Nat.le_refl _)
    omega
theorem maxF_mem (f : Nat → Nat) : ∀ k : Nat, ∃ j, j ≤ k ∧ maxF f k = f j
  | 0 => ⟨0, Nat.le_refl _, rfl⟩
  | k + 1 => by
    show ∃ j, j ≤ k + 1 ∧ max (maxF f k) (f (k + 1)) = f j
    obtain ⟨j, h1, h2⟩ := maxF_mem f k
    by_cases h : maxF f k ≤ f (k + 1)
    · exact ⟨k + 1, Nat.le_refl _, by omega⟩
    · exact ⟨j, by omega, by omega⟩
/-- Where the arch that begins at place i ends: the length, if there is none. -/
def amx (l : List Nat) (k i : Nat) : Nat := maxF (fun c => nx l i (97 + c)) (k - 1)
theorem amx_le {l : List Nat} {k i : Nat} (h : i ≤ l.length) : i ≤ amx l k i ∧ amx l k i ≤ l.length :=
  ⟨Nat.le_trans (nx_le l i (97 + 0) h).1 (maxF_ge (fun c => nx l i (97 + c)) (k - 1) 0 (Nat.zero_le _)), maxF_le _ _ _ (fun j _ => (nx_le l i (97 + j) h).2)⟩
/-- The ends of the arches from place i on. -/
def archF (l : List Nat) (k : Nat) : Nat → Nat → List Nat
  | 0, _ => []
  | f + 1, i => if amx l k i < l.length then amx l k i :: archF l k f (amx l k i + 1) else []
def arch (l : List Nat) (k i : Nat) : List Nat := archF l k (l.length + 1 - i) i
theorem archF_enough (l : List Nat) (k : Nat) : ∀ (f i : Nat), i ≤ l.length → l.length + 1 - i ≤ f → archF l k f i = archF l k (l.length + 1 - i) i
  | 0, i, h, hf => by omega
  | f + 1, i, h, hf => by
    have h1 := amx_le (k := k) h
    obtain ⟨g, hg⟩ : ∃ g, l.length + 1 - i = g + 1 := ⟨l.length - i, by omega⟩
    rw [hg]
    unfold archF
    split
    · rw [archF_enough l k f _ (by omega) (by omega), archF_enough l k g _ (by omega) (by omega)]
    · rfl
theorem arch_eq {l : List Nat} {k i : Nat} (h : i ≤ l.length) : arch l k i = if amx l k i < l.length then amx l k i :: arch l k (amx l k i + 1) else [] := by
  have h1 := amx_le (k := k) h
  unfold arch
  obtain ⟨g, hg⟩ : ∃ g, l.length + 1 - i = g + 1 := ⟨l.length - i, by omega⟩
  rw [hg]
  show (if amx l k i < l.length then _ else _) = _
  split
  · rw [archF_enough l k g _ (by omega) (by omega)]
  · rfl
end Go.Proofs.Ytagdbadljcongaa.X
end

section
/- The first word that is no subsequence, as the program reckons it. -/
set_option linter.unusedVariables false
set_option linter.unusedSimpArgs false
namespace Go.Proofs.Ytagdbadljcongaa.X
open Go.RowKit Go.Proofs.YtagdbadljcongaaW.PrintWords
/-- How many letters are needed from place i on. -/
def lst (l : List Nat) (k i : Nat) : Nat := if i ≤ l.length then (arch l k i).length + 1 else 0
theorem lst_eq {l : List Nat} {k i : Nat} (h : i ≤ l.length) : lst l k i = 1 + lst l k (amx l k i + 1) := by
  have h1 := amx_le (k := k) h
  unfold lst
  rw [if_pos h, arch_eq h]
  by_cases h2 : amx l k i < l.length
  · rw [if_pos h2, if_pos (by omega), List.length_cons]; omega
  · rw [if_neg h2, if_neg (by omega)]; rfl
theorem arch_len {l : List Nat} {k : Nat} : ∀ (n i : Nat), l.length - i = n → (arch l k i).length + i ≤ l.length ∨ l.length ≤ i := by
  intro n
  induction n using Nat.strongRecOn with
  | _ n ih =>
    intro i hn
    by_cases hi : i < l.length
    · left
      have h1 := amx_le (k := k) (show i ≤ l.length by omega)
      rw [arch_eq (by omega)]
      split
      · rw [List.length_cons]
        rcases ih (l.length - (amx l k i + 1)) (by omega) (amx l k i + 1) rfl with h | h
        · omega
        · have e : amx l k i + 1 = l.length := by omega
          rw [e, arch_eq (Nat.le_refl _), if_neg (by have := amx_le (l := l) (k := k) (Nat.le_refl _); omega)]
          simp; omega
      · simp; omega
    · exact .inr (by omega)
theorem lst_le (l : List Nat) (k i : Nat) : lst l k i ≤ l.length + 1 := by
  unfold lst
  split
  · rcases arch_len (l := l) (k := k) _ i rfl with h | h
    · omega
    · have e : i = l.length := by omega
      subst e
      rw [arch_eq (Nat.le_refl _), if_neg (by have := amx_le (l := l) (k := k) (Nat.le_refl _); omega)]
      simp
  · omega
/-- Whether a letter leads to the least. -/
def good (l : List Nat) (k i c : Nat) : Bool := decide (1 + lst l k (nx l i (97 + c) + 1) = lst l k i)
theorem good_ex {l : List Nat} {k i : Nat} (h : i ≤ l.length) (hk : 1 ≤ k) : ∃ c, c < k ∧ good l k i c = true := by
  obtain ⟨c, h1, h2⟩ := maxF_mem (fun c => nx l i (97 + c)) (k - 1)
  refine ⟨c, by omega, ?_⟩
  unfold good
  rw [← show amx l k i = nx l i (97 + c) from h2, lst_eq h]
  simp
/-- The first such letter. -/
def gpick (l : List Nat) (k i : Nat) : Nat := ((List.range k).find? (good l k i)).getD 0
theorem gpick_is {l : List Nat} {k i c : Nat} (hc : c < k) (h : good l k i c = true) (hb : ∀ d, d < c → good l k i d = false) : gpick l k i = c := by
  unfold gpick
  have : (List.range k).find? (good l k i) = some c := by
    rw [List.find?_range_eq_some]
    exact ⟨h, by simpa using hc, fun d hd => by simpa using hb d hd⟩
  rw [this]; rfl
def absF (l : List Nat) (k : Nat) : Nat → Nat → List Nat
  | 0, _ => []
  | f + 1, i => if i ≤ l.length then (97 + gpick l k i) :: absF l k f (nx l i (97 + gpick l k i) + 1) else []
def abs_ (l : List Nat) (k i : Nat) : List Nat := absF l k (l.length + 1 - i) i
theorem absF_enough (l : List Nat) (k : Nat) : ∀ (f i : Nat), l.length + 1 - i ≤ f → absF l k f i = absF l k (l.length + 1 - i) i
  | 0, i, hf => by rw [show l.length + 1 - i = 0 by omega]
  | f + 1, i, hf => by
    by_cases h : i ≤ l.length
    · obtain ⟨g, hg⟩ : ∃ g, l.length + 1 - i = g + 1 := ⟨l.length - i, by omega⟩
      rw [hg]
      show (if i ≤ l.length then _ else _) = (if i ≤ l.length then _ else _)
      rw [if_pos h, if_pos h]
      have h1 := (nx_le l i (97 + gpick l k i) h).1
      rw [absF_enough l k f _ (by omega), absF_enough l k g _ (by omega)]
    · rw [show l.length + 1 - i = 0 by omega]
      show (if i ≤ l.length then _ else _) = _
      rw [if_neg h]; rfl
theorem abs_end {l : List Nat} {k i : Nat} (h : ¬ i ≤ l.length) : abs_ l k i = [] := by
  unfold abs_; rw [show l.length + 1 - i = 0 by omega]; rfl
theorem abs_step {l : List Nat} {k i c : Nat} (hi : i ≤ l.length) (hc : c < k) (h : good l k i c = true) (hb : ∀ d, d < c → good l k i d = false) : abs_ l k i = (97 + c) :: abs_ l k (nx l i (97 + c) + 1) := by
  have hp := gpick_is hc h hb
  unfold abs_
  obtain ⟨g, hg⟩ : ∃ g, l.length + 1 - i = g + 1 := ⟨l.length - i, by omega⟩
  rw [hg]
  show (if i ≤ l.length then _ else _) = _
  rw [if_pos hi, hp]
  have h1 := (nx_le l i (97 + c) hi).1
  rw [absF_enough l k g _ (by omega)]
end Go.Proofs.Ytagdbadljcongaa.X
end

section
/- Arches and the first absent word: what holds of them. -/
set_option linter.unusedVariables false
set_option linter.unusedSimpArgs false
namespace Go.Proofs.Ytagdbadljcongaa.X
open Go.RowKit Go.Proofs.YtagdbadljcongaaW.PrintWords
theorem least_ex (p : Nat → Bool) : ∀ n, p n = true → ∃ c, c ≤ n ∧ p c = true ∧ ∀ d, d < c → p d = false := by
  intro n
  induction n using Nat.strongRecOn with
  | _ n ih =>
    intro h
    by_cases he : ∃ m, m < n ∧ p m = true
    · obtain ⟨m, h1, h2⟩ := he
      obtain ⟨c, a, b, d⟩ := ih m h1 h2
      exact ⟨c, by omega, b, d⟩
    · exact ⟨n, Nat.le_refl _, h, fun d hd => by
        cases e : p d with
        | false => rfl
        | true => exact absurd ⟨d, hd, e⟩ he⟩
end Go.Proofs.Ytagdbadljcongaa.X
end

section
/- The reference's search through pairs of places, and that it finds what the program finds. -/
set_option linter.unusedVariables false
set_option linter.unusedSimpArgs false
namespace Go.Proofs.Ytagdbadljcongaa.X
open Go.RowKit Go.Proofs.YtagdbadljcongaaW.PrintWords
/-- An entry of the reference: a word, and the places behind it in the two words; -1: it is none of their subsequences. -/
structure Rn where
  a : Int
  b : Int
  wd : List Nat
/-- The place behind a letter, or -1. -/
def nxP (l : List Nat) (i c : Nat) : Int := if nx l i c < l.length then ((nx l i c + 1 : Nat) : Int) else -1
def emb (e : Ent) : Rn := ⟨e.i, e.j, e.wd⟩
def dif (r : Rn) : Bool := decide (r.a < 0) != decide (r.b < 0)
def ins (r : Rn) : Bool := decide (0 ≤ r.a) && decide (0 ≤ r.b)
def hasP (R : List Rn) (a b : Int) : Bool := R.any fun r => r.a == a && r.b == b
/-- One letter's child. -/
def kid (u w : List Nat) (p : Ent) (c : Nat) : Rn := ⟨nxP u p.i (97 + c), nxP w p.j (97 + c), p.wd ++ [97 + c]⟩
def addK (R : List Rn) (k : Rn) : List Rn := if hasP R k.a k.b then R else R ++ [k]
def kids (u w : List Nat) (p : Ent) : List Nat → List Rn → List Rn
  | [], R => R
  | c :: cs, R => kids u w p cs (addK R (kid u w p c))
/-- The reference's list is the program's queue, and entries that lead nowhere. -/
structure Like (Q : List Ent) (R : List Rn) : Prop where
  eq : R.filter ins = Q.map emb
  no : ∀ r ∈ R, dif r = false
  len : R.length = Q.length + (if hasP R (-1) (-1) then 1 else 0)
theorem nxP_in {l : List Nat} {i c : Nat} (h : nx l i c < l.length) : nxP l i c = ((nx l i c + 1 : Nat) : Int) := by unfold nxP; rw [if_pos h]
theorem nxP_out {l : List Nat} {i c : Nat} (h : ¬ nx l i c < l.length) : nxP l i c = -1 := by unfold nxP; rw [if_neg h]
theorem Like.has {Q : List Ent} {R : List Rn} (h : Like Q R) (i j : Nat) : hasP R (i : Int) (j : Int) = knownB Q i j := by
  rw [Bool.eq_iff_iff, knownB_iff]
  unfold hasP
  rw [List.any_eq_true]
  constructor
  · rintro ⟨r, hr, he⟩
    simp at he
    have hm : r ∈ R.filter ins := List.mem_filter.2 ⟨hr, by unfold ins; rw [he.1, he.2]; simp⟩
    rw [h.eq] at hm
    obtain ⟨e, he1, rfl⟩ := List.mem_map.1 hm
    refine ⟨e, he1, ?_, ?_⟩
    · have := he.1; unfold emb at this; dsimp only at this; omega
    · have := he.2; unfold emb at this; dsimp only at this; omega
  · rintro ⟨e, he, rfl, rfl⟩
    have hm : emb e ∈ R.filter ins := by rw [h.eq]; exact List.mem_map.2 ⟨e, he, rfl⟩
    exact ⟨emb e, (List.mem_filter.1 hm).1, by simp [emb]⟩
theorem Like.out {Q : List Ent} {R : List Rn} (h : Like Q R) (wd : List Nat) : Like Q (addK R ⟨-1, -1, wd⟩) := by
  unfold addK
  split
  · exact h
  · rename_i hn
    refine ⟨by rw [List.filter_append, h.eq]; simp [ins], fun r hr => ?_, ?_⟩
    · rcases List.mem_append.1 hr with hr | hr
      · exact h.no r hr
      · rw [List.mem_singleton] at hr; subst hr; rfl
    · have hl := h.len
      rw [if_neg hn] at hl
      have : hasP (R ++ [⟨-1, -1, wd⟩]) (-1) (-1) = true := by unfold hasP; rw [List.any_append]; simp
      rw [if_pos this, List.length_append, hl]; rfl
theorem Like.push {Q : List Ent} {R : List Rn} (h : Like Q R) (i j : Nat) (wd : List Nat) (hk : knownB Q i j = false) : Like (Q ++ [⟨i, j, wd⟩]) (addK R ⟨i, j, wd⟩) := by
  unfold addK
  rw [if_neg (by show ¬ hasP R (i : Int) (j : Int) = true; rw [h.has, hk]; decide)]
  refine ⟨by rw [List.filter_append, h.eq, List.map_append]; simp [ins, emb], fun r hr => ?_, ?_⟩
  · rcases List.mem_append.1 hr with hr | hr
    · exact h.no r hr
    · rw [List.mem_singleton] at hr
      subst hr
      unfold dif
      simp
      omega
  · have hl := h.len
    have : hasP (R ++ [⟨(i : Int), (j : Int), wd⟩]) (-1) (-1) = hasP R (-1) (-1) := by
      unfold hasP
      rw [List.any_append]
      have : ((i : Int) == -1) = false := beq_eq_false_iff_ne.mpr (by omega)
      simp [this]
    rw [this, List.length_append, List.length_append, hl]
    simp only [List.length_cons, List.length_nil]
    omega
end Go.Proofs.Ytagdbadljcongaa.X
end

section
/- The reference's search by places finds the first word that is a subsequence of one of two words: first by length, then by letters. -/
set_option linter.unusedVariables false
set_option linter.unusedSimpArgs false
namespace Go.Proofs.Ytagdbadljcongaa.X
open Go.RowKit Go.Proofs.YtagdbadljcongaaW.PrintWords
/-- A number for a word: the order of the numbers is that of the words. -/
def key (x : List Nat) : Nat := x.foldl (fun a b => a * 5 + (b - 96)) 0
theorem key_app (x : List Nat) (c : Nat) : key (x ++ [c]) = key x * 5 + (c - 96) := by unfold key; rw [List.foldl_append]; rfl
theorem key_from (x : List Nat) : ∀ a : Nat, x.foldl (fun a b => a * 5 + (b - 96)) a = a * 5 ^ x.length + key x := by
  induction x with
  | nil => intro a; simp [key]
  | cons b x ih =>
    intro a
    show x.foldl _ (a * 5 + (b - 96)) = a * 5 ^ (x.length + 1) + x.foldl _ (0 * 5 + (b - 96))
    rw [ih, ih (0 * 5 + (b - 96)), Nat.pow_succ, Nat.add_mul, Nat.add_mul, Nat.zero_mul, Nat.zero_add, Nat.mul_assoc, Nat.mul_comm 5, Nat.add_assoc]
theorem key_cons (b : Nat) (x : List Nat) : key (b :: x) = (b - 96) * 5 ^ x.length + key x := by
  show x.foldl _ (0 * 5 + (b - 96)) = _
  rw [key_from, Nat.zero_mul, Nat.zero_add]
/-- Words of the first k letters. -/
def Ltr (k : Nat) (x : List Nat) : Prop := ∀ b ∈ x, 97 ≤ b ∧ b < 97 + k
theorem Ltr.app {k : Nat} {x : List Nat} {c : Nat} (h : Ltr k x) (hc : c < k) : Ltr k (x ++ [97 + c]) := fun b hb => by
  rcases List.mem_append.1 hb with h1 | h1
  · exact h b h1
  · rw [List.mem_singleton] at h1; subst h1; omega
theorem Ltr.four {k : Nat} {x : List Nat} (h : Ltr k x) (hk : k ≤ 4) : Ltr 4 x := fun b hb => by have := h b hb; omega
theorem key_lt : ∀ {x : List Nat}, Ltr 4 x → key x < 5 ^ x.length
  | [], _ => by decide
  | b :: x, h => by
    have h1 := key_lt (x := x) fun b hb => h b (by simp [hb])
    have h2 := h b (by simp)
    rw [key_cons, List.length_cons, Nat.pow_succ]
    have h3 : (b - 96) * 5 ^ x.length ≤ 4 * 5 ^ x.length := Nat.mul_le_mul_right _ (by omega)
    omega
theorem key_ge : ∀ {x : List Nat}, Ltr 4 x → 5 ^ x.length ≤ 4 * key x + 1
  | [], _ => by decide
  | b :: x, h => by
    have h1 := key_ge (x := x) fun b hb => h b (by simp [hb])
    have h2 := h b (by simp)
    rw [key_cons, List.length_cons, Nat.pow_succ]
    have h3 : 1 * 5 ^ x.length ≤ (b - 96) * 5 ^ x.length := Nat.mul_le_mul_right _ (by omega)
    omega
theorem key_len {x y : List Nat} (hx : Ltr 4 x) (hy : Ltr 4 y) (h : key x ≤ key y) : x.length ≤ y.length := by
  rcases Nat.lt_or_ge y.length x.length with h1 | h1
  · exfalso
    have a := key_ge hx
    have b := key_lt hy
    have c : 5 ^ (y.length + 1) ≤ 5 ^ x.length := Nat.pow_le_pow_right (by decide) h1
    rw [Nat.pow_succ] at c
    omega
  · exact h1
theorem snoc_of {x : List Nat} {n : Nat} (h : x.length = n + 1) : ∃ y c, x = y ++ [c] ∧ y.length = n := by
  rcases List.eq_nil_or_concat x with rfl | ⟨y, c, rfl⟩
  · cases h
  · refine ⟨y, c, by simp, ?_⟩
    simpa using h
/-- The place that a word reaches, or -1. -/
def rchS (l : List Nat) (i : Int) (c : Nat) : Int := if i < 0 then -1 else nxP l i.toNat c
def rch (l x : List Nat) : Int := x.foldl (rchS l) 0
theorem rch_app (l x : List Nat) (c : Nat) : rch l (x ++ [c]) = rchS l (rch l x) c := by unfold rch; rw [List.foldl_append]; rfl
theorem rch_out (l : List Nat) : ∀ x : List Nat, x.foldl (rchS l) (-1) = -1
  | [] => rfl
  | c :: x => rch_out l x
theorem rch_from (l : List Nat) : ∀ (x : List Nat) (i : Nat), (wth l i x).isSome = decide (0 ≤ x.foldl (rchS l) (i : Int))
  | [], i => by simp [wth]
  | c :: x, i => by
    show _ = decide (0 ≤ x.foldl (rchS l) (rchS l (i : Int) c))
    have e : rchS l (i : Int) c = nxP l i c := by unfold rchS; rw [if_neg (by omega), Int.toNat_natCast]
    rw [e]
    unfold wth
    by_cases h : nx l i c < l.length
    · rw [if_pos h, nxP_in h, Option.isSome_map, rch_from l x]
    · rw [if_neg h, nxP_out h, rch_out]; rfl
theorem rch_is (l x : List Nat) : (wth l 0 x).isSome = decide (0 ≤ rch l x) := rch_from l x 0
/-- Whether a word is a subsequence of one of two words. -/
def dst (u w x : List Nat) : Bool := (wth u 0 x).isSome != (wth w 0 x).isSome
/-- What holds of the list's entries. -/
structure EnOk (u w : List Nat) (k : Nat) (R : List Rn) : Prop where
  st : ∀ e ∈ R, e.a = rch u e.wd ∧ e.b = rch w e.wd
  lt : ∀ e ∈ R, Ltr k e.wd
  srt : R.Pairwise (fun x y => key x.wd < key y.wd)
/-- An entry for a letter's child. -/
def HasK (u w : List Nat) (R : List Rn) (r : Rn) (c : Nat) : Prop := ∃ e ∈ R, e.a = nxP u r.a.toNat (97 + c) ∧ e.b = nxP w r.b.toNat (97 + c) ∧ key e.wd ≤ key r.wd * 5 + (c + 1)
theorem HasK.mono {u w : List Nat} {R S : List Rn} {r : Rn} {c : Nat} (h : HasK u w R r c) : HasK u w (R ++ S) r c := by
  obtain ⟨e, he, h1⟩ := h
  exact ⟨e, List.mem_append_left _ he, h1⟩
theorem kids_en {u w : List Nat} {k : Nat} {r : Rn} (hra : 0 ≤ r.a) (hrb : 0 ≤ r.b) (hst : r.a = rch u r.wd ∧ r.b = rch w r.wd) (hlt : Ltr k r.wd) : ∀ (cs : List Nat) (R : List Rn), cs.Pairwise (· < ·) → (∀ c ∈ cs, c < k) → EnOk u w k R → (∀ e ∈ R, key e.wd ≤ key r.wd * 5 + k) → (∀ e ∈ R, ∀ c ∈ cs, key e.wd < key r.wd * 5 + (c + 1)) →
    ∃ S, kids u w ⟨r.a.toNat, r.b.toNat, r.wd⟩ cs R = R ++ S ∧ EnOk u w k (R ++ S) ∧ (∀ e ∈ R ++ S, key e.wd ≤ key r.wd * 5 + k) ∧ ∀ c ∈ cs, HasK u w (R ++ S) r c
  | [], R, _, _, h, hb, _ => ⟨[], by simp [kids], by simpa using h, by simpa using hb, by simp⟩
  | c :: cs, R, hp, hc, h, hb, hb2 => by
    obtain ⟨p1, p2⟩ := List.pairwise_cons.1 hp
    have hck := hc c (by simp)
    have hkid : kid u w ⟨r.a.toNat, r.b.toNat, r.wd⟩ c = ⟨nxP u r.a.toNat (97 + c), nxP w r.b.toNat (97 + c), r.wd ++ [97 + c]⟩ := rfl
    have hkey : key (r.wd ++ [97 + c]) = key r.wd * 5 + (c + 1) := by rw [key_app]; omega
    show ∃ S, kids u w ⟨r.a.toNat, r.b.toNat, r.wd⟩ cs (addK R (kid u w ⟨r.a.toNat, r.b.toNat, r.wd⟩ c)) = R ++ S ∧ _
    rw [hkid]
    unfold addK
    by_cases hh : hasP R (nxP u r.a.toNat (97 + c)) (nxP w r.b.toNat (97 + c)) = true
    · rw [if_pos hh]
      obtain ⟨S, i1, i2, i3, i4⟩ := kids_en hra hrb hst hlt cs R p2 (fun d hd => hc d (by simp [hd])) h hb (fun e he d hd => hb2 e he d (by simp [hd]))
      refine ⟨S, i1, i2, i3, fun d hd => ?_⟩
      rcases List.mem_cons.1 hd with rfl | hd
      · obtain ⟨e, he, h1⟩ := List.any_eq_true.1 hh
        simp at h1
        exact HasK.mono ⟨e, he, h1.1, h1.2, by have := hb2 e he d (by simp); omega⟩
      · exact i4 d hd
    · rw [if_neg hh]
      have hE : EnOk u w k (R ++ [⟨nxP u r.a.toNat (97 + c), nxP w r.b.toNat (97 + c), r.wd ++ [97 + c]⟩]) := by
        refine ⟨fun e he => ?_, fun e he => ?_, ?_⟩
        · rcases List.mem_append.1 he with he | he
          · exact h.st e he
          · rw [List.mem_singleton] at he
            subst he
            dsimp only
            rw [rch_app, rch_app, ← hst.1, ← hst.2]
            unfold rchS
            rw [if_neg (by omega), if_neg (by omega)]
            exact ⟨rfl, rfl⟩
        · rcases List.mem_append.1 he with he | he
          · exact h.lt e he
          · rw [List.mem_singleton] at he
            subst he
            exact hlt.app hck
        · rw [List.pairwise_append]
          refine ⟨h.srt, by simp, fun a ha b hb3 => ?_⟩
          rw [List.mem_singleton] at hb3
          subst hb3
          dsimp only
          rw [hkey]
          exact hb2 a ha c (by simp)
      obtain ⟨S, i1, i2, i3, i4⟩ := kids_en hra hrb hst hlt cs _ p2 (fun d hd => hc d (by simp [hd])) hE (fun e he => by
        rcases List.mem_append.1 he with he | he
        · exact hb e he
        · rw [List.mem_singleton] at he
          subst he
          dsimp only
          rw [hkey]
          omega) (fun e he d hd => by
        rcases List.mem_append.1 he with he | he
        · exact hb2 e he d (by simp [hd])
        · rw [List.mem_singleton] at he
          subst he
          dsimp only
          rw [hkey]
          have := p1 d hd
          omega)
      rw [List.append_assoc] at i1 i2 i3 i4
      refine ⟨_ :: S, i1, i2, i3, fun d hd => ?_⟩
      rcases List.mem_cons.1 hd with rfl | hd
      · exact ⟨_, List.mem_append_right _ (List.mem_cons_self), rfl, rfl, by rw [hkey]; omega⟩
      · exact i4 d hd
/-- What holds ahead of entry q. -/
structure PI (u w : List Nat) (k most q : Nat) (R : List Rn) : Prop where
  en : EnOk u w k R
  root : (⟨0, 0, []⟩ : Rn) ∈ R
  no : ∀ m, ∀ h : m < R.length, m < q → dif R[m] = false
  cl : ∀ m, ∀ h : m < R.length, m < q → ¬ (most ≤ (R[m]).wd.length ∨ (R[m]).a < 0) → ∀ c, c < k → HasK u w R R[m] c
  bd : ∀ h : q < R.length, ∀ e ∈ R, key e.wd < key (R[q]).wd * 5 + 1
theorem PI.start (u w : List Nat) (k most : Nat) : PI u w k most 0 [⟨0, 0, []⟩] := by
  refine ⟨⟨fun e he => ?_, fun e he => ?_, by simp⟩, by simp, fun m h h0 => by omega, fun m h h0 => by omega, fun h e he => ?_⟩
  all_goals
    rw [List.mem_singleton] at he
    subst he
  · exact ⟨rfl, rfl⟩
  · intro b hb; cases hb
  · show key [] < key [] * 5 + 1
    decide
theorem PI.next {u w : List Nat} {k most q : Nat} {R : List Rn} (h : PI u w k most q R) (S : List Rn) (hq : q < R.length) (hd : dif R[q] = false) (hE : EnOk u w k (R ++ S)) (hc : ¬ (most ≤ (R[q]).wd.length ∨ (R[q]).a < 0) → ∀ c, c < k → HasK u w (R ++ S) R[q] c) (hb : ∀ e ∈ R ++ S, key e.wd ≤ key (R[q]).wd * 5 + 4) : PI u w k most (q + 1) (R ++ S) := by
  have lt : ∀ m, m < q + 1 → m < R.length := fun m hm => by omega
  refine ⟨hE, List.mem_append_left _ h.root, fun m hm hmq => ?_, fun m hm hmq hn c hck => ?_, fun hm e he => ?_⟩
  · rw [List.getElem_append_left (lt m hmq)]
    by_cases e : m = q
    · subst e; exact hd
    · exact h.no m (lt m hmq) (by omega)
  · rw [List.getElem_append_left (lt m hmq)] at hn ⊢
    by_cases e : m = q
    · subst e; exact hc hn c hck
    · exact (h.cl m (lt m hmq) (by omega) hn c hck).mono
  · have h1 := hb e he
    have h2 := List.pairwise_iff_getElem.1 hE.srt q (q + 1) (by rw [List.length_append]; omega) hm (by omega)
    rw [List.getElem_append_left hq] at h2
    omega
theorem PI.step {u w : List Nat} {k most q : Nat} {R : List Rn} (hk4 : k ≤ 4) (h : PI u w k most q R) (hq : q < R.length) (hd : dif R[q] = false) :
    PI u w k most (q + 1) (if most ≤ (R[q]).wd.length ∨ (R[q]).a < 0 then R else kids u w ⟨(R[q]).a.toNat, (R[q]).b.toNat, (R[q]).wd⟩ (List.range k) R) := by
  have hb := h.bd hq
  split
  · rename_i ho
    have := h.next [] hq hd (by rw [List.append_nil]; exact h.en) (fun hn => absurd ho hn) (by rw [List.append_nil]; intro e he; have := hb e he; omega)
    rwa [List.append_nil] at this
  · rename_i ho
    have hm := List.getElem_mem hq
    have hb0 : 0 ≤ (R[q]).b := by
      unfold dif at hd
      simp at hd
      omega
    obtain ⟨S, i1, i2, i3, i4⟩ := kids_en (k := k) (by omega) hb0 (h.en.st _ hm) (h.en.lt _ hm) (List.range k) R List.pairwise_lt_range (fun c hc => List.mem_range.1 hc) h.en (fun e he => by have := hb e he; have := h.en.lt; omega) (fun e he c hc => by have := hb e he; omega)
    rw [i1]
    exact h.next S hq hd i2 (fun _ c hc => i4 c (List.mem_range.2 hc)) (fun e he => by have := i3 e he; omega)
/-- Words before the bound lead to entries before q. -/
theorem PI.pre {u w : List Nat} {k most q B : Nat} {R : List Rn} (hk4 : k ≤ 4) (h : PI u w k most q R) (hB : ∀ m, ∀ hm : m < R.length, key (R[m]).wd < B → m < q) : ∀ (n : Nat) (x : List Nat), x.length = n → Ltr k x → x.length ≤ most → key x < B → dst u w x = false ∧ (0 ≤ rch u x → ∃ e ∈ R, e.a = rch u x ∧ e.b = rch w x ∧ key e.wd ≤ key x)
  | 0, x, hn, hx, hm, hk => by
    rw [List.length_eq_zero_iff.1 hn]
    exact ⟨rfl, fun _ => ⟨_, h.root, rfl, rfl, Nat.le_refl _⟩⟩
  | n + 1, x, hn, hx, hm, hk => by
    obtain ⟨y, b, rfl, hy⟩ := snoc_of hn
    have hyl : Ltr k y := fun a ha => hx a (by simp [ha])
    obtain ⟨c, rfl⟩ : ∃ c, b = 97 + c := ⟨b - 97, by have := hx b (by simp); omega⟩
    have hc : c < k := by have := hx (97 + c) (by simp); omega
    rw [key_app] at hk ⊢
    obtain ⟨i1, i2⟩ := PI.pre hk4 h hB n y hy hyl (by omega) (by omega)
    have hx1 : dst u w (y ++ [97 + c]) = (decide (0 ≤ rch u (y ++ [97 + c])) != decide (0 ≤ rch w (y ++ [97 + c]))) := by unfold dst; rw [rch_is, rch_is]
    have hy1 : dst u w y = (decide (0 ≤ rch u y) != decide (0 ≤ rch w y)) := by unfold dst; rw [rch_is, rch_is]
    rw [hy1] at i1
    rw [hx1, rch_app, rch_app]
    by_cases h0 : 0 ≤ rch u y
    · have h0w : 0 ≤ rch w y := by simpa [h0] using i1
      obtain ⟨e, he, e1, e2, e3⟩ := i2 h0
      obtain ⟨m, hmR, rfl⟩ := List.getElem_of_mem he
      have hmq := hB m hmR (by omega)
      have hlen := key_len ((h.en.lt _ he).four hk4) (hyl.four hk4) e3
      obtain ⟨e', he', f1, f2, f3⟩ := h.cl m hmR hmq (by rw [e1]; omega) c hc
      rw [e1] at f1
      rw [e2] at f2
      have g1 : rchS u (rch u y) (97 + c) = e'.a := by unfold rchS; rw [if_neg (by omega), f1]
      have g2 : rchS w (rch w y) (97 + c) = e'.b := by unfold rchS; rw [if_neg (by omega), f2]
      rw [g1, g2]
      refine ⟨?_, fun _ => ⟨e', he', rfl, rfl, by omega⟩⟩
      obtain ⟨m', hm', rfl⟩ := List.getElem_of_mem he'
      have hd := h.no m' hm' (hB m' hm' (by omega))
      unfold dif at hd
      by_cases a1 : (R[m']).a < 0 <;> by_cases a2 : (R[m']).b < 0 <;> simp [a1, a2] at hd ⊢ <;> omega
    · have h0w : ¬ 0 ≤ rch w y := by simpa [h0] using i1
      have g1 : rchS u (rch u y) (97 + c) = -1 := by unfold rchS; rw [if_pos (by omega)]
      have g2 : rchS w (rch w y) (97 + c) = -1 := by unfold rchS; rw [if_pos (by omega)]
      rw [g1, g2]
      exact ⟨rfl, fun h => absurd h (by decide)⟩
/-- The range of the entries, and that no two are alike. -/
structure RkOk (u w : List Nat) (M : Nat) (R : List Rn) : Prop where
  rng : ∀ r ∈ R, -1 ≤ r.a ∧ r.a ≤ u.length ∧ -1 ≤ r.b ∧ r.b ≤ w.length ∧ r.wd.length ≤ M
  nd : R.Pairwise (fun x y => ¬ (x.a = y.a ∧ x.b = y.b))
theorem RkOk.start (u w : List Nat) (M : Nat) : RkOk u w M [⟨0, 0, []⟩] := ⟨fun r hr => by rw [List.mem_singleton] at hr; subst hr; simp, by simp⟩
theorem RkOk.size {u w : List Nat} {M : Nat} {R : List Rn} (h : RkOk u w M R) (hu : u.length ≤ 60) (hw : w.length ≤ 244) : R.length ≤ 15252 := by
  have h1 := nodup_le (R.map fun r => ((r.a + 1).toNat) * 246 + (r.b + 1).toNat) (List.range 15252) (by
    rw [List.pairwise_map]
    refine h.nd.imp_of_mem fun {a b} ha hb hab e => hab ?_
    have := h.rng a ha; have := h.rng b hb
    omega) (fun x hx => by
    obtain ⟨e, he, rfl⟩ := List.mem_map.1 hx
    have := h.rng e he
    exact List.mem_range.2 (by omega))
  simpa using h1
theorem RkOk.add {u w : List Nat} {M : Nat} {R : List Rn} (h : RkOk u w M R) {p : Ent} {c : Nat} (hp : p.i ≤ u.length ∧ p.j ≤ w.length ∧ p.wd.length + 1 ≤ M) : RkOk u w M (addK R (kid u w p c)) := by
  unfold addK
  split
  · exact h
  · rename_i hn
    refine ⟨fun r hr => ?_, ?_⟩
    · rcases List.mem_append.1 hr with hr | hr
      · exact h.rng r hr
      · rw [List.mem_singleton] at hr
        subst hr
        have h1 := nx_le u p.i (97 + c) hp.1
        have h2 := nx_le w p.j (97 + c) hp.2.1
        unfold kid nxP
        refine ⟨?_, ?_, ?_, ?_, ?_⟩
        · dsimp only; split <;> omega
        · dsimp only; split <;> omega
        · dsimp only; split <;> omega
        · dsimp only; split <;> omega
        · simp; omega
    · rw [List.pairwise_append]
      refine ⟨h.nd, by simp, fun a ha b hb e => hn ?_⟩
      rw [List.mem_singleton] at hb
      subst hb
      exact List.any_eq_true.2 ⟨a, ha, by simp [e.1, e.2]⟩
theorem RkOk.kids {u w : List Nat} {M : Nat} {p : Ent} (hp : p.i ≤ u.length ∧ p.j ≤ w.length ∧ p.wd.length + 1 ≤ M) : ∀ (cs : List Nat) (R : List Rn), RkOk u w M R → RkOk u w M (kids u w p cs R)
  | [], R, h => h
  | c :: cs, R, h => RkOk.kids hp cs _ (h.add hp)
/-- The first word that tells two words apart. -/
structure First (u w : List Nat) (k most : Nat) (r : List Nat) : Prop where
  ltr : Ltr k r
  dst : dst u w r = true
  fst : ∀ x, Ltr k x → x.length ≤ most → X.dst u w x = true → key r ≤ key x
end Go.Proofs.Ytagdbadljcongaa.X
end
