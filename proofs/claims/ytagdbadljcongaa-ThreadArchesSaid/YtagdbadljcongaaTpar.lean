/- Texts behind ThreadArches, part 18: contracts of the program's functions and the plain words for them. -/
import Derived.Deep.LoopGhost
import Derived.Maps.OwnSet
import Derived.Maps.RangeWalk
import Derived.DeepKeys3
import Derived.WideKeyPair
import Derived.WideKeyEntry
import Derived.OrdersIn
import Derived.Sort.CutIn
import Derived.RangeFuncWrites
import Derived.Test.YtagdbadljcongaaTpaq
section
/- The subsequence with a given rank. -/
set_option linter.unusedVariables false
set_option linter.unusedSimpArgs false
namespace Go.Proofs.Ytagdbadljcongaa.X
open Go.RowKit Go.Proofs.YtagdbadljcongaaW.PrintWords
/-- The letter that is chosen at a rank behind what has come so far. -/
def pickC (l : List Nat) (k : Nat) : Nat := if k < less l 1 then 0 else if k < less l 2 then 1 else if k < less l 3 then 2 else 3
/-- The subsequence of l that has k ones before it. -/
def itemF : Nat → List Nat → Nat → List Nat
  | 0, _, _ => []
  | f + 1, l, k => if k = 0 then [] else (97 + pickC l (k - 1)) :: itemF f (l.drop (nxl l (97 + pickC l (k - 1)) + 1)) (k - 1 - less l (pickC l (k - 1)))
def itemL (l : List Nat) (k : Nat) : List Nat := itemF (l.length + 1) l k
theorem less_succ (l : List Nat) (j : Nat) : less l (j + 1) = less l j + term l (97 + j) := rfl
theorem less_mono (l : List Nat) {i j : Nat} (h : i ≤ j) : less l i ≤ less l j := by
  have := psum_mono l h
  rw [psum_less, psum_less] at this; omega
theorem cs_less (l : List Nat) : cs l = 1 + less l 4 := by rw [cs_eq, psum_less]
/-- What picks the letter. -/
theorem pick_is {l : List Nat} {k c : Nat} (hc : c < 4) (h1 : less l c ≤ k) (h2 : k < less l (c + 1)) : pickC l k = c := by
  unfold pickC
  have h01 := less_mono l (show 0 ≤ 1 by omega)
  have h12 := less_mono l (show 1 ≤ 2 by omega)
  have h23 := less_mono l (show 2 ≤ 3 by omega)
  have hcc : c = 0 ∨ c = 1 ∨ c = 2 ∨ c = 3 := by omega
  rcases hcc with rfl | rfl | rfl | rfl
  · rw [if_pos h2]
  · rw [if_neg (by omega), if_pos h2]
  · rw [if_neg (by omega), if_neg (by omega), if_pos h2]
  · rw [if_neg (by omega), if_neg (by omega), if_neg (by omega)]
theorem pick_ok {l : List Nat} {k : Nat} (h : k + 1 < cs l) : pickC l k < 4 ∧ less l (pickC l k) ≤ k ∧ k < less l (pickC l k + 1) := by
  rw [cs_less] at h
  unfold pickC
  split
  · exact ⟨by omega, Nat.zero_le _, by assumption⟩
  · split
    · exact ⟨by omega, by omega, by assumption⟩
    · split
      · exact ⟨by omega, by omega, by assumption⟩
      · exact ⟨by omega, by omega, by show k < less l 4; omega⟩
theorem itemF_enough : ∀ (f : Nat) (l : List Nat) (k : Nat), l.length < f → k < cs l → itemF f l k = itemF (l.length + 1) l k
  | 0, l, k, h, _ => by omega
  | f + 1, l, k, h, hk => by
    show (if k = 0 then [] else _) = (if k = 0 then [] else _)
    by_cases e : k = 0
    · rw [if_pos e, if_pos e]
    · rw [if_neg e, if_neg e]
      obtain ⟨p1, p2, p3⟩ := pick_ok (l := l) (k := k - 1) (by omega)
      generalize pickC l (k - 1) = c at p1 p2 p3 ⊢
      rw [less_succ] at p3
      have hq : nxl l (97 + c) < l.length := by
        rcases Nat.lt_or_ge (nxl l (97 + c)) l.length with hq | hq
        · exact hq
        · unfold term at p3; rw [if_neg (by omega)] at p3; omega
      have hr : k - 1 - less l c < cs (l.drop (nxl l (97 + c) + 1)) := by
        unfold term at p3; rw [if_pos hq] at p3; omega
      have hl : (l.drop (nxl l (97 + c) + 1)).length < l.length := by rw [List.length_drop]; omega
      rw [itemF_enough f _ _ (by omega) hr, itemF_enough l.length _ _ hl hr]
theorem itemL_step {l : List Nat} {k c : Nat} (hc : c < 4) (h1 : less l c ≤ k) (h2 : k < less l (c + 1)) (hk : k + 1 < cs l) :
    itemL l (k + 1) = (97 + c) :: itemL (l.drop (nxl l (97 + c) + 1)) (k - less l c) := by
  have hp := pick_is hc h1 h2
  unfold itemL
  show (if k + 1 = 0 then [] else (97 + pickC l (k + 1 - 1)) :: itemF l.length (l.drop (nxl l (97 + pickC l (k + 1 - 1)) + 1)) (k + 1 - 1 - less l (pickC l (k + 1 - 1)))) = _
  rw [if_neg (by omega), Nat.add_sub_cancel, hp]
  rw [less_succ] at h2
  have hq : nxl l (97 + c) < l.length := by
    rcases Nat.lt_or_ge (nxl l (97 + c)) l.length with hq | hq
    · exact hq
    · unfold term at h2; rw [if_neg (by omega)] at h2; omega
  have hr : k - less l c < cs (l.drop (nxl l (97 + c) + 1)) := by
    unfold term at h2; rw [if_pos hq] at h2; omega
  rw [itemF_enough l.length _ _ (by rw [List.length_drop]; omega) hr]
/-- The same at a place of a word. -/
theorem itemL_at {l : List Nat} {i k c q : Nat} (hi : i ≤ l.length) (hq : nx l i (97 + c) = q) (hc : c < 4) (h1 : less (l.drop i) c ≤ k) (h2 : k < less (l.drop i) (c + 1)) (hk : k + 1 < cs (l.drop i)) :
    itemL (l.drop i) (k + 1) = (97 + c) :: itemL (l.drop (q + 1)) (k - less (l.drop i) c) := by
  rw [itemL_step hc h1 h2 hk, List.drop_drop, ← hq]
  unfold nx
  rw [Nat.add_assoc]
end Go.Proofs.Ytagdbadljcongaa.X
end

section
/- thread.Item. -/
set_option linter.unusedVariables false
set_option linter.unusedSimpArgs false
namespace Go.Proofs.Ytagdbadljcongaa.X
open Go Go.RowKit Go.Proofs.YtagdbadljcongaaW.PrintWords Go.Proofs.YtagdbadljcongaaW.PrintLast Go.Proofs.YtagdbadljcongaaW.PrintMore
attribute [local go_sem] Oper.semAt_some
/-- Where the variables lie. -/
structure ItG where
  gk : Nat
  b : Nat
  gx : Nat
  gn : Nat
  go : Nat
  ga : Nat
  top : Nat
def ItG.Ok (E : ItG) (lo : Nat) : Prop := lo ≤ E.gk ∧ E.gk < E.b ∧ E.b < E.gx ∧ E.gx < E.gn ∧ E.gn < E.go ∧ E.go < E.ga ∧ E.ga < E.top
/-- What the variables hold. -/
structure ItAt (s : ByteArray) (E : ItG) (k : Int) (i : Int) (o : ByteArray) (W : World) : Prop where
  ck : W.heap[E.gk]? = some (.cells #[.int .i64 k] 3 (0, 0))
  cx : W.heap[E.gx]? = some (.cells #[.pointer (some ⟨E.b, 0, none⟩)] 70 (0, 0))
  cn : W.heap[E.gn]? = some (.cells (acells (cntF (bl s))) 84 (0, 0))
  co : W.heap[E.go]? = some (.cells #[.string o] 9 (0, 0))
  ca : W.heap[E.ga]? = some (.cells #[.int .i64 i] 3 (0, 0))
  wd : WordAt W E.b s
theorem ItAt.kept {s : ByteArray} {E : ItG} {k i : Int} {o : ByteArray} {W W' : World} (h : ItAt s E k i o W) (hk : ∀ g ob, W.heap[g]? = some ob → g < W.heap.size → W'.heap[g]? = some ob) : ItAt s E k i o W' := by
  obtain ⟨f, h1, h2⟩ := h.wd.ex
  exact ⟨hk _ _ h.ck (blk_lt h.ck), hk _ _ h.cx (blk_lt h.cx), hk _ _ h.cn (blk_lt h.cn), hk _ _ h.co (blk_lt h.co), hk _ _ h.ca (blk_lt h.ca), ⟨f, hk _ _ h1 (blk_lt h1), h2⟩⟩
theorem ItAt.below {s : ByteArray} {E : ItG} {k i : Int} {o : ByteArray} {W W' : World} (h : ItAt s E k i o W) (hb : Below W.heap.size W W') : ItAt s E k i o W' := h.kept fun g ob e _ => blk_below e hb
theorem ItAt.put {s : ByteArray} {E : ItG} {k i : Int} {o : ByteArray} {W : World} (h : ItAt s E k i o W) {l : Nat} {ob : Obj} (hl : W.heap[l]? = some ob) (hc : ob.isCells = false) (ob' : Obj) : ItAt s E k i o (W.putObj l ob') := by
  obtain ⟨f, h1, h2⟩ := h.wd.ex
  have hk : ∀ (g : Nat) (cs : Array Value) (t : TypeId), W.heap[g]? = some (.cells cs t (0, 0)) → (W.putObj l ob').heap[g]? = some (.cells cs t (0, 0)) := fun g cs t e => by
    rw [World.putObj_heap_other (fun e2 => by subst e2; rw [hl] at e; injection e with e; subst e; cases hc)]; exact e
  exact ⟨hk _ _ _ h.ck, hk _ _ _ h.cx, hk _ _ _ h.cn, hk _ _ _ h.co, hk _ _ _ h.ca, ⟨f, hk _ _ _ h1, h2⟩⟩
theorem ItAt.setO {s : ByteArray} {E : ItG} {lo : Nat} {k i : Int} {o : ByteArray} {W : World} (h : ItAt s E k i o W) (hE : E.Ok lo) (o' : ByteArray) : ItAt s E k i o' (W.setCell ⟨E.go, 0, none⟩ (.string o')) := by
  obtain ⟨f, h1, h2⟩ := h.wd.ex
  obtain ⟨e0, e1, e2, e3, e4, e5, e6⟩ := hE
  exact ⟨blk_far h.ck (by show E.gk ≠ E.go; omega) _, blk_far h.cx (by show E.gx ≠ E.go; omega) _, blk_far h.cn (by show E.gn ≠ E.go; omega) _, (blk_set h.co 0 _).trans rfl, blk_far h.ca (by show E.ga ≠ E.go; omega) _, ⟨f, blk_far h1 (by show E.b ≠ E.go; omega) _, h2⟩⟩
theorem ItAt.setA {s : ByteArray} {E : ItG} {lo : Nat} {k i : Int} {o : ByteArray} {W : World} (h : ItAt s E k i o W) (hE : E.Ok lo) (i' : Int) : ItAt s E k i' o (W.setCell ⟨E.ga, 0, none⟩ (.int .i64 i')) := by
  obtain ⟨f, h1, h2⟩ := h.wd.ex
  obtain ⟨e0, e1, e2, e3, e4, e5, e6⟩ := hE
  exact ⟨blk_far h.ck (by show E.gk ≠ E.ga; omega) _, blk_far h.cx (by show E.gx ≠ E.ga; omega) _, blk_far h.cn (by show E.gn ≠ E.ga; omega) _, blk_far h.co (by show E.go ≠ E.ga; omega) _, (blk_set h.ca 0 _).trans rfl, ⟨f, blk_far h1 (by show E.b ≠ E.ga; omega) _, h2⟩⟩
/-- The loop's state. -/
structure ItLoop (s : ByteArray) (E : ItG) (w : World) (R : List Nat) (k i : Nat) (o : ByteArray) (ds : List Deferred) (W : World) : Prop where
  at_ : ItAt s E k i o W
  bel : Below w.heap.size w W
  mks : Marks w.heap.size W ds
  top : E.top ≤ W.heap.size
  hi : i ≤ s.size
  hk : k < cs ((bl s).drop i)
  ho : o.size ≤ i
  eq : bl o ++ itemL ((bl s).drop i) k = R
/-- Where a range stands when c letters have been tried; what a pick leaves. -/
structure ItR (s : ByteArray) (E : ItG) (w : World) (T n i : Nat) (o : ByteArray) (ds : List Deferred) (c : Nat) (W : World) : Prop where
  ex : ∃ m : Nat, m + less ((bl s).drop i) c = n ∧ ItAt s E m i o W
  bel : Below w.heap.size w W
  mks : Marks w.heap.size W ds
  dl : ∀ D, ({ target := .collected D, args := #[] } : Deferred) ∈ ds → D < T
  top : E.top ≤ W.heap.size
structure ItX (s : ByteArray) (E : ItG) (w : World) (T n i : Nat) (o : ByteArray) (ds : List Deferred) (c : Nat) (W : World) : Prop where
  ex : ∃ m q : Nat, nx (bl s) i (97 + c) = q ∧ q < s.size ∧ m + less ((bl s).drop i) c = n ∧ m < cs ((bl s).drop (q + 1)) ∧ ItAt s E m ((q : Int) + 1) (o ++ ltr c) W
  bel : Below w.heap.size w W
  mks : Marks w.heap.size W ds
  dl : ∀ D, ({ target := .collected D, args := #[] } : Deferred) ∈ ds → D < T
  top : E.top ≤ W.heap.size
theorem below_put {w W : World} (h : Below w.heap.size w W) {l : Nat} (hl : w.heap.size ≤ l) (ob : Obj) : Below w.heap.size w (W.putObj l ob) := h.grown (grownBy_putObj' W l ob) h.size (fun k e => by cases e; exact hl)
theorem ItR.put {s : ByteArray} {E : ItG} {w W : World} {T n i : Nat} {o : ByteArray} {ds : List Deferred} {c : Nat} (h : ItR s E w T n i o ds c W) (hT : w.heap.size ≤ T) {l : Nat} {ob : Obj} (hl : T ≤ l) (ho : W.heap[l]? = some ob) (hc : ob.isCells = false) (ob' : Obj) : ItR s E w T n i o ds c (W.putObj l ob') := by
  obtain ⟨m, h1, h2⟩ := h.ex
  exact ⟨⟨m, h1, h2.put ho hc ob'⟩, below_put h.bel (by omega) _, h.mks.put (fun D hD e => by have := h.dl D hD; omega) _, h.dl, by rw [World.putObj_size]; exact h.top⟩
theorem ItX.put {s : ByteArray} {E : ItG} {w W : World} {T n i : Nat} {o : ByteArray} {ds : List Deferred} {c : Nat} (h : ItX s E w T n i o ds c W) (hT : w.heap.size ≤ T) {l : Nat} {ob : Obj} (hl : T ≤ l) (ho : W.heap[l]? = some ob) (hc : ob.isCells = false) (ob' : Obj) : ItX s E w T n i o ds c (W.putObj l ob') := by
  obtain ⟨m, q, h1, h2, h3, h4, h5⟩ := h.ex
  exact ⟨⟨m, q, h1, h2, h3, h4, h5.put ho hc ob'⟩, below_put h.bel (by omega) _, h.mks.put (fun D hD e => by have := h.dl D hD; omega) _, h.dl, by rw [World.putObj_size]; exact h.top⟩
theorem ItR.below {s : ByteArray} {E : ItG} {w W W' : World} {T n i : Nat} {o : ByteArray} {ds : List Deferred} {c : Nat} (h : ItR s E w T n i o ds c W) (hb : Below W.heap.size W W') : ItR s E w T n i o ds c W' := by
  obtain ⟨m, h1, h2⟩ := h.ex
  exact ⟨⟨m, h1, h2.below hb⟩, below_step h.bel hb, h.mks.below hb, h.dl, Nat.le_trans h.top hb.size⟩
theorem keepsOf {W W' : World} (h : Below W.heap.size W W') : KeepsOthers W W' := ⟨h.size, fun k o hk _ => (h.block k (Array.getElem?_eq_some_iff.1 hk).1).trans hk⟩
theorem bl_ltr (o : ByteArray) {c : Nat} (hc : c < 4) : bl (o ++ ltr c) = bl o ++ [97 + c] := by
  have hcc : c = 0 ∨ c = 1 ∨ c = 2 ∨ c = 3 := by omega
  unfold bl
  rw [ByteArray.data_append, Array.toList_append, List.map_append]
  rcases hcc with rfl | rfl | rfl | rfl <;> rfl
theorem size_ltr (o : ByteArray) (c : Nat) : (o ++ ltr c).size = o.size + 1 := by rw [ByteArray.size_append]; rfl
/-- A letter was picked: the loop goes on. -/
theorem ItX.next {s : ByteArray} {E : ItG} {w W : World} {T n i : Nat} {o : ByteArray} {ds : List Deferred} {c D : Nat} {R : List Nat} (h : ItX s E w T n i o ds c W) (hc : c < 4) (hi : i ≤ s.size) (hk : n + 1 < cs ((bl s).drop i)) (ho : o.size ≤ i) (heq : bl o ++ itemL ((bl s).drop i) (n + 1) = R)
    (hT : w.heap.size ≤ T) (hD : T ≤ D) (hDW : W.heap[D]? = some (.deferred (some []))) : ∃ m q : Nat, m < n + 1 ∧ ItLoop s E w R m (q + 1) (o ++ ltr c) ({ target := .collected D, args := #[] } :: ds) W := by
  obtain ⟨m, q, h1, h2, h3, h4, h5⟩ := h.ex
  have hq := nx_le (bl s) i (97 + c) (by rw [bl_length]; exact hi)
  rw [h1] at hq
  refine ⟨m, q, by omega, ⟨by simpa using h5, h.bel, ?_, h.top, by omega, h4, by rw [size_ltr]; omega, ?_⟩⟩
  · exact h.mks.cons (by omega) hDW (fun D' hD' e => by have := h.dl D' hD'; omega)
  · have ht : term ((bl s).drop i) (97 + c) = cs ((bl s).drop (q + 1)) := by rw [term_at _ _ _ (by rw [bl_length]; exact hi), h1, if_pos (by rw [bl_length]; exact h2)]
    rw [itemL_at (by rw [bl_length]; exact hi) h1 hc (by omega) (by rw [less_succ, ht]; omega) hk, show n - less ((bl s).drop i) c = m by omega] at heq
    rw [bl_ltr o hc, ← heq]
    simp
theorem after_in (lo m' : Nat) (w : World) (b : Nat) (s : ByteArray) (hw : WordAt w b s) (hs : s.size ≤ 60) (i c q : Nat) (r : Bool) (hi : i ≤ s.size) (hc : c < 4) (hq : nx (bl s) i (97 + c) = q) (hr : decide (q < s.size) = r) :
    CallsIn (Fence.wide.inRound lo) m' Try.prog 57 #[.pointer (some ⟨b, 0, none⟩), .int .i64 i, .int .i64 c] w fun e w' => e = .returned (.tuple #[.int .i64 (q + 1 : Int), .bool r]) ∧ Drawn0 w w' :=
  CallsIn.inRound lo (callsIn_wide.2 (after_c w b s hw hs i c q r hi hc hq hr))
end Go.Proofs.Ytagdbadljcongaa.X
end

section
/- A map's block, told key by key: what is at each key, whatever the elements are. -/
set_option linter.unusedVariables false
set_option linter.unusedSimpArgs false
namespace Go.Proofs.Ytagdbadljcongaa.X
open Go.RowKit Go.Proofs.YtagdbadljcongaaW.PrintWords Go.Proofs.YtagdbadljcongaaW.PrintLast Go.Proofs.YtagdbadljcongaaW.PrintMore
open Go.Maps (Keyed)

/-- Any element: it reads as itself. -/
def anyElem (v : Value) : Option (DataW Value × List MemPlace) := some (.held v, [])
/-- What stands at each key. -/
abbrev KMap := Lit → Option Value
def KMap.put (f : KMap) (k : Lit) (v : Value) : KMap := fun k' => if k'.sameKey k = true then some v else f k'
def KMap.empty : KMap := fun _ => none
theorem KMap.put_same (f : KMap) {k : Lit} (hk : WideAt.IsKeyLit k) (v : Value) : f.put k v k = some v := by unfold KMap.put; rw [if_pos (WideAt.sameKey_self hk)]
theorem KMap.put_other (f : KMap) {k k' : Lit} (h : k' ≠ k) (v : Value) : f.put k v k' = f k' := by unfold KMap.put; rw [if_neg (fun e => h (WideAt.sameKey_eq e))]

/-- Block B of w is a map of at most n entries with f k at each key k. -/
structure MapIs (P : Program) (kt : TypeId) (w : World) (B n : Nat) (f : KMap) : Prop where mk ::
  ex : ∃ D, w.ownsMap P kt anyElem B n D ∧ (∀ kl, Maps.has D kl = (f kl).isSome) ∧ ∀ kl z, D.atKey kl (.held z) = .held ((f kl).getD z)
section
variable {P : Program} {kt : TypeId} {w w' : World} {B n : Nat} {f : KMap}
theorem MapIs.made (w : World) (P : Program) (kt : TypeId) : MapIs P kt (w.alloc (.map #[] 0)) w.heap.size 0 KMap.empty :=
  ⟨⟨.map [], World.ownsMap_made w P kt anyElem, fun _ => rfl, fun _ _ => rfl⟩⟩
theorem MapIs.lt (h : MapIs P kt w B n f) : B < w.heap.size := by
  obtain ⟨D, h1, h2⟩ := h.ex
  exact h1.lt
theorem MapIs.kept (h : MapIs P kt w B n f) {row : Option Nat} (hg : w.grownBy w' row) (hne : some B ≠ row) : MapIs P kt w' B n f := by
  obtain ⟨D, h1, h2⟩ := h.ex
  exact ⟨⟨D, h1.kept hg hne, h2⟩⟩
theorem MapIs.block (h : MapIs P kt w B n f) (hb : w'.heap[B]? = w.heap[B]?) : MapIs P kt w' B n f := by
  obtain ⟨D, ⟨es, clock, he, F⟩, h2⟩ := h.ex
  exact ⟨⟨D, ⟨es, clock, hb.trans he, F⟩, h2⟩⟩
theorem MapIs.below (h : MapIs P kt w B n f) (hb : Below w.heap.size w w') : MapIs P kt w' B n f := h.kept (grown_of_below hb none) (by simp)
theorem MapIs.alloc (h : MapIs P kt w B n f) (o : Obj) : MapIs P kt (w.alloc o) B n f := h.below (below_alloc (Below.refl _ _) o)
theorem MapIs.drewN (h : MapIs P kt w B n f) (m : Nat) : MapIs P kt (w.drewN m) B n f := h.below (pw_below_drewN (Below.refl _ _) m)
theorem MapIs.setCell (h : MapIs P kt w B n f) {a : Addr} (ha : B ≠ a.block) (u : Value) : MapIs P kt (w.setCell a u) B n f := by
  obtain ⟨D, h1, h2⟩ := h.ex
  exact ⟨⟨D, h1.setCell ha u, h2⟩⟩
/-- A map's block is no row of cells. -/
theorem MapIs.ne (h : MapIs P kt w B n f) {g : Nat} {cs : Array Value} {t : TypeId} {m : Nat × Nat} (hg : w.heap[g]? = some (.cells cs t m)) : B ≠ g := by
  obtain ⟨D, ⟨es, clock, hb, _⟩, _⟩ := h.ex
  intro e
  subst e
  rw [hb] at hg
  cases hg
theorem nodup_len {α : Type} : ∀ (l L : List α), l.Pairwise (fun a b => a ≠ b) → (∀ x ∈ l, x ∈ L) → l.length ≤ L.length
  | [], _, _, _ => Nat.zero_le _
  | x :: r, L, h, hs => by
    classical
    obtain ⟨h1, h2⟩ := List.pairwise_cons.1 h
    have hx := hs x (by simp)
    have := nodup_len r (L.erase x) h2 (fun y hy => (List.mem_erase_of_ne (fun e => h1 y hy e.symm)).2 (hs y (by simp [hy])))
    rw [List.length_erase_of_mem hx] at this
    have hp := List.length_pos_of_mem hx
    simp; omega
/-- m[k]. -/
theorem MapIs.look (h : MapIs P kt w B n f) {t e : TypeId} (K : Keyed P kt) (ht : P.underlying t = some (.map kt e)) {z : Value} (hz : (zeroValue e).run P w = .ok z w) {key : Value} {kl : Lit} (hkey : keyOf P kt key = some kl) :
    (Instr.lookup t (.map (some B)) key false).run P w = .ok ((f kl).getD z) w := by
  obtain ⟨D, h1, h2, h3⟩ := h.ex
  obtain ⟨v, ps, hrun, hv⟩ := h1.lookup K ht hz (zd := .held z) (zp := []) rfl hkey
  rw [h3] at hv
  injection hv with hv
  injection hv with hv _
  injection hv with hv
  rw [hrun, hv]
theorem MapIs.look_ok (h : MapIs P kt w B n f) {t e : TypeId} (K : Keyed P kt) (ht : P.underlying t = some (.map kt e)) {z : Value} (hz : (zeroValue e).run P w = .ok z w) {key : Value} {kl : Lit} (hkey : keyOf P kt key = some kl) :
    (Instr.lookup t (.map (some B)) key true).run P w = .ok (.tuple #[(f kl).getD z, .bool (f kl).isSome]) w := by
  obtain ⟨D, h1, h2, h3⟩ := h.ex
  obtain ⟨v, ps, hrun, hv⟩ := h1.look_ok K ht hz (zd := .held z) (zp := []) rfl hkey
  rw [h3] at hv
  injection hv with hv
  injection hv with hv _
  injection hv with hv
  rw [hrun, hv, h2]
/-- m[k] = v. -/
theorem MapIs.store (h : MapIs P kt w B n f) {t e : TypeId} (K : Keyed P kt) (ht : P.underlying t = some (.map kt e)) (hn : n < maxLen) {key val : Value} {kl : Lit} (hkey : keyOf P kt key = some kl) :
    ∃ w', (Instr.mapUpdate t (.map (some B)) key val).run P w = .ok () w' ∧ MapIs P kt w' B (n + 1) (f.put kl val) ∧ w.grownBy w' (some B) := by
  obtain ⟨D, h1, h2, h3⟩ := h.ex
  obtain ⟨w', hrun, r1, r2⟩ := h1.update K ht hn hkey (val := val) (d := .held val) (ps := []) rfl
  refine ⟨w', hrun, ⟨⟨_, r1, fun k' => ?_, fun k' z => ?_⟩⟩, r2⟩
  · by_cases e : k' = kl
    · subst e
      rw [Maps.has_put_same h1.isMap (K.key hkey), KMap.put_same f (K.key hkey)]; rfl
    · rw [Maps.has_put_other e, KMap.put_other f e, h2]
  · by_cases e : k' = kl
    · subst e
      rw [Maps.atKey_put_same h1.isMap (K.key hkey), KMap.put_same f (K.key hkey)]; rfl
    · rw [Maps.atKey_put_other e, KMap.put_other f e, h3]
/-- len(m). -/
theorem MapIs.len (h : MapIs P kt w B n f) {t e : TypeId} (K : Keyed P kt) (ht : P.underlying t = some (.map kt e)) (ty : TypeId) :
    ∃ m : Nat, (Builtin.len_ #[t] ty #[.map (some B)]).run P w = .ok (.int .i64 m) w ∧ ∀ L : List Lit, L.Pairwise (fun a b => a ≠ b) → (∀ kl, (f kl).isSome = true ↔ kl ∈ L) → m = L.length := by
  obtain ⟨D, h1, h2, h3⟩ := h.ex
  refine ⟨Maps.size D, h1.len ht ty, fun L hL hiff => ?_⟩
  have hc := h1
  obtain ⟨es', rfl, hp⟩ := h1.tidy K
  have hkey : ∀ p ∈ es', WideAt.IsKeyLit p.1 := by
    intro p hp'
    obtain ⟨es, clock, hb, F, hs, hD⟩ := hc
    injection hD with hD
    have hk := Maps.fit_keys F
    have hp2 : p ∈ es.toList.map (WideElems.rg P kt anyElem) := by
      have := hD ▸ hp'
      exact (WideShapes.sorted_perm _).mem_iff.1 this
    obtain ⟨v, hv⟩ := hk p hp2
    exact K.key hv
  have a1 := nodup_len (es'.map (·.1)) L (by rw [List.pairwise_map]; exact hp) (by
    intro x hx
    obtain ⟨p, hp', rfl⟩ := List.mem_map.1 hx
    rw [← hiff, ← h2, Maps.has_eq, List.any_eq_true]
    exact ⟨p, hp', WideAt.sameKey_self (hkey p hp')⟩)
  have a2 := nodup_len L (es'.map (·.1)) hL (by
    intro x hx
    rw [← hiff, ← h2, Maps.has_eq, List.any_eq_true] at hx
    obtain ⟨p, hp', hs⟩ := hx
    exact List.mem_map.2 ⟨p, hp', WideAt.sameKey_eq hs⟩)
  rw [Maps.size_eq]
  rw [List.length_map] at a1 a2
  omega
end
section
variable {P : Program} (w : World) {ops : Array Oper} {rest : List Oper} {o : Oper} {a : Act} {Q : Exit → Act → World → Prop}
end
end Go.Proofs.Ytagdbadljcongaa.X
end

section
/- The keys of this seat's maps: a pair of numbers, and four numbers. -/
set_option linter.unusedVariables false
set_option linter.unusedSimpArgs false
namespace Go.Proofs.Ytagdbadljcongaa.X
open Go Go.RowKit Go.Proofs.YtagdbadljcongaaW.PrintWords Go.Proofs.YtagdbadljcongaaW.PrintLast Go.Proofs.YtagdbadljcongaaW.PrintMore
theorem law110 : WideMaps.KeyLaw Try.prog 110 := deep_law (m := 3) (by omega) (by kernel_rfl) (by kernel_rfl) (by kernel_rfl)
theorem keyed110 : Maps.Keyed Try.prog 110 := Maps.Keyed.of_law law110
def pairV (i j : Nat) : Value := .agg #[.int .i64 i, .int .i64 j]
def pairK (i j : Nat) : Lit := .string (keyBytes [.int .i64 i, .int .i64 j])
theorem types_pos : ∃ m, Try.prog.types.size = m + 1 := ⟨Try.prog.types.size - 1, by have : 0 < Try.prog.types.size := of_decide_eq_true (by kernel_rfl); omega⟩
theorem key110 (i j : Nat) (hi : i ≤ 1000000) (hj : j ≤ 1000000) : keyOf Try.prog 110 (pairV i j) = some (pairK i j) := by
  obtain ⟨m, hm⟩ := types_pos
  have wi : (Lit.int .i64 i).wf = true := WalkArith.wf_i64 (by omega)
  have wj : (Lit.int .i64 j).wf = true := WalkArith.wf_i64 (by omega)
  have c110 : Try.prog.cellsOf 110 = 2 := by kernel_rfl
  have c3 : Try.prog.cellsOf 3 = 1 := by kernel_rfl
  have kt : Try.prog.keyType 110 = true := by kernel_rfl
  unfold keyOf pairV pairK
  simp only [Try.underlying110]
  rw [if_pos (by simp [kt, Value.formed, Try.underlying110, c110]), hm]
  unfold Program.keyLits
  simp only [Try.underlying110, Value.cells]
  rw [if_pos ⟨by rw [c110]; rfl, by decide +kernel⟩]
  simp [List.mapM_cons, List.mapM_nil, c3, Program.keyLits, Try.underlying3, wi, wj]
theorem pairK_inj {i j i' j' : Nat} (hi : i ≤ 1000000) (hj : j ≤ 1000000) (hi' : i' ≤ 1000000) (hj' : j' ≤ 1000000) (h : pairK i j = pairK i' j') : i = i' ∧ j = j' := by
  have h1 := key110 i j hi hj
  have h2 := key110 i' j' hi' hj'
  rw [← h] at h2
  have := keyed110.inj h1 h2
  unfold pairV at this
  simp at this
  omega
theorem law101 : WideMaps.KeyLaw Try.prog 101 := deep_law (m := 3) (by omega) (by kernel_rfl) (by kernel_rfl) (by kernel_rfl)
theorem keyed101 : Maps.Keyed Try.prog 101 := Maps.Keyed.of_law law101
end Go.Proofs.Ytagdbadljcongaa.X
end

section
/- A region that draws its order, in a round of a range: the walk's steps (start_, pure_, take_ ..) serve there too. -/
set_option linter.unusedVariables false
set_option linter.unusedSimpArgs false
namespace Go.Proofs.Ytagdbadljcongaa.X
open Go Go.RowKit Go.Proofs.YtagdbadljcongaaW.PrintWords Go.Proofs.YtagdbadljcongaaW.PrintLast Go.Proofs.YtagdbadljcongaaW.PrintMore
variable {P : Program} {ops : Array Oper} {Q : Exit → Act → World → Prop} {lo n : Nat}
theorem rows_round {row : String} {args : Array Value} {w : World} {R : Value → World → Prop} (h : Rows P row args w R) : RowsIn (Fence.wide.inRound lo) n P row args w R := by
  intro c cs _
  obtain ⟨v, w', r, s⟩ := h c cs
  exact ⟨v, w', r, stepsIn_wide.2 s⟩
def noDefer (o : Oper) : Bool := match o.op with | .defer _ => false | _ => true
theorem op_round {o : Oper} {a : Act} {w : World} {K : Act → World → Prop} (hd : noDefer o = true) (h : o.wp P a w K Q) : o.wpIn (Fence.wide.inRound lo) n P a w K Q := by
  refine ⟨fun _ _ => trivial, ?_⟩
  have hs : o.semAt (Fence.wide.inRound lo).round a.eval = execOp a.eval o := Oper.semAt_eq _ _ _ (fun c e => by unfold noDefer at hd; rw [e] at hd; cases hd)
  rw [hs]
  unfold Oper.wp at h
  generalize (execOp a.eval o).run P w = r at *
  cases r with
  | ok x w' =>
    cases x <;> simp only [Oper.upon] at h <;> simp only [Oper.uponIn] <;>
      first
        | exact h
        | exact ⟨fun h => (by cases h), CallsIn.inRound lo (callsIn_wide.2 h)⟩
        | exact ⟨fun h => (by cases h), rows_round h⟩
        | exact h.elim
  | halt x w' => cases x <;> simp only [Oper.upon] at h <;> simp only [Oper.uponIn] <;> exact h
theorem any_round (hd : ops.all noDefer = true) (hQ : ¬ LetsOut Q) (md : Region.Mode) : ∀ (fuel : Nat) (listed : Array Bool) (a : Act) (w : World), wpAny P md ops Q fuel listed a w → wpAnyIn (Fence.wide.inRound lo) n P md ops Q fuel listed a w
  | 0, listed, a, w, h => h
  | fuel + 1, listed, a, w, h => by
    refine ⟨h.1, fun i hi => ?_⟩
    have h2 := h.2 i hi
    have ih := any_round hd hQ md fuel (listed.setIfInBounds i true)
    unfold wpOp at h2
    unfold wpOpIn
    cases ho : ops[i]? with
    | none => rw [ho] at h2; exact ih _ _ h2
    | some o =>
      rw [ho] at h2
      simp only at h2 ⊢
      have hdo : noDefer o = true := (Array.all_eq_true_iff_forall_mem.1 hd) o (Array.mem_of_getElem? ho)
      split
      · rename_i hw
        rw [if_pos hw] at h2
        rcases h2 with h2 | ⟨_, h2⟩
        · exact Oper.wpIn_mono (fun a w h => ih a w h) (op_round hdo h2)
        · exact absurd h2 hQ
      · rename_i hw
        rw [if_neg hw] at h2
        exact ⟨fun _ _ => trivial, ih _ _ h2⟩
theorem start_in {S : World → Prop} {ds : List Nat} {id m : Nat} {a : Act} {w : World} (l : Array Bool) (hm : P.follows .mixedOrders = true) (hn : ops.size = m) (hl : Array.replicate m false = l) (hS : S w.drew) (hd : ops.all noDefer = true) (hQ : ¬ LetsOut Q)
    (h : S w.drew → wpAnyLast P .any ops Q S ds m l a w.drew) : (Code.region id ops true).wpIn (Fence.wide.inRound lo) n P Q a w := by
  subst hn
  subst hl
  exact wpIn_region_any hm (any_round hd hQ _ _ _ _ _ (wpAny_of_last _ _ _ _ (h hS)))
theorem list_round (hQ : ¬ LetsOut Q) : ∀ (rest : List Oper) (a : Act) (w : World), rest.all noDefer = true → wpList P ops Q rest a w → wpListIn (Fence.wide.inRound lo) n P ops Q rest a w
  | [], a, w, _, h => h
  | o :: rest, a, w, hd, h => by
    rw [List.all_cons, Bool.and_eq_true] at hd
    unfold wpList at h
    unfold wpListIn
    split
    · rename_i hw
      rw [if_pos hw] at h
      rcases h with h | ⟨_, h⟩
      · exact Oper.wpIn_mono (fun a w h => list_round hQ rest a w hd.2 h) (op_round hd.1 h)
      · exact absurd h hQ
    · rename_i hw
      rw [if_neg hw] at h
      exact ⟨fun _ _ => trivial, list_round hQ rest _ w hd.2 h⟩
/-- A region that does not draw, in a round: walked as everywhere. -/
theorem region_in {id : Nat} {l : List Oper} {a : Act} {w : World} (hd : l.all noDefer = true) (hQ : ¬ LetsOut Q) (h : wpList P l.toArray Q l a w) : (Code.region id l.toArray false).wpIn (Fence.wide.inRound lo) n P Q a w :=
  wpIn_region_lit (list_round hQ l a w hd h)
end Go.Proofs.Ytagdbadljcongaa.X
end

section
/- The search through pairs of places, as the program does it. -/
set_option linter.unusedVariables false
set_option linter.unusedSimpArgs false
namespace Go.Proofs.Ytagdbadljcongaa.X
open Go.RowKit Go.Proofs.YtagdbadljcongaaW.PrintWords
/-- An entry of the queue: two places, and the word that leads there. -/
structure Ent where
  i : Nat
  j : Nat
  wd : List Nat
deriving DecidableEq
def knownB (Q : List Ent) (i j : Nat) : Bool := Q.any fun e => e.i == i && e.j == j
theorem knownB_iff (Q : List Ent) (i j : Nat) : knownB Q i j = true ↔ ∃ e ∈ Q, e.i = i ∧ e.j = j := by simp [knownB]
/-- One entry's letters: the word that tells the two apart, or the queue grown. -/
def bfsR (u w : List Nat) (p : Ent) : List Nat → List Ent → Option (List Nat) × List Ent
  | [], Q => (none, Q)
  | c :: cs, Q =>
    if decide (nx u p.i (97 + c) < u.length) != decide (nx w p.j (97 + c) < w.length) then (some (p.wd ++ [97 + c]), Q)
    else if nx u p.i (97 + c) < u.length ∧ knownB Q (nx u p.i (97 + c) + 1) (nx w p.j (97 + c) + 1) = false then bfsR u w p cs (Q ++ [⟨nx u p.i (97 + c) + 1, nx w p.j (97 + c) + 1, p.wd ++ [97 + c]⟩])
    else bfsR u w p cs Q
def bfs (u w : List Nat) : Nat → Nat → List Ent → Option (List Nat)
  | 0, _, _ => none
  | f + 1, q, Q => match Q[q]? with
    | none => none
    | some p => match bfsR u w p [0, 1, 2, 3] Q with
      | (some r, _) => some r
      | (none, Q') => bfs u w f (q + 1) Q'
def root : Ent := ⟨0, 0, []⟩
/-- The first word that is a subsequence of one of two words. -/
def diffW (u w : List Nat) : Option (List Nat) := bfs u w 3845 0 [root]
/-- What holds of the queue. -/
structure QOk (u w : List Nat) (Q : List Ent) : Prop where
  hd : ∃ t, Q = root :: t ∧ ∀ e ∈ t, 1 ≤ e.i ∧ e.i ≤ u.length ∧ 1 ≤ e.j ∧ e.j ≤ w.length
  nd : Q.Pairwise (fun a b => ¬ (a.i = b.i ∧ a.j = b.j))
  par : ∀ m (h : m < Q.length), 0 < m → ∃ m' c, ∃ h' : m' < m, c < 4 ∧ (Q[m]).wd = (Q[m']'(by omega)).wd ++ [97 + c]
theorem QOk.start (u w : List Nat) : QOk u w [root] := ⟨⟨[], rfl, by simp⟩, by simp, fun m h h0 => by simp at h; omega⟩
theorem QOk.le {u w : List Nat} {Q : List Ent} (h : QOk u w Q) {e : Ent} (he : e ∈ Q) : e.i ≤ u.length ∧ e.j ≤ w.length := by
  obtain ⟨t, rfl, ht⟩ := h.hd
  rcases List.mem_cons.1 he with rfl | he
  · exact ⟨Nat.zero_le _, Nat.zero_le _⟩
  · have := ht e he; omega
theorem QOk.push {u w : List Nat} {Q : List Ent} (h : QOk u w Q) {m c : Nat} (hm : m < Q.length) (hc : c < 4) {i j : Nat} (hi : 1 ≤ i ∧ i ≤ u.length) (hj : 1 ≤ j ∧ j ≤ w.length) (hk : knownB Q i j = false) : QOk u w (Q ++ [⟨i, j, (Q[m]).wd ++ [97 + c]⟩]) := by
  refine ⟨?_, ?_, ?_⟩
  · obtain ⟨t, rfl, ht⟩ := h.hd
    refine ⟨t ++ [_], rfl, fun e he => ?_⟩
    rcases List.mem_append.1 he with he | he
    · exact ht e he
    · rw [List.mem_singleton] at he; subst he; exact ⟨hi.1, hi.2, hj.1, hj.2⟩
  · rw [List.pairwise_append]
    refine ⟨h.nd, by simp, fun a ha b hb e => ?_⟩
    rw [List.mem_singleton] at hb; subst hb
    have : knownB Q i j = true := (knownB_iff Q i j).2 ⟨a, ha, e.1, e.2⟩
    rw [hk] at this; cases this
  · intro m2 h2 h0
    by_cases e : m2 < Q.length
    · obtain ⟨m', c', h', a, b⟩ := h.par m2 e h0
      exact ⟨m', c', h', a, by rw [List.getElem_append_left e, List.getElem_append_left (by omega)]; exact b⟩
    · have e2 : m2 = Q.length := by simp at h2; omega
      subst e2
      exact ⟨m, c, hm, hc, by rw [List.getElem_append_right (Nat.le_refl _), List.getElem_append_left hm]; simp⟩
theorem nodup_le {α : Type} [DecidableEq α] : ∀ (l L : List α), l.Pairwise (fun a b => a ≠ b) → (∀ x ∈ l, x ∈ L) → l.length ≤ L.length
  | [], _, _, _ => Nat.zero_le _
  | x :: r, L, h, hs => by
    obtain ⟨h1, h2⟩ := List.pairwise_cons.1 h
    have hx := hs x (by simp)
    have := nodup_le r (L.erase x) h2 (fun y hy => (List.mem_erase_of_ne (fun e => h1 y hy e.symm)).2 (hs y (by simp [hy])))
    rw [List.length_erase_of_mem hx] at this
    have hp := List.length_pos_of_mem hx
    simp; omega
theorem QOk.size {u w : List Nat} {Q : List Ent} (h : QOk u w Q) (hu : u.length ≤ 60) (hw : w.length ≤ 60) : Q.length ≤ 3844 := by
  have h1 := nodup_le (Q.map fun e => e.i * 62 + e.j) (List.range 3844) (by
    rw [List.pairwise_map]
    refine h.nd.imp_of_mem fun {a b} ha hb hab e => hab ?_
    have := h.le ha; have := h.le hb
    omega) (fun x hx => by
    obtain ⟨e, he, rfl⟩ := List.mem_map.1 hx
    have := h.le he
    exact List.mem_range.2 (by omega))
  simpa using h1
end Go.Proofs.Ytagdbadljcongaa.X
end

section
/- thread.differ. -/
set_option linter.unusedVariables false
set_option linter.unusedSimpArgs false
namespace Go.Proofs.Ytagdbadljcongaa.X
open Go Go.RowKit Go.Proofs.YtagdbadljcongaaW.PrintWords Go.Proofs.YtagdbadljcongaaW.PrintLast Go.Proofs.YtagdbadljcongaaW.PrintMore
attribute [local go_sem] Oper.semAt_some
theorem eqA110 (d : Nat) (w : World) (x0 y0 : Int) (x1 y1 : Int) :
    (Op.equalIn (d + 2) 110 (.agg #[.int .i64 x0, .int .i64 x1]) (.agg #[.int .i64 y0, .int .i64 y1])).run Try.prog w = .ok (x0 == y0 && (x1 == y1)) w := by
  refine eqA_of Try.underlying110 (by kernel_rfl) ?_
  refine eqf_cons (by rfl) (by go_simp; rfl) (by go_simp; rfl) (by go_simp) ?_
  exact eqf_last (by rfl) (by go_simp; rfl) (by go_simp; rfl) (by go_simp)
attribute [local go_sem high] eqA110
/-- Where the variables lie. -/
structure DfG where
  bx : Nat
  bw : Nat
  gx : Nat
  gy : Nat
  gr : Nat
  B : Nat
  gm : Nat
  gq : Nat
def pairQ (e : Ent) : S88 := ⟨e.i, e.j⟩
/-- A box for the first map. -/
abbrev stepV (i j : Nat) (s : ByteArray) : Value := .agg #[.int .i64 i, .int .i64 j, .string s]
/-- What the map says of the queue. -/
def MapOf (Q : List Ent) (f : KMap) : Prop :=
  (∀ m (h : m < Q.length), 0 < m → ∃ m' c, ∃ h' : m' < m, c < 4 ∧ (Q[m]).wd = (Q[m']'(by omega)).wd ++ [97 + c] ∧ f (pairK (Q[m]).i (Q[m]).j) = some (stepV (Q[m']'(by omega)).i (Q[m']'(by omega)).j (ltr c))) ∧
  (∀ i j, i ≤ 61 → j ≤ 61 → (∀ e ∈ Q.tail, ¬ (e.i = i ∧ e.j = j)) → f (pairK i j) = none)
/-- What the variables hold; gp is the entry's box. -/
structure DfAt (u w : ByteArray) (E : DfG) (lo : Nat) (ok : Nat → Prop) (Q : List Ent) (A : Option Addr) (c : Nat) (W : World) : Prop where
  cx : W.heap[E.gx]? = some (.cells #[.pointer (some ⟨E.bx, 0, none⟩)] 70 (0, 0))
  cy : W.heap[E.gy]? = some (.cells #[.pointer (some ⟨E.bw, 0, none⟩)] 70 (0, 0))
  cr : ∃ o, W.heap[E.gr]? = some (.cells #[.string o] 9 (0, 0))
  cm : W.heap[E.gm]? = some (.cells #[.map (some E.B)] 108 (0, 0))
  cq : W.heap[E.gq]? = some (.cells #[.slice A Q.length c] 111 (0, 0))
  row : Kd.R k88 110 W lo ok (.slice A Q.length c) (Q.map pairQ)
  mp : ∃ n f, MapIs Try.prog 110 W E.B n f ∧ n ≤ Q.length ∧ MapOf Q f
  wx : WordAt W E.bx u
  wy : WordAt W E.bw w
  lo_ : lo ≤ E.gx ∧ lo ≤ E.gy ∧ lo ≤ E.gr ∧ lo ≤ E.B ∧ lo ≤ E.gm ∧ lo ≤ E.gq
theorem DfAt.kept {u w : ByteArray} {E : DfG} {lo : Nat} {ok : Nat → Prop} {Q : List Ent} {A : Option Addr} {c : Nat} {W W' : World} (h : DfAt u w E lo ok Q A c W) (hk : ∀ (g : Nat) (cs : Array Value) (t : TypeId), W.heap[g]? = some (.cells cs t (0, 0)) → W'.heap[g]? = some (.cells cs t (0, 0)))
    (hm : ∀ n f, MapIs Try.prog 110 W E.B n f → MapIs Try.prog 110 W' E.B n f) : DfAt u w E lo ok Q A c W' := by
  obtain ⟨fx, x1, x2⟩ := h.wx.ex
  obtain ⟨fy, y1, y2⟩ := h.wy.ex
  obtain ⟨o, ho⟩ := h.cr
  obtain ⟨n, f, m1, m2, m3⟩ := h.mp
  refine ⟨hk _ _ _ h.cx, hk _ _ _ h.cy, ⟨o, hk _ _ _ ho⟩, hk _ _ _ h.cm, hk _ _ _ h.cq, ?_, ⟨n, f, hm _ _ m1, m2, m3⟩, ⟨fx, hk _ _ _ x1, x2⟩, ⟨fy, hk _ _ _ y1, y2⟩, h.lo_⟩
  refine Kd.R_mono (Kd.R_move (Kd.R_bound h.row) (fun k hkk => ?_)) (fun k hkk => hkk.1)
  obtain ⟨_, _, _, q, _, cells, hc⟩ := hkk
  rw [hc, hk _ _ _ hc]
theorem DfAt.below {u w : ByteArray} {E : DfG} {lo : Nat} {ok : Nat → Prop} {Q : List Ent} {A : Option Addr} {c : Nat} {W W' : World} (h : DfAt u w E lo ok Q A c W) (hb : Below W.heap.size W W') : DfAt u w E lo ok Q A c W' :=
  h.kept (fun g cs t e => blk_below e hb) (fun n f m => m.below hb)
theorem DfAt.put {u w : ByteArray} {E : DfG} {lo : Nat} {ok : Nat → Prop} {Q : List Ent} {A : Option Addr} {c : Nat} {W : World} (h : DfAt u w E lo ok Q A c W) {l : Nat} {ob : Obj} (hl : W.heap[l]? = some ob) (hc : ob.isCells = false) (hB : l ≠ E.B) (ob' : Obj) : DfAt u w E lo ok Q A c (W.putObj l ob') :=
  h.kept (fun g cs t e => by rw [World.putObj_heap_other (fun e2 => by subst e2; rw [hl] at e; injection e with e; subst e; cases hc)]; exact e) (fun n f m => m.block (World.putObj_heap_other (fun e => hB e.symm)))
theorem DfAt.okMono {u w : ByteArray} {E : DfG} {lo : Nat} {ok ok' : Nat → Prop} {Q : List Ent} {A : Option Addr} {c : Nat} {W : World} (h : DfAt u w E lo ok Q A c W) (hk : ∀ k, k < W.heap.size → ok k → ok' k) : DfAt u w E lo ok' Q A c W :=
  ⟨h.cx, h.cy, h.cr, h.cm, h.cq, Kd.R_mono (Kd.R_bound h.row) (fun k hkk => hk k hkk.2.2.1 hkk.1), h.mp, h.wx, h.wy, h.lo_⟩
/-- A store into a box of this walk's own that no fact speaks of. -/
theorem DfAt.setFar {u w : ByteArray} {E : DfG} {lo : Nat} {gp : Nat} {Q : List Ent} {A : Option Addr} {c : Nat} {W : World} (h : DfAt u w E lo (fun k => k ≠ gp) Q A c W) {x y : Value} (hp : W.heap[gp]? = some (.cells #[x, y] 110 (0, 0))) (j : Nat) (v : Value) : DfAt u w E lo (fun k => k ≠ gp) Q A c (W.setCell ⟨gp, j, none⟩ v) := by
  have ne : ∀ (g : Nat) (cs : Array Value) (t : TypeId), W.heap[g]? = some (.cells cs t (0, 0)) → t ≠ 110 → (W.setCell ⟨gp, j, none⟩ v).heap[g]? = some (.cells cs t (0, 0)) := fun g cs t e ht => blk_far e (by show g ≠ gp; rintro rfl; rw [hp] at e; injection e with e; injection e with _ e; exact ht e.symm) v
  obtain ⟨fx, x1, x2⟩ := h.wx.ex
  obtain ⟨fy, y1, y2⟩ := h.wy.ex
  obtain ⟨o, ho⟩ := h.cr
  obtain ⟨n, f, m1, m2, m3⟩ := h.mp
  exact ⟨ne _ _ _ h.cx (by decide), ne _ _ _ h.cy (by decide), ⟨o, ne _ _ _ ho (by decide)⟩, ne _ _ _ h.cm (by decide), ne _ _ _ h.cq (by decide), Kd.R_far h.row (fun k hk => hk) v, ⟨n, f, m1.setCell (m1.ne hp) v, m2, m3⟩, ⟨fx, ne _ _ _ x1 (by decide), x2⟩, ⟨fy, ne _ _ _ y1 (by decide), y2⟩, h.lo_⟩
/-- The result's cell is set. -/
theorem DfAt.setR {u w : ByteArray} {E : DfG} {lo : Nat} {ok : Nat → Prop} {Q : List Ent} {A : Option Addr} {c : Nat} {W : World} (h : DfAt u w E lo ok Q A c W) (s : ByteArray) : (W.setCell ⟨E.gr, 0, none⟩ (.string s)).heap[E.gr]? = some (.cells #[.string s] 9 (0, 0)) := by
  obtain ⟨o, ho⟩ := h.cr
  exact (blk_set ho 0 _).trans rfl
theorem pair_get {W : World} {lo g n c : Nat} {ok : Nat → Prop} {Q : List Ent} (h : Kd.R k88 110 W lo ok (.slice (some ⟨g, 0, none⟩) n c) (Q.map pairQ)) (q : Nat) (hq : q < Q.length) :
    W.cell? ⟨g, q * 2, none⟩ = some (.int .i64 (Q[q]).i) ∧ W.cell? ⟨g, q * 2 + 1, none⟩ = some (.int .i64 (Q[q]).j) := by
  have hC := (Kd.R_reads' h).2.2
  obtain ⟨ad, e, h1, h2⟩ := at_T88 hC (q : Int) (by omega) (by simpa using hq)
  injection e with e
  subst e
  have er : rd_T88 (Q.map pairQ) (q : Int) = pairQ Q[q] := by unfold rd_T88; simp [List.getD_eq_getElem?_getD, hq]
  rw [er] at h1 h2
  have ea : (⟨g, 0, none⟩ : Addr).add ((q : Int).toNat * 2) = ⟨g, q * 2, none⟩ := by rw [show (q : Int).toNat = q by omega]; exact add_plain g (q * 2)
  rw [ea] at h1 h2
  exact ⟨h1, h2⟩
theorem res54 (tmps : Array Value) (W : World) (g : Nat) (o : ByteArray) (h : tmps.getD 4 undef = .pointer (some ⟨g, 0, none⟩)) (c : W.heap[g]? = some (.cells #[.string o] 9 (0, 0))) : (results Try.f54 tmps).run Try.prog W = .ok (.string o) W := by
  have h' : tmps[4]?.getD undef = .pointer (some ⟨g, 0, none⟩) := by simpa using h
  have hc : W.cell? ⟨g, 0, none⟩ = some (.string o) := (blk_cell c 0).trans rfl
  simp [results, Try.results54, asAddr, h', hc, go_sem]
theorem zero113 (W : World) : (zeroValue 113).run Try.prog W = .ok (.agg #[.int .i64 0, .int .i64 0, .string ⟨#[]⟩]) W := by kernel_rfl
theorem info110 : (Try.prog.info? 110).map (fun i => (i.zero, i.size, i.bytes)) = some (some (.agg #[.int .i64 0, .int .i64 0]), 2, 16) := by kernel_rfl
/-- A look into the map. -/
theorem look_pair {u s : ByteArray} {E : DfG} {lo : Nat} {ok : Nat → Prop} {Q : List Ent} {A : Option Addr} {c : Nat} {W : World} (h : DfAt u s E lo ok Q A c W) (hQ : QOk (bl u) (bl s) Q) (a b : Nat) (ha : a ≤ 60) (hb : b ≤ 60) :
    ∃ (x y : Int) (z : ByteArray), (Instr.lookup 108 (.map (some E.B)) (.agg #[.int .i64 ((a : Int) + 1), .int .i64 ((b : Int) + 1)]) true).run Try.prog W = .ok (.tuple #[.agg #[.int .i64 x, .int .i64 y, .string z], .bool (knownB Q (a + 1) (b + 1))]) W := by
  obtain ⟨n, f, m1, m2, m3, m4⟩ := h.mp
  have hk : keyOf Try.prog 110 (.agg #[.int .i64 ((a : Int) + 1), .int .i64 ((b : Int) + 1)]) = some (pairK (a + 1) (b + 1)) := key110 (a + 1) (b + 1) (by omega) (by omega)
  have hl := m1.look_ok (t := 108) (e := 113) keyed110 Try.underlying108 (zero113 W) hk
  cases hkn : knownB Q (a + 1) (b + 1) with
  | true =>
    obtain ⟨e, he, h1, h2⟩ := (knownB_iff _ _ _).1 hkn
    obtain ⟨m, hm, rfl⟩ := List.getElem_of_mem he
    have hm0 : 0 < m := by
      rcases Nat.eq_zero_or_pos m with h0 | h0
      · subst h0
        obtain ⟨t, ht, _⟩ := hQ.hd
        simp only [ht, List.getElem_cons_zero, root] at h1
        omega
      · exact h0
    obtain ⟨m', c', h', _, _, hf⟩ := m3 m hm hm0
    rw [h1, h2] at hf
    rw [hf] at hl
    exact ⟨_, _, _, hl⟩
  | false =>
    have hf := m4 (a + 1) (b + 1) (by omega) (by omega) (fun e he h1 => by
      have : knownB Q (a + 1) (b + 1) = true := (knownB_iff _ _ _).2 ⟨e, List.mem_of_mem_tail he, h1.1, h1.2⟩
      rw [hkn] at this; cases this)
    rw [hf] at hl
    exact ⟨_, _, _, hl⟩
theorem app_pair {w W : World} {base : Nat} {ok : Nat → Prop} {A : Option Addr} {c n : Nat} {xs : List S88} {x : S88} (hn : xs.length = n) (hr : Kd.R k88 110 W base ok (.slice A n c) xs) (hB : Below base w W) (hbase : base ≤ W.heap.size) (hfresh : ∀ k, W.heap.size ≤ k → ok k) (hl : xs.length ≤ 1000000) (i j : Nat) (ops : Array Oper) (rest : List Oper) (o : Oper) (a : Act) (Q : Exit → Act → World → Prop)
    (hgd : o.guard = none) (ho : o.op = .call { callee := .builtin .append, args := #[.tmp i, .tmp j], argTypes := #[111, 111] }) (hs : a.eval (.tmp i) = .slice A n c) (hx : a.eval (.tmp j) = .slice (some ⟨W.heap.size, 0, none⟩) 1 1)
    (h : ∀ A' c' w', Kd.R k88 110 w' base ok (.slice A' (n + 1) c') (xs ++ [x]) → Below base w w' → W.grownBy w' (Value.slice A n c).ownBlock → wpList Try.prog ops Q rest (a.put o.dst (.slice A' (n + 1) c')) w') :
    wpList Try.prog ops Q (o :: rest) a (W.alloc (.cells #[.int .i64 x.f0, .int .i64 x.f1] 110)) := by
  refine Kd.R_append k88 (w0 := w) base hgd (.tmp i) (.tmp j) 111 110 (.agg #[.int .i64 0, .int .i64 0]) 16 ho Try.underlying111 info110 rfl (by decide) (by decide) (.slice A n c) xs x [.int .i64 x.f0, .int .i64 x.f1] ok (fun _ => False) hs hx (k88_mkM _ _ _ _) (fun _ h => h.elim) hfresh hr hB hbase (by omega) ?_
  intro v1 w1 ho hb hg hat
  obtain ⟨A', c', rfl⟩ := Kd.R_slice ho
  have e : (xs ++ [x]).length = n + 1 := by simp [hn]
  rw [e] at ho ⊢
  exact h A' c' w1 ho hb hg
theorem tail_push {Q t : List Ent} {r : Ent} (h : Q = r :: t) (x : Ent) : (Q ++ [x]).tail = Q.tail ++ [x] := by subst h; rfl
/-- The map with one entry more. -/
theorem MapOf.push {Q : List Ent} {f : KMap} (h : MapOf Q f) {u w : List Nat} (hQ : QOk u w Q) (hu : u.length ≤ 60) (hw : w.length ≤ 60) {m c : Nat} (hm : m < Q.length) (hc : c < 4) {i j : Nat} (hi : i ≤ 61) (hj : j ≤ 61) (hk : knownB Q i j = false) :
    MapOf (Q ++ [⟨i, j, (Q[m]).wd ++ [97 + c]⟩]) (f.put (pairK i j) (stepV (Q[m]).i (Q[m]).j (ltr c))) := by
  have key : ∀ i' j', i' ≤ 61 → j' ≤ 61 → ¬ (i' = i ∧ j' = j) → pairK i' j' ≠ pairK i j := fun i' j' h1 h2 h3 e => h3 (pairK_inj (by omega) (by omega) (by omega) (by omega) e)
  refine ⟨fun m2 h2 h0 => ?_, fun i' j' h1 h2 h3 => ?_⟩
  · by_cases e : m2 < Q.length
    · obtain ⟨m', c', h', a, b, d⟩ := h.1 m2 e h0
      refine ⟨m', c', h', a, by rw [List.getElem_append_left e, List.getElem_append_left (by omega)]; exact b, ?_⟩
      rw [List.getElem_append_left e, List.getElem_append_left (by omega)]
      have hle := hQ.le (List.getElem_mem e)
      rw [KMap.put_other f (key _ _ (by omega) (by omega) (fun e2 => by
        have : knownB Q i j = true := (knownB_iff _ _ _).2 ⟨_, List.getElem_mem e, e2.1, e2.2⟩
        rw [hk] at this; cases this))]
      exact d
    · have e2 : m2 = Q.length := by simp at h2; omega
      subst e2
      refine ⟨m, c, hm, hc, by rw [List.getElem_append_right (Nat.le_refl _), List.getElem_append_left hm]; simp, ?_⟩
      rw [List.getElem_append_right (Nat.le_refl _), List.getElem_append_left hm]
      simp only [Nat.sub_self, List.getElem_cons_zero]
      exact KMap.put_same f (keyed110.key (key110 i j (by omega) (by omega))) _
  · have htl : (Q ++ [(⟨i, j, (Q[m]).wd ++ [97 + c]⟩ : Ent)]).tail = Q.tail ++ [⟨i, j, (Q[m]).wd ++ [97 + c]⟩] := by
      obtain ⟨t, ht, _⟩ := hQ.hd
      exact tail_push ht _
    rw [htl] at h3
    rw [KMap.put_other f (key _ _ h1 h2 (fun e => h3 ⟨i, j, (Q[m]).wd ++ [97 + c]⟩ (by simp) ⟨e.1.symm, e.2.symm⟩))]
    exact h.2 i' j' h1 h2 (fun e he => h3 e (List.mem_append_left _ he))
/-- The entry is in: behind the map's store, the append and the queue's box. -/
theorem DfAt.push {u s : ByteArray} {E : DfG} {lo gp : Nat} {Q : List Ent} {A A' : Option Addr} {c c' : Nat} {W W5 W6 : World} {x y : Value} {new : Ent} (h : DfAt u s E lo (fun k => k ≠ gp) Q A c W) (hp : W.heap[gp]? = some (.cells #[x, y] 110 (0, 0)))
    (hm : ∃ n f, MapIs Try.prog 110 W5 E.B n f ∧ n ≤ Q.length + 1 ∧ MapOf (Q ++ [new]) f) (g5 : W.grownBy W5 (some E.B)) (hr : Kd.R k88 110 W6 lo (fun k => k ≠ gp) (.slice A' (Q.length + 1) c') (Q.map pairQ ++ [pairQ new])) (g6 : W5.grownBy W6 (Value.slice A Q.length c).ownBlock) :
    DfAt u s E lo (fun k => k ≠ gp) (Q ++ [new]) A' c' (W6.setCell ⟨E.gq, 0, none⟩ (.slice A' (Q.length + 1) c')) ∧ (W6.setCell ⟨E.gq, 0, none⟩ (.slice A' (Q.length + 1) c')).heap[gp]? = some (.cells #[x, y] 110 (0, 0)) := by
  obtain ⟨n0, f0, m0, _⟩ := h.mp
  obtain ⟨n, f, m1, m2, m3⟩ := hm
  have a5 : ∀ (g : Nat) (cs : Array Value) (t : TypeId), W.heap[g]? = some (.cells cs t (0, 0)) → W5.heap[g]? = some (.cells cs t (0, 0)) := fun g cs t e => blk_grown e g5 (fun e2 => by injection e2 with e2; exact m0.ne e e2.symm)
  have r5 : Kd.R k88 110 W5 lo (fun k => k ≠ gp) (.slice A Q.length c) (Q.map pairQ) := by
    refine Kd.R_mono (Kd.R_move (Kd.R_bound h.row) (fun k hkk => ?_)) (fun k hkk => hkk.1)
    obtain ⟨_, _, _, q, _, cells, hc⟩ := hkk
    rw [hc, a5 _ _ _ hc]
  have a6 : ∀ (g : Nat) (cs : Array Value) (t : TypeId), W.heap[g]? = some (.cells cs t (0, 0)) → t ≠ 110 → W6.heap[g]? = some (.cells cs t (0, 0)) := fun g cs t e ht => blk_grown (a5 g cs t e) g6 (Kd.R_ne r5 (a5 g cs t e) (fun e2 => ht e2.symm))
  have a7 : ∀ (g : Nat) (cs : Array Value) (t : TypeId), W.heap[g]? = some (.cells cs t (0, 0)) → t ≠ 110 → t ≠ 111 → (W6.setCell ⟨E.gq, 0, none⟩ (.slice A' (Q.length + 1) c')).heap[g]? = some (.cells cs t (0, 0)) := fun g cs t e ht ht2 => blk_far (a6 g cs t e ht) (by show g ≠ E.gq; rintro rfl; have := h.cq; rw [e] at this; injection this with this; injection this with _ this; exact ht2 this) _
  have q6 := a6 _ _ _ h.cq (by decide)
  have p6 : W6.heap[gp]? = some (.cells #[x, y] 110 (0, 0)) := blk_grown (a5 _ _ _ hp) g6 (fun e => (h.row.1 gp e.symm) rfl)
  obtain ⟨fx, x1, x2⟩ := h.wx.ex
  obtain ⟨fy, y1, y2⟩ := h.wy.ex
  obtain ⟨o, ho⟩ := h.cr
  have m6 : MapIs Try.prog 110 W6 E.B n f := m1.kept g6 (fun e => by
    obtain ⟨cells, hc⟩ := Kd.R_typed r5 _ e.symm
    exact m1.ne hc rfl)
  refine ⟨⟨a7 _ _ _ h.cx (by decide) (by decide), a7 _ _ _ h.cy (by decide) (by decide), ⟨o, a7 _ _ _ ho (by decide) (by decide)⟩, a7 _ _ _ h.cm (by decide) (by decide), ?_, ?_, ⟨n, f, m6.setCell (m6.ne q6) _, by simpa using m2, m3⟩, ⟨fx, a7 _ _ _ x1 (by decide) (by decide), x2⟩, ⟨fy, a7 _ _ _ y1 (by decide) (by decide), y2⟩, h.lo_⟩, ?_⟩
  · rw [List.length_append]; exact (blk_set q6 0 _).trans rfl
  · rw [List.length_append, List.map_append]
    exact Kd.R_set hr q6 (by decide) 0 _
  · exact blk_far p6 (by show gp ≠ E.gq; rintro rfl; rw [q6] at p6; injection p6 with p6; injection p6 with _ p6; cases p6) _
theorem blk_new_at {w : World} {n : Nat} (h : w.heap.size = n) (cs : Array Value) (t : TypeId) : (w.alloc (.cells cs t)).heap[n]? = some (.cells cs t (0, 0)) := by subst h; exact blk_new w _
theorem size_at {w : World} {n : Nat} (h : w.heap.size = n) (o : Obj) : (w.alloc o).heap.size = n + 1 := by subst h; exact World.size_alloc _ _
/-- Ahead of the search. -/
theorem DfAt.start (u s : ByteArray) (bx bw : Nat) (w : World) (hx : WordAt w bx u) (hw : WordAt w bw s) : DfAt u s ⟨bx, bw, w.heap.size, w.heap.size + 1, w.heap.size + 1 + 1, w.heap.size + 1 + 1 + 1, w.heap.size + 1 + 1 + 1 + 1, w.heap.size + 1 + 1 + 1 + 1 + 1 + 1⟩ w.heap.size (fun _ => True) [root] (some ⟨w.heap.size + 1 + 1 + 1 + 1 + 1, 0, none⟩) 1
    (((((((w.alloc (.cells #[.pointer (some ⟨bx, 0, none⟩)] 70)).alloc (.cells #[.pointer (some ⟨bw, 0, none⟩)] 70)).alloc (.cells #[.string ⟨#[]⟩] 9)).alloc (.map #[] 0)).alloc (.cells #[.map (some (w.heap.size + 1 + 1 + 1))] 108)).alloc (.cells #[.int .i64 0, .int .i64 0] 110)).alloc (.cells #[.slice (some ⟨w.heap.size + 1 + 1 + 1 + 1 + 1, 0, none⟩) 1 1] 111)) ∧ Below w.heap.size w
    (((((((w.alloc (.cells #[.pointer (some ⟨bx, 0, none⟩)] 70)).alloc (.cells #[.pointer (some ⟨bw, 0, none⟩)] 70)).alloc (.cells #[.string ⟨#[]⟩] 9)).alloc (.map #[] 0)).alloc (.cells #[.map (some (w.heap.size + 1 + 1 + 1))] 108)).alloc (.cells #[.int .i64 0, .int .i64 0] 110)).alloc (.cells #[.slice (some ⟨w.heap.size + 1 + 1 + 1 + 1 + 1, 0, none⟩) 1 1] 111)) := by
  obtain ⟨n, hn⟩ : ∃ n, w.heap.size = n := ⟨_, rfl⟩
  rw [hn]
  have c0 := blk_new_at hn #[.pointer (some ⟨bx, 0, none⟩)] 70
  have s0 := size_at hn (.cells #[.pointer (some ⟨bx, 0, none⟩)] 70)
  have b0 : Below w.heap.size w (w.alloc (.cells #[.pointer (some ⟨bx, 0, none⟩)] 70)) := below_alloc (Below.refl _ _) _
  generalize w.alloc (.cells #[.pointer (some ⟨bx, 0, none⟩)] 70) = w0 at *
  have c1 := blk_new_at s0 #[.pointer (some ⟨bw, 0, none⟩)] 70
  have s1 := size_at s0 (.cells #[.pointer (some ⟨bw, 0, none⟩)] 70)
  have b1 : Below w0.heap.size w0 (w0.alloc (.cells #[.pointer (some ⟨bw, 0, none⟩)] 70)) := below_alloc (Below.refl _ _) _
  generalize w0.alloc (.cells #[.pointer (some ⟨bw, 0, none⟩)] 70) = w1 at *
  have c2 := blk_new_at s1 #[.string ⟨#[]⟩] 9
  have s2 := size_at s1 (.cells #[.string ⟨#[]⟩] 9)
  have b2 : Below w1.heap.size w1 (w1.alloc (.cells #[.string ⟨#[]⟩] 9)) := below_alloc (Below.refl _ _) _
  generalize w1.alloc (.cells #[.string ⟨#[]⟩] 9) = w2 at *
  have c3 := MapIs.made w2 Try.prog 110
  have s3 := size_at s2 (.map #[] 0)
  have b3 : Below w2.heap.size w2 (w2.alloc (.map #[] 0)) := below_alloc (Below.refl _ _) _
  rw [s2] at c3
  generalize w2.alloc (.map #[] 0) = w3 at *
  have c4 := blk_new_at s3 #[.map (some (n + 1 + 1 + 1))] 108
  have s4 := size_at s3 (.cells #[.map (some (n + 1 + 1 + 1))] 108)
  have b4 : Below w3.heap.size w3 (w3.alloc (.cells #[.map (some (n + 1 + 1 + 1))] 108)) := below_alloc (Below.refl _ _) _
  generalize w3.alloc (.cells #[.map (some (n + 1 + 1 + 1))] 108) = w4 at *
  have s5 := size_at s4 (.cells #[.int .i64 0, .int .i64 0] 110)
  have b5 : Below w4.heap.size w4 (w4.alloc (.cells #[.int .i64 0, .int .i64 0] 110)) := below_alloc (Below.refl _ _) _
  have c5 : Kd.R k88 110 (w4.alloc (.cells #[.int .i64 0, .int .i64 0] 110)) n (fun _ => True) (.slice (some ⟨n + 1 + 1 + 1 + 1 + 1, 0, none⟩) 1 1) [(⟨0, 0⟩ : S88)] := by
    refine ⟨fun k _ => trivial, ?_⟩
    have h := OwnRow.lit (R := k88.M (w4.alloc (.cells #[.int .i64 0, .int .i64 0] 110)) n (fun k => True ∧ some k ≠ some (n + 1 + 1 + 1 + 1 + 1))) (e := 110) w4 n (Reps.c2 (k88_mkM _ _ _ ⟨0, 0⟩) (Reps.none _ 2)) (by omega) (by decide)
    rw [s4] at h
    exact h
  generalize w4.alloc (.cells #[.int .i64 0, .int .i64 0] 110) = w5 at *
  have c6 := blk_new_at s5 #[.slice (some ⟨n + 1 + 1 + 1 + 1 + 1, 0, none⟩) 1 1] 111
  have b6 : Below w5.heap.size w5 (w5.alloc (.cells #[.slice (some ⟨n + 1 + 1 + 1 + 1 + 1, 0, none⟩) 1 1] 111)) := below_alloc (Below.refl _ _) _
  generalize w5.alloc (.cells #[.slice (some ⟨n + 1 + 1 + 1 + 1 + 1, 0, none⟩) 1 1] 111) = w6 at *
  have d5 := below_step b5 b6
  have d4 := below_step b4 d5
  have d3 := below_step b3 d4
  have d2 := below_step b2 d3
  have d1 := below_step b1 d2
  have d0 := below_step b0 d1
  have d00 := d0
  rw [hn] at d0
  refine ⟨⟨blk_below c0 d1, blk_below c1 d2, ⟨_, blk_below c2 d3⟩, blk_below c4 d5, c6, Kd.R_below c5 b6, ⟨0, _, c3.below d4, by simp, ⟨fun m h h0 => by simp at h; omega, fun _ _ _ _ _ => rfl⟩⟩, hx.below d00, hw.below d00, ?_⟩, d0⟩
  dsimp only
  omega
end Go.Proofs.Ytagdbadljcongaa.X
end

section
/- A range over a function whose body may write a map that lay ahead of the loop. -/
set_option linter.unusedVariables false
set_option linter.unusedSimpArgs false
namespace Go.Proofs.Ytagdbadljcongaa.X
open Go Go.RowKit Go.Proofs.YtagdbadljcongaaW.PrintWords Go.Proofs.YtagdbadljcongaaW.PrintLast Go.Proofs.YtagdbadljcongaaW.PrintMore
section
variable {F : Fence} {n : Nat} {P : Program}
/-- How a round's body may be left. -/
def postG (B : Nat) (I : Nat → World → Prop) (Ix : Code → Nat → World → Prop) (c : Nat) (W : World) : Exit → Act → World → Prop
  | .normal, _, W' => KeepsFrom B W W' ∧ I (c + 1) W'
  | .ret, _, W' => KeepsFrom B W W' ∧ Ix .ret c W'
  | .exit id, _, W' => KeepsFrom B W W' ∧ Ix (.exit id) c W'
  | .goto t, _, W' => KeepsFrom B W W' ∧ Ix (.goto t) c W'
  | .panic _, _, _ => False
  | .outgrown, _, _ => False
theorem wpIn_rangeFunc_G {g : Operand} {ps : Array Tmp} {assign body : Code} {Q : Exit → Act → World → Prop} {a : Act} {w : World}
    (hro : F.round = none) (h1 : 1 ≤ n) {gf : Nat} {lb : Array Value} (hg : a.eval g = .func (.func gf) #[] lb) (hFg : F.fn gf) (eg : ∀ args w, (callFunc gf args).run P w = .ok (.enter gf args) w)
    {encs : Nat → Array Value} {k : Nat} (hseq : SeqJ F (n - 1) P gf lb encs k w) (hps : ∀ x, (encs x).size = ps.size)
    (I : Nat → World → Prop) (Ix : Code → Nat → World → Prop)
    (hI : ∀ c W l o o', w.heap.size ≤ l → W.heap[l]? = some o → o.isCells = false → I c W → I c (W.putObj l o'))
    (hIx : ∀ e c W l o o', w.heap.size ≤ l → W.heap[l]? = some o → o.isCells = false → Ix e c W → Ix e c (W.putObj l o'))
    (h0 : ∀ o o', I 0 ((w.alloc o).alloc o')) (a₁ : Nat → Act)
    (hassign : ∀ (l : Nat) (c : Nat) (W : World) (K : Act → World → Prop), K (a₁ c) W →
      assign.wpIn (F.inRound l) (n - 1 - 1) P (Exit.then K (fun _ _ _ => False)) { tmps := (ps.zip (encs c)).foldl (fun t (p, v) => t.setIfInBounds p v) a.tmps, defers := [] } W)
    (hbody : ∀ (l : Nat) (c : Nat) (W : World), w.heap.size ≤ l → c < k → I c W → body.wpIn (F.inRound l) (n - 1 - 1) P (postG w.heap.size I Ix c W) (a₁ c) W)
    (hdone : ∀ (D : Nat) (W : World), w.heap.size ≤ D → I k W → W.heap[D]? = some (.deferred (some [])) → Q .normal { a with defers := { target := .collected D, args := #[] } :: a.defers } W)
    (hstop : ∀ (D : Nat) (e : Code) (c : Nat) (W : World), w.heap.size ≤ D → c < k → Ix e c W → W.heap[D]? = some (.deferred (some [])) → e.wpIn F n P Q { a with defers := { target := .collected D, args := #[] } :: a.defers } W) :
    (Code.rangeFunc g ps assign body).wpIn F n P Q a w := by
  refine wpIn_rangeFunc ?_
  intro fn hfn
  rw [hro]
  obtain ⟨rec, hrec⟩ : ∃ rec : LoopState → Option Code → Loop, rec = fun st pe => { state := st, pending := pe, fn, tmps := a.tmps, params := ps, assign, body, defers := w.heap.size } := ⟨_, rfl⟩
  obtain ⟨W1, hW1⟩ : ∃ W1, (w.alloc (.deferred (some []))).alloc (.loop (rec .ready none)) = W1 := ⟨_, rfl⟩
  have hL1 : W1.heap[w.heap.size + 1]? = some (.loop (rec .ready none)) := by
    rw [← hW1]; have := World.alloc_heap_new (w.alloc (.deferred (some []))) (.loop (rec .ready none)); rwa [World.size_alloc] at this
  have hK1 : W1.heap[w.heap.size]? = some (.deferred (some [])) := by
    rw [← hW1]; exact (Below.heap_alloc _ _ _ (by simp)).trans (World.alloc_heap_new w _)
  have hI1 : I 0 W1 := by rw [← hW1]; exact h0 _ _
  have hb1 : Below w.heap.size w W1 := by
    rw [← hW1]; exact ((Below.refl _ w).alloc (Nat.le_refl _) _).alloc (by simp) _
  refine ⟨w.heap.size + 1, [{ target := .collected w.heap.size, args := #[] }], W1, { target := .fn (.func gf) lb, args := #[.func (.yield (w.heap.size + 1)) #[] #[]] }, W1, gf,
    #[.func (.yield (w.heap.size + 1)) #[] #[]] ++ lb, W1, ?_, ?_, ?_, ?_, fun _ => h1, ?_⟩
  · rw [← hW1, hrec]; exact run_enterLoop_outer _ _ _ _ _
  · simp only [resolve, hg]
    simp [go_sem]
  · intro f' hf'; simp [Target.leads] at hf'; subst hf'; exact hFg
  · simp [invoke, go_sem, eg]
  · refine (hseq (w.heap.size + 1)
      (fun c W => I c W ∧ W.heap[w.heap.size + 1]? = some (.loop (rec .ready none)) ∧ W.heap[w.heap.size]? = some (.deferred (some [])))
      (fun c W => ∃ e, Ix e c W ∧ W.heap[w.heap.size + 1]? = some (.loop (rec .done (some e))) ∧ W.heap[w.heap.size]? = some (.deferred (some [])))
      W1 hb1 ?_ ⟨hI1, hL1, hK1⟩).mono ?_
    · rintro c W hck ⟨hIc, hl, hk⟩
      have hlt : w.heap.size + 1 < W.heap.size := (Array.getElem?_eq_some_iff.1 hl).1
      have hy := run_yield (P := P) (args := encs c) hl (by rw [hrec]; exact hps c)
      rw [hrec] at hy
      refine ⟨fn, _, assign, body, hy, roundIn_of_wpIn hfn (hassign _ c W _ ⟨_, run_beginRound hl (by rw [hrec]), ?_⟩)⟩
      have hl2 : (W.putObj (w.heap.size + 1) (.loop { rec .ready none with state := .busy })).heap[w.heap.size + 1]? = some (.loop { rec .ready none with state := .busy }) := World.putObj_heap_same hlt
      have hk2 : (W.putObj (w.heap.size + 1) (.loop { rec .ready none with state := .busy })).heap[w.heap.size]? = some (.deferred (some [])) := (World.putObj_heap_other (by omega)).trans hk
      refine wpIn_mono (hbody _ c _ (by omega) hck (hI _ _ _ _ _ (by omega) hl rfl hIc)) ?_
      have fin : ∀ (jump : Option Code) (W3 : World), W3.heap[w.heap.size + 1]? = some (.loop { rec .ready none with state := .busy }) → W3.heap[w.heap.size]? = some (.deferred (some [])) →
          (Instr.endRound (w.heap.size + 1) jump).run P W3 = .ok (.bool jump.isNone) (W3.putObj (w.heap.size + 1) (.loop (rec (if jump.isNone then .ready else .done) jump))) ∧
          (W3.putObj (w.heap.size + 1) (.loop (rec (if jump.isNone then .ready else .done) jump))).heap[w.heap.size + 1]? = some (.loop (rec (if jump.isNone then .ready else .done) jump)) ∧
          (W3.putObj (w.heap.size + 1) (.loop (rec (if jump.isNone then .ready else .done) jump))).heap[w.heap.size]? = some (.deferred (some [])) := fun jump W3 hl3 hk3 => by
        have := run_endRound (P := P) jump hl3
        rw [hrec] at this ⊢
        exact ⟨this, World.putObj_heap_same (Array.getElem?_eq_some_iff.1 hl3).1, (World.putObj_heap_other (by omega)).trans hk3⟩
      rintro e a3 W3 hp
      cases e with
      | normal =>
        obtain ⟨hk3, hi3⟩ := hp
        have h3l := hk3.same _ _ (by omega) hl2 rfl
        obtain ⟨hr, hl4, hk4⟩ := fin none W3 h3l (hk3.same _ _ (by omega) hk2 rfl)
        exact ⟨_, _, hr, .inl ⟨rfl, hI _ _ _ _ _ (by omega) h3l rfl hi3, hl4, hk4⟩⟩
      | ret =>
        obtain ⟨hk3, hi3⟩ := hp
        have h3l := hk3.same _ _ (by omega) hl2 rfl
        obtain ⟨hr, hl4, hk4⟩ := fin (some .ret) W3 h3l (hk3.same _ _ (by omega) hk2 rfl)
        exact ⟨_, _, hr, .inr ⟨rfl, .ret, hIx _ _ _ _ _ _ (by omega) h3l rfl hi3, hl4, hk4⟩⟩
      | exit id =>
        obtain ⟨hk3, hi3⟩ := hp
        have h3l := hk3.same _ _ (by omega) hl2 rfl
        obtain ⟨hr, hl4, hk4⟩ := fin (some (.exit id)) W3 h3l (hk3.same _ _ (by omega) hk2 rfl)
        exact ⟨_, _, hr, .inr ⟨rfl, .exit id, hIx _ _ _ _ _ _ (by omega) h3l rfl hi3, hl4, hk4⟩⟩
      | goto t =>
        obtain ⟨hk3, hi3⟩ := hp
        have h3l := hk3.same _ _ (by omega) hl2 rfl
        obtain ⟨hr, hl4, hk4⟩ := fin (some (.goto t)) W3 h3l (hk3.same _ _ (by omega) hk2 rfl)
        exact ⟨_, _, hr, .inr ⟨rfl, .goto t, hIx _ _ _ _ _ _ (by omega) h3l rfl hi3, hl4, hk4⟩⟩
      | panic ch => exact hp.elim
      | outgrown => exact hp.elim
    · rintro e W2 ⟨⟨v, rfl⟩, (⟨hIk, hl, hk⟩ | ⟨c, hck, cd, hi, hl, hk⟩)⟩
      · exact ⟨none, _, by have := run_endLoop (P := P) hl (by rw [hrec]; simp); rw [hrec] at this; exact this, hdone _ _ (Nat.le_refl _) (hI _ _ _ _ _ (by omega) hl rfl hIk) ((World.putObj_heap_other (by omega)).trans hk)⟩
      · exact ⟨some cd, _, by have := run_endLoop (P := P) hl (by rw [hrec]; simp); rw [hrec] at this; exact this, hstop _ cd c _ (Nat.le_refl _) hck (hIx _ _ _ _ _ _ (by omega) hl rfl hi) ((World.putObj_heap_other (by omega)).trans hk)⟩
end
end Go.Proofs.Ytagdbadljcongaa.X
end
