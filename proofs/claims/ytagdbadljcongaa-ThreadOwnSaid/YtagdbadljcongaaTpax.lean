/- Texts behind ThreadOwn, part 24: contracts of the program's functions and the plain words for them. -/
import Derived.Test.YtagdbadljcongaaTpas
import Derived.Test.YtagdbadljcongaaTpat
import Derived.Test.YtagdbadljcongaaTpau
import Derived.Test.YtagdbadljcongaaTpaw
section
/- thread.Absent. -/
set_option linter.unusedVariables false
set_option linter.unusedSimpArgs false
namespace Go.Proofs.Ytagdbadljcongaa.X
open Go Go.RowKit Go.Proofs.YtagdbadljcongaaW.PrintWords Go.Proofs.YtagdbadljcongaaW.PrintLast Go.Proofs.YtagdbadljcongaaW.PrintMore
attribute [local go_sem] Oper.semAt_some
/-- The cells of an array of 62 numbers. -/
def bcells (f : Nat → Int) : Array Value := ((List.range 62).map fun j => Value.int .i64 (f j)).toArray
theorem bcells_at (f : Nat → Int) (j : Nat) (h : j < 62) : (bcells f)[j]? = some (.int .i64 (f j)) := by simp [bcells, h]
theorem bcells_size (f : Nat → Int) : (bcells f).size = 62 := by simp [bcells]
theorem bcells_set (f : Nat → Int) (j : Nat) (v : Int) (h : j < 62) : (bcells f).setIfInBounds j (.int .i64 v) = bcells (upd f j v) := by
  apply Array.ext_getElem?
  intro i
  rw [Array.getElem?_setIfInBounds, bcells_size]
  by_cases e : j = i
  · subst e
    rw [if_pos rfl, if_pos h, bcells_at _ j h]; simp [upd]
  · rw [if_neg e]
    by_cases hi : i < 62
    · rw [bcells_at f i hi, bcells_at _ i hi]; simp [upd, show i ≠ j by omega]
    · simp [bcells, hi]
theorem bset {w : World} {b : Nat} {f : Nat → Int} (h : w.heap[b]? = some (.cells (bcells f) 79 (0, 0))) (j : Nat) (v : Int) (hj : j < 62) :
    (w.setCell ⟨b, j, none⟩ (.int .i64 v)).heap[b]? = some (.cells (bcells (upd f j v)) 79 (0, 0)) := by
  rw [← bcells_set f j v hj]; exact blk_set h j (.int .i64 v)
theorem zeros62 : #[Value.int IntKind.i64 0, Value.int IntKind.i64 0, Value.int IntKind.i64 0, Value.int IntKind.i64 0, Value.int IntKind.i64 0, Value.int IntKind.i64 0, Value.int IntKind.i64 0, Value.int IntKind.i64 0, Value.int IntKind.i64 0, Value.int IntKind.i64 0, Value.int IntKind.i64 0, Value.int IntKind.i64 0, Value.int IntKind.i64 0, Value.int IntKind.i64 0, Value.int IntKind.i64 0, Value.int IntKind.i64 0, Value.int IntKind.i64 0, Value.int IntKind.i64 0, Value.int IntKind.i64 0, Value.int IntKind.i64 0, Value.int IntKind.i64 0, Value.int IntKind.i64 0, Value.int IntKind.i64 0, Value.int IntKind.i64 0, Value.int IntKind.i64 0, Value.int IntKind.i64 0, Value.int IntKind.i64 0, Value.int IntKind.i64 0, Value.int IntKind.i64 0, Value.int IntKind.i64 0, Value.int IntKind.i64 0, Value.int IntKind.i64 0, Value.int IntKind.i64 0, Value.int IntKind.i64 0, Value.int IntKind.i64 0, Value.int IntKind.i64 0, Value.int IntKind.i64 0, Value.int IntKind.i64 0, Value.int IntKind.i64 0, Value.int IntKind.i64 0, Value.int IntKind.i64 0, Value.int IntKind.i64 0, Value.int IntKind.i64 0, Value.int IntKind.i64 0, Value.int IntKind.i64 0, Value.int IntKind.i64 0, Value.int IntKind.i64 0, Value.int IntKind.i64 0, Value.int IntKind.i64 0, Value.int IntKind.i64 0, Value.int IntKind.i64 0, Value.int IntKind.i64 0, Value.int IntKind.i64 0, Value.int IntKind.i64 0, Value.int IntKind.i64 0, Value.int IntKind.i64 0, Value.int IntKind.i64 0, Value.int IntKind.i64 0, Value.int IntKind.i64 0, Value.int IntKind.i64 0, Value.int IntKind.i64 0, Value.int IntKind.i64 0] = bcells (fun _ => 0) := by kernel_rfl
structure AbG where
  b : Nat
  gx : Nat
  gl : Nat
  go : Nat
  top : Nat
def AbG.Ok (E : AbG) (lo : Nat) : Prop := lo ≤ E.b ∧ E.b < E.gx ∧ E.gx < E.gl ∧ E.gl < E.go ∧ E.go < E.top
structure AbAt (s : ByteArray) (k : Nat) (E : AbG) (ga : Nat) (i : Int) (o : ByteArray) (W : World) : Prop where
  cx : W.heap[E.gx]? = some (.cells #[.pointer (some ⟨E.b, 0, none⟩)] 70 (0, 0))
  cl : ∃ f : Nat → Int, W.heap[E.gl]? = some (.cells (bcells f) 79 (0, 0)) ∧ ∀ j, j < 62 → f j = (lst (bl s) k j : Int)
  co : W.heap[E.go]? = some (.cells #[.string o] 9 (0, 0))
  ca : W.heap[ga]? = some (.cells #[.int .i64 i] 3 (0, 0))
  wd : WordAt W E.b s
  gt : E.go < ga
theorem AbAt.kept {s : ByteArray} {k : Nat} {E : AbG} {ga : Nat} {i : Int} {o : ByteArray} {W W' : World} (h : AbAt s k E ga i o W) (hk : ∀ (g : Nat) (cs : Array Value) (t : TypeId), W.heap[g]? = some (.cells cs t (0, 0)) → W'.heap[g]? = some (.cells cs t (0, 0))) : AbAt s k E ga i o W' := by
  obtain ⟨f, h1, h2⟩ := h.wd.ex
  obtain ⟨fl, h3, h4⟩ := h.cl
  exact ⟨hk _ _ _ h.cx, ⟨fl, hk _ _ _ h3, h4⟩, hk _ _ _ h.co, hk _ _ _ h.ca, ⟨f, hk _ _ _ h1, h2⟩, h.gt⟩
theorem AbAt.below {s : ByteArray} {k : Nat} {E : AbG} {ga : Nat} {i : Int} {o : ByteArray} {W W' : World} (h : AbAt s k E ga i o W) (hb : Below W.heap.size W W') : AbAt s k E ga i o W' := h.kept fun g cs t e => blk_below e hb
theorem AbAt.put {s : ByteArray} {k : Nat} {E : AbG} {ga : Nat} {i : Int} {o : ByteArray} {W : World} (h : AbAt s k E ga i o W) {l : Nat} {ob : Obj} (hl : W.heap[l]? = some ob) (hc : ob.isCells = false) (ob' : Obj) : AbAt s k E ga i o (W.putObj l ob') :=
  h.kept fun g cs t e => by rw [World.putObj_heap_other (fun e2 => by subst e2; rw [hl] at e; injection e with e; subst e; cases hc)]; exact e
theorem AbAt.setO {s : ByteArray} {k : Nat} {E : AbG} {lo ga : Nat} {i : Int} {o : ByteArray} {W : World} (h : AbAt s k E ga i o W) (hE : E.Ok lo) (o' : ByteArray) : AbAt s k E ga i o' (W.setCell ⟨E.go, 0, none⟩ (.string o')) := by
  obtain ⟨f, h1, h2⟩ := h.wd.ex
  obtain ⟨fl, h3, h4⟩ := h.cl
  obtain ⟨e0, e1, e2, e3, e4⟩ := hE
  have e5 := h.gt
  exact ⟨blk_far h.cx (by show E.gx ≠ E.go; omega) _, ⟨fl, blk_far h3 (by show E.gl ≠ E.go; omega) _, h4⟩, (blk_set h.co 0 _).trans rfl, blk_far h.ca (by show ga ≠ E.go; omega) _, ⟨f, blk_far h1 (by show E.b ≠ E.go; omega) _, h2⟩, h.gt⟩
theorem AbAt.setA {s : ByteArray} {k : Nat} {E : AbG} {lo ga : Nat} {i : Int} {o : ByteArray} {W : World} (h : AbAt s k E ga i o W) (hE : E.Ok lo) (i' : Int) : AbAt s k E ga i' o (W.setCell ⟨ga, 0, none⟩ (.int .i64 i')) := by
  obtain ⟨f, h1, h2⟩ := h.wd.ex
  obtain ⟨fl, h3, h4⟩ := h.cl
  obtain ⟨e0, e1, e2, e3, e4⟩ := hE
  have e5 := h.gt
  exact ⟨blk_far h.cx (by show E.gx ≠ ga; omega) _, ⟨fl, blk_far h3 (by show E.gl ≠ ga; omega) _, h4⟩, blk_far h.co (by show E.go ≠ ga; omega) _, (blk_set h.ca 0 _).trans rfl, ⟨f, blk_far h1 (by show E.b ≠ ga; omega) _, h2⟩, h.gt⟩
/-- A new box for the next round's place. -/
theorem AbAt.box {s : ByteArray} {k : Nat} {E : AbG} {ga : Nat} {i : Int} {o : ByteArray} {W : World} (h : AbAt s k E ga i o W) : AbAt s k E W.heap.size i o (W.alloc (.cells #[.int .i64 i] 3)) := by
  have h0 := h.below (below_alloc (Below.refl _ _) (.cells #[.int .i64 i] 3))
  exact ⟨h0.cx, h0.cl, h0.co, blk_new _ _, h0.wd, blk_lt h.co⟩
structure AbLoop (s : ByteArray) (k : Nat) (E : AbG) (w : World) (R : List Nat) (n ga i : Nat) (o : ByteArray) (ds : List Deferred) (W : World) : Prop where
  at_ : AbAt s k E ga i o W
  bel : Below w.heap.size w W
  mks : Marks w.heap.size W ds
  hi : i + n = s.size + 1
  ho : o.size ≤ i
  eq : bl o ++ abs_ (bl s) k i = R
/-- Where a range stands when c letters have been tried; what a pick leaves. -/
structure AbR (s : ByteArray) (k : Nat) (E : AbG) (w : World) (T ga i : Nat) (o : ByteArray) (ds : List Deferred) (c : Nat) (W : World) : Prop where
  at_ : AbAt s k E ga i o W
  no : ∀ d, d < c → good (bl s) k i d = false
  bel : Below w.heap.size w W
  mks : Marks w.heap.size W ds
  dl : ∀ D, ({ target := .collected D, args := #[] } : Deferred) ∈ ds → D < T
structure AbX (s : ByteArray) (k : Nat) (E : AbG) (w : World) (T ga i : Nat) (o : ByteArray) (ds : List Deferred) (c : Nat) (W : World) : Prop where
  ex : ∃ q : Nat, nx (bl s) i (97 + c) = q ∧ AbAt s k E ga ((q : Int) + 1) (o ++ ltr c) W
  no : ∀ d, d < c → good (bl s) k i d = false
  yes : good (bl s) k i c = true
  bel : Below w.heap.size w W
  mks : Marks w.heap.size W ds
  dl : ∀ D, ({ target := .collected D, args := #[] } : Deferred) ∈ ds → D < T
theorem AbR.put {s : ByteArray} {k : Nat} {E : AbG} {w W : World} {T ga i : Nat} {o : ByteArray} {ds : List Deferred} {c : Nat} (h : AbR s k E w T ga i o ds c W) (hT : w.heap.size ≤ T) {l : Nat} {ob : Obj} (hl : T ≤ l) (ho : W.heap[l]? = some ob) (hc : ob.isCells = false) (ob' : Obj) : AbR s k E w T ga i o ds c (W.putObj l ob') :=
  ⟨h.at_.put ho hc ob', h.no, below_put h.bel (by omega) _, h.mks.put (fun D hD e => by have := h.dl D hD; omega) _, h.dl⟩
theorem AbX.put {s : ByteArray} {k : Nat} {E : AbG} {w W : World} {T ga i : Nat} {o : ByteArray} {ds : List Deferred} {c : Nat} (h : AbX s k E w T ga i o ds c W) (hT : w.heap.size ≤ T) {l : Nat} {ob : Obj} (hl : T ≤ l) (ho : W.heap[l]? = some ob) (hc : ob.isCells = false) (ob' : Obj) : AbX s k E w T ga i o ds c (W.putObj l ob') := by
  obtain ⟨q, h1, h2⟩ := h.ex
  exact ⟨⟨q, h1, h2.put ho hc ob'⟩, h.no, h.yes, below_put h.bel (by omega) _, h.mks.put (fun D hD e => by have := h.dl D hD; omega) _, h.dl⟩
theorem AbR.below {s : ByteArray} {k : Nat} {E : AbG} {w W W' : World} {T ga i : Nat} {o : ByteArray} {ds : List Deferred} {c : Nat} (h : AbR s k E w T ga i o ds c W) (hb : Below W.heap.size W W') : AbR s k E w T ga i o ds c W' :=
  ⟨h.at_.below hb, h.no, below_step h.bel hb, h.mks.below hb, h.dl⟩
/-- A letter was picked: the loop goes on. -/
theorem AbX.next {s : ByteArray} {k : Nat} {E : AbG} {w W : World} {T ga n i : Nat} {o : ByteArray} {ds : List Deferred} {c D : Nat} {R : List Nat} (h : AbX s k E w T ga i o ds c W) (hc : c < k) (hk4 : k ≤ 4) (hi : i + (n + 1) = s.size + 1) (ho : o.size ≤ i) (heq : bl o ++ abs_ (bl s) k i = R)
    (hT : w.heap.size ≤ T) (hD : T ≤ D) (hDW : W.heap[D]? = some (.deferred (some []))) : ∃ m q : Nat, m < n + 1 ∧ AbAt s k E ga ((q : Int) + 1) (o ++ ltr c) W ∧ AbLoop s k E w R m W.heap.size (q + 1) (o ++ ltr c) ({ target := .collected D, args := #[] } :: ds) (W.alloc (.cells #[.int .i64 ((q : Int) + 1)] 3)) := by
  obtain ⟨q, h1, h2⟩ := h.ex
  have hil : i ≤ (bl s).length := by rw [bl_length]; omega
  have hq := nx_le (bl s) i (97 + c) hil
  rw [h1, bl_length] at hq
  refine ⟨s.size - q, q, by omega, h2, ⟨by simpa using h2.box, below_alloc h.bel _, ?_, by omega, by rw [size_ltr]; omega, ?_⟩⟩
  · exact (h.mks.cons (by omega) hDW (fun D' hD' e => by have := h.dl D' hD'; omega)).below (below_alloc (Below.refl _ _) _)
  · rw [abs_step hil hc h.yes h.no, h1] at heq
    rw [bl_ltr o (by omega), ← heq]
    simp
structure PreAb (s : ByteArray) (b gx gl : Nat) (f : Nat → Int) (w wr : World) : Prop where
  cx : wr.heap[gx]? = some (.cells #[.pointer (some ⟨b, 0, none⟩)] 70 (0, 0))
  cl : wr.heap[gl]? = some (.cells (bcells f) 79 (0, 0))
  wd : WordAt wr b s
  bel : Below w.heap.size w wr
theorem PreAb.set {s : ByteArray} {b gx gl : Nat} {f : Nat → Int} {w wr : World} (h : PreAb s b gx gl f w wr) (h1 : w.heap.size ≤ b) (h2 : b < gx) (h3 : gx < gl) (j : Nat) (hj : j < 62) (v : Int) : PreAb s b gx gl (upd f j v) w (wr.setCell ⟨gl, j, none⟩ (.int .i64 v)) := by
  obtain ⟨g, e1, e2⟩ := h.wd.ex
  exact ⟨blk_far h.cx (by show gx ≠ gl; omega) _, bset h.cl j v hj, ⟨g, blk_far e1 (by show b ≠ gl; omega) _, e2⟩, h.bel.setCell (by show w.heap.size ≤ gl; omega) _⟩
def AbPost (R : List Nat) (w : World) (e : Ending) (w' : World) : Prop := ∃ o, bl o = R ∧ e = .returned (.tuple #[.string o, .int .i64 0]) ∧ Below w.heap.size w w'
set_option maxHeartbeats 8000000 in
set_option maxRecDepth 100000 in
theorem absent_ok (s : ByteArray) (k : Nat) (w : World) (hs : isW (bl s) = true) (hk : 1 ≤ k) (hk4 : k ≤ 4) (ho : ovr (bl s) k = true) (R : List Nat) (hR : abs_ (bl s) k 0 = R) : Calls Try.prog 19 #[.string s, .int .i64 k] w (AbPost R w) := by
  have HS := Aside0.mk hs
  have HS60 := Aside0.mk (show s.size ≤ 60 by rw [← bl_length]; exact ((isW_iff _).1 hs).1)
  have HK := Aside0.mk hk
  have HK4 := Aside0.mk hk4
  have HO := Aside0.mk ho
  have HRR := Aside0.mk hR
  have kI1 : (1 : Int) ≤ (k : Int) := by omega
  have kI4 : (k : Int) ≤ 4 := by omega
  clear hs hk hk4 ho hR
  refine (callsIn_wide (n := 3)).1 (callsIn_of_wp_marks Try.func19 rfl trivial (wpIn_wide.2 ?_))
  simp only [Try.ntmps19, List.size_toArray, List.length_cons, List.length_nil, Nat.reduceAdd, Nat.reduceSub, Array.replicate_succ, Array.replicate_zero, List.push_toArray, List.append_toArray, List.nil_append, List.cons_append]
  go_upto_region 5 with (first | (go_at_call 48; (with_reducible refine (newWord_yes s _ HS.out).mono ?_); rintro e w1 ⟨rfl, hwd, hb⟩; have HWS := Aside0.mk hwd; have HB := Aside0.mk hb; clear hwd hb) | (go_at_call 49; (with_reducible refine (within_y _ _ _ _ (by omega) (by omega)).mono ?_); rintro e w2 ⟨rfl, HDR⟩; have HB2 := Aside0.mk HDR.below; clear HDR) | (go_at_call 50; (with_reducible refine (over_any s k _ HS.out HK.out HK4.out true HO.out).mono ?_); rintro e w3 ⟨rfl, hb⟩; have HB3 := Aside0.mk hb; clear hb))
  rw [zeros62]
  obtain ⟨b, hb⟩ : ∃ b, w.heap.size = b := ⟨_, rfl⟩
  obtain ⟨gx, hgx⟩ : ∃ gx, w1.heap.size = gx := ⟨_, rfl⟩
  obtain ⟨gl, hgl⟩ : ∃ gl, w3.heap.size = gl := ⟨_, rfl⟩
  have HORD := Aside0.mk (show w.heap.size ≤ b ∧ b < gx ∧ gx < gl by
    obtain ⟨_, e1, _⟩ := HWS.out.ex
    have h1 := blk_lt e1
    have h2 := HB2.out.size
    have h3 := HB3.out.size
    rw [World.size_alloc] at h2
    omega)
  have HST := Aside0.mk (show PreAb s b gx gl (fun _ => 0) w (w3.alloc (.cells (bcells fun _ => 0) 79)) by
    have hb3 := below_alloc (Below.refl w3.heap.size w3) (.cells (bcells fun _ => 0) 79)
    have hb2 := below_step HB3.out hb3
    have hb1 := below_step HB2.out hb2
    have hb0 := below_step (below_alloc (Below.refl w1.heap.size w1) (.cells #[.pointer (some ⟨w.heap.size, 0, none⟩)] 70)) hb1
    subst hb hgx hgl
    exact ⟨blk_below (blk_new _ _) hb1, blk_new _ _, HWS.out.below hb0, below_step HB.out hb0⟩)
  obtain ⟨W0, hW0⟩ : ∃ W0, w3.alloc (.cells (bcells fun _ => 0) 79) = W0 := ⟨_, rfl⟩
  rw [hW0] at HST ⊢
  simp only [hgx, hgl]
  clear hb hgx hgl hW0 HWS HB HB2 HB3
  go_wp2
  go_loopw [9] (fun v9 wr => ∃ (i : Int) (f : Nat → Int), v9 = .int .i64 i ∧ -1 ≤ i ∧ i ≤ (s.size : Int) ∧ Aside0 (PreAb s b gx gl f w wr) ∧ Aside0 (∀ j : Nat, i < (j : Int) → j < 62 → f j = (lst (bl s) k j : Int))) (fun v9 _ => (intOf v9 + 1).toNat)
  case atStart => exact ⟨s.size, _, rfl, by omega, by omega, HST, ⟨fun j hj _ => by unfold lst; rw [if_neg (by rw [bl_length]; omega)]; rfl⟩⟩
  case round =>
    clear HST
    obtain ⟨i, f, rfl, hi1, hi2, HP, HF⟩ := hrel
    by_cases hp : 0 ≤ i
    · obtain ⟨i, rfl⟩ := Int.eq_ofNat_of_zero_le hp
      have hi : i ≤ s.size := by omega
      obtain ⟨m, hm⟩ : ∃ m, amx (bl s) k i = m := ⟨_, rfl⟩
      have hm1 := amx_le (k := k) (show i ≤ (bl s).length by rw [bl_length]; exact hi)
      rw [hm, bl_length] at hm1
      have HM := Aside0.mk hm
      have HM1 := Aside0.mk hm1
      have HI := Aside0.mk hi
      have iI : (i : Int) < 61 := by have := HS60.out; omega
      have iI0 : (0 : Int) ≤ (i : Int) := by omega
      have mI : (m : Int) ≤ 60 := by have := HS60.out; omega
      have x1 : wr.cell? ⟨gx, 0, none⟩ = some (.pointer (some ⟨b, 0, none⟩)) := (blk_cell HP.out.cx 0).trans rfl
      obtain ⟨z, hz⟩ : ∃ z : Int, (lst (bl s) k (m + 1) : Int) = z := ⟨_, rfl⟩
      have l1 : wr.cell? ⟨gl, m + 1, none⟩ = some (.int .i64 z) := (blk_cell HP.out.cl _).trans ((bcells_at _ _ (by omega)).trans (by rw [HF.out _ (by omega) (by omega), hz]))
      have l2 : wr.cell? ⟨gl, i, none⟩ = some (.int .i64 (f i)) := (blk_cell HP.out.cl _).trans (bcells_at _ _ (by omega))
      have l3 := blk_frozen HP.out.cl i
      have HZ := Aside0.mk (show (lst (bl s) k i : Int) = 1 + z by rw [lst_eq (by rw [bl_length]; exact hi), hm, ← hz]; omega)
      have zI : z ≤ 62 := by have := lst_le (bl s) k (m + 1); rw [bl_length] at this; have := HS60.out; omega
      have zI0 : 0 ≤ z := by omega
      have HPS := Aside0.mk (HP.out.set HORD.out.1 HORD.out.2.1 HORD.out.2.2 i (by omega) (1 + z))
      clear hp hi1 hi2 hm hm1 hi hz
      go_wp2_with (go_at_call 51; (with_reducible refine (max_word _ b k _ i m s HP.out.wd HS60.out HI.out HK.out HK4.out HM.out).mono ?_); rintro e w' ⟨rfl, rfl⟩)
      go_roundw
      case rel => exact ⟨(i : Int) - 1, _, rfl, by omega, by have := HI.out; omega, HPS, ⟨fun j hj hj2 => by
        unfold upd
        by_cases e : j = i
        · subst e; rw [if_pos rfl, HZ.out]
        · rw [if_neg e]; exact HF.out j (by omega) hj2⟩⟩
      case measure => simp [intOf]
    · obtain rfl : i = -1 := by omega
      clear hp hi1 hi2
      go_wp2
      obtain ⟨E, hE⟩ : ∃ E : AbG, E = ⟨b, gx, gl, wr.heap.size, wr.heap.size + 1⟩ := ⟨_, rfl⟩
      have HEO := Aside0.mk (show E.Ok w.heap.size by
        have h1 := HORD.out
        have h2 := blk_lt HP.out.cl
        subst hE; unfold AbG.Ok; dsimp only; omega)
      have HST := Aside0.mk (show AbLoop s k E w R (s.size + 1) (wr.heap.size + 1) 0 ⟨#[]⟩ [] ((wr.alloc (.cells #[.string ⟨#[]⟩] 9)).alloc (.cells #[.int .i64 0] 3)) by
        have hb := below_alloc (below_alloc (Below.refl wr.heap.size wr) (.cells #[.string ⟨#[]⟩] 9)) (.cells #[.int .i64 0] 3)
        subst hE
        refine ⟨⟨blk_below HP.out.cx hb, ⟨f, blk_below HP.out.cl hb, fun j hj => HF.out j (by omega) hj⟩, blk_alloc (blk_new _ _) _, ?_, HP.out.wd.below hb, Nat.lt_succ_self _⟩, below_step HP.out.bel hb, trivial, by omega, by simp [ByteArray.size], by rw [HRR.out]; simp [bl]⟩
        have := blk_new (wr.alloc (.cells #[.string ⟨#[]⟩] 9)) (.cells #[.int .i64 0] 3)
        rwa [World.size_alloc] at this)
      have hg : E.gx = gx ∧ E.gl = gl ∧ E.go = wr.heap.size := by rw [hE]; exact ⟨rfl, rfl, rfl⟩
      obtain ⟨g1, g2, g3⟩ := hg
      obtain ⟨W0, hW0⟩ : ∃ W0, (wr.alloc (.cells #[.string ⟨#[]⟩] 9)).alloc (.cells #[.int .i64 0] 3) = W0 := ⟨_, rfl⟩
      rw [hW0] at HST ⊢
      clear hW0 hE HF HP HRR HORD
      refine act_named (fun A hA => ?_)
      refine wp_loop_ghost_k (fun n a wr => ∃ (ga i : Nat) (o : ByteArray) (ds : List Deferred), ∃ U : Array Value, Aside0 (AbLoop s k E w R n ga i o ds wr) ∧ a = { tmps := #[.string s, .int .i64 k, sl U 2, sl U 3, sl U 4, sl U 5, .pointer (some ⟨E.gx, 0, none⟩), sl U 7, .pointer (some ⟨E.gl, 0, none⟩), sl U 9, .pointer (some ⟨E.go, 0, none⟩), .pointer (some ⟨ga, 0, none⟩), sl U 12, sl U 13, sl U 14, sl U 15, sl U 16, sl U 17, sl U 18, sl U 19, sl U 20, sl U 21, sl U 22, sl U 23, sl U 24, sl U 25, sl U 26, sl U 27, sl U 28, sl U 29, sl U 30, sl U 31, sl U 32, sl U 33, sl U 34, sl U 35, sl U 36, sl U 37, sl U 38, sl U 39, sl U 40, sl U 41, sl U 42, sl U 43, sl U 44, sl U 45, sl U 46, sl U 47, sl U 48, sl U 49, sl U 50, sl U 51, sl U 52, sl U 53, sl U 54, sl U 55, sl U 56, sl U 57, sl U 58, sl U 59, sl U 60, sl U 61, sl U 62, sl U 63, sl U 64, sl U 65, sl U 66, sl U 67, sl U 68, sl U 69, sl U 70, sl U 71, sl U 72, sl U 73, sl U 74, sl U 75, sl U 76, sl U 77, sl U 78, sl U 79, sl U 80, sl U 81, sl U 82, sl U 83], defers := ds }) (s.size + 1) ?_ ?_
      · refine ⟨wr.heap.size + 1, 0, ⟨#[]⟩, [], ex_act HST ?_⟩
        rw [hA, g1, g2, g3]
        rfl
      clear HST g1 g2 g3 hA A
      intro n a wq hI J K hJ hK
      obtain ⟨ga, i, o, ds, U, HI, rfl⟩ := hI
      dsimp only
      have a1 : wq.cell? ⟨ga, 0, none⟩ = some (.int .i64 i) := (blk_cell HI.out.at_.ca 0).trans rfl
      have c2 : wq.cell? ⟨E.go, 0, none⟩ = some (.string o) := (blk_cell HI.out.at_.co 0).trans rfl
      cases n with
      | zero =>
        have h1 : ¬ ((i : Int) ≤ (s.size : Int)) := by have := HI.out.hi; omega
        go_wp2
        refine leaves_marks ds _ HI.out.mks (fun W' hs hc hb => ⟨.tuple #[.string o, .int .i64 0], by simp [results, Try.results19, go_sem], o, ?_, rfl, HI.out.bel.trans hb⟩) HI.out.bel.size
        have := HI.out.eq
        rwa [abs_end (by rw [bl_length]; have := HI.out.hi; omega), List.append_nil] at this
      | succ n =>
        have h1 : ((i : Int) ≤ (s.size : Int)) := by have := HI.out.hi; omega
        have HIL := Aside0.mk (show i ≤ s.size by omega)
        go_wp2_with (go_at_call 52; (with_reducible refine (alphabet_calls k _).mono ?_); rintro e w7 ⟨rfl, rfl⟩)
        obtain ⟨Ws, hWs⟩ : ∃ Ws, wq.alloc (.cells #[.int .i64 (k : Int)] 3) = Ws := ⟨_, rfl⟩
        have hRI : AbR s k E w Ws.heap.size ga i o ds 0 Ws := by
          subst hWs
          have hb := below_alloc (Below.refl wq.heap.size wq) (.cells #[.int .i64 (k : Int)] 3)
          exact ⟨HI.out.at_.below hb, by omega, below_step HI.out.bel hb, HI.out.mks.below hb, fun D hD => by have := blk_lt (HI.out.mks.lt hD); simp; omega⟩
        have hbx : Ws.heap[wq.heap.size]? = some (.cells #[.int .i64 k] 3 (0, 0)) := by rw [← hWs]; exact blk_new _ _
        rw [hWs]
        have HRI := Aside0.mk hRI
        have HBX := Aside0.mk hbx
        have HT := Aside0.mk (show w.heap.size ≤ Ws.heap.size from hRI.bel.size)
        clear hWs hRI hbx a1 c2
        refine (wpIn_wide (n := 3)).1 ?_
        refine wpIn_rangeFunc_J (F := Fence.wide) rfl (by decide) (gf := 70) (lb := #[.pointer (some ⟨wq.heap.size, 0, none⟩)]) rfl trivial (enters_of Try.func70 (by kernel_rfl) rfl) (alphabet_seq k wq.heap.size Ws HK4.out HBX.out) (fun _ => rfl)
          (fun c W => AbR s k E w Ws.heap.size ga i o ds c W) (fun e c W => e = .exit 4 ∧ AbX s k E w Ws.heap.size ga i o ds c W) (fun c W l ob ob' hl ho hc h => h.put HT.out hl ho hc ob') (fun e c W l ob ob' hl ho hc h => ⟨h.1, h.2.put HT.out hl ho hc ob'⟩) ?h0 ?a1 ?assign ?body ?done ?stop
        case h0 => exact fun ob ob' => HRI.out.below (below_alloc (below_alloc (Below.refl _ _) _) _)
        case assign =>
          intro l x W K hK
          gi_wp2
          exact hK
        case body =>
          intro l c W hl hc hI
          have hat := hI.at_
          have HIR := Aside0.mk hI
          have HAT := Aside0.mk hat
          have HC := Aside0.mk hc
          have t1 : W.cell? ⟨E.gx, 0, none⟩ = some (.pointer (some ⟨E.b, 0, none⟩)) := (blk_cell hat.cx 0).trans rfl
          have t2 : W.cell? ⟨ga, 0, none⟩ = some (.int .i64 i) := (blk_cell hat.ca 0).trans rfl
          obtain ⟨q, hq⟩ : ∃ q, nx (bl s) i (97 + c) = q := ⟨_, rfl⟩
          have hq1 := nx_le (bl s) i (97 + c) (by rw [bl_length]; exact HIL.out)
          rw [hq, bl_length] at hq1
          have t3 : W.cell? ⟨E.b, 1 + i * 4 + c, none⟩ = some (.int .i64 q) := by rw [← hq]; exact hat.wd.cell HS60.out HIL.out (by have := HK4.out; omega)
          obtain ⟨fl, l1, l2⟩ := hat.cl
          obtain ⟨z, hz⟩ : ∃ z : Int, (lst (bl s) k (q + 1) : Int) = z := ⟨_, rfl⟩
          obtain ⟨y, hy⟩ : ∃ y : Int, (lst (bl s) k i : Int) = y := ⟨_, rfl⟩
          have t4 : W.cell? ⟨E.gl, q + 1, none⟩ = some (.int .i64 z) := by rw [← hz, ← l2 (q + 1) (by have := HS60.out; omega)]; exact (blk_cell l1 _).trans (bcells_at _ _ (by have := HS60.out; omega))
          have t5 : W.cell? ⟨E.gl, i, none⟩ = some (.int .i64 y) := by rw [← hy, ← l2 i (by have := HS60.out; have := HIL.out; omega)]; exact (blk_cell l1 _).trans (bcells_at _ _ (by have := HS60.out; have := HIL.out; omega))
          have o1 : W.cell? ⟨E.go, 0, none⟩ = some (.string o) := (blk_cell hat.co 0).trans rfl
          have o2 := blk_frozen hat.co 0
          have a2 := blk_frozen hat.ca 0
          have hgd : good (bl s) k i c = decide (1 + z = y) := by unfold good; rw [hq, ← hz, ← hy]; congr 1; simp only [eq_iff_iff]; omega
          have HGD := Aside0.mk hgd
          have HQ := Aside0.mk hq
          have iI : (i : Int) < 61 := by have := HS60.out; have := HIL.out; omega
          have iI62 : (i : Int) < 62 := by omega
          have iI0 : (0 : Int) ≤ (i : Int) := by omega
          have cI : (c : Int) < 4 := by have := HK4.out; omega
          have cI0 : (0 : Int) ≤ (c : Int) := by omega
          have qI : (q : Int) + 1 < 62 := by have := HS60.out; omega
          have qI0 : (0 : Int) ≤ (q : Int) + 1 := by omega
          have qI8 : ((q : Int) + 1).toNat = q + 1 := by omega
          have zI : z ≤ 62 := by have := lst_le (bl s) k (q + 1); rw [bl_length] at this; have := HS60.out; omega
          have zI0 : 0 ≤ z := by omega
          have w1 : IntKind.i64.wrap ((q : Int) + 1) = (q : Int) + 1 := IntWalk.i64_in _ (by omega)
          have w2 : IntKind.i64.wrap (1 + z) = 1 + z := IntWalk.i64_in _ (by omega)
          have hsz : o.size + (ltr c).size ≤ 9223372036854775807 := by have := HI.out.ho; have := HS60.out; have := HIL.out; show o.size + 1 ≤ _; omega
          have HA2 := HAT.out.setO HEO.out (o ++ ltr c)
          have a3 : (W.setCell ⟨E.go, 0, none⟩ (.string (o ++ ltr c))).cell? ⟨ga, 0, none⟩ = some (.int .i64 i) := (blk_cell HA2.ca 0).trans rfl
          have a4 := blk_frozen HA2.ca 0
          clear hI hat hc hl hq hq1 hgd l1 l2 HA2 hz hy
          gi_wp2
          refine start_in (m := 10) (S := fun w' => w'.cell? ⟨E.gx, 0, none⟩ = some (.pointer (some ⟨E.b, 0, none⟩)) ∧ w'.cell? ⟨ga, 0, none⟩ = some (.int .i64 i) ∧ w'.cell? ⟨E.b, 1 + i * 4 + c, none⟩ = some (.int .i64 q)) (ds := []) #[false, false, false, false, false, false, false, false, false, false] (by kernel_rfl) rfl rfl ⟨t1, t2, t3⟩ (by kernel_rfl) (by rintro ⟨a_, w_, h_⟩; exact h_) (fun hHeld => ?_)
          refine take_ (i := 0) (N := (some 61)) (v := ?_) (a' := ?_) #[true, false, false, false, false, false, false, false, false, false] rfl rfl (by kernel_rfl) (fun _ _ _ h => h) (Or.inl ⟨by rfl, ?_⟩) hHeld ?_ ?_
          rotate_left
          · rintro w' ⟨s0, s1, s2⟩
            go_simp
            with_reducible rfl
          rotate_left
          · simp only [Act.put, List.setIfInBounds_toArray, List.set_cons_zero, List.set_cons_succ, i64_w, i32_w]
            rfl
          refine take_ (i := 1) (N := (some 62)) (v := ?_) (a' := ?_) #[true, true, false, false, false, false, false, false, false, false] rfl rfl (by kernel_rfl) (fun _ _ _ h => h) (Or.inl ⟨by rfl, ?_⟩) hHeld ?_ ?_
          rotate_left
          · rintro w' ⟨s0, s1, s2⟩
            go_simp
            with_reducible rfl
          rotate_left
          · simp only [Act.put, List.setIfInBounds_toArray, List.set_cons_zero, List.set_cons_succ, i64_w, i32_w]
            rfl
          refine pure_ (i := 2) (N := (some 63)) (v := ?_) (a' := ?_) #[true, true, true, false, false, false, false, false, false, false] rfl rfl (by kernel_rfl) (fun _ _ _ h => h) (Or.inl ⟨by rfl, ?_⟩) ?_ ?_
          rotate_left
          · intro w'
            go_simp
            with_reducible rfl
          rotate_left
          · simp only [Act.put, List.setIfInBounds_toArray, List.set_cons_zero, List.set_cons_succ, i64_w, i32_w]
            rfl
          refine pure_ (i := 3) (N := (some 64)) (v := ?_) (a' := ?_) #[true, true, true, true, false, false, false, false, false, false] rfl rfl (by kernel_rfl) (fun _ _ _ h => h) (Or.inl ⟨by rfl, ?_⟩) ?_ ?_
          rotate_left
          · intro w'
            go_simp
            with_reducible rfl
          rotate_left
          · simp only [Act.put, List.setIfInBounds_toArray, List.set_cons_zero, List.set_cons_succ, i64_w, i32_w]
            rfl
          refine pure_ (i := 4) (N := (some 65)) (v := ?_) (a' := ?_) #[true, true, true, true, true, false, false, false, false, false] rfl rfl (by kernel_rfl) (fun _ _ _ h => h) (Or.inl ⟨by rfl, ?_⟩) ?_ ?_
          rotate_left
          · intro w'
            go_simp
            with_reducible rfl
          rotate_left
          · simp only [Act.put, List.setIfInBounds_toArray, List.set_cons_zero, List.set_cons_succ, i64_w, i32_w]
            rfl
          refine pure_ (i := 5) (N := (some 66)) (v := ?_) (a' := ?_) #[true, true, true, true, true, true, false, false, false, false] rfl rfl (by kernel_rfl) (fun _ _ _ h => h) (Or.inl ⟨by rfl, ?_⟩) ?_ ?_
          rotate_left
          · intro w'
            go_simp
            with_reducible rfl
          rotate_left
          · simp only [Act.put, List.setIfInBounds_toArray, List.set_cons_zero, List.set_cons_succ, i64_w, i32_w]
            rfl
          refine pure_ (i := 6) (N := (some 67)) (v := ?_) (a' := ?_) #[true, true, true, true, true, true, true, false, false, false] rfl rfl (by kernel_rfl) (fun _ _ _ h => h) (Or.inl ⟨by rfl, ?_⟩) ?_ ?_
          rotate_left
          · intro w'
            go_simp
            with_reducible rfl
          rotate_left
          · simp only [Act.put, List.setIfInBounds_toArray, List.set_cons_zero, List.set_cons_succ, i64_w, i32_w]
            rfl
          refine take_ (i := 7) (N := (some 68)) (v := ?_) (a' := ?_) #[true, true, true, true, true, true, true, true, false, false] rfl rfl (by kernel_rfl) (fun _ _ _ h => h) (Or.inl ⟨by rfl, ?_⟩) hHeld ?_ ?_
          rotate_left
          · rintro w' ⟨s0, s1, s2⟩
            go_simp
            with_reducible rfl
          rotate_left
          · simp only [Act.put, List.setIfInBounds_toArray, List.set_cons_zero, List.set_cons_succ, i64_w, i32_w]
            rfl
          refine pure_ (i := 8) (N := (some 69)) (v := ?_) (a' := ?_) #[true, true, true, true, true, true, true, true, true, false] rfl rfl (by kernel_rfl) (fun _ _ _ h => h) (Or.inl ⟨by rfl, ?_⟩) ?_ ?_
          rotate_left
          · intro w'
            go_simp
            with_reducible rfl
          rotate_left
          · simp only [Act.put, List.setIfInBounds_toArray, List.set_cons_zero, List.set_cons_succ, i64_w, i32_w]
            rfl
          refine pure_ (i := 9) (N := (some 14)) (v := ?_) (a' := ?_) #[true, true, true, true, true, true, true, true, true, true] rfl rfl (by kernel_rfl) (fun _ _ _ h => h) (Or.inl ⟨by rfl, ?_⟩) ?_ ?_
          rotate_left
          · intro w'
            go_simp
            with_reducible rfl
          rotate_left
          · simp only [Act.put, List.setIfInBounds_toArray, List.set_cons_zero, List.set_cons_succ, i64_w, i32_w]
            rfl
          refine done_ (by kernel_rfl) ?_
          gi_wp2
          refine start_in (m := 8) (S := fun w' => w'.cell? ⟨E.gl, q + 1, none⟩ = some (.int .i64 z) ∧ w'.cell? ⟨ga, 0, none⟩ = some (.int .i64 i) ∧ w'.cell? ⟨E.gl, i, none⟩ = some (.int .i64 y)) (ds := []) #[false, false, false, false, false, false, false, false] (by kernel_rfl) rfl rfl ⟨t4, t2, t5⟩ (by kernel_rfl) (by rintro ⟨a_, w_, h_⟩; exact h_) (fun hHeld => ?_)
          refine pure_ (i := 0) (N := (some 70)) (v := ?_) (a' := ?_) #[true, false, false, false, false, false, false, false] rfl rfl (by kernel_rfl) (fun _ _ _ h => h) (Or.inl ⟨by rfl, ?_⟩) ?_ ?_
          rotate_left
          · intro w'
            go_simp
            with_reducible rfl
          rotate_left
          · simp only [Act.put, List.setIfInBounds_toArray, List.set_cons_zero, List.set_cons_succ, i64_w, i32_w]
            rfl
          refine pure_ (i := 1) (N := (some 71)) (v := ?_) (a' := ?_) #[true, true, false, false, false, false, false, false] rfl rfl (by kernel_rfl) (fun _ _ _ h => h) (Or.inl ⟨by rfl, ?_⟩) ?_ ?_
          rotate_left
          · intro w'
            go_simp
            with_reducible rfl
          rotate_left
          · simp only [Act.put, List.setIfInBounds_toArray, List.set_cons_zero, List.set_cons_succ, i64_w, i32_w]
            rfl
          refine take_ (i := 2) (N := (some 72)) (v := ?_) (a' := ?_) #[true, true, true, false, false, false, false, false] rfl rfl (by kernel_rfl) (fun _ _ _ h => h) (Or.inl ⟨by rfl, ?_⟩) hHeld ?_ ?_
          rotate_left
          · rintro w' ⟨s0, s1, s2⟩
            go_simp
            with_reducible rfl
          rotate_left
          · simp only [Act.put, List.setIfInBounds_toArray, List.set_cons_zero, List.set_cons_succ, i64_w, i32_w]
            rfl
          refine pure_ (i := 3) (N := (some 73)) (v := ?_) (a' := ?_) #[true, true, true, true, false, false, false, false] rfl rfl (by kernel_rfl) (fun _ _ _ h => h) (Or.inl ⟨by rfl, ?_⟩) ?_ ?_
          rotate_left
          · intro w'
            go_simp
            with_reducible rfl
          rotate_left
          · simp only [Act.put, List.setIfInBounds_toArray, List.set_cons_zero, List.set_cons_succ, i64_w, i32_w]
            rfl
          refine take_ (i := 4) (N := (some 74)) (v := ?_) (a' := ?_) #[true, true, true, true, true, false, false, false] rfl rfl (by kernel_rfl) (fun _ _ _ h => h) (Or.inl ⟨by rfl, ?_⟩) hHeld ?_ ?_
          rotate_left
          · rintro w' ⟨s0, s1, s2⟩
            go_simp
            with_reducible rfl
          rotate_left
          · simp only [Act.put, List.setIfInBounds_toArray, List.set_cons_zero, List.set_cons_succ, i64_w, i32_w]
            rfl
          refine pure_ (i := 5) (N := (some 75)) (v := ?_) (a' := ?_) #[true, true, true, true, true, true, false, false] rfl rfl (by kernel_rfl) (fun _ _ _ h => h) (Or.inl ⟨by rfl, ?_⟩) ?_ ?_
          rotate_left
          · intro w'
            go_simp
            with_reducible rfl
          rotate_left
          · simp only [Act.put, List.setIfInBounds_toArray, List.set_cons_zero, List.set_cons_succ, i64_w, i32_w]
            rfl
          refine take_ (i := 6) (N := (some 76)) (v := ?_) (a' := ?_) #[true, true, true, true, true, true, true, false] rfl rfl (by kernel_rfl) (fun _ _ _ h => h) (Or.inl ⟨by rfl, ?_⟩) hHeld ?_ ?_
          rotate_left
          · rintro w' ⟨s0, s1, s2⟩
            go_simp
            with_reducible rfl
          rotate_left
          · simp only [Act.put, List.setIfInBounds_toArray, List.set_cons_zero, List.set_cons_succ, i64_w, i32_w]
            rfl
          refine pure_ (i := 7) (N := (some 77)) (v := ?_) (a' := ?_) #[true, true, true, true, true, true, true, true] rfl rfl (by kernel_rfl) (fun _ _ _ h => h) (Or.inl ⟨by rfl, ?_⟩) ?_ ?_
          rotate_left
          · intro w'
            go_simp
            with_reducible rfl
          rotate_left
          · simp only [Act.put, List.setIfInBounds_toArray, List.set_cons_zero, List.set_cons_succ, i64_w, i32_w]
            rfl
          refine done_ (by kernel_rfl) ?_
          by_cases hzy : 1 + z = y
          · have hb1 : (1 + z == y) = true := beq_iff_eq.mpr hzy
            have HZY := Aside0.mk hzy
            clear hzy
            have hb := below_drew (below_drew (Below.refl W.heap.size W))
            have HX := Aside0.mk (show AbX s k E w Ws.heap.size ga i o ds c ((W.drew.drew.setCell ⟨E.go, 0, none⟩ (.string (o ++ ltr c))).setCell ⟨ga, 0, none⟩ (.int .i64 ((q : Int) + 1))) from
              ⟨⟨q, HQ.out, ((HAT.out.below hb).setO HEO.out _).setA HEO.out _⟩, HIR.out.no, by rw [HGD.out]; exact decide_eq_true HZY.out, by
                have h1 := HEO.out
                unfold AbG.Ok at h1
                have h2 := HAT.out.gt
                exact ((below_step HIR.out.bel hb).setCell (by show w.heap.size ≤ E.go; omega) _).setCell (by show w.heap.size ≤ ga; omega) _, by
                exact ((HIR.out.mks.below hb).keepsOthers (KeepsOthers.setCell _ _ _)).keepsOthers (KeepsOthers.setCell _ _ _), HIR.out.dl⟩)
            have HKO := Aside0.mk (((keepsOf hb).trans (KeepsOthers.setCell W.drew.drew ⟨E.go, 0, none⟩ (.string (o ++ ltr c)))).trans (KeepsOthers.setCell _ ⟨ga, 0, none⟩ (.int .i64 ((q : Int) + 1))))
            clear hb
            gi_wp2
            exact ⟨HKO.out, rfl, HX.out⟩
          · have hb1 : (1 + z == y) = false := beq_eq_false_iff_ne.mpr hzy
            have HZY := Aside0.mk hzy
            clear hzy
            gi_wp2
            have hb := below_drew (below_drew (Below.refl W.heap.size W))
            have hr := HIR.out.below hb
            exact ⟨keepsOf hb, hr.at_, fun d hd => by
              by_cases e : d = c
              · subst e; rw [HGD.out]; exact decide_eq_false HZY.out
              · exact hr.no d (by omega), hr.bel, hr.mks, hr.dl⟩
        case done =>
          intro D W hD hI hKd
          exfalso
          obtain ⟨c, h1, h2⟩ := good_ex (l := bl s) (k := k) (i := i) (by rw [bl_length]; exact HIL.out) HK.out
          rw [hI.no c h1] at h2
          cases h2
        case stop =>
          rintro D e c W hD hc ⟨rfl, hX⟩ hKd
          obtain ⟨m, q, hm, hA, hL⟩ := hX.next hc HK4.out HI.out.hi HI.out.ho HI.out.eq HT.out hD hKd
          have HL := Aside0.mk hL
          have HM := Aside0.mk hm
          have a5 : W.cell? ⟨ga, 0, none⟩ = some (.int .i64 ((q : Int) + 1)) := (blk_cell hA.ca 0).trans rfl
          clear hX hL hm hKd hD hc hA
          gi_wp2
          go_wp2
          refine Handed.intro m HM.out ?_
          go_step
          refine ⟨W.heap.size, q + 1, o ++ ltr c, { target := .collected D, args := #[] } :: ds, ?_⟩
          exact ex_act HL rfl
end Go.Proofs.Ytagdbadljcongaa.X
end

section
namespace Go.Proofs.Ytagdbadljcongaa.X
open Go.RowKit Go.Proofs.YtagdbadljcongaaW.PrintWords Go.Proofs.YtagdbadljcongaaW.PrintLast Go.Proofs.YtagdbadljcongaaW.PrintMore
attribute [local go_sem] max2_int min2_int max_two min_two max_three min_three max_four min_four   -- for this text's walks alone
set_option linter.unusedVariables false
set_option linter.unusedSimpArgs false

def tickinglaw03_ints.l0 : Nat → List Int → List Int → Int → Option (Bool)
 | 0, _, _, _ => none
 | k + 1, x0, x1, x5 => if x5 < (x0.length : Int) then (if 0 ≤ x5 then (if x5 < (x1.length : Int) then (if (rd x0 x5) = (rd x1 x5) then (tickinglaw03_ints.l0 k x0 x1 (wrap64 (x5 + 1))) else (some false)) else (none)) else (none)) else (some true)
def tickinglaw03_ints.f (k : Nat) (l0 : List Int) (l1 : List Int) : Option (Bool) := if (l0.length : Int) = (l1.length : Int) then (tickinglaw03_ints.l0 k l0 l1 0) else (some false)
set_option maxHeartbeats 8000000 in
set_option maxRecDepth 100000 in
theorem tickinglaw03_ints.calls (k : Nat) (A0 : Option Addr) (c0 : Nat) (l0 : List Int) (A1 : Option Addr) (c1 : Nat) (l1 : List Int) (r : Bool) (w : World) (hr0 : Kd.C (Kd.int .i64) w A0 l0.length l0) (hc0 : l0.length ≤ c0) (hr1 : Kd.C (Kd.int .i64) w A1 l1.length l1) (hc1 : l1.length ≤ c1) (h : tickinglaw03_ints.f k l0 l1 = some r) :
  Calls Try.prog 23 #[.slice A0 l0.length c0, .slice A1 l1.length c1] w fun e w' => e = .returned (.bool r) ∧ Drawn0 w w' := by
 have HR0 := Aside0.mk hr0
 have HC0 := Aside0.mk hc0
 clear hr0 hc0
 have HR1 := Aside0.mk hr1
 have HC1 := Aside0.mk hc1
 clear hr1 hc1
 have H : (if (l0.length : Int) = (l1.length : Int) then (tickinglaw03_ints.l0 k l0 l1 0) else (some false)) = some r := h
 clear h
 by_cases c3 : (l0.length : Int) = (l1.length : Int)
 ·rw [if_pos c3] at H
  have c3b0 : ((l0.length : Int) == (l1.length : Int)) = true := beq_iff_eq.mpr c3
  have c3b1 : ((l0.length : Int) != (l1.length : Int)) = false := bne_eq_false_iff_eq.mpr c3
  have c3b2 : (l0.length == l1.length) = true := by first | simpa using c3 | (simp at c3 ⊢; omega)
  clear c3
  have H' := Aside0.mk H
  clear H
  go_enter Try.func23, Try.ntmps23
  go_wp2
  repeat (go_quiet (fail); try go_wp2)
  go_loopg [5] k (fun kq v5 w' => ∃ (x5_1 : Int), v5 = .int .i64 x5_1 ∧ Aside0 (tickinglaw03_ints.l0 kq l0 l1 x5_1 = some r) ∧ Aside0 (kq ≤ k) ∧ Drawn0 w w')
  case atStart => exact ⟨(0), (by first | rfl | (simp; done) | (simp [*]; done)), H', ⟨Nat.le_refl _⟩, by repeat (first | exact Drawn0.refl _ | apply Drawn0.step)⟩
  case round =>
   clear H'
   try clear c1
   try clear c2
   try clear p2
   try clear c3
   try clear c3b0
   try clear c3b1
   try clear c3b2
   obtain ⟨x5_1, rfl, HA, HK1, ⟨m1, rfl⟩⟩ := hrel
   cases gk with
   | zero => exact absurd HA.out (by simp [tickinglaw03_ints.l0])
   | succ k1 =>
    have H := HA.out
    clear HA
    simp only [tickinglaw03_ints.l0] at H
    by_cases c4 : x5_1 < (l0.length : Int)
    ·rw [if_pos c4] at H
     have c4b0 : decide (x5_1 < (l0.length : Int)) = true := decide_eq_true c4
     clear c4
     by_cases c5 : 0 ≤ x5_1
     ·rw [if_pos c5] at H
      have c5b0 : decide (0 ≤ x5_1) = true := decide_eq_true c5
      clear c5
      by_cases c6 : x5_1 < (l1.length : Int)
      ·rw [if_pos c6] at H
       have c6b0 : decide (x5_1 < (l1.length : Int)) = true := decide_eq_true c6
       clear c6
       by_cases c7 : (rd l0 x5_1) = (rd l1 x5_1)
       ·rw [if_pos c7] at H
        have c7b0 : ((rd l0 x5_1) == (rd l1 x5_1)) = true := beq_iff_eq.mpr c7
        have c7b1 : ((rd l0 x5_1) != (rd l1 x5_1)) = false := bne_eq_false_iff_eq.mpr c7
        clear c7
        have H' := Aside0.mk H
        clear H
        have p102 : 0 ≤ (x5_1 : Int) := of_decide_eq_true az
        have q102 : x5_1 < (l0.length : Int) := of_decide_eq_true az
        obtain ⟨ad102, e102, hx102_0⟩ := Kd.at_int HR0.out x5_1 p102 q102
        cases e102
        replace p102 := eq_true p102
        replace q102 := eq_true q102
        have p103 : 0 ≤ (x5_1 : Int) := of_decide_eq_true az
        have q103 : x5_1 < (l1.length : Int) := of_decide_eq_true az
        obtain ⟨ad103, e103, hx103_0⟩ := Kd.at_int HR1.out x5_1 p103 q103
        cases e103
        replace p103 := eq_true p103
        replace q103 := eq_true q103
        go_wp2
        repeat (go_quiet (fail); try go_wp2)
        go_roundg k1
        case measure => have := HK1.out; omega
        case rel => exact ⟨(wrap64 (x5_1 + 1)), (by first | rfl | (simp; done) | (simp [*]; done)), H', ⟨by have := HK1.out; omega⟩, by repeat (first | exact Drawn0.refl _ | apply Drawn0.step)⟩
       ·rw [if_neg c7] at H
        have c7b0 : ((rd l0 x5_1) == (rd l1 x5_1)) = false := beq_eq_false_iff_ne.mpr c7
        have c7b1 : ((rd l0 x5_1) != (rd l1 x5_1)) = true := bne_iff_ne.mpr c7
        obtain rfl := Option.some.inj H
        have p102 : 0 ≤ (x5_1 : Int) := of_decide_eq_true az
        have q102 : x5_1 < (l0.length : Int) := of_decide_eq_true az
        obtain ⟨ad102, e102, hx102_0⟩ := Kd.at_int HR0.out x5_1 p102 q102
        cases e102
        replace p102 := eq_true p102
        replace q102 := eq_true q102
        have p103 : 0 ≤ (x5_1 : Int) := of_decide_eq_true az
        have q103 : x5_1 < (l1.length : Int) := of_decide_eq_true az
        obtain ⟨ad103, e103, hx103_0⟩ := Kd.at_int HR1.out x5_1 p103 q103
        cases e103
        replace p103 := eq_true p103
        replace q103 := eq_true q103
        go_wp2
        repeat (go_quiet (fail); try go_wp2)
        go_ret
        exact ⟨by first | rfl | (simp; done) | (simp [*]; done), by repeat (first | exact Drawn0.refl _ | apply Drawn0.step)⟩
      ·rw [if_neg c6] at H
       exact absurd H (by simp)
     ·rw [if_neg c5] at H
      exact absurd H (by simp)
    ·rw [if_neg c4] at H
     have c4b0 : decide (x5_1 < (l0.length : Int)) = false := decide_eq_false c4
     clear c4
     obtain rfl := Option.some.inj H
     go_wp2
     repeat (go_quiet (fail); try go_wp2)
     go_ret
     exact ⟨by first | rfl | (simp; done) | (simp [*]; done), by repeat (first | exact Drawn0.refl _ | apply Drawn0.step)⟩
 ·rw [if_neg c3] at H
  have c3b0 : ((l0.length : Int) == (l1.length : Int)) = false := beq_eq_false_iff_ne.mpr c3
  have c3b1 : ((l0.length : Int) != (l1.length : Int)) = true := bne_iff_ne.mpr c3
  have c3b2 : (l0.length == l1.length) = false := by first | simpa using c3 | (simp at c3 ⊢; omega)
  obtain rfl := Option.some.inj H
  go_enter Try.func23, Try.ntmps23
  go_wp2
  repeat (go_quiet (fail); try go_wp2)
  go_ret
  exact ⟨by first | rfl | (simp; done) | (simp [*]; done), by repeat (first | exact Drawn0.refl _ | apply Drawn0.step)⟩

end Go.Proofs.Ytagdbadljcongaa.X
end

section
/- tickinglaw03.awake. -/
set_option linter.unusedVariables false
set_option linter.unusedSimpArgs false
namespace Go.Proofs.Ytagdbadljcongaa.X
open Go Go.RowKit Go.Proofs Go.Proofs.YtagdbadljcongaaW.PrintWords Go.Proofs.YtagdbadljcongaaW.PrintLast Go.Proofs.YtagdbadljcongaaW.PrintMore
theorem bl_inj {a b : ByteArray} (h : bl a = bl b) : a = b := by
  unfold bl at h
  have h1 := (List.map_inj_right (fun x y e => UInt8.toNat_inj.1 e)).1 h
  exact Go.WideShapes.bytes_inj h1
/-- A literal list of strings, of numbers. -/
theorem lit_str (W : World) (s : ByteArray) : Kd.C Kd.string (W.alloc (.cells #[.string s] 9)) (some ⟨W.heap.size, 0, none⟩) 1 [s] := by
  have h : Kd.R Kd.string 9 (W.alloc (.cells #[.string s] 9)) 0 (fun _ => True) (.slice (some ⟨W.heap.size, 0, none⟩) 1 1) [s] :=
    ⟨fun k _ => trivial, OwnRow.lit (R := Kd.string.M (W.alloc (.cells #[.string s] 9)) 0 (fun k => True ∧ some k ≠ some W.heap.size)) (e := 9) W 0 (Reps.one rfl (Reps.none _ 1)) (by omega) (by simp)⟩
  exact (Kd.R_reads' h).2.2
theorem lit_1 (W : World) (a : Int) : Kd.C (Kd.int .i64) (W.alloc (.cells #[.int .i64 a] 3)) (some ⟨W.heap.size, 0, none⟩) 1 [a] := by
  have h : Kd.R (Kd.int .i64) 3 (W.alloc (.cells #[.int .i64 a] 3)) 0 (fun _ => True) (.slice (some ⟨W.heap.size, 0, none⟩) 1 1) [a] :=
    ⟨fun k _ => trivial, OwnRow.lit (R := (Kd.int .i64).M (W.alloc (.cells #[.int .i64 a] 3)) 0 (fun k => True ∧ some k ≠ some W.heap.size)) (e := 3) W 0 (Reps.one rfl (Reps.none _ 1)) (by omega) (by simp)⟩
  exact (Kd.R_reads' h).2.2
theorem lit_4 (W : World) (a b c d : Int) : Kd.C (Kd.int .i64) (W.alloc (.cells #[.int .i64 a, .int .i64 b, .int .i64 c, .int .i64 d] 3)) (some ⟨W.heap.size, 0, none⟩) 4 [a, b, c, d] := by
  have h : Kd.R (Kd.int .i64) 3 (W.alloc (.cells #[.int .i64 a, .int .i64 b, .int .i64 c, .int .i64 d] 3)) 0 (fun _ => True) (.slice (some ⟨W.heap.size, 0, none⟩) 4 4) [a, b, c, d] :=
    ⟨fun k _ => trivial, OwnRow.lit (R := (Kd.int .i64).M (W.alloc (.cells #[.int .i64 a, .int .i64 b, .int .i64 c, .int .i64 d] 3)) 0 (fun k => True ∧ some k ≠ some W.heap.size)) (e := 3) W 0 (Reps.one rfl (Reps.one rfl (Reps.one rfl (Reps.one rfl (Reps.none _ 1))))) (by omega) (by simp)⟩
  exact (Kd.R_reads' h).2.2
def sAbab : ByteArray := ⟨#[97, 98, 97, 98]⟩
def sAbb : ByteArray := ⟨#[97, 98, 98, 97, 99, 97, 98]⟩
def sAb : ByteArray := ⟨#[97, 98]⟩
def sBa : ByteArray := ⟨#[98, 97]⟩
theorem v1 : cs (bl sAbab) = 12 := by decide +kernel
theorem v2 : arch (bl sAbb) 3 0 = [4] := by decide +kernel
theorem v3 : abs_ (bl sAbb) 3 0 = [99, 99] := by decide +kernel
theorem v4 : diffW (bl sAb) (bl sBa) = some [97, 98] := by decide +kernel
theorem v5 : freeL ([sAb].map bl) 2 3 = [1, 2, 3, 4] := by decide +kernel
theorem i1 : isW (bl sAbab) = true := by decide +kernel
theorem i2 : isW (bl sAbb) = true := by decide +kernel
theorem i3 : isW (bl sAb) = true := by decide +kernel
theorem i4 : isW (bl sBa) = true := by decide +kernel
theorem i5 : ovr (bl sAbb) 3 = true := by decide +kernel
theorem i6 : famB [sAb] = true := by decide +kernel
/-- Equal lists. -/
theorem ints_ev (l : List Int) (hl : l.length ≤ 1000000) : ∀ d i, i + d = l.length → tickinglaw03_ints.l0 (d + 1) l l (i : Int) = some true
  | 0, i, h => by
    unfold tickinglaw03_ints.l0
    rw [if_neg (by omega)]
  | d + 1, i, h => by
    unfold tickinglaw03_ints.l0
    rw [if_pos (by omega)]
    simp only [ge_iff_le, show (0 : Int) ≤ (i : Int) by omega, if_true, show (i : Int) < (l.length : Int) by omega]
    rw [show wrap64 ((i : Int) + 1) = ((i + 1 : Nat) : Int) by rw [IntWalk.wrap64_in _ (by omega)]; omega]
    simpa using ints_ev l hl d (i + 1) (by omega)
theorem ints_yes (A0 : Option Addr) (c0 : Nat) (A1 : Option Addr) (c1 : Nat) (l : List Int) (w : World) (hl : l.length ≤ 1000000) (h0 : Kd.C (Kd.int .i64) w A0 l.length l) (hc0 : l.length ≤ c0) (h1 : Kd.C (Kd.int .i64) w A1 l.length l) (hc1 : l.length ≤ c1) :
    Calls Try.prog 23 #[.slice A0 l.length c0, .slice A1 l.length c1] w fun e w' => e = .returned (.bool true) ∧ Drawn0 w w' := by
  refine tickinglaw03_ints.calls (l.length + 1) A0 c0 l A1 c1 l true w h0 hc0 h1 hc1 ?_
  unfold tickinglaw03_ints.f
  simpa using ints_ev l hl l.length 0 (by omega)
theorem aw1 (w : World) : Calls Try.prog 27 #[.string ⟨#[97, 98, 97, 98]⟩] w fun e w' => e = .returned (.tuple #[.int .i64 12, .int .i64 0]) ∧ Below w.heap.size w w' := by
  refine Calls.mono (count_y sAbab w i1) ?_
  rintro e w' ⟨rfl, hb⟩
  exact ⟨by rw [v1]; rfl, hb⟩
theorem aw2 (w : World) : Calls Try.prog 18 #[.string ⟨#[97, 98, 98, 97, 99, 97, 98]⟩, .int .i64 3] w fun e w' => ∃ A c, e = .returned (.tuple #[.slice A 1 c, .int .i64 0]) ∧ Aside0 (1 ≤ c ∧ Kd.C (Kd.int .i64) w' A 1 [4]) ∧ Below w.heap.size w w' := by
  refine Calls.mono (arches_ok sAbb 3 w i2 (by decide) (by decide) i5 [4] v2) ?_
  rintro e w' ⟨v, rfl, hr, hb⟩
  obtain ⟨A, c, rfl⟩ := Kd.R_slice hr
  obtain ⟨_, h2, h3⟩ := Kd.R_reads' hr
  exact ⟨A, c, rfl, ⟨h2, h3⟩, hb⟩
theorem aw3 (w : World) : Calls Try.prog 19 #[.string ⟨#[97, 98, 98, 97, 99, 97, 98]⟩, .int .i64 3] w fun e w' => e = .returned (.tuple #[.string ⟨#[99, 99]⟩, .int .i64 0]) ∧ Below w.heap.size w w' := by
  refine Calls.mono (absent_ok sAbb 3 w i2 (by decide) (by decide) i5 [99, 99] v3) ?_
  rintro e w' ⟨o, ho, rfl, hb⟩
  have : o = ⟨#[99, 99]⟩ := bl_inj ho
  subst this
  exact ⟨rfl, hb⟩
theorem aw4 (w : World) : Calls Try.prog 28 #[.string ⟨#[97, 98]⟩, .string ⟨#[98, 97]⟩] w fun e w' => e = .returned (.tuple #[.string ⟨#[97, 98]⟩, .int .i64 0]) ∧ Below w.heap.size w w' := by
  refine Calls.mono (Differ_ok sAb sBa w i3 i4 (by decide) (some [97, 98]) v4) ?_
  rintro e w' ⟨o, ho, rfl, hb⟩
  have : o = ⟨#[97, 98]⟩ := bl_inj ho
  subst this
  exact ⟨rfl, hb⟩
theorem aw5 (w : World) : Calls Try.prog 43 #[.slice (some ⟨w.heap.size, 0, none⟩) 1 1, .int .i64 2, .int .i64 3] (w.alloc (.cells #[.string ⟨#[97, 98]⟩] 9)) fun e w' => ∃ A c, e = .returned (.tuple #[.slice A 4 c, .int .i64 0]) ∧ Aside0 (4 ≤ c ∧ Kd.C (Kd.int .i64) w' A 4 [1, 2, 3, 4]) ∧ Below (w.alloc (.cells #[.string ⟨#[97, 98]⟩] 9)).heap.size (w.alloc (.cells #[.string ⟨#[97, 98]⟩] 9)) w' := by
  refine Calls.mono (free_ok (some ⟨w.heap.size, 0, none⟩) 1 [sAb] (w.alloc (.cells #[.string ⟨#[97, 98]⟩] 9)) (lit_str w sAb) (by decide) (by decide) i6 2 3 (by decide) (by decide) (by decide)) ?_
  rintro e w' ⟨A, c, rfl, hr, hb⟩
  rw [v5] at hr ⊢
  obtain ⟨_, h2, h3⟩ := Kd.R_reads' hr
  exact ⟨A, c, rfl, ⟨h2, h3⟩, hb⟩
set_option maxHeartbeats 8000000 in
set_option maxRecDepth 1000000 in
theorem awake_ok (w : World) : Calls Try.prog 22 #[] w fun e w' => e = .returned (.bool true) ∧ Below w.heap.size w w' := by
  go_enter Try.func22, Try.ntmps22
  go_upto_region 6 with (first | (go_at_call 27; (with_reducible refine (aw1 _).mono ?_); rintro e wa ⟨rfl, hb⟩; have HBA := Aside0.mk hb; clear hb) | (go_at_call 18; (with_reducible refine (aw2 _).mono ?_); rintro e wb ⟨Aa, ca, rfl, HRA, hb⟩; have HBB := Aside0.mk (below_step HBA.out hb); clear hb) | (go_at_call 19; (with_reducible refine (aw3 _).mono ?_); rintro e wc ⟨rfl, hb⟩; have HBC := Aside0.mk (below_step HBB.out hb); have HRC := Aside0.mk (Kd.C_below HRA.out.2 hb); clear hb) | (go_at_call 28; (with_reducible refine (aw4 _).mono ?_); rintro e wd ⟨rfl, hb⟩; have HBD := Aside0.mk (below_step HBC.out hb); have HRD := Aside0.mk (Kd.C_below HRC.out hb); clear hb) | (go_at_call 43; (with_reducible refine (aw5 _).mono ?_); rintro e we ⟨Af, cf, rfl, HRF, hb⟩; have HBE := Aside0.mk (below_step HBD.out (below_step (below_alloc (Below.refl _ _) _) hb)); have HRE := Aside0.mk (Kd.C_below HRD.out (below_step (below_alloc (Below.refl _ _) _) hb)); clear hb))
  have KA := Aside0.mk (show Calls Try.prog 23 #[.slice Aa 1 ca, .slice (some ⟨we.heap.size, 0, none⟩) 1 1] (we.alloc (.cells #[.int .i64 4] 3)) fun e w' => e = .returned (.bool true) ∧ Drawn0 (we.alloc (.cells #[.int .i64 4] 3)) w' from
    ints_yes _ _ _ _ [4] _ (by decide) (Kd.C_below HRE.out (below_alloc (Below.refl _ _) _)) HRA.out.1 (lit_1 we 4) (by decide))
  have KB := Aside0.mk (fun (wg : World) (h : Below we.heap.size we wg) => show Calls Try.prog 23 #[.slice Af 4 cf, .slice (some ⟨wg.heap.size, 0, none⟩) 4 4] (wg.alloc (.cells #[.int .i64 1, .int .i64 2, .int .i64 3, .int .i64 4] 3)) fun e w' => e = .returned (.bool true) ∧ Drawn0 (wg.alloc (.cells #[.int .i64 1, .int .i64 2, .int .i64 3, .int .i64 4] 3)) w' from
    ints_yes _ _ _ _ [1, 2, 3, 4] _ (by decide) (Kd.C_below HRF.out.2 (below_alloc h _)) HRF.out.1 (lit_4 wg 1 2 3 4) (by decide))
  go_wp2_with (first | (go_at_call 23; (with_reducible refine KA.out.mono ?_); rintro e wf ⟨rfl, hd⟩; have HBF := Aside0.mk (below_step (below_alloc (Below.refl we.heap.size we) _) hd.below); clear hd) | (go_at_call 23; (with_reducible refine (KB.out _ HBF.out).mono ?_); rintro e wh ⟨rfl, hd⟩; have HBH := Aside0.mk (below_step HBF.out (below_step (below_alloc (Below.refl _ _) _) hd.below)); clear hd))
  go_ret
  exact ⟨rfl, below_step HBE.out HBH.out⟩
end Go.Proofs.Ytagdbadljcongaa.X
end

section
namespace Go.Proofs.Ytagdbadljcongaa.X
open Go.RowKit Go.Proofs.YtagdbadljcongaaW.PrintWords Go.Proofs.YtagdbadljcongaaW.PrintLast Go.Proofs.YtagdbadljcongaaW.PrintMore
attribute [local go_sem] max2_int min2_int max_two min_two max_three min_three max_four min_four   -- for this text's walks alone
set_option linter.unusedVariables false
set_option linter.unusedSimpArgs false

def tickinglaw03_short.f (a0 : ByteArray) : Option (ByteArray) := if 0 ≤ (mn (a0.size : Int) 61) then (if (mn (a0.size : Int) 61) ≤ (a0.size : Int) then (some (a0.extract 0 ((mn (a0.size : Int) 61) : Int).toNat)) else (none)) else (none)
set_option maxHeartbeats 8000000 in
set_option maxRecDepth 100000 in
theorem tickinglaw03_short.calls (a0 : ByteArray) (r : ByteArray) (w : World) (h : tickinglaw03_short.f a0 = some r) :
  Calls Try.prog 17 #[.string a0] w fun e w' => e = .returned (.string r) ∧ Below w.heap.size w w' := by
 have HB := Aside0.mk (Below.refl w.heap.size w)
 have H : (if 0 ≤ (mn (a0.size : Int) 61) then (if (mn (a0.size : Int) 61) ≤ (a0.size : Int) then (some (a0.extract 0 ((mn (a0.size : Int) 61) : Int).toNat)) else (none)) else (none)) = some r := h
 clear h
 obtain ⟨ji2, hji2⟩ : ∃ j_ : Int, (mn (a0.size : Int) 61) = j_ := ⟨_, rfl⟩
 replace H : (if 0 ≤ (ji2) then (if (ji2) ≤ (a0.size : Int) then (some (a0.extract 0 ((ji2) : Int).toNat)) else (none)) else (none)) = some r := by first | (rw [hji2] at H; exact H) | (simp only [hji2] at H ⊢; exact H)
 (try (have hji2h : ji2 ≤ 61 := by (rw [← hji2]; unfold mn; (repeat' split) <;> omega)))
 (try (have hji2g : ji2 ≤ 64 := by omega))
 (try (have hji2l : 0 ≤ ji2 := by (rw [← hji2]; unfold mn; (repeat' split) <;> omega)))
 (try (have hji2m : 0 ≤ ji2 := by omega))
 have hji2_ : (if 61 < (a0.size : Int) then 61 else (a0.size : Int)) = ji2 := hji2
 by_cases c3 : 0 ≤ (ji2)
 ·rw [if_pos c3] at H
  have c3b0 := eq_true c3
  have c3b1 : decide (0 ≤ (ji2)) = true := decide_eq_true c3
  clear c3
  by_cases c4 : (ji2) ≤ (a0.size : Int)
  ·rw [if_pos c4] at H
   have c4b0 := eq_true c4
   have c4b1 : decide ((ji2) ≤ (a0.size : Int)) = true := decide_eq_true c4
   clear c4
   obtain rfl := Option.some.inj H
   go_enter Try.func17, Try.ntmps17
   go_wp2
   go_ret
   exact ⟨by first | rfl | (simp [errW_none, errW_some] <;> rfl) | (simp only [← hji2]; first | rfl | (simp [errW_none, errW_some] <;> rfl)) | (simp [*, errW_none, errW_some] <;> rfl), by repeat (first | (with_reducible first | exact HB.out | apply below_alloc | apply pw_below_drewN | apply below_drew1) | exact HB.out)⟩
  ·rw [if_neg c4] at H
   exact absurd H (by simp)
 ·rw [if_neg c3] at H
  exact absurd H (by simp)

end Go.Proofs.Ytagdbadljcongaa.X
end

section
/- cmp.Compare of strings, thread.byLength. -/
set_option linter.unusedVariables false
set_option linter.unusedSimpArgs false
namespace Go.Proofs.Ytagdbadljcongaa.X
open Go Go.RowKit Go.Proofs Go.Proofs.YtagdbadljcongaaW.PrintWords Go.Proofs.YtagdbadljcongaaW.PrintLast Go.Proofs.YtagdbadljcongaaW.PrintMore
theorem gtr_run (a b : ByteArray) (W : World) : (binOp .gtr 9 (.string a) (.string b)).run Try.prog W = .ok (.bool !(Op.bytesLess a.toList b.toList || a.toList == b.toList)) W := by kernel_rfl
theorem isNaN_s (a : ByteArray) (w : World) : Calls Try.prog 91 #[.string a] w fun e w' => e = .returned (.bool false) ∧ Drawn0 w w' := cmp_isNaN_string.calls a false w (by unfold cmp_isNaN_string.f; simp)
set_option maxHeartbeats 1000000 in
set_option maxRecDepth 100000 in
theorem cmps_any (a b : ByteArray) (w : World) (x y : Bool) (hx : Op.bytesLess a.toList b.toList = x) (hy : (a.toList == b.toList) = y) : Calls Try.prog 76 #[.string a, .string b] w fun e w' => e = .returned (.int .i64 (if x then -1 else if y then 0 else 1)) ∧ Drawn0 w w' := by
  go_enter Try.func76, Try.ntmps76
  cases x with
  | true =>
    go_wp2_with (first | (go_at_call 91; (with_reducible refine (isNaN_s a _).mono ?_); rintro e w1 ⟨rfl, ⟨n1, rfl⟩⟩) | (go_at_call 91; (with_reducible refine (isNaN_s b _).mono ?_); rintro e w2 ⟨rfl, ⟨n2, rfl⟩⟩))
    go_ret
    exact ⟨rfl, ⟨_, rfl⟩⟩
  | false =>
    have hg : ∀ W : World, (binOp .gtr 9 (.string a) (.string b)).run Try.prog W = .ok (.bool !y) W := fun W => by
      have h := gtr_run a b W
      rwa [hx, hy, Bool.false_or] at h
    cases y
    all_goals
     go_wp2_with (first | (go_at_call 91; (with_reducible refine (isNaN_s a _).mono ?_); rintro e w1 ⟨rfl, ⟨n1, rfl⟩⟩) | (go_at_call 91; (with_reducible refine (isNaN_s b _).mono ?_); rintro e w2 ⟨rfl, ⟨n2, rfl⟩⟩))
     go_ret
     exact ⟨rfl, ⟨_, rfl⟩⟩
theorem key_less : ∀ (x y : List Nat), x.length = y.length → Ltr 4 x → Ltr 4 y → (lessN x y = true ↔ key x < key y)
  | [], [], _, _, _ => by simp [lessN]
  | [], _ :: _, h, _, _ => by simp at h
  | _ :: _, [], h, _, _ => by simp at h
  | a :: x, b :: y, h, hx, hy => by
    simp only [List.length_cons, Nat.add_right_cancel_iff] at h
    have hx2 : Ltr 4 x := fun c hc => hx c (by simp [hc])
    have hy2 : Ltr 4 y := fun c hc => hy c (by simp [hc])
    have ih := key_less x y h hx2 hy2
    have ka := key_lt hx2
    have kb := key_lt hy2
    have la := hx a (by simp)
    have lb := hy b (by simp)
    rw [key_cons, key_cons, h]
    rw [h] at ka
    simp only [lessN, Bool.or_eq_true, decide_eq_true_iff, Bool.and_eq_true, beq_iff_eq]
    rcases Nat.lt_trichotomy a b with h1 | h1 | h1
    · have : (a - 96 + 1) * 5 ^ y.length ≤ (b - 96) * 5 ^ y.length := Nat.mul_le_mul_right _ (by omega)
      rw [Nat.add_mul, Nat.one_mul] at this
      exact ⟨fun _ => by omega, fun _ => .inl h1⟩
    · subst h1
      rw [ih]
      exact ⟨fun h => by rcases h with h | h <;> omega, fun h => .inr ⟨rfl, by omega⟩⟩
    · have : (b - 96 + 1) * 5 ^ y.length ≤ (a - 96) * 5 ^ y.length := Nat.mul_le_mul_right _ (by omega)
      rw [Nat.add_mul, Nat.one_mul] at this
      exact ⟨fun h => by rcases h with h | h <;> omega, fun h => by omega⟩
/-- What byLength answers. -/
def cmpL (a b : ByteArray) : Int := if a.size < b.size then -1 else if b.size < a.size then 1 else if lessN (bl a) (bl b) then -1 else if a.toList == b.toList then 0 else 1
theorem cmpL_neg {a b : ByteArray} (ha : Ltr 4 (bl a)) (hb : Ltr 4 (bl b)) : cmpL a b < 0 ↔ key (bl a) < key (bl b) := by
  have e1 : (bl a).length = a.size := bl_length a
  have e2 : (bl b).length = b.size := bl_length b
  unfold cmpL
  by_cases h1 : a.size < b.size
  · rw [if_pos h1]
    refine ⟨fun _ => ?_, fun _ => by decide⟩
    rcases Nat.lt_or_ge (key (bl a)) (key (bl b)) with h | h
    · exact h
    · have := key_len hb ha h
      omega
  · rw [if_neg h1]
    by_cases h2 : b.size < a.size
    · rw [if_pos h2]
      refine ⟨fun h => absurd h (by decide), fun h => ?_⟩
      have := key_len ha hb (Nat.le_of_lt h)
      omega
    · rw [if_neg h2]
      have hk := key_less (bl a) (bl b) (by omega) ha hb
      by_cases h3 : lessN (bl a) (bl b) = true
      · rw [if_pos h3]
        exact ⟨fun _ => hk.1 h3, fun _ => by decide⟩
      · rw [if_neg h3]
        refine ⟨fun h => ?_, fun h => absurd (hk.2 h) h3⟩
        split at h <;> simp at h
theorem two_C (W : World) (u v : Int) : Kd.C (Kd.int .i64) (W.alloc (.cells #[.int .i64 u, .int .i64 v] 3)) (some ⟨W.heap.size, 0, none⟩) 2 [u, v] := by
  have h : Kd.R (Kd.int .i64) 3 (W.alloc (.cells #[.int .i64 u, .int .i64 v] 3)) 0 (fun _ => True) (.slice (some ⟨W.heap.size, 0, none⟩) 2 2) [u, v] :=
    ⟨fun k _ => trivial, OwnRow.lit (R := (Kd.int .i64).M (W.alloc (.cells #[.int .i64 u, .int .i64 v] 3)) 0 (fun k => True ∧ some k ≠ some W.heap.size)) (e := 3) W 0 (Kd.reps_scalar (enc := Value.int .i64) [u, v]) (by omega) (by simp)⟩
  exact (Kd.R_reads' h).2.2
set_option maxHeartbeats 2000000 in
set_option maxRecDepth 100000 in
theorem bylen_any (a b : ByteArray) (w : World) (ha : a.size ≤ 1000) (hb : b.size ≤ 1000) : Calls Try.prog 61 #[.string a, .string b] w fun e w' => e = .returned (.int .i64 (cmpL a b)) ∧ Below w.heap.size w w' := by
  obtain ⟨u, hu⟩ : ∃ u : Int, (if a.size < b.size then -1 else if b.size < a.size then 1 else 0) = u := ⟨_, rfl⟩
  obtain ⟨x, hx⟩ : ∃ x, Op.bytesLess a.toList b.toList = x := ⟨_, rfl⟩
  obtain ⟨y, hy⟩ : ∃ y, (a.toList == b.toList) = y := ⟨_, rfl⟩
  obtain ⟨v, hv⟩ : ∃ v : Int, (if x then -1 else if y then 0 else 1) = v := ⟨_, rfl⟩
  have CI := Aside0.mk (fun W => cmp_Compare_int.calls (a.size : Int) (b.size : Int) u W (by
    unfold cmp_Compare_int.f cmp_isNaN_int.f
    simp
    rw [← hu]
    repeat' split
    all_goals first | rfl | omega))
  have CS := Aside0.mk (fun W => show Calls Try.prog 76 #[.string a, .string b] W fun e w' => e = .returned (.int .i64 v) ∧ Drawn0 W w' by
    have h := cmps_any a b W x y hx hy
    rw [hv] at h
    exact h)
  have CO := Aside0.mk (fun (W : World) (A : Option Addr) (hC : Kd.C (Kd.int .i64) W A [u, v].length [u, v]) => cmp_Or_int.calls 4 A 2 [u, v] (if u = 0 then v else u) W hC (by simp) (by
    unfold cmp_Or_int.f
    by_cases h : u = 0
    · subst h
      by_cases h2 : v = 0
      · subst h2; simp [cmp_Or_int.l0, rd, wrap64]
      · simp [cmp_Or_int.l0, rd, wrap64, h2]
    · simp [cmp_Or_int.l0, rd, h]))
  have HR := Aside0.mk (show (if u = 0 then v else u) = cmpL a b by
    rw [← hu, ← hv, ← hx, ← hy, bytesLess_bl]
    unfold cmpL
    repeat' split
    all_goals first | rfl | omega | simp_all)
  clear hu hv hx hy
  go_enter Try.func61, Try.ntmps61
  go_wp2_with (first | (go_at_call 75; (with_reducible refine (CI.out _).mono ?_); rintro e w1 ⟨rfl, hd⟩; have HB1 := Aside0.mk (show Below w.heap.size w w1 from hd.below); clear hd) | (go_at_call 76; (with_reducible refine (CS.out _).mono ?_); rintro e w2 ⟨rfl, hd⟩; have HB2 := Aside0.mk (below_step HB1.out hd.below); clear hd))
  have HB3 := Aside0.mk (below_alloc HB2.out (.cells #[.int .i64 u, .int .i64 v] 3))
  go_at_call 74
  refine (CO.out _ _ (two_C w2 u v)).mono ?_
  rintro e w3 ⟨rfl, hd⟩
  have HB4 := Aside0.mk (below_step HB3.out hd.below)
  rw [HR.out]
  clear hd
  go_wp2
  go_ret
  exact ⟨rfl, HB4.out⟩
end Go.Proofs.Ytagdbadljcongaa.X
end
