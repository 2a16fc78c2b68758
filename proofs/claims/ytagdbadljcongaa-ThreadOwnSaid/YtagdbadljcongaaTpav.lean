/- Texts behind ThreadOwn, part 22: contracts of the program's functions and the plain words for them. -/
import Derived.RangeFuncWrites
import Derived.Test.YtagdbadljcongaaTpat
import Derived.Test.YtagdbadljcongaaTpau
section
/- thread.differ. -/
set_option linter.unusedVariables false
set_option linter.unusedSimpArgs false
namespace Go.Proofs.Ytagdbadljcongaa.X
open Go Go.RowKit Go.Proofs.YtagdbadljcongaaW.PrintWords Go.Proofs.YtagdbadljcongaaW.PrintLast Go.Proofs.YtagdbadljcongaaW.PrintMore
attribute [local go_sem] Oper.semAt_some
theorem eqA110 (d : Nat) (w : World) (x0 y0 : Int) (x1 y1 : Int) :
    (Op.equalIn (d + 2) 110 (.agg #[.int .i64 x0, .int .i64 x1]) (.agg #[.int .i64 y0, .int .i64 y1])).run Try.prog w = .ok (x0 == y0 && (x1 == y1)) w := by
  refine eqA_of Try.underlying110 (by kernel_rfl) ?_
  refine eqf_cons (by rfl) (by go_simp; rfl) (by go_simp; rfl) (by go_simp) ?_
  exact eqf_last (by rfl) (by go_simp; rfl) (by go_simp; rfl) (by go_simp)
attribute [local go_sem high] eqA110
/-- Where the variables lie. -/
structure DfG where
  bx : Nat
  bw : Nat
  gx : Nat
  gy : Nat
  gr : Nat
  B : Nat
  gm : Nat
  gq : Nat
def pairQ (e : Ent) : S88 := ⟨e.i, e.j⟩
/-- A box for the first map. -/
abbrev stepV (i j : Nat) (s : ByteArray) : Value := .agg #[.int .i64 i, .int .i64 j, .string s]
/-- What the map says of the queue. -/
def MapOf (Q : List Ent) (f : KMap) : Prop :=
  (∀ m (h : m < Q.length), 0 < m → ∃ m' c, ∃ h' : m' < m, c < 4 ∧ (Q[m]).wd = (Q[m']'(by omega)).wd ++ [97 + c] ∧ f (pairK (Q[m]).i (Q[m]).j) = some (stepV (Q[m']'(by omega)).i (Q[m']'(by omega)).j (ltr c))) ∧
  (∀ i j, i ≤ 61 → j ≤ 61 → (∀ e ∈ Q.tail, ¬ (e.i = i ∧ e.j = j)) → f (pairK i j) = none)
/-- What the variables hold; gp is the entry's box. -/
structure DfAt (u w : ByteArray) (E : DfG) (lo : Nat) (ok : Nat → Prop) (Q : List Ent) (A : Option Addr) (c : Nat) (W : World) : Prop where
  cx : W.heap[E.gx]? = some (.cells #[.pointer (some ⟨E.bx, 0, none⟩)] 70 (0, 0))
  cy : W.heap[E.gy]? = some (.cells #[.pointer (some ⟨E.bw, 0, none⟩)] 70 (0, 0))
  cr : ∃ o, W.heap[E.gr]? = some (.cells #[.string o] 9 (0, 0))
  cm : W.heap[E.gm]? = some (.cells #[.map (some E.B)] 108 (0, 0))
  cq : W.heap[E.gq]? = some (.cells #[.slice A Q.length c] 111 (0, 0))
  row : Kd.R k88 110 W lo ok (.slice A Q.length c) (Q.map pairQ)
  mp : ∃ n f, MapIs Try.prog 110 W E.B n f ∧ n ≤ Q.length ∧ MapOf Q f
  wx : WordAt W E.bx u
  wy : WordAt W E.bw w
  lo_ : lo ≤ E.gx ∧ lo ≤ E.gy ∧ lo ≤ E.gr ∧ lo ≤ E.B ∧ lo ≤ E.gm ∧ lo ≤ E.gq
theorem DfAt.kept {u w : ByteArray} {E : DfG} {lo : Nat} {ok : Nat → Prop} {Q : List Ent} {A : Option Addr} {c : Nat} {W W' : World} (h : DfAt u w E lo ok Q A c W) (hk : ∀ (g : Nat) (cs : Array Value) (t : TypeId), W.heap[g]? = some (.cells cs t (0, 0)) → W'.heap[g]? = some (.cells cs t (0, 0)))
    (hm : ∀ n f, MapIs Try.prog 110 W E.B n f → MapIs Try.prog 110 W' E.B n f) : DfAt u w E lo ok Q A c W' := by
  obtain ⟨fx, x1, x2⟩ := h.wx.ex
  obtain ⟨fy, y1, y2⟩ := h.wy.ex
  obtain ⟨o, ho⟩ := h.cr
  obtain ⟨n, f, m1, m2, m3⟩ := h.mp
  refine ⟨hk _ _ _ h.cx, hk _ _ _ h.cy, ⟨o, hk _ _ _ ho⟩, hk _ _ _ h.cm, hk _ _ _ h.cq, ?_, ⟨n, f, hm _ _ m1, m2, m3⟩, ⟨fx, hk _ _ _ x1, x2⟩, ⟨fy, hk _ _ _ y1, y2⟩, h.lo_⟩
  refine Kd.R_mono (Kd.R_move (Kd.R_bound h.row) (fun k hkk => ?_)) (fun k hkk => hkk.1)
  obtain ⟨_, _, _, q, _, cells, hc⟩ := hkk
  rw [hc, hk _ _ _ hc]
theorem DfAt.below {u w : ByteArray} {E : DfG} {lo : Nat} {ok : Nat → Prop} {Q : List Ent} {A : Option Addr} {c : Nat} {W W' : World} (h : DfAt u w E lo ok Q A c W) (hb : Below W.heap.size W W') : DfAt u w E lo ok Q A c W' :=
  h.kept (fun g cs t e => blk_below e hb) (fun n f m => m.below hb)
theorem DfAt.put {u w : ByteArray} {E : DfG} {lo : Nat} {ok : Nat → Prop} {Q : List Ent} {A : Option Addr} {c : Nat} {W : World} (h : DfAt u w E lo ok Q A c W) {l : Nat} {ob : Obj} (hl : W.heap[l]? = some ob) (hc : ob.isCells = false) (hB : l ≠ E.B) (ob' : Obj) : DfAt u w E lo ok Q A c (W.putObj l ob') :=
  h.kept (fun g cs t e => by rw [World.putObj_heap_other (fun e2 => by subst e2; rw [hl] at e; injection e with e; subst e; cases hc)]; exact e) (fun n f m => m.block (World.putObj_heap_other (fun e => hB e.symm)))
theorem DfAt.okMono {u w : ByteArray} {E : DfG} {lo : Nat} {ok ok' : Nat → Prop} {Q : List Ent} {A : Option Addr} {c : Nat} {W : World} (h : DfAt u w E lo ok Q A c W) (hk : ∀ k, k < W.heap.size → ok k → ok' k) : DfAt u w E lo ok' Q A c W :=
  ⟨h.cx, h.cy, h.cr, h.cm, h.cq, Kd.R_mono (Kd.R_bound h.row) (fun k hkk => hk k hkk.2.2.1 hkk.1), h.mp, h.wx, h.wy, h.lo_⟩
/-- A store into a box of this walk's own that no fact speaks of. -/
theorem DfAt.setFar {u w : ByteArray} {E : DfG} {lo : Nat} {gp : Nat} {Q : List Ent} {A : Option Addr} {c : Nat} {W : World} (h : DfAt u w E lo (fun k => k ≠ gp) Q A c W) {x y : Value} (hp : W.heap[gp]? = some (.cells #[x, y] 110 (0, 0))) (j : Nat) (v : Value) : DfAt u w E lo (fun k => k ≠ gp) Q A c (W.setCell ⟨gp, j, none⟩ v) := by
  have ne : ∀ (g : Nat) (cs : Array Value) (t : TypeId), W.heap[g]? = some (.cells cs t (0, 0)) → t ≠ 110 → (W.setCell ⟨gp, j, none⟩ v).heap[g]? = some (.cells cs t (0, 0)) := fun g cs t e ht => blk_far e (by show g ≠ gp; rintro rfl; rw [hp] at e; injection e with e; injection e with _ e; exact ht e.symm) v
  obtain ⟨fx, x1, x2⟩ := h.wx.ex
  obtain ⟨fy, y1, y2⟩ := h.wy.ex
  obtain ⟨o, ho⟩ := h.cr
  obtain ⟨n, f, m1, m2, m3⟩ := h.mp
  exact ⟨ne _ _ _ h.cx (by decide), ne _ _ _ h.cy (by decide), ⟨o, ne _ _ _ ho (by decide)⟩, ne _ _ _ h.cm (by decide), ne _ _ _ h.cq (by decide), Kd.R_far h.row (fun k hk => hk) v, ⟨n, f, m1.setCell (m1.ne hp) v, m2, m3⟩, ⟨fx, ne _ _ _ x1 (by decide), x2⟩, ⟨fy, ne _ _ _ y1 (by decide), y2⟩, h.lo_⟩
/-- The result's cell is set. -/
theorem DfAt.setR {u w : ByteArray} {E : DfG} {lo : Nat} {ok : Nat → Prop} {Q : List Ent} {A : Option Addr} {c : Nat} {W : World} (h : DfAt u w E lo ok Q A c W) (s : ByteArray) : (W.setCell ⟨E.gr, 0, none⟩ (.string s)).heap[E.gr]? = some (.cells #[.string s] 9 (0, 0)) := by
  obtain ⟨o, ho⟩ := h.cr
  exact (blk_set ho 0 _).trans rfl
theorem pair_get {W : World} {lo g n c : Nat} {ok : Nat → Prop} {Q : List Ent} (h : Kd.R k88 110 W lo ok (.slice (some ⟨g, 0, none⟩) n c) (Q.map pairQ)) (q : Nat) (hq : q < Q.length) :
    W.cell? ⟨g, q * 2, none⟩ = some (.int .i64 (Q[q]).i) ∧ W.cell? ⟨g, q * 2 + 1, none⟩ = some (.int .i64 (Q[q]).j) := by
  have hC := (Kd.R_reads' h).2.2
  obtain ⟨ad, e, h1, h2⟩ := at_T88 hC (q : Int) (by omega) (by simpa using hq)
  injection e with e
  subst e
  have er : rd_T88 (Q.map pairQ) (q : Int) = pairQ Q[q] := by unfold rd_T88; simp [List.getD_eq_getElem?_getD, hq]
  rw [er] at h1 h2
  have ea : (⟨g, 0, none⟩ : Addr).add ((q : Int).toNat * 2) = ⟨g, q * 2, none⟩ := by rw [show (q : Int).toNat = q by omega]; exact add_plain g (q * 2)
  rw [ea] at h1 h2
  exact ⟨h1, h2⟩
theorem res54 (tmps : Array Value) (W : World) (g : Nat) (o : ByteArray) (h : tmps.getD 4 undef = .pointer (some ⟨g, 0, none⟩)) (c : W.heap[g]? = some (.cells #[.string o] 9 (0, 0))) : (results Try.f54 tmps).run Try.prog W = .ok (.string o) W := by
  have h' : tmps[4]?.getD undef = .pointer (some ⟨g, 0, none⟩) := by simpa using h
  have hc : W.cell? ⟨g, 0, none⟩ = some (.string o) := (blk_cell c 0).trans rfl
  simp [results, Try.results54, asAddr, h', hc, go_sem]
theorem zero113 (W : World) : (zeroValue 113).run Try.prog W = .ok (.agg #[.int .i64 0, .int .i64 0, .string ⟨#[]⟩]) W := by kernel_rfl
theorem info110 : (Try.prog.info? 110).map (fun i => (i.zero, i.size, i.bytes)) = some (some (.agg #[.int .i64 0, .int .i64 0]), 2, 16) := by kernel_rfl
/-- A look into the map. -/
theorem look_pair {u s : ByteArray} {E : DfG} {lo : Nat} {ok : Nat → Prop} {Q : List Ent} {A : Option Addr} {c : Nat} {W : World} (h : DfAt u s E lo ok Q A c W) (hQ : QOk (bl u) (bl s) Q) (a b : Nat) (ha : a ≤ 60) (hb : b ≤ 60) :
    ∃ (x y : Int) (z : ByteArray), (Instr.lookup 108 (.map (some E.B)) (.agg #[.int .i64 ((a : Int) + 1), .int .i64 ((b : Int) + 1)]) true).run Try.prog W = .ok (.tuple #[.agg #[.int .i64 x, .int .i64 y, .string z], .bool (knownB Q (a + 1) (b + 1))]) W := by
  obtain ⟨n, f, m1, m2, m3, m4⟩ := h.mp
  have hk : keyOf Try.prog 110 (.agg #[.int .i64 ((a : Int) + 1), .int .i64 ((b : Int) + 1)]) = some (pairK (a + 1) (b + 1)) := key110 (a + 1) (b + 1) (by omega) (by omega)
  have hl := m1.look_ok (t := 108) (e := 113) keyed110 Try.underlying108 (zero113 W) hk
  cases hkn : knownB Q (a + 1) (b + 1) with
  | true =>
    obtain ⟨e, he, h1, h2⟩ := (knownB_iff _ _ _).1 hkn
    obtain ⟨m, hm, rfl⟩ := List.getElem_of_mem he
    have hm0 : 0 < m := by
      rcases Nat.eq_zero_or_pos m with h0 | h0
      · subst h0
        obtain ⟨t, ht, _⟩ := hQ.hd
        simp only [ht, List.getElem_cons_zero, root] at h1
        omega
      · exact h0
    obtain ⟨m', c', h', _, _, hf⟩ := m3 m hm hm0
    rw [h1, h2] at hf
    rw [hf] at hl
    exact ⟨_, _, _, hl⟩
  | false =>
    have hf := m4 (a + 1) (b + 1) (by omega) (by omega) (fun e he h1 => by
      have : knownB Q (a + 1) (b + 1) = true := (knownB_iff _ _ _).2 ⟨e, List.mem_of_mem_tail he, h1.1, h1.2⟩
      rw [hkn] at this; cases this)
    rw [hf] at hl
    exact ⟨_, _, _, hl⟩
theorem app_pair {w W : World} {base : Nat} {ok : Nat → Prop} {A : Option Addr} {c n : Nat} {xs : List S88} {x : S88} (hn : xs.length = n) (hr : Kd.R k88 110 W base ok (.slice A n c) xs) (hB : Below base w W) (hbase : base ≤ W.heap.size) (hfresh : ∀ k, W.heap.size ≤ k → ok k) (hl : xs.length ≤ 1000000) (i j : Nat) (ops : Array Oper) (rest : List Oper) (o : Oper) (a : Act) (Q : Exit → Act → World → Prop)
    (hgd : o.guard = none) (ho : o.op = .call { callee := .builtin .append, args := #[.tmp i, .tmp j], argTypes := #[111, 111] }) (hs : a.eval (.tmp i) = .slice A n c) (hx : a.eval (.tmp j) = .slice (some ⟨W.heap.size, 0, none⟩) 1 1)
    (h : ∀ A' c' w', Kd.R k88 110 w' base ok (.slice A' (n + 1) c') (xs ++ [x]) → Below base w w' → W.grownBy w' (Value.slice A n c).ownBlock → wpList Try.prog ops Q rest (a.put o.dst (.slice A' (n + 1) c')) w') :
    wpList Try.prog ops Q (o :: rest) a (W.alloc (.cells #[.int .i64 x.f0, .int .i64 x.f1] 110)) := by
  refine Kd.R_append k88 (w0 := w) base hgd (.tmp i) (.tmp j) 111 110 (.agg #[.int .i64 0, .int .i64 0]) 16 ho Try.underlying111 info110 rfl (by decide) (by decide) (.slice A n c) xs x [.int .i64 x.f0, .int .i64 x.f1] ok (fun _ => False) hs hx (k88_mkM _ _ _ _) (fun _ h => h.elim) hfresh hr hB hbase (by omega) ?_
  intro v1 w1 ho hb hg hat
  obtain ⟨A', c', rfl⟩ := Kd.R_slice ho
  have e : (xs ++ [x]).length = n + 1 := by simp [hn]
  rw [e] at ho ⊢
  exact h A' c' w1 ho hb hg
theorem tail_push {Q t : List Ent} {r : Ent} (h : Q = r :: t) (x : Ent) : (Q ++ [x]).tail = Q.tail ++ [x] := by subst h; rfl
/-- The map with one entry more. -/
theorem MapOf.push {Q : List Ent} {f : KMap} (h : MapOf Q f) {u w : List Nat} (hQ : QOk u w Q) (hu : u.length ≤ 60) (hw : w.length ≤ 60) {m c : Nat} (hm : m < Q.length) (hc : c < 4) {i j : Nat} (hi : i ≤ 61) (hj : j ≤ 61) (hk : knownB Q i j = false) :
    MapOf (Q ++ [⟨i, j, (Q[m]).wd ++ [97 + c]⟩]) (f.put (pairK i j) (stepV (Q[m]).i (Q[m]).j (ltr c))) := by
  have key : ∀ i' j', i' ≤ 61 → j' ≤ 61 → ¬ (i' = i ∧ j' = j) → pairK i' j' ≠ pairK i j := fun i' j' h1 h2 h3 e => h3 (pairK_inj (by omega) (by omega) (by omega) (by omega) e)
  refine ⟨fun m2 h2 h0 => ?_, fun i' j' h1 h2 h3 => ?_⟩
  · by_cases e : m2 < Q.length
    · obtain ⟨m', c', h', a, b, d⟩ := h.1 m2 e h0
      refine ⟨m', c', h', a, by rw [List.getElem_append_left e, List.getElem_append_left (by omega)]; exact b, ?_⟩
      rw [List.getElem_append_left e, List.getElem_append_left (by omega)]
      have hle := hQ.le (List.getElem_mem e)
      rw [KMap.put_other f (key _ _ (by omega) (by omega) (fun e2 => by
        have : knownB Q i j = true := (knownB_iff _ _ _).2 ⟨_, List.getElem_mem e, e2.1, e2.2⟩
        rw [hk] at this; cases this))]
      exact d
    · have e2 : m2 = Q.length := by simp at h2; omega
      subst e2
      refine ⟨m, c, hm, hc, by rw [List.getElem_append_right (Nat.le_refl _), List.getElem_append_left hm]; simp, ?_⟩
      rw [List.getElem_append_right (Nat.le_refl _), List.getElem_append_left hm]
      simp only [Nat.sub_self, List.getElem_cons_zero]
      exact KMap.put_same f (keyed110.key (key110 i j (by omega) (by omega))) _
  · have htl : (Q ++ [(⟨i, j, (Q[m]).wd ++ [97 + c]⟩ : Ent)]).tail = Q.tail ++ [⟨i, j, (Q[m]).wd ++ [97 + c]⟩] := by
      obtain ⟨t, ht, _⟩ := hQ.hd
      exact tail_push ht _
    rw [htl] at h3
    rw [KMap.put_other f (key _ _ h1 h2 (fun e => h3 ⟨i, j, (Q[m]).wd ++ [97 + c]⟩ (by simp) ⟨e.1.symm, e.2.symm⟩))]
    exact h.2 i' j' h1 h2 (fun e he => h3 e (List.mem_append_left _ he))
/-- The entry is in: behind the map's store, the append and the queue's box. -/
theorem DfAt.push {u s : ByteArray} {E : DfG} {lo gp : Nat} {Q : List Ent} {A A' : Option Addr} {c c' : Nat} {W W5 W6 : World} {x y : Value} {new : Ent} (h : DfAt u s E lo (fun k => k ≠ gp) Q A c W) (hp : W.heap[gp]? = some (.cells #[x, y] 110 (0, 0)))
    (hm : ∃ n f, MapIs Try.prog 110 W5 E.B n f ∧ n ≤ Q.length + 1 ∧ MapOf (Q ++ [new]) f) (g5 : W.grownBy W5 (some E.B)) (hr : Kd.R k88 110 W6 lo (fun k => k ≠ gp) (.slice A' (Q.length + 1) c') (Q.map pairQ ++ [pairQ new])) (g6 : W5.grownBy W6 (Value.slice A Q.length c).ownBlock) :
    DfAt u s E lo (fun k => k ≠ gp) (Q ++ [new]) A' c' (W6.setCell ⟨E.gq, 0, none⟩ (.slice A' (Q.length + 1) c')) ∧ (W6.setCell ⟨E.gq, 0, none⟩ (.slice A' (Q.length + 1) c')).heap[gp]? = some (.cells #[x, y] 110 (0, 0)) := by
  obtain ⟨n0, f0, m0, _⟩ := h.mp
  obtain ⟨n, f, m1, m2, m3⟩ := hm
  have a5 : ∀ (g : Nat) (cs : Array Value) (t : TypeId), W.heap[g]? = some (.cells cs t (0, 0)) → W5.heap[g]? = some (.cells cs t (0, 0)) := fun g cs t e => blk_grown e g5 (fun e2 => by injection e2 with e2; exact m0.ne e e2.symm)
  have r5 : Kd.R k88 110 W5 lo (fun k => k ≠ gp) (.slice A Q.length c) (Q.map pairQ) := by
    refine Kd.R_mono (Kd.R_move (Kd.R_bound h.row) (fun k hkk => ?_)) (fun k hkk => hkk.1)
    obtain ⟨_, _, _, q, _, cells, hc⟩ := hkk
    rw [hc, a5 _ _ _ hc]
  have a6 : ∀ (g : Nat) (cs : Array Value) (t : TypeId), W.heap[g]? = some (.cells cs t (0, 0)) → t ≠ 110 → W6.heap[g]? = some (.cells cs t (0, 0)) := fun g cs t e ht => blk_grown (a5 g cs t e) g6 (Kd.R_ne r5 (a5 g cs t e) (fun e2 => ht e2.symm))
  have a7 : ∀ (g : Nat) (cs : Array Value) (t : TypeId), W.heap[g]? = some (.cells cs t (0, 0)) → t ≠ 110 → t ≠ 111 → (W6.setCell ⟨E.gq, 0, none⟩ (.slice A' (Q.length + 1) c')).heap[g]? = some (.cells cs t (0, 0)) := fun g cs t e ht ht2 => blk_far (a6 g cs t e ht) (by show g ≠ E.gq; rintro rfl; have := h.cq; rw [e] at this; injection this with this; injection this with _ this; exact ht2 this) _
  have q6 := a6 _ _ _ h.cq (by decide)
  have p6 : W6.heap[gp]? = some (.cells #[x, y] 110 (0, 0)) := blk_grown (a5 _ _ _ hp) g6 (fun e => (h.row.1 gp e.symm) rfl)
  obtain ⟨fx, x1, x2⟩ := h.wx.ex
  obtain ⟨fy, y1, y2⟩ := h.wy.ex
  obtain ⟨o, ho⟩ := h.cr
  have m6 : MapIs Try.prog 110 W6 E.B n f := m1.kept g6 (fun e => by
    obtain ⟨cells, hc⟩ := Kd.R_typed r5 _ e.symm
    exact m1.ne hc rfl)
  refine ⟨⟨a7 _ _ _ h.cx (by decide) (by decide), a7 _ _ _ h.cy (by decide) (by decide), ⟨o, a7 _ _ _ ho (by decide) (by decide)⟩, a7 _ _ _ h.cm (by decide) (by decide), ?_, ?_, ⟨n, f, m6.setCell (m6.ne q6) _, by simpa using m2, m3⟩, ⟨fx, a7 _ _ _ x1 (by decide) (by decide), x2⟩, ⟨fy, a7 _ _ _ y1 (by decide) (by decide), y2⟩, h.lo_⟩, ?_⟩
  · rw [List.length_append]; exact (blk_set q6 0 _).trans rfl
  · rw [List.length_append, List.map_append]
    exact Kd.R_set hr q6 (by decide) 0 _
  · exact blk_far p6 (by show gp ≠ E.gq; rintro rfl; rw [q6] at p6; injection p6 with p6; injection p6 with _ p6; cases p6) _
theorem blk_new_at {w : World} {n : Nat} (h : w.heap.size = n) (cs : Array Value) (t : TypeId) : (w.alloc (.cells cs t)).heap[n]? = some (.cells cs t (0, 0)) := by subst h; exact blk_new w _
theorem size_at {w : World} {n : Nat} (h : w.heap.size = n) (o : Obj) : (w.alloc o).heap.size = n + 1 := by subst h; exact World.size_alloc _ _
/-- Ahead of the search. -/
theorem DfAt.start (u s : ByteArray) (bx bw : Nat) (w : World) (hx : WordAt w bx u) (hw : WordAt w bw s) : DfAt u s ⟨bx, bw, w.heap.size, w.heap.size + 1, w.heap.size + 1 + 1, w.heap.size + 1 + 1 + 1, w.heap.size + 1 + 1 + 1 + 1, w.heap.size + 1 + 1 + 1 + 1 + 1 + 1⟩ w.heap.size (fun _ => True) [root] (some ⟨w.heap.size + 1 + 1 + 1 + 1 + 1, 0, none⟩) 1
    (((((((w.alloc (.cells #[.pointer (some ⟨bx, 0, none⟩)] 70)).alloc (.cells #[.pointer (some ⟨bw, 0, none⟩)] 70)).alloc (.cells #[.string ⟨#[]⟩] 9)).alloc (.map #[] 0)).alloc (.cells #[.map (some (w.heap.size + 1 + 1 + 1))] 108)).alloc (.cells #[.int .i64 0, .int .i64 0] 110)).alloc (.cells #[.slice (some ⟨w.heap.size + 1 + 1 + 1 + 1 + 1, 0, none⟩) 1 1] 111)) ∧ Below w.heap.size w
    (((((((w.alloc (.cells #[.pointer (some ⟨bx, 0, none⟩)] 70)).alloc (.cells #[.pointer (some ⟨bw, 0, none⟩)] 70)).alloc (.cells #[.string ⟨#[]⟩] 9)).alloc (.map #[] 0)).alloc (.cells #[.map (some (w.heap.size + 1 + 1 + 1))] 108)).alloc (.cells #[.int .i64 0, .int .i64 0] 110)).alloc (.cells #[.slice (some ⟨w.heap.size + 1 + 1 + 1 + 1 + 1, 0, none⟩) 1 1] 111)) := by
  obtain ⟨n, hn⟩ : ∃ n, w.heap.size = n := ⟨_, rfl⟩
  rw [hn]
  have c0 := blk_new_at hn #[.pointer (some ⟨bx, 0, none⟩)] 70
  have s0 := size_at hn (.cells #[.pointer (some ⟨bx, 0, none⟩)] 70)
  have b0 : Below w.heap.size w (w.alloc (.cells #[.pointer (some ⟨bx, 0, none⟩)] 70)) := below_alloc (Below.refl _ _) _
  generalize w.alloc (.cells #[.pointer (some ⟨bx, 0, none⟩)] 70) = w0 at *
  have c1 := blk_new_at s0 #[.pointer (some ⟨bw, 0, none⟩)] 70
  have s1 := size_at s0 (.cells #[.pointer (some ⟨bw, 0, none⟩)] 70)
  have b1 : Below w0.heap.size w0 (w0.alloc (.cells #[.pointer (some ⟨bw, 0, none⟩)] 70)) := below_alloc (Below.refl _ _) _
  generalize w0.alloc (.cells #[.pointer (some ⟨bw, 0, none⟩)] 70) = w1 at *
  have c2 := blk_new_at s1 #[.string ⟨#[]⟩] 9
  have s2 := size_at s1 (.cells #[.string ⟨#[]⟩] 9)
  have b2 : Below w1.heap.size w1 (w1.alloc (.cells #[.string ⟨#[]⟩] 9)) := below_alloc (Below.refl _ _) _
  generalize w1.alloc (.cells #[.string ⟨#[]⟩] 9) = w2 at *
  have c3 := MapIs.made w2 Try.prog 110
  have s3 := size_at s2 (.map #[] 0)
  have b3 : Below w2.heap.size w2 (w2.alloc (.map #[] 0)) := below_alloc (Below.refl _ _) _
  rw [s2] at c3
  generalize w2.alloc (.map #[] 0) = w3 at *
  have c4 := blk_new_at s3 #[.map (some (n + 1 + 1 + 1))] 108
  have s4 := size_at s3 (.cells #[.map (some (n + 1 + 1 + 1))] 108)
  have b4 : Below w3.heap.size w3 (w3.alloc (.cells #[.map (some (n + 1 + 1 + 1))] 108)) := below_alloc (Below.refl _ _) _
  generalize w3.alloc (.cells #[.map (some (n + 1 + 1 + 1))] 108) = w4 at *
  have s5 := size_at s4 (.cells #[.int .i64 0, .int .i64 0] 110)
  have b5 : Below w4.heap.size w4 (w4.alloc (.cells #[.int .i64 0, .int .i64 0] 110)) := below_alloc (Below.refl _ _) _
  have c5 : Kd.R k88 110 (w4.alloc (.cells #[.int .i64 0, .int .i64 0] 110)) n (fun _ => True) (.slice (some ⟨n + 1 + 1 + 1 + 1 + 1, 0, none⟩) 1 1) [(⟨0, 0⟩ : S88)] := by
    refine ⟨fun k _ => trivial, ?_⟩
    have h := OwnRow.lit (R := k88.M (w4.alloc (.cells #[.int .i64 0, .int .i64 0] 110)) n (fun k => True ∧ some k ≠ some (n + 1 + 1 + 1 + 1 + 1))) (e := 110) w4 n (Reps.c2 (k88_mkM _ _ _ ⟨0, 0⟩) (Reps.none _ 2)) (by omega) (by decide)
    rw [s4] at h
    exact h
  generalize w4.alloc (.cells #[.int .i64 0, .int .i64 0] 110) = w5 at *
  have c6 := blk_new_at s5 #[.slice (some ⟨n + 1 + 1 + 1 + 1 + 1, 0, none⟩) 1 1] 111
  have b6 : Below w5.heap.size w5 (w5.alloc (.cells #[.slice (some ⟨n + 1 + 1 + 1 + 1 + 1, 0, none⟩) 1 1] 111)) := below_alloc (Below.refl _ _) _
  generalize w5.alloc (.cells #[.slice (some ⟨n + 1 + 1 + 1 + 1 + 1, 0, none⟩) 1 1] 111) = w6 at *
  have d5 := below_step b5 b6
  have d4 := below_step b4 d5
  have d3 := below_step b3 d4
  have d2 := below_step b2 d3
  have d1 := below_step b1 d2
  have d0 := below_step b0 d1
  have d00 := d0
  rw [hn] at d0
  refine ⟨⟨blk_below c0 d1, blk_below c1 d2, ⟨_, blk_below c2 d3⟩, blk_below c4 d5, c6, Kd.R_below c5 b6, ⟨0, _, c3.below d4, by simp, ⟨fun m h h0 => by simp at h; omega, fun _ _ _ _ _ => rfl⟩⟩, hx.below d00, hw.below d00, ?_⟩, d0⟩
  dsimp only
  omega
end Go.Proofs.Ytagdbadljcongaa.X
end

section
/- A range over a function whose body may write a map that lay ahead of the loop. -/
set_option linter.unusedVariables false
set_option linter.unusedSimpArgs false
namespace Go.Proofs.Ytagdbadljcongaa.X
open Go Go.RowKit Go.Proofs.YtagdbadljcongaaW.PrintWords Go.Proofs.YtagdbadljcongaaW.PrintLast Go.Proofs.YtagdbadljcongaaW.PrintMore
section
variable {F : Fence} {n : Nat} {P : Program}
/-- How a round's body may be left. -/
def postG (B : Nat) (I : Nat → World → Prop) (Ix : Code → Nat → World → Prop) (c : Nat) (W : World) : Exit → Act → World → Prop
  | .normal, _, W' => KeepsFrom B W W' ∧ I (c + 1) W'
  | .ret, _, W' => KeepsFrom B W W' ∧ Ix .ret c W'
  | .exit id, _, W' => KeepsFrom B W W' ∧ Ix (.exit id) c W'
  | .goto t, _, W' => KeepsFrom B W W' ∧ Ix (.goto t) c W'
  | .panic _, _, _ => False
  | .outgrown, _, _ => False
theorem wpIn_rangeFunc_G {g : Operand} {ps : Array Tmp} {assign body : Code} {Q : Exit → Act → World → Prop} {a : Act} {w : World}
    (hro : F.round = none) (h1 : 1 ≤ n) {gf : Nat} {lb : Array Value} (hg : a.eval g = .func (.func gf) #[] lb) (hFg : F.fn gf) (eg : ∀ args w, (callFunc gf args).run P w = .ok (.enter gf args) w)
    {encs : Nat → Array Value} {k : Nat} (hseq : SeqJ F (n - 1) P gf lb encs k w) (hps : ∀ x, (encs x).size = ps.size)
    (I : Nat → World → Prop) (Ix : Code → Nat → World → Prop)
    (hI : ∀ c W l o o', w.heap.size ≤ l → W.heap[l]? = some o → o.isCells = false → I c W → I c (W.putObj l o'))
    (hIx : ∀ e c W l o o', w.heap.size ≤ l → W.heap[l]? = some o → o.isCells = false → Ix e c W → Ix e c (W.putObj l o'))
    (h0 : ∀ o o', I 0 ((w.alloc o).alloc o')) (a₁ : Nat → Act)
    (hassign : ∀ (l : Nat) (c : Nat) (W : World) (K : Act → World → Prop), K (a₁ c) W →
      assign.wpIn (F.inRound l) (n - 1 - 1) P (Exit.then K (fun _ _ _ => False)) { tmps := (ps.zip (encs c)).foldl (fun t (p, v) => t.setIfInBounds p v) a.tmps, defers := [] } W)
    (hbody : ∀ (l : Nat) (c : Nat) (W : World), w.heap.size ≤ l → c < k → I c W → body.wpIn (F.inRound l) (n - 1 - 1) P (postG w.heap.size I Ix c W) (a₁ c) W)
    (hdone : ∀ (D : Nat) (W : World), w.heap.size ≤ D → I k W → W.heap[D]? = some (.deferred (some [])) → Q .normal { a with defers := { target := .collected D, args := #[] } :: a.defers } W)
    (hstop : ∀ (D : Nat) (e : Code) (c : Nat) (W : World), w.heap.size ≤ D → c < k → Ix e c W → W.heap[D]? = some (.deferred (some [])) → e.wpIn F n P Q { a with defers := { target := .collected D, args := #[] } :: a.defers } W) :
    (Code.rangeFunc g ps assign body).wpIn F n P Q a w := by
  refine wpIn_rangeFunc ?_
  intro fn hfn
  rw [hro]
  obtain ⟨rec, hrec⟩ : ∃ rec : LoopState → Option Code → Loop, rec = fun st pe => { state := st, pending := pe, fn, tmps := a.tmps, params := ps, assign, body, defers := w.heap.size } := ⟨_, rfl⟩
  obtain ⟨W1, hW1⟩ : ∃ W1, (w.alloc (.deferred (some []))).alloc (.loop (rec .ready none)) = W1 := ⟨_, rfl⟩
  have hL1 : W1.heap[w.heap.size + 1]? = some (.loop (rec .ready none)) := by
    rw [← hW1]; have := World.alloc_heap_new (w.alloc (.deferred (some []))) (.loop (rec .ready none)); rwa [World.size_alloc] at this
  have hK1 : W1.heap[w.heap.size]? = some (.deferred (some [])) := by
    rw [← hW1]; exact (Below.heap_alloc _ _ _ (by simp)).trans (World.alloc_heap_new w _)
  have hI1 : I 0 W1 := by rw [← hW1]; exact h0 _ _
  have hb1 : Below w.heap.size w W1 := by
    rw [← hW1]; exact ((Below.refl _ w).alloc (Nat.le_refl _) _).alloc (by simp) _
  refine ⟨w.heap.size + 1, [{ target := .collected w.heap.size, args := #[] }], W1, { target := .fn (.func gf) lb, args := #[.func (.yield (w.heap.size + 1)) #[] #[]] }, W1, gf,
    #[.func (.yield (w.heap.size + 1)) #[] #[]] ++ lb, W1, ?_, ?_, ?_, ?_, fun _ => h1, ?_⟩
  · rw [← hW1, hrec]; exact run_enterLoop_outer _ _ _ _ _
  · simp only [resolve, hg]
    simp [go_sem]
  · intro f' hf'; simp [Target.leads] at hf'; subst hf'; exact hFg
  · simp [invoke, go_sem, eg]
  · refine (hseq (w.heap.size + 1)
      (fun c W => I c W ∧ W.heap[w.heap.size + 1]? = some (.loop (rec .ready none)) ∧ W.heap[w.heap.size]? = some (.deferred (some [])))
      (fun c W => ∃ e, Ix e c W ∧ W.heap[w.heap.size + 1]? = some (.loop (rec .done (some e))) ∧ W.heap[w.heap.size]? = some (.deferred (some [])))
      W1 hb1 ?_ ⟨hI1, hL1, hK1⟩).mono ?_
    · rintro c W hck ⟨hIc, hl, hk⟩
      have hlt : w.heap.size + 1 < W.heap.size := (Array.getElem?_eq_some_iff.1 hl).1
      have hy := run_yield (P := P) (args := encs c) hl (by rw [hrec]; exact hps c)
      rw [hrec] at hy
      refine ⟨fn, _, assign, body, hy, roundIn_of_wpIn hfn (hassign _ c W _ ⟨_, run_beginRound hl (by rw [hrec]), ?_⟩)⟩
      have hl2 : (W.putObj (w.heap.size + 1) (.loop { rec .ready none with state := .busy })).heap[w.heap.size + 1]? = some (.loop { rec .ready none with state := .busy }) := World.putObj_heap_same hlt
      have hk2 : (W.putObj (w.heap.size + 1) (.loop { rec .ready none with state := .busy })).heap[w.heap.size]? = some (.deferred (some [])) := (World.putObj_heap_other (by omega)).trans hk
      refine wpIn_mono (hbody _ c _ (by omega) hck (hI _ _ _ _ _ (by omega) hl rfl hIc)) ?_
      have fin : ∀ (jump : Option Code) (W3 : World), W3.heap[w.heap.size + 1]? = some (.loop { rec .ready none with state := .busy }) → W3.heap[w.heap.size]? = some (.deferred (some [])) →
          (Instr.endRound (w.heap.size + 1) jump).run P W3 = .ok (.bool jump.isNone) (W3.putObj (w.heap.size + 1) (.loop (rec (if jump.isNone then .ready else .done) jump))) ∧
          (W3.putObj (w.heap.size + 1) (.loop (rec (if jump.isNone then .ready else .done) jump))).heap[w.heap.size + 1]? = some (.loop (rec (if jump.isNone then .ready else .done) jump)) ∧
          (W3.putObj (w.heap.size + 1) (.loop (rec (if jump.isNone then .ready else .done) jump))).heap[w.heap.size]? = some (.deferred (some [])) := fun jump W3 hl3 hk3 => by
        have := run_endRound (P := P) jump hl3
        rw [hrec] at this ⊢
        exact ⟨this, World.putObj_heap_same (Array.getElem?_eq_some_iff.1 hl3).1, (World.putObj_heap_other (by omega)).trans hk3⟩
      rintro e a3 W3 hp
      cases e with
      | normal =>
        obtain ⟨hk3, hi3⟩ := hp
        have h3l := hk3.same _ _ (by omega) hl2 rfl
        obtain ⟨hr, hl4, hk4⟩ := fin none W3 h3l (hk3.same _ _ (by omega) hk2 rfl)
        exact ⟨_, _, hr, .inl ⟨rfl, hI _ _ _ _ _ (by omega) h3l rfl hi3, hl4, hk4⟩⟩
      | ret =>
        obtain ⟨hk3, hi3⟩ := hp
        have h3l := hk3.same _ _ (by omega) hl2 rfl
        obtain ⟨hr, hl4, hk4⟩ := fin (some .ret) W3 h3l (hk3.same _ _ (by omega) hk2 rfl)
        exact ⟨_, _, hr, .inr ⟨rfl, .ret, hIx _ _ _ _ _ _ (by omega) h3l rfl hi3, hl4, hk4⟩⟩
      | exit id =>
        obtain ⟨hk3, hi3⟩ := hp
        have h3l := hk3.same _ _ (by omega) hl2 rfl
        obtain ⟨hr, hl4, hk4⟩ := fin (some (.exit id)) W3 h3l (hk3.same _ _ (by omega) hk2 rfl)
        exact ⟨_, _, hr, .inr ⟨rfl, .exit id, hIx _ _ _ _ _ _ (by omega) h3l rfl hi3, hl4, hk4⟩⟩
      | goto t =>
        obtain ⟨hk3, hi3⟩ := hp
        have h3l := hk3.same _ _ (by omega) hl2 rfl
        obtain ⟨hr, hl4, hk4⟩ := fin (some (.goto t)) W3 h3l (hk3.same _ _ (by omega) hk2 rfl)
        exact ⟨_, _, hr, .inr ⟨rfl, .goto t, hIx _ _ _ _ _ _ (by omega) h3l rfl hi3, hl4, hk4⟩⟩
      | panic ch => exact hp.elim
      | outgrown => exact hp.elim
    · rintro e W2 ⟨⟨v, rfl⟩, (⟨hIk, hl, hk⟩ | ⟨c, hck, cd, hi, hl, hk⟩)⟩
      · exact ⟨none, _, by have := run_endLoop (P := P) hl (by rw [hrec]; simp); rw [hrec] at this; exact this, hdone _ _ (Nat.le_refl _) (hI _ _ _ _ _ (by omega) hl rfl hIk) ((World.putObj_heap_other (by omega)).trans hk)⟩
      · exact ⟨some cd, _, by have := run_endLoop (P := P) hl (by rw [hrec]; simp); rw [hrec] at this; exact this, hstop _ cd c _ (Nat.le_refl _) hck (hIx _ _ _ _ _ _ (by omega) hl rfl hi) ((World.putObj_heap_other (by omega)).trans hk)⟩
end
end Go.Proofs.Ytagdbadljcongaa.X
end

section
/- thread.differ, the walk. -/
set_option linter.unusedVariables false
set_option linter.unusedSimpArgs false
namespace Go.Proofs.Ytagdbadljcongaa.X
open Go Go.RowKit Go.Proofs.YtagdbadljcongaaW.PrintWords Go.Proofs.YtagdbadljcongaaW.PrintLast Go.Proofs.YtagdbadljcongaaW.PrintMore
attribute [local go_sem] Oper.semAt_some
attribute [local go_sem high] eqA110
/-- What follows a round of letters. -/
def bfsK (u w : List Nat) (n q : Nat) : Option (List Nat) × List Ent → Option (List Nat)
  | (some r, _) => some r
  | (none, Q) => bfs u w n q Q
theorem bfs_step {u w : List Nat} {n q : Nat} {Q : List Ent} (h : q < Q.length) : bfs u w (n + 1) q Q = bfsK u w n (q + 1) (bfsR u w Q[q] [0, 1, 2, 3] Q) := by
  conv => lhs; unfold bfs
  rw [List.getElem?_eq_getElem h]
  dsimp only
  generalize bfsR u w Q[q] [0, 1, 2, 3] Q = x
  rcases x with ⟨_ | _, _⟩ <;> rfl
theorem drop4 {c : Nat} (h : c < 4) : [0, 1, 2, 3].drop c = c :: [0, 1, 2, 3].drop (c + 1) := by
  have : c = 0 ∨ c = 1 ∨ c = 2 ∨ c = 3 := by omega
  rcases this with rfl | rfl | rfl | rfl <;> rfl
theorem bfsR_stop {u w : List Nat} {p : Ent} {c a b : Nat} {cs : List Nat} {Q : List Ent} (ha : nx u p.i (97 + c) = a) (hb : nx w p.j (97 + c) = b) (h : decide (a < u.length) ≠ decide (b < w.length)) : bfsR u w p (c :: cs) Q = (some (p.wd ++ [97 + c]), Q) := by
  unfold bfsR
  rw [ha, hb, if_pos (by simpa using h)]
theorem bfsR_push {u w : List Nat} {p : Ent} {c a b : Nat} {cs : List Nat} {Q : List Ent} (ha : nx u p.i (97 + c) = a) (hb : nx w p.j (97 + c) = b) (h1 : a < u.length) (h2 : b < w.length) (h : knownB Q (a + 1) (b + 1) = false) : bfsR u w p (c :: cs) Q = bfsR u w p cs (Q ++ [⟨a + 1, b + 1, p.wd ++ [97 + c]⟩]) := by
  conv => lhs; unfold bfsR
  rw [ha, hb, if_neg (by simp [h1, h2]), if_pos ⟨h1, h⟩]
theorem bfsR_skip {u w : List Nat} {p : Ent} {c a b : Nat} {cs : List Nat} {Q : List Ent} (ha : nx u p.i (97 + c) = a) (hb : nx w p.j (97 + c) = b) (h1 : decide (a < u.length) = decide (b < w.length)) (h : a < u.length → knownB Q (a + 1) (b + 1) = true) : bfsR u w p (c :: cs) Q = bfsR u w p cs Q := by
  conv => lhs; unfold bfsR
  rw [ha, hb, if_neg (by simp [h1]), if_neg (fun e => by rw [h e.1] at e; cases e.2)]
/-- Where a round stands when c letters have been tried. -/
structure DfR (u s : ByteArray) (E : DfG) (w : World) (r : Option (List Nat)) (T n q gp pi pj : Nat) (ds : List Deferred) (k : Nat) (W : World) : Prop where
  ex : ∃ (Q : List Ent) (A : Option Addr) (c : Nat), DfAt u s E w.heap.size (fun x => x ≠ gp) Q A c W ∧ QOk (bl u) (bl s) Q ∧ ∃ h : q < Q.length, (Q[q]).i = pi ∧ (Q[q]).j = pj ∧ bfsK (bl u) (bl s) n (q + 1) (bfsR (bl u) (bl s) (Q[q]) ([0, 1, 2, 3].drop k) Q) = r
  cp : W.heap[gp]? = some (.cells #[.int .i64 pi, .int .i64 pj] 110 (0, 0))
  bel : Below w.heap.size w W
  mks : Marks w.heap.size W ds
  dl : ∀ D, ({ target := .collected D, args := #[] } : Deferred) ∈ ds → D < T
/-- What a round leaves that has found the word. -/
structure DfX (E : DfG) (w : World) (r : Option (List Nat)) (T : Nat) (ds : List Deferred) (W : World) : Prop where
  ex : ∃ o : ByteArray, W.heap[E.gr]? = some (.cells #[.string o] 9 (0, 0)) ∧ bl o = r.getD []
  bel : Below w.heap.size w W
  mks : Marks w.heap.size W ds
  dl : ∀ D, ({ target := .collected D, args := #[] } : Deferred) ∈ ds → D < T
theorem DfR.put {u s : ByteArray} {E : DfG} {w W : World} {r : Option (List Nat)} {T n q gp pi pj : Nat} {ds : List Deferred} {k : Nat} (h : DfR u s E w r T n q gp pi pj ds k W) (hT : w.heap.size ≤ T) (hB : E.B < T) {l : Nat} {ob : Obj} (hl : T ≤ l) (ho : W.heap[l]? = some ob) (hc : ob.isCells = false) (ob' : Obj) : DfR u s E w r T n q gp pi pj ds k (W.putObj l ob') := by
  obtain ⟨Q, A, c, h1, h2⟩ := h.ex
  refine ⟨⟨Q, A, c, h1.put ho hc (by omega) ob', h2⟩, ?_, below_put h.bel (by omega) _, h.mks.put (fun D hD e => by have := h.dl D hD; omega) _, h.dl⟩
  rw [World.putObj_heap_other (fun e => by subst e; have := h.cp; rw [ho] at this; injection this with this; subst this; cases hc)]
  exact h.cp
theorem DfX.put {E : DfG} {w W : World} {r : Option (List Nat)} {T : Nat} {ds : List Deferred} (h : DfX E w r T ds W) (hT : w.heap.size ≤ T) {l : Nat} {ob : Obj} (hl : T ≤ l) (ho : W.heap[l]? = some ob) (hc : ob.isCells = false) (ob' : Obj) : DfX E w r T ds (W.putObj l ob') := by
  obtain ⟨o, h1, h2⟩ := h.ex
  refine ⟨⟨o, ?_, h2⟩, below_put h.bel (by omega) _, h.mks.put (fun D hD e => by have := h.dl D hD; omega) _, h.dl⟩
  rw [World.putObj_heap_other (fun e => by subst e; rw [ho] at h1; injection h1 with h1; subst h1; cases hc)]
  exact h1
theorem DfR.below {u s : ByteArray} {E : DfG} {w W W' : World} {r : Option (List Nat)} {T n q gp pi pj : Nat} {ds : List Deferred} {k : Nat} (h : DfR u s E w r T n q gp pi pj ds k W) (hb : Below W.heap.size W W') : DfR u s E w r T n q gp pi pj ds k W' := by
  obtain ⟨Q, A, c, h1, h2⟩ := h.ex
  exact ⟨⟨Q, A, c, h1.below hb, h2⟩, blk_below h.cp hb, below_step h.bel hb, h.mks.below hb, h.dl⟩
theorem bl_append (a b : ByteArray) : bl (a ++ b) = bl a ++ bl b := by unfold bl; rw [ByteArray.data_append, Array.toList_append, List.map_append]
theorem bl_ltr1 {c : Nat} (hc : c < 4) : bl (ltr c) = [97 + c] := by
  have hcc : c = 0 ∨ c = 1 ∨ c = 2 ∨ c = 3 := by omega
  rcases hcc with rfl | rfl | rfl | rfl <;> rfl
def strOf : Value → ByteArray
  | .string s => s
  | _ => ⟨#[]⟩
theorem QOk.wdlen {u w : List Nat} {Q : List Ent} (h : QOk u w Q) : ∀ m (hm : m < Q.length), (Q[m]).wd.length ≤ m := by
  intro m
  induction m using Nat.strongRecOn with
  | ind m ih =>
    intro hm
    rcases Nat.eq_zero_or_pos m with h0 | h0
    · subst h0
      obtain ⟨t, ht, _⟩ := h.hd
      simp [ht, root]
    · obtain ⟨m', c, h', _, e⟩ := h.par m hm h0
      have := ih m' h' (by omega)
      rw [e, List.length_append]
      simp; omega
/-- The way back: the m-th entry is reached, o is what has been spelt. -/
structure DfS (u s : ByteArray) (E : DfG) (w W : World) (gp : Nat) (Q : List Ent) (A : Option Addr) (c : Nat) (R : List Nat) (ds : List Deferred) (m : Nat) (o : ByteArray) (V : World) : Prop where
  at_ : DfAt u s E w.heap.size (fun x => x ≠ gp) Q A c V
  hm : ∃ h : m < Q.length, V.heap[gp]? = some (.cells #[.int .i64 (Q[m]).i, .int .i64 (Q[m]).j] 110 (0, 0)) ∧ (Q[m]).wd ++ bl o = R
  bel : Below w.heap.size w V
  ko : KeepsOthers W V
  mks : Marks w.heap.size V ds
theorem DfS.step {u s : ByteArray} {E : DfG} {w W V : World} {gp : Nat} {Q : List Ent} {A : Option Addr} {c : Nat} {R : List Nat} {ds : List Deferred} {m m' : Nat} {o o' : ByteArray} (h : DfS u s E w W gp Q A c R ds m o V) (hg : w.heap.size ≤ gp) (hm' : m' < Q.length) (hR : (Q[m']).wd ++ bl o' = R) :
    DfS u s E w W gp Q A c R ds m' o' ((V.setCell ⟨gp, 0, none⟩ (.int .i64 (Q[m']).i)).setCell ⟨gp, 1, none⟩ (.int .i64 (Q[m']).j)) := by
  obtain ⟨h0, h1, h2⟩ := h.hm
  have e1 := blk_set h1 0 (.int .i64 (Q[m']).i)
  have e2 := blk_set e1 1 (.int .i64 (Q[m']).j)
  exact ⟨(h.at_.setFar h1 _ _).setFar e1 _ _, ⟨hm', e2, hR⟩, (h.bel.setCell hg _).setCell hg _, (h.ko.trans (KeepsOthers.setCell _ _ _)).trans (KeepsOthers.setCell _ _ _), (h.mks.keepsOthers (KeepsOthers.setCell _ _ _)).keepsOthers (KeepsOthers.setCell _ _ _)⟩
theorem field113_0 (i j : Nat) (o : ByteArray) (W : World) : (Instr.field 113 (stepV i j o) 0).run Try.prog W = .ok (.agg #[.int .i64 (i : Int), .int .i64 (j : Int)]) W := by kernel_rfl
theorem field113_1 (i j : Nat) (o : ByteArray) (W : World) : (Instr.field 113 (stepV i j o) 1).run Try.prog W = .ok (.string o) W := by kernel_rfl
theorem build113 (i j : Int) (o : ByteArray) (W : World) : (Instr.build 113 #[(0, .agg #[.int .i64 i, .int .i64 j]), (1, .string o)]).run Try.prog W = .ok (.agg #[.int .i64 i, .int .i64 j, .string o]) W := by kernel_rfl
/-- What differ returns. -/
def DiPost (r : Option (List Nat)) (w : World) (e : Ending) (w' : World) : Prop := ∃ o, bl o = r.getD [] ∧ e = .returned (.string o) ∧ Below w.heap.size w w'
set_option maxHeartbeats 8000000 in
set_option maxRecDepth 100000 in
theorem differ_any (u s : ByteArray) (bx bw : Nat) (w : World) (hx : WordAt w bx u) (hw : WordAt w bw s) (hu60 : u.size ≤ 60) (hs60 : s.size ≤ 60) (r : Option (List Nat)) (hr : diffW (bl u) (bl s) = r) : Calls Try.prog 54 #[.pointer (some ⟨bx, 0, none⟩), .pointer (some ⟨bw, 0, none⟩)] w (DiPost r w) := by
  have HX := Aside0.mk hx
  have HW := Aside0.mk hw
  have HU60 := Aside0.mk hu60
  have HS60 := Aside0.mk hs60
  have HRR := Aside0.mk hr
  have hmm := @run_makeMap Try.prog
  clear hx hw hu60 hs60 hr
  refine (callsIn_wide (n := 3)).1 (callsIn_of_wp_marks Try.func54 rfl trivial (wpIn_wide.2 ?_))
  simp only [Try.ntmps54, List.size_toArray, List.length_cons, List.length_nil, Nat.reduceAdd, Nat.reduceSub, Array.replicate_succ, Array.replicate_zero, List.push_toArray, List.append_toArray, List.nil_append, List.cons_append]
  go_wp2
  clear hmm
  obtain ⟨W0, hW0⟩ : ∃ W0, ((((((w.alloc (.cells #[.pointer (some ⟨bx, 0, none⟩)] 70)).alloc (.cells #[.pointer (some ⟨bw, 0, none⟩)] 70)).alloc (.cells #[.string ⟨#[]⟩] 9)).alloc (.map #[] 0)).alloc (.cells #[.map (some (w.heap.size + 1 + 1 + 1))] 108)).alloc (.cells #[.int .i64 0, .int .i64 0] 110)).alloc (.cells #[.slice (some ⟨w.heap.size + 1 + 1 + 1 + 1 + 1, 0, none⟩) 1 1] 111) = W0 := ⟨_, rfl⟩
  obtain ⟨E, hE⟩ : ∃ E : DfG, E = ⟨bx, bw, w.heap.size, w.heap.size + 1, w.heap.size + 1 + 1, w.heap.size + 1 + 1 + 1, w.heap.size + 1 + 1 + 1 + 1, w.heap.size + 1 + 1 + 1 + 1 + 1 + 1⟩ := ⟨_, rfl⟩
  have HST := Aside0.mk (show DfAt u s E w.heap.size (fun _ => True) [root] (some ⟨w.heap.size + 1 + 1 + 1 + 1 + 1, 0, none⟩) 1 W0 ∧ Below w.heap.size w W0 by
    rw [← hW0, hE]
    exact DfAt.start u s bx bw w HX.out HW.out)
  have hg : E.gx = w.heap.size ∧ E.gy = w.heap.size + 1 ∧ E.gr = w.heap.size + 1 + 1 ∧ E.gm = w.heap.size + 1 + 1 + 1 + 1 ∧ E.gq = w.heap.size + 1 + 1 + 1 + 1 + 1 + 1 := by rw [hE]; exact ⟨rfl, rfl, rfl, rfl, rfl⟩
  obtain ⟨g1, g2, g3, g4, g5⟩ := hg
  rw [hW0]
  clear hW0 hE
  refine act_named (fun A hA => ?_)
  refine wp_loop_ghost_k (fun n a wr => ∃ (q : Nat) (Q : List Ent) (A : Option Addr) (c : Nat) (ds : List Deferred), ∃ U : Array Value, Aside0 (DfAt u s E w.heap.size (fun _ => True) Q A c wr ∧ Below w.heap.size w wr ∧ Marks w.heap.size wr ds ∧ QOk (bl u) (bl s) Q ∧ n + q = 3845 ∧ q ≤ Q.length ∧ bfs (bl u) (bl s) n q Q = r) ∧ a = { tmps := #[sl U 0, sl U 1, .pointer (some ⟨E.gx, 0, none⟩), .pointer (some ⟨E.gy, 0, none⟩), .pointer (some ⟨E.gr, 0, none⟩), .pointer (some ⟨E.gm, 0, none⟩), .pointer (some ⟨E.gq, 0, none⟩), .int .i64 q, sl U 8, sl U 9, sl U 10, sl U 11, sl U 12, sl U 13, sl U 14, sl U 15, sl U 16, sl U 17, sl U 18, sl U 19, sl U 20, sl U 21, sl U 22, sl U 23, sl U 24, sl U 25, sl U 26, sl U 27, sl U 28, sl U 29, sl U 30, sl U 31, sl U 32, sl U 33, sl U 34, sl U 35, sl U 36, sl U 37, sl U 38, sl U 39, sl U 40, sl U 41, sl U 42, sl U 43, sl U 44, sl U 45, sl U 46, sl U 47, sl U 48, sl U 49, sl U 50, sl U 51, sl U 52, sl U 53, sl U 54, sl U 55, sl U 56, sl U 57, sl U 58, sl U 59, sl U 60, sl U 61, sl U 62, sl U 63, sl U 64, sl U 65, sl U 66, sl U 67, sl U 68, sl U 69, sl U 70, sl U 71, sl U 72, sl U 73, sl U 74, sl U 75, sl U 76, sl U 77, sl U 78, sl U 79, sl U 80, sl U 81, sl U 82, sl U 83, sl U 84, sl U 85, sl U 86, sl U 87, sl U 88, sl U 89, sl U 90, sl U 91], defers := ds }) 3845 ?_ ?_
  · refine ⟨0, [root], _, 1, [], ex_act ⟨⟨HST.out.1, HST.out.2, trivial, QOk.start _ _, rfl, by simp, HRR.out⟩⟩ ?_⟩
    rw [hA, g1, g2, g3, g4, g5]
    rfl
  clear HST g1 g2 g3 g4 g5 hA A HRR
  intro n a wr hI J K hJ hK
  obtain ⟨q, Q, A, c, ds, U, HI, rfl⟩ := hI
  dsimp only
  have hq1 : wr.cell? ⟨E.gq, 0, none⟩ = some (.slice A Q.length c) := (blk_cell HI.out.1.cq 0).trans rfl
  by_cases hlt : q < Q.length
  · have hltI : (q : Int) < (Q.length : Int) := by omega
    obtain ⟨g, cap, hv, _⟩ := Kd.R_form HI.out.1.row (by rw [List.length_map]; omega)
    injection hv with hv1 hv2 hv3
    subst hv1 hv3
    clear hv2
    obtain ⟨p1, p2⟩ := pair_get HI.out.1.row q hlt
    obtain ⟨pi, hpi⟩ : ∃ i, (Q[q]).i = i := ⟨_, rfl⟩
    obtain ⟨pj, hpj⟩ : ∃ j, (Q[q]).j = j := ⟨_, rfl⟩
    rw [hpi] at p1
    rw [hpj] at p2
    have HPI := Aside0.mk (show ∀ h : q < Q.length, (Q[q]).i = pi ∧ (Q[q]).j = pj from fun _ => ⟨hpi, hpj⟩)
    have HLT := Aside0.mk hlt
    have hq0 : (0 : Int) ≤ (q : Int) := by omega
    clear hlt hpi hpj
    go_wp2_with (go_at_call 52; (with_reducible refine (alphabet_calls 4 _).mono ?_); rintro e w7 ⟨rfl, rfl⟩)
    obtain ⟨Ws, hWs⟩ : ∃ Ws, (wr.alloc (.cells #[.int .i64 pi, .int .i64 pj] 110)).alloc (.cells #[.int .i64 4] 3) = Ws := ⟨_, rfl⟩
    obtain ⟨n', hn'⟩ : ∃ n', n = n' + 1 := ⟨n - 1, by
      have h1 := HI.out.2.2.2.1.size (by rw [bl_length]; exact HU60.out) (by rw [bl_length]; exact HS60.out)
      have h2 := HI.out.2.2.2.2.1
      have h3 := HLT.out
      omega⟩
    have hRI : DfR u s E w r Ws.heap.size n' q wr.heap.size pi pj ds 0 Ws := by
      subst hWs
      have hb := below_alloc (below_alloc (Below.refl wr.heap.size wr) (.cells #[.int .i64 pi, .int .i64 pj] 110)) (.cells #[.int .i64 4] 3)
      refine ⟨⟨Q, _, c, (HI.out.1.okMono (fun k hk _ => by omega)).below hb, HI.out.2.2.2.1, HLT.out, (HPI.out _).1, (HPI.out _).2, ?_⟩, blk_alloc (blk_new _ _) _, below_step HI.out.2.1 hb, HI.out.2.2.1.below hb, ?_⟩
      · have h2 := HI.out.2.2.2.2.2.2
        rw [hn', bfs_step HLT.out] at h2
        exact h2
      · intro D hD
        have := blk_lt (HI.out.2.2.1.lt hD)
        simp; omega
    have hbx : Ws.heap[wr.heap.size + 1]? = some (.cells #[.int .i64 4] 3 (0, 0)) := by
      rw [← hWs]; have := blk_new (wr.alloc (.cells #[.int .i64 pi, .int .i64 pj] 110)) (.cells #[.int .i64 4] 3); rwa [World.size_alloc] at this
    rw [hWs]
    have hT : w.heap.size ≤ Ws.heap.size := hRI.bel.size
    have hB : E.B < Ws.heap.size := by
      obtain ⟨Q, A, c, h1, _⟩ := hRI.ex
      obtain ⟨_, _, h2, _⟩ := h1.mp
      exact h2.lt
    obtain ⟨gp, hgp⟩ : ∃ gp, wr.heap.size = gp := ⟨_, rfl⟩
    have hgT : gp < Ws.heap.size := by rw [← hgp, ← hWs]; simp; omega
    rw [hgp] at hRI hbx
    have HRI := Aside0.mk hRI
    have HBX := Aside0.mk hbx
    have HT := Aside0.mk hT
    have HTB := Aside0.mk hB
    have HGT := Aside0.mk hgT
    have HGW := Aside0.mk (show w.heap.size ≤ gp by rw [← hgp]; exact HI.out.2.1.size)
    clear hWs hRI hbx hT hB hgT p1 p2 hq1 hltI hq0
    rw [hgp]
    refine (wpIn_wide (n := 3)).1 ?_
    refine wpIn_rangeFunc_G (F := Fence.wide) rfl (by decide) (gf := 70) (lb := #[.pointer (some ⟨gp + 1, 0, none⟩)]) rfl trivial (enters_of Try.func70 (by kernel_rfl) rfl) (alphabet_seq 4 (gp + 1) Ws (by omega) HBX.out) (fun _ => rfl)
      (fun c W => DfR u s E w r Ws.heap.size n' q gp pi pj ds c W) (fun e c W => e = .ret ∧ DfX E w r Ws.heap.size ds W) (fun c W l ob ob' hl ho hc h => h.put HT.out HTB.out hl ho hc ob') (fun e c W l ob ob' hl ho hc h => ⟨h.1, h.2.put HT.out hl ho hc ob'⟩) ?h0 ?a1 ?assign ?body ?done ?stop
    case h0 => exact fun ob ob' => HRI.out.below (below_alloc (below_alloc (Below.refl _ _) _) _)
    case assign =>
      intro l x W K hK
      gi_wp2
      exact hK
    case body =>
      clear HI HPI HLT hgp hn'
      intro l k W hl hk hI
      obtain ⟨Q2, A2, c2, hat, hqk, hq2, hpi, hpj, hres⟩ := hI.ex
      have HIR := Aside0.mk hI
      have HAT := Aside0.mk hat
      have HQK := Aside0.mk hqk
      have HK := Aside0.mk hk
      have HQ2 := Aside0.mk hq2
      have HP := Aside0.mk (show ∀ h : q < Q2.length, (Q2[q]).i = pi ∧ (Q2[q]).j = pj ∧ bfsK (bl u) (bl s) n' (q + 1) (bfsR (bl u) (bl s) (Q2[q]) ([0, 1, 2, 3].drop k) Q2) = r from fun _ => ⟨hpi, hpj, hres⟩)
      have HPL := Aside0.mk (show pi ≤ u.size ∧ pj ≤ s.size by
        have := hqk.le (List.getElem_mem hq2)
        rw [hpi, hpj, bl_length, bl_length] at this
        exact this)
      have t1 : W.cell? ⟨E.gx, 0, none⟩ = some (.pointer (some ⟨E.bx, 0, none⟩)) := (blk_cell hat.cx 0).trans rfl
      have t2 : W.cell? ⟨E.gy, 0, none⟩ = some (.pointer (some ⟨E.bw, 0, none⟩)) := (blk_cell hat.cy 0).trans rfl
      have t3 : W.cell? ⟨gp, 0, none⟩ = some (.int .i64 pi) := (blk_cell hI.cp 0).trans rfl
      have t4 : W.cell? ⟨gp, 1, none⟩ = some (.int .i64 pj) := (blk_cell hI.cp 1).trans rfl
      have t5 : W.cell? ⟨E.gm, 0, none⟩ = some (.map (some E.B)) := (blk_cell hat.cm 0).trans rfl
      obtain ⟨a, ha⟩ : ∃ a, nx (bl u) pi (97 + k) = a := ⟨_, rfl⟩
      obtain ⟨b, hb⟩ : ∃ b, nx (bl s) pj (97 + k) = b := ⟨_, rfl⟩
      obtain ⟨rx, hrx⟩ : ∃ rx, decide (a < u.size) = rx := ⟨_, rfl⟩
      obtain ⟨ry, hry⟩ : ∃ ry, decide (b < s.size) = ry := ⟨_, rfl⟩
      obtain ⟨kn, hkn⟩ : ∃ kn, knownB Q2 (a + 1) (b + 1) = kn := ⟨_, rfl⟩
      have HA := Aside0.mk ha
      have HB := Aside0.mk hb
      have HRX := Aside0.mk hrx
      have HRY := Aside0.mk hry
      have HKN := Aside0.mk hkn
      have HA60 := Aside0.mk (show a ≤ 60 ∧ b ≤ 60 by
        have h1 := nx_le (bl u) pi (97 + k) (by rw [bl_length]; exact HPL.out.1)
        have h2 := nx_le (bl s) pj (97 + k) (by rw [bl_length]; exact HPL.out.2)
        rw [ha, bl_length] at h1
        rw [hb, bl_length] at h2
        have := HU60.out
        have := HS60.out
        omega)
      have AFX := Aside0.mk (fun (m' : Nat) => after_in l m' W E.bx u hat.wx HU60.out pi k a rx HPL.out.1 hk ha hrx)
      have AFY := Aside0.mk (fun (m' : Nat) (W' : World) (h : Below W.heap.size W W') => after_in l m' W' E.bw s (hat.wy.below h) HS60.out pj k b ry HPL.out.2 hk hb hry)
      have hk4 : (k : Int) < 4 := by omega
      have hpi60 : (pi : Int) ≤ 60 := by have := HPL.out; have := HU60.out; omega
      have hpj60 : (pj : Int) ≤ 60 := by have := HPL.out; have := HS60.out; omega
      clear hI hat hqk hk hq2 hpi hpj hres ha hb hrx hry hkn hl
      gi_upto_region 12 with (first | (refine ⟨trivial, ?_⟩; gi_at_call 57; (with_reducible refine (AFX.out _).mono ?_); rintro e wa ⟨rfl, HDR⟩; have HBA := Aside0.mk HDR.below; have u2 := pw_cell_below HDR.below t2; have u4 := pw_cell_below HDR.below t4; clear HDR) | (refine ⟨trivial, ?_⟩; gi_at_call 57; (with_reducible refine (AFY.out _ _ HBA.out).mono ?_); rintro e wb ⟨rfl, HDR⟩; have HBB := Aside0.mk (below_step HBA.out HDR.below); clear HDR))
      have u5 := pw_cell_below HBB.out t5
      have HB1 := Aside0.mk (show Below W.heap.size W (wb.alloc (.cells #[.int .i64 ((a : Int) + 1), .int .i64 ((b : Int) + 1)] 110)) from below_alloc HBB.out _)
      obtain ⟨x, y, z, lk⟩ := look_pair (HAT.out.below HB1.out) HQK.out a b HA60.out.1 HA60.out.2
      rw [HKN.out] at lk
      have u6 := pw_cell_below HB1.out t5
      gi_upto_region 14 with (fail)
      clear lk t1 t2 t3 t4 u2 u4 u6 hk4
      have hnb : (wb.alloc (.cells #[.int .i64 ((a : Int) + 1), .int .i64 ((b : Int) + 1)] 110)).heap.size = wb.heap.size + 1 := World.size_alloc _ _
      obtain ⟨W3, hW3⟩ : ∃ W3, (wb.alloc (.cells #[.int .i64 ((a : Int) + 1), .int .i64 ((b : Int) + 1)] 110)).alloc (.cells #[.int .i64 x, .int .i64 y, .string z] 113) = W3 := ⟨_, rfl⟩
      have hb3 : Below W.heap.size W W3 := by rw [← hW3]; exact below_alloc HB1.out _
      have hn3 : W3.heap[wb.heap.size]? = some (.cells #[.int .i64 ((a : Int) + 1), .int .i64 ((b : Int) + 1)] 110 (0, 0)) := by rw [← hW3]; exact blk_alloc (blk_new _ _) _
      rw [hW3]
      obtain ⟨nb, hnbe⟩ : ∃ nb, wb.heap.size = nb := ⟨_, rfl⟩
      rw [hnbe] at hn3 ⊢
      have HB3 := Aside0.mk hb3
      have HN3 := Aside0.mk hn3
      clear hW3 hb3 hn3 HB1 HBB u5 hnb hnbe HBA AFX AFY
      have HSK := Aside0.mk (show rx = ry → (rx = true → kn = true) → DfR u s E w r Ws.heap.size n' q gp pi pj ds (k + 1) W3 from fun h1 h2 => by
        refine ⟨⟨Q2, A2, c2, HAT.out.below HB3.out, HQK.out, HQ2.out, (HP.out _).1, (HP.out _).2.1, ?_⟩, blk_below HIR.out.cp HB3.out, below_step HIR.out.bel HB3.out, HIR.out.mks.below HB3.out, HIR.out.dl⟩
        have h := (HP.out HQ2.out).2.2
        rw [drop4 HK.out, bfsR_skip (a := a) (b := b) (by rw [(HP.out HQ2.out).1]; exact HA.out) (by rw [(HP.out HQ2.out).2.1]; exact HB.out) (by rw [bl_length, bl_length, HRX.out, HRY.out, h1]) (fun e => by rw [HKN.out]; exact h2 (by rw [← HRX.out]; rw [bl_length] at e; exact decide_eq_true e))] at h
        exact h)
      have HKF := Aside0.mk ((keepsOf HB3.out).from Ws.heap.size)
      cases rx <;> cases ry
      · gi_wp2
        exact ⟨HKF.out, HSK.out (by first | rfl | trivial) (by simp)⟩
      · have hat3 := HAT.out.below HB3.out
        have hbd := HQK.out.size (by rw [bl_length]; exact HU60.out) (by rw [bl_length]; exact HS60.out)
        obtain ⟨RW, hRW⟩ : ∃ RW, (Q2[q]'HQ2.out).wd ++ [97 + k] = RW := ⟨_, rfl⟩
        have HRW := Aside0.mk (show r = some RW by
          have h := (HP.out HQ2.out).2.2
          rw [drop4 HK.out, bfsR_stop (a := a) (b := b) (by rw [(HP.out HQ2.out).1]; exact HA.out) (by rw [(HP.out HQ2.out).2.1]; exact HB.out) (by rw [bl_length, bl_length, HRX.out, HRY.out]; decide), hRW] at h
          exact h.symm)
        have HRL := Aside0.mk (show RW.length ≤ 3845 by
          have := HQK.out.wdlen q HQ2.out
          have := HQ2.out
          rw [← hRW]; simp; omega)
        have H0 := Aside0.mk (show DfS u s E w W gp Q2 A2 c2 RW ds q (ltr k) W3 from ⟨hat3, ⟨HQ2.out, by rw [(HP.out _).1, (HP.out _).2.1]; exact blk_below HIR.out.cp HB3.out, by rw [bl_ltr1 HK.out]; exact hRW⟩, below_step HIR.out.bel HB3.out, keepsOf HB3.out, HIR.out.mks.below HB3.out⟩)
        have HGL := Aside0.mk (show w.heap.size ≤ gp from HGW.out)
        clear hat3 hbd hRW HSK HKF
        gi_wp2
        gi_loopw [10] (fun v10 wr => ∃ (m : Nat) (o : ByteArray), v10 = .string o ∧ Aside0 (DfS u s E w W gp Q2 A2 c2 RW ds m o wr)) (fun v10 _ => RW.length + 1 - (strOf v10).size)
        case atStart => exact ⟨q, _, rfl, H0⟩
        case round =>
          clear H0
          obtain ⟨m, o, rfl, HS⟩ := hrel
          obtain ⟨hm, hcp, hrw⟩ := HS.out.hm
          rcases Nat.eq_zero_or_pos m with h0 | h0
          · subst h0
            have hz : (Q2[0]).i = 0 ∧ (Q2[0]).j = 0 ∧ (Q2[0]).wd = [] := by
              obtain ⟨t, ht, _⟩ := HQK.out.hd
              simp [ht, root]
            rw [hz.1, hz.2.1] at hcp
            rw [hz.2.2] at hrw
            have c1 : wr.cell? ⟨gp, 0, none⟩ = some (.int .i64 0) := (blk_cell hcp 0).trans rfl
            have c2 : wr.cell? ⟨gp, 1, none⟩ = some (.int .i64 0) := (blk_cell hcp 1).trans rfl
            obtain ⟨o0, ho0⟩ := HS.out.at_.cr
            have c3 : wr.cell? ⟨E.gr, 0, none⟩ = some (.string o0) := (blk_cell ho0 0).trans rfl
            have c4 := blk_frozen ho0 0
            have HX := Aside0.mk (show DfX E w r Ws.heap.size ds (wr.setCell ⟨E.gr, 0, none⟩ (.string o)) from ⟨⟨o, HS.out.at_.setR o, by rw [HRW.out]; exact hrw⟩, HS.out.bel.setCell HS.out.at_.lo_.2.2.1 _, HS.out.mks.keepsOthers (KeepsOthers.setCell _ _ _), HIR.out.dl⟩)
            have HKO := Aside0.mk ((HS.out.ko.trans (KeepsOthers.setCell wr ⟨E.gr, 0, none⟩ (.string o))).from Ws.heap.size)
            clear hz hcp hrw ho0 hm
            gi_wp2
            exact ⟨HKO.out, rfl, HX.out⟩
          · obtain ⟨mn, mf, m1, _, m3⟩ := HS.out.at_.mp
            obtain ⟨m', c', h', hc4, hwd, hf⟩ := m3.1 m hm h0
            have hle := HQK.out.le (List.getElem_mem hm)
            have hle2 : 1 ≤ (Q2[m]).i := by
              obtain ⟨t, ht, h2⟩ := HQK.out.hd
              have e : ∀ (Q : List Ent) (h : m < Q.length), Q = root :: t → 1 ≤ (Q[m]).i := by
                rintro Q h rfl
                cases m with
                | zero => cases h0
                | succ m => exact (h2 _ (List.getElem_mem (by simpa using h))).1
              exact e Q2 hm ht
            rw [bl_length, bl_length] at hle
            obtain ⟨im, him⟩ : ∃ i, (Q2[m]).i = i := ⟨_, rfl⟩
            obtain ⟨jm, hjm⟩ : ∃ i, (Q2[m]).j = i := ⟨_, rfl⟩
            obtain ⟨i2, hi2⟩ : ∃ i, (Q2[m']'(by omega)).i = i := ⟨_, rfl⟩
            obtain ⟨j2, hj2⟩ : ∃ i, (Q2[m']'(by omega)).j = i := ⟨_, rfl⟩
            have HST := Aside0.mk (HS.out.step (m' := m') (o' := ltr c' ++ o) HGL.out (by omega) (by rw [bl_append, bl_ltr1 hc4, ← List.append_assoc, ← hwd]; exact hrw))
            rw [hi2, hj2] at HST
            rw [him, hjm] at hcp
            rw [him, hjm, hi2, hj2] at hf
            rw [him] at hle hle2
            rw [hjm] at hle
            have hsz1 : o.size < RW.length := by rw [← hrw, List.length_append, hwd, List.length_append, bl_length]; simp only [List.length_cons, List.length_nil]; omega
            have HSZ := Aside0.mk hsz1
            have lk : (Instr.lookup 108 (.map (some E.B)) (.agg #[.int .i64 (im : Int), .int .i64 (jm : Int)]) false).run Try.prog wr = .ok (stepV i2 j2 (ltr c')) wr := by
              have h := m1.look (t := 108) (e := 113) keyed110 Try.underlying108 (zero113 wr) (key110 im jm (by have := HU60.out; omega) (by have := HS60.out; omega))
              rw [hf] at h
              exact h
            have c1 : wr.cell? ⟨gp, 0, none⟩ = some (.int .i64 im) := (blk_cell hcp 0).trans rfl
            have c2 : wr.cell? ⟨gp, 1, none⟩ = some (.int .i64 jm) := (blk_cell hcp 1).trans rfl
            have c3 : wr.cell? ⟨E.gm, 0, none⟩ = some (.map (some E.B)) := (blk_cell HS.out.at_.cm 0).trans rfl
            have c4 := blk_frozen hcp 0
            have c5 := blk_frozen hcp 1
            have fd0 := field113_0 i2 j2 (ltr c')
            have fd1 := field113_1 i2 j2 (ltr c')
            have hi0 : im ≠ 0 := by omega
            have hi1 : ((im : Int) == 0) = false := by simpa using hi0
            have hsz : (ltr c').size + o.size ≤ 9223372036854775807 := by have := HRL.out; show 1 + o.size ≤ _; omega
            clear him hjm hi2 hj2 hf hle hle2 hwd hm hcp hrw m1 m3 hsz1 hc4
            gi_wp2
            refine ⟨⟨m', _, rfl, HST⟩, ?_⟩
            have e : (ltr c' ++ o).size = 1 + o.size := by rw [ByteArray.size_append]; rfl
            have := HSZ.out
            show RW.length + 1 - (ltr c' ++ o).size < RW.length + 1 - o.size
            omega
      · have hat3 := HAT.out.below HB3.out
        have hbd := HQK.out.size (by rw [bl_length]; exact HU60.out) (by rw [bl_length]; exact HS60.out)
        obtain ⟨RW, hRW⟩ : ∃ RW, (Q2[q]'HQ2.out).wd ++ [97 + k] = RW := ⟨_, rfl⟩
        have HRW := Aside0.mk (show r = some RW by
          have h := (HP.out HQ2.out).2.2
          rw [drop4 HK.out, bfsR_stop (a := a) (b := b) (by rw [(HP.out HQ2.out).1]; exact HA.out) (by rw [(HP.out HQ2.out).2.1]; exact HB.out) (by rw [bl_length, bl_length, HRX.out, HRY.out]; decide), hRW] at h
          exact h.symm)
        have HRL := Aside0.mk (show RW.length ≤ 3845 by
          have := HQK.out.wdlen q HQ2.out
          have := HQ2.out
          rw [← hRW]; simp; omega)
        have H0 := Aside0.mk (show DfS u s E w W gp Q2 A2 c2 RW ds q (ltr k) W3 from ⟨hat3, ⟨HQ2.out, by rw [(HP.out _).1, (HP.out _).2.1]; exact blk_below HIR.out.cp HB3.out, by rw [bl_ltr1 HK.out]; exact hRW⟩, below_step HIR.out.bel HB3.out, keepsOf HB3.out, HIR.out.mks.below HB3.out⟩)
        have HGL := Aside0.mk (show w.heap.size ≤ gp from HGW.out)
        clear hat3 hbd hRW HSK HKF
        gi_wp2
        gi_loopw [10] (fun v10 wr => ∃ (m : Nat) (o : ByteArray), v10 = .string o ∧ Aside0 (DfS u s E w W gp Q2 A2 c2 RW ds m o wr)) (fun v10 _ => RW.length + 1 - (strOf v10).size)
        case atStart => exact ⟨q, _, rfl, H0⟩
        case round =>
          clear H0
          obtain ⟨m, o, rfl, HS⟩ := hrel
          obtain ⟨hm, hcp, hrw⟩ := HS.out.hm
          rcases Nat.eq_zero_or_pos m with h0 | h0
          · subst h0
            have hz : (Q2[0]).i = 0 ∧ (Q2[0]).j = 0 ∧ (Q2[0]).wd = [] := by
              obtain ⟨t, ht, _⟩ := HQK.out.hd
              simp [ht, root]
            rw [hz.1, hz.2.1] at hcp
            rw [hz.2.2] at hrw
            have c1 : wr.cell? ⟨gp, 0, none⟩ = some (.int .i64 0) := (blk_cell hcp 0).trans rfl
            have c2 : wr.cell? ⟨gp, 1, none⟩ = some (.int .i64 0) := (blk_cell hcp 1).trans rfl
            obtain ⟨o0, ho0⟩ := HS.out.at_.cr
            have c3 : wr.cell? ⟨E.gr, 0, none⟩ = some (.string o0) := (blk_cell ho0 0).trans rfl
            have c4 := blk_frozen ho0 0
            have HX := Aside0.mk (show DfX E w r Ws.heap.size ds (wr.setCell ⟨E.gr, 0, none⟩ (.string o)) from ⟨⟨o, HS.out.at_.setR o, by rw [HRW.out]; exact hrw⟩, HS.out.bel.setCell HS.out.at_.lo_.2.2.1 _, HS.out.mks.keepsOthers (KeepsOthers.setCell _ _ _), HIR.out.dl⟩)
            have HKO := Aside0.mk ((HS.out.ko.trans (KeepsOthers.setCell wr ⟨E.gr, 0, none⟩ (.string o))).from Ws.heap.size)
            clear hz hcp hrw ho0 hm
            gi_wp2
            exact ⟨HKO.out, rfl, HX.out⟩
          · obtain ⟨mn, mf, m1, _, m3⟩ := HS.out.at_.mp
            obtain ⟨m', c', h', hc4, hwd, hf⟩ := m3.1 m hm h0
            have hle := HQK.out.le (List.getElem_mem hm)
            have hle2 : 1 ≤ (Q2[m]).i := by
              obtain ⟨t, ht, h2⟩ := HQK.out.hd
              have e : ∀ (Q : List Ent) (h : m < Q.length), Q = root :: t → 1 ≤ (Q[m]).i := by
                rintro Q h rfl
                cases m with
                | zero => cases h0
                | succ m => exact (h2 _ (List.getElem_mem (by simpa using h))).1
              exact e Q2 hm ht
            rw [bl_length, bl_length] at hle
            obtain ⟨im, him⟩ : ∃ i, (Q2[m]).i = i := ⟨_, rfl⟩
            obtain ⟨jm, hjm⟩ : ∃ i, (Q2[m]).j = i := ⟨_, rfl⟩
            obtain ⟨i2, hi2⟩ : ∃ i, (Q2[m']'(by omega)).i = i := ⟨_, rfl⟩
            obtain ⟨j2, hj2⟩ : ∃ i, (Q2[m']'(by omega)).j = i := ⟨_, rfl⟩
            have HST := Aside0.mk (HS.out.step (m' := m') (o' := ltr c' ++ o) HGL.out (by omega) (by rw [bl_append, bl_ltr1 hc4, ← List.append_assoc, ← hwd]; exact hrw))
            rw [hi2, hj2] at HST
            rw [him, hjm] at hcp
            rw [him, hjm, hi2, hj2] at hf
            rw [him] at hle hle2
            rw [hjm] at hle
            have hsz1 : o.size < RW.length := by rw [← hrw, List.length_append, hwd, List.length_append, bl_length]; simp only [List.length_cons, List.length_nil]; omega
            have HSZ := Aside0.mk hsz1
            have lk : (Instr.lookup 108 (.map (some E.B)) (.agg #[.int .i64 (im : Int), .int .i64 (jm : Int)]) false).run Try.prog wr = .ok (stepV i2 j2 (ltr c')) wr := by
              have h := m1.look (t := 108) (e := 113) keyed110 Try.underlying108 (zero113 wr) (key110 im jm (by have := HU60.out; omega) (by have := HS60.out; omega))
              rw [hf] at h
              exact h
            have c1 : wr.cell? ⟨gp, 0, none⟩ = some (.int .i64 im) := (blk_cell hcp 0).trans rfl
            have c2 : wr.cell? ⟨gp, 1, none⟩ = some (.int .i64 jm) := (blk_cell hcp 1).trans rfl
            have c3 : wr.cell? ⟨E.gm, 0, none⟩ = some (.map (some E.B)) := (blk_cell HS.out.at_.cm 0).trans rfl
            have c4 := blk_frozen hcp 0
            have c5 := blk_frozen hcp 1
            have fd0 := field113_0 i2 j2 (ltr c')
            have fd1 := field113_1 i2 j2 (ltr c')
            have hi0 : im ≠ 0 := by omega
            have hi1 : ((im : Int) == 0) = false := by simpa using hi0
            have hsz : (ltr c').size + o.size ≤ 9223372036854775807 := by have := HRL.out; show 1 + o.size ≤ _; omega
            clear him hjm hi2 hj2 hf hle hle2 hwd hm hcp hrw m1 m3 hsz1 hc4
            gi_wp2
            refine ⟨⟨m', _, rfl, HST⟩, ?_⟩
            have e : (ltr c' ++ o).size = 1 + o.size := by rw [ByteArray.size_append]; rfl
            have := HSZ.out
            show RW.length + 1 - (ltr c' ++ o).size < RW.length + 1 - o.size
            omega
      · cases kn
        · have hat3 := HAT.out.below HB3.out
          have hbel := below_step HIR.out.bel HB3.out
          have hmks := HIR.out.mks.below HB3.out
          have hcp := blk_below HIR.out.cp HB3.out
          have hau : a < u.size := of_decide_eq_true HRX.out
          have hbs : b < s.size := of_decide_eq_true HRY.out
          have hbd := HQK.out.size (by rw [bl_length]; exact HU60.out) (by rw [bl_length]; exact HS60.out)
          obtain ⟨mn, mf, m1, m2, m3⟩ := hat3.mp
          have hky : keyOf Try.prog 110 (.agg #[.int .i64 ((a : Int) + 1), .int .i64 ((b : Int) + 1)]) = some (pairK (a + 1) (b + 1)) := key110 (a + 1) (b + 1) (by have := HA60.out; omega) (by have := HA60.out; omega)
          obtain ⟨W5, hst, m4, g5⟩ := m1.store (t := 108) (e := 113) keyed110 Try.underlying108 (by have := HQ2.out; unfold maxLen; omega) (val := stepV pi pj (ltr k)) hky
          have hb113 : ∀ W : World, (Instr.build 113 #[(0, .agg #[.int .i64 (pi : Int), .int .i64 (pj : Int)]), (1, .string (ltr k))]).run Try.prog W = .ok (stepV pi pj (ltr k)) W := fun W => build113 _ _ _ W
          have q1 : W3.cell? ⟨E.gm, 0, none⟩ = some (.map (some E.B)) := (blk_cell hat3.cm 0).trans rfl
          have q2 : W3.cell? ⟨nb, 0, none⟩ = some (.int .i64 ((a : Int) + 1)) := (blk_cell HN3.out 0).trans rfl
          have q3 : W3.cell? ⟨nb, 1, none⟩ = some (.int .i64 ((b : Int) + 1)) := (blk_cell HN3.out 1).trans rfl
          have q4 : W3.cell? ⟨gp, 0, none⟩ = some (.int .i64 pi) := (blk_cell hcp 0).trans rfl
          have q5 : W3.cell? ⟨gp, 1, none⟩ = some (.int .i64 pj) := (blk_cell hcp 1).trans rfl
          have ne5 : ∀ {g : Nat} {cs : Array Value} {t : TypeId}, W3.heap[g]? = some (.cells cs t (0, 0)) → W5.heap[g]? = some (.cells cs t (0, 0)) := fun e => blk_grown e g5 (fun e2 => by injection e2 with e2; exact m1.ne e e2.symm)
          have n5 := ne5 HN3.out
          have cq5 := ne5 hat3.cq
          have r1 : W5.cell? ⟨nb, 0, none⟩ = some (.int .i64 ((a : Int) + 1)) := (blk_cell n5 0).trans rfl
          have r2 : W5.cell? ⟨nb, 1, none⟩ = some (.int .i64 ((b : Int) + 1)) := (blk_cell n5 1).trans rfl
          have r3 : W5.cell? ⟨E.gq, 0, none⟩ = some (.slice A2 Q2.length c2) := (blk_cell cq5 0).trans rfl
          gi_upto_region 21 with (fail)
          have hr5 : Kd.R k88 110 W5 w.heap.size (fun x => x ≠ gp) (.slice A2 Q2.length c2) (Q2.map pairQ) := by
            refine Kd.R_mono (Kd.R_move (Kd.R_bound hat3.row) (fun k hkk => ?_)) (fun k hkk => hkk.1)
            obtain ⟨_, _, _, q, _, cells, hc⟩ := hkk
            rw [hc, ne5 hc]
          have HB5 := Aside0.mk (hbel.grown g5 hbel.size (fun j e => by injection e with e; subst e; exact hat3.lo_.2.2.2.1))
          have KEY := Aside0.mk (fun i j ops rest o act R => app_pair (w := w) (W := W5) (base := w.heap.size) (ok := fun x => x ≠ gp) (A := A2) (c := c2) (n := Q2.length) (xs := Q2.map pairQ) (x := ⟨(a : Int) + 1, (b : Int) + 1⟩) (by simp) hr5 HB5.out HB5.out.size (fun x hx => by have := HGT.out; have := HIR.out; have := blk_lt hcp; have := g5.size; omega) (by simp; omega) i j ops rest o act R)
          have HAT3 := Aside0.mk hat3
          have HM4 := Aside0.mk (show ∃ n f, MapIs Try.prog 110 W5 E.B n f ∧ n ≤ Q2.length + 1 ∧ MapOf (Q2 ++ [⟨a + 1, b + 1, (Q2[q]'HQ2.out).wd ++ [97 + k]⟩]) f from ⟨mn + 1, _, m4, by omega, by
            have h := MapOf.push m3 HQK.out (by rw [bl_length]; exact HU60.out) (by rw [bl_length]; exact HS60.out) HQ2.out HK.out (i := a + 1) (j := b + 1) (by have := HA60.out; omega) (by have := HA60.out; omega) HKN.out
            rw [(HP.out _).1, (HP.out _).2.1] at h
            exact h⟩)
          have HG5 := Aside0.mk g5
          have HCP := Aside0.mk hcp
          have HC5 := Aside0.mk cq5
          have HR5 := Aside0.mk hr5
          have HMK := Aside0.mk hmks
          have HAU := Aside0.mk hau
          have HBS := Aside0.mk hbs
          clear hat3 hbel hmks hcp hau hbs hbd mn mf m1 m2 m3 hky hst m4 g5 hb113 q1 q2 q3 q4 q5 ne5 n5 cq5 hr5
          refine region_in (by kernel_rfl) (by rintro ⟨a_, w_, h_⟩; exact h_) ?_
          go_wp2_with (at_builtin; refine KEY.out _ _ _ _ _ _ _ rfl rfl rfl rfl ?_; intro A6 c6 w6 h1 h2 h3; have HR6 := Aside0.mk h1; have HB6 := Aside0.mk h2; have HG6 := Aside0.mk h3; have cq6 := blk_grown HC5.out h3 (Kd.R_ne HR5.out HC5.out (by decide)); have s1 : w6.cell? ⟨E.gq, 0, none⟩ = some (.slice A2 Q2.length c2) := (blk_cell cq6 0).trans rfl; have s2 := blk_frozen cq6 0; clear h1 h2 h3 cq6)
          obtain ⟨p1, p2⟩ := HAT3.out.push (W5 := W5) (W6 := w6) (A' := A6) (c' := c6) (new := ⟨a + 1, b + 1, (Q2[q]'HQ2.out).wd ++ [97 + k]⟩) HCP.out HM4.out HG5.out (by simpa [pairQ] using HR6.out) HG6.out
          have k5 : KeepsFrom Ws.heap.size W3 W5 := KeepsFrom.of_grownBy HG5.out (fun j e => by injection e with e; subst e; exact HTB.out)
          have k6 : KeepsOthers W5 w6 := KeepsOthers.of_grownBy HG6.out (fun j o e ho => by obtain ⟨cells, hc⟩ := Kd.R_typed HR5.out j e; rw [hc] at ho; injection ho with ho; subst ho; rfl)
          have k7 := KeepsOthers.setCell w6 ⟨E.gq, 0, none⟩ (.slice A6 (Q2.length + 1) c6)
          have mk5 : Marks w.heap.size W5 ds := HMK.out.keeps (fun D _ h _ => by
            refine (HG5.out.block D (Array.getElem?_eq_some_iff.1 h).1 (fun e => ?_)).trans h
            injection e with e
            subst e
            obtain ⟨_, _, m, _⟩ := HAT3.out.mp
            obtain ⟨_, ⟨_, _, hm, _⟩, _⟩ := m.ex
            rw [h] at hm
            cases hm)
          have e1 : ∀ h, (Q2 ++ [(⟨a + 1, b + 1, (Q2[q]'HQ2.out).wd ++ [97 + k]⟩ : Ent)])[q]'h = Q2[q]'HQ2.out := fun h => List.getElem_append_left HQ2.out
          refine ⟨HKF.out.trans (k5.trans ((k6.trans k7).from _)), ⟨⟨_, A6, c6, p1, HQK.out.push HQ2.out HK.out ⟨by omega, by rw [bl_length]; exact HAU.out⟩ ⟨by omega, by rw [bl_length]; exact HBS.out⟩ HKN.out, by have := HQ2.out; simp; omega, ?_, ?_, ?_⟩, p2, HB6.out.setCell HAT3.out.lo_.2.2.2.2.2 _, (mk5.keepsOthers k6).keepsOthers k7, HIR.out.dl⟩⟩
          · rw [e1]; exact (HP.out _).1
          · rw [e1]; exact (HP.out _).2.1
          · rw [e1]
            have h := (HP.out HQ2.out).2.2
            rw [drop4 HK.out, bfsR_push (a := a) (b := b) (by rw [(HP.out HQ2.out).1]; exact HA.out) (by rw [(HP.out HQ2.out).2.1]; exact HB.out) (by rw [bl_length]; exact HAU.out) (by rw [bl_length]; exact HBS.out) HKN.out] at h
            exact h
        · gi_wp2
          exact ⟨HKF.out, HSK.out (by first | rfl | trivial) (by simp)⟩
    case done =>
      clear HPI HLT hgp
      intro D W hD hI hKd
      obtain ⟨Q2, A2, c2, hat, hqk, hq2, hpi, hpj, hres⟩ := hI.ex
      have HL := Aside0.mk (show DfAt u s E w.heap.size (fun _ => True) Q2 A2 c2 W ∧ Below w.heap.size w W ∧ Marks w.heap.size W ({ target := .collected D, args := #[] } :: ds) ∧ QOk (bl u) (bl s) Q2 ∧ n' + (q + 1) = 3845 ∧ q + 1 ≤ Q2.length ∧ bfs (bl u) (bl s) n' (q + 1) Q2 = r from
        ⟨hat.okMono (fun _ _ _ => trivial), hI.bel, hI.mks.cons (by have := HT.out; omega) hKd (fun D' hD' e => by have := hI.dl D' hD'; omega), hqk, by have := HI.out.2.2.2.2.1; omega, hq2, hres⟩)
      have HN := Aside0.mk hn'
      have hqb : (q : Int) + 1 ≤ 3845 := by have := HL.out.2.2.2.2.1; omega
      clear hat hqk hq2 hpi hpj hres hI hKd hn'
      go_wp2
      refine Handed.intro n' (by rw [HN.out]; exact Nat.lt_succ_self _) ?_
      go_step
      refine ⟨q + 1, Q2, A2, c2, { target := .collected D, args := #[] } :: ds, ?_⟩
      exact ex_act HL rfl
    case stop =>
      clear HPI HLT hgp
      rintro D e c W hD hc ⟨rfl, hX⟩ hKd
      obtain ⟨o, h1, h2⟩ := hX.ex
      have HO := Aside0.mk h1
      have HO2 := Aside0.mk h2
      have HMK := Aside0.mk (hX.mks.cons (by have := HT.out; omega) hKd (fun D' hD' e => by have := hX.dl D' hD'; omega))
      have HBX2 := Aside0.mk hX.bel
      clear h1 h2 hX hKd hc
      gi_wp2
      refine leaves_marks _ _ HMK.out (fun W' hs hc hb => ⟨.string o, res54 _ _ E.gr _ rfl (hc _ _ HO.out rfl), o, HO2.out, rfl, HBX2.out.trans hb⟩) HBX2.out.size
  · have hltI : ¬ ((q : Int) < (Q.length : Int)) := by omega
    have hlt2 : decide (q < Q.length) = false := decide_eq_false hlt
    obtain ⟨o, ho⟩ := HI.out.1.cr
    have hr1 : wr.cell? ⟨E.gr, 0, none⟩ = some (.string o) := (blk_cell ho 0).trans rfl
    have hr2 := blk_frozen ho 0
    have HST := Aside0.mk (HI.out.1.setR ⟨#[]⟩)
    have HLT := Aside0.mk hlt
    clear hlt ho
    go_wp2
    have hbs : Below w.heap.size w (wr.setCell ⟨E.gr, 0, none⟩ (.string ⟨#[]⟩)) := HI.out.2.1.setCell (by show w.heap.size ≤ E.gr; exact HI.out.1.lo_.2.2.1) _
    refine leaves_marks ds _ (HI.out.2.2.1.keepsOthers (KeepsOthers.setCell _ _ _)) (fun W' hs hc hb => ⟨.string ⟨#[]⟩, res54 _ _ E.gr _ rfl (hc _ _ HST.out rfl), ⟨#[]⟩, ?_, rfl, hbs.trans hb⟩) hbs.size
    have h2 := HI.out.2.2.2.2.2.2
    rw [← h2]
    cases n with
    | zero => rfl
    | succ n =>
      unfold bfs
      rw [List.getElem?_eq_none (by have := HLT.out; omega)]
      rfl
end Go.Proofs.Ytagdbadljcongaa.X
end

section
/- thread.Differ, thread.Same. -/
set_option linter.unusedVariables false
set_option linter.unusedSimpArgs false
namespace Go.Proofs.Ytagdbadljcongaa.X
open Go Go.RowKit Go.Proofs.YtagdbadljcongaaW.PrintWords Go.Proofs.YtagdbadljcongaaW.PrintLast Go.Proofs.YtagdbadljcongaaW.PrintMore
theorem toList_inj {a b : ByteArray} (h : a.toList = b.toList) : a = b := by
  rw [ByteArray.toList_eq, ByteArray.toList_eq] at h
  exact Go.WideShapes.bytes_inj h
/-- What Differ returns for two different words. -/
def DrPost (r : Option (List Nat)) (w : World) (e : Ending) (w' : World) : Prop := ∃ o, bl o = r.getD [] ∧ e = .returned (.tuple #[.string o, .int .i64 0]) ∧ Below w.heap.size w w'
set_option maxHeartbeats 4000000 in
set_option maxRecDepth 100000 in
theorem Differ_ok (u s : ByteArray) (w : World) (hu : isW (bl u) = true) (hs : isW (bl s) = true) (hne : u ≠ s) (r : Option (List Nat)) (hr : diffW (bl u) (bl s) = r) : Calls Try.prog 28 #[.string u, .string s] w (DrPost r w) := by
  have HU := Aside0.mk hu
  have HS := Aside0.mk hs
  have HS60 := Aside0.mk (show s.size ≤ 60 by rw [← bl_length]; exact ((isW_iff _).1 hs).1)
  have HU60 := Aside0.mk (show u.size ≤ 60 by rw [← bl_length]; exact ((isW_iff _).1 hu).1)
  have HRR := Aside0.mk hr
  have hq : ¬ u.toList = s.toList := fun e => hne (toList_inj e)
  have hq2 : (u.toList == s.toList) = false := by simpa using hq
  clear hu hs hr
  go_enter Try.func28, Try.ntmps28
  go_wp2_with (first | (go_at_call 48; (with_reducible refine (newWord_yes u _ HU.out).mono ?_); rintro e w1 ⟨rfl, hwd, hb⟩; have HWU := Aside0.mk hwd; have HB := Aside0.mk hb; clear hwd hb) | (go_at_call 48; (with_reducible refine (newWord_yes s _ HS.out).mono ?_); rintro e w2 ⟨rfl, hwd, hb⟩; have HWS := Aside0.mk hwd; have HWX := Aside0.mk (HWU.out.below hb); have HB2 := Aside0.mk hb; clear hwd hb) | (go_at_call 54; (with_reducible refine (differ_any u s _ _ _ HWX.out HWS.out HU60.out HS60.out r HRR.out).mono ?_); rintro e w3 ⟨o, ho, rfl, hb⟩; have HO := Aside0.mk ho; have HB3 := Aside0.mk hb; clear ho hb))
  go_ret2
  exact ⟨o, HO.out, rfl, below_step (below_step HB.out HB2.out) HB3.out⟩
end Go.Proofs.Ytagdbadljcongaa.X
end

section
/- slices.Contains over strings. -/
set_option linter.unusedVariables false
set_option linter.unusedSimpArgs false
namespace Go.Proofs.Ytagdbadljcongaa.X
open Go Go.RowKit Go.Proofs.YtagdbadljcongaaW.PrintWords Go.Proofs.YtagdbadljcongaaW.PrintLast Go.Proofs.YtagdbadljcongaaW.PrintMore
theorem rdOf_nat (l : List ByteArray) (i : Nat) (h : i < l.length) : rdOf ByteArray.empty l (i : Int) = l[i] := by unfold rdOf; simp [List.getD_eq_getElem?_getD, h]
theorem idx_ev (l : List ByteArray) (s : ByteArray) (hl : l.length ≤ 1000000) : ∀ d i, i + d = l.length → ∃ r, slices_Index_string_string.l0 (d + 1) l s (l.length : Int) (i : Int) = some r ∧ (0 ≤ r ↔ s ∈ l.drop i)
  | 0, i, h => by
    refine ⟨-1, ?_, ?_⟩
    · unfold slices_Index_string_string.l0; rw [if_neg (by omega)]
    · rw [List.drop_eq_nil_of_le (by omega)]; simp
  | d + 1, i, h => by
    have hi : i < l.length := by omega
    unfold slices_Index_string_string.l0
    rw [if_pos (by omega), if_pos (by omega), if_pos (by omega), rdOf_nat l i hi, List.drop_eq_getElem_cons hi]
    by_cases e : s.toList = l[i].toList
    · rw [if_pos e]
      exact ⟨_, rfl, iff_of_true (by omega) (by rw [toList_inj e]; exact List.mem_cons_self)⟩
    · rw [if_neg e]
      obtain ⟨r, h1, h2⟩ := idx_ev l s hl d (i + 1) (by omega)
      rw [show wrap64 ((i : Int) + 1) = ((i + 1 : Nat) : Int) by rw [IntWalk.wrap64_in _ (by omega)]; omega]
      refine ⟨r, h1, h2.trans ?_⟩
      rw [List.mem_cons]
      exact ⟨.inr, fun h => h.resolve_left (fun e2 => e (by rw [e2]))⟩
theorem cont_any (A : Option Addr) (c : Nat) (l : List ByteArray) (s : ByteArray) (w : World) (hC : Kd.C Kd.string w A l.length l) (hc : l.length ≤ c) (hl : l.length ≤ 1000000) (v : Bool) (hv : v = true ↔ s ∈ l) : Calls Try.prog 65 #[.slice A l.length c, .string s] w fun e w' => e = .returned (.bool v) ∧ Drawn0 w w' := by
  obtain ⟨r, h1, h2⟩ := idx_ev l s hl l.length 0 (by omega)
  rw [List.drop_zero] at h2
  refine slices_Contains_string_string.calls (l.length + 1) A c l s _ w hC hc ?_
  have h3 : slices_Index_string_string.f (l.length + 1) l s = some r := h1
  unfold slices_Contains_string_string.f
  rw [h3]
  show some (decide (r ≥ 0)) = some v
  congr 1
  rw [Bool.eq_iff_iff, decide_eq_true_iff, hv]
  exact h2
end Go.Proofs.Ytagdbadljcongaa.X
end

section
/- thread.Free: what holds ahead of, in and behind its range over a map. -/
set_option linter.unusedVariables false
set_option linter.unusedSimpArgs false
namespace Go.Proofs.Ytagdbadljcongaa.X
open Go Go.RowKit Go.Proofs.YtagdbadljcongaaW.PrintWords Go.Proofs.YtagdbadljcongaaW.PrintLast Go.Proofs.YtagdbadljcongaaW.PrintMore
theorem ones (L : List (List Nat)) : (L.map fun _ => 1).sum = L.length := by
  induction L with
  | nil => rfl
  | cons a r ih => simp only [List.map_cons, List.sum_cons, List.length_cons, ih]; omega
def notCells (V : World) (x : Nat) : Prop := ∀ cs t fr, V.heap[x]? ≠ some (.cells cs t fr)
theorem cells_past {V V' : World} {x g : Nat} {cs : Array Value} {t : TypeId} (hg : V.grownBy V' (some x)) (e : V.heap[g]? = some (.cells cs t (0, 0))) (hx : notCells V x) : V'.heap[g]? = some (.cells cs t (0, 0)) :=
  blk_grown e hg (fun e2 => by injection e2 with e2; subst e2; exact hx _ _ _ e)
theorem row_past {V V' : World} {x lo : Nat} {ok : Nat → Prop} {v : Value} {xs : List Int} (h : Kd.R (Kd.int .i64) 3 V lo ok v xs) (hg : V.grownBy V' (some x)) (hx : notCells V x) : Kd.R (Kd.int .i64) 3 V' lo ok v xs := by
  refine Kd.R_mono (Kd.R_move (Kd.R_bound h) (fun k hkk => ?_)) (fun k hkk => hkk.1)
  obtain ⟨_, _, hlt, q, _, cells, hc⟩ := hkk
  exact hg.block k hlt (fun e => by injection e with e; subst e; exact hx _ _ _ hc)
theorem MapIs.notCells {P : Program} {kt : TypeId} {w : World} {B n : Nat} {f : KMap} (h : MapIs P kt w B n f) : notCells w B := fun cs t fr e => by
  obtain ⟨D, ⟨es, clock, hb, _⟩, _⟩ := h.ex
  rw [hb] at e
  cases e
theorem ranges_notCells {H : Type} {P : Program} {k : TypeId} {R : Value → Option (DataW H × List MemPlace)} {w : World} {b r n : Nat} {D : DataW H} {left : Lit → Bool} {cnt : Nat} (h : w.ranges P k R b r n D left cnt) : notCells w r := fun cs t fr e => by
  obtain ⟨es, clock, since, seen, c0, _, _, _, _, hr, _⟩ := h
  rw [hr] at e
  cases e
/-- Between two rounds. -/
structure FrAt (w : World) (B : Nat) (T : List (List Nat)) (A : Option Addr) (c : Nat) (out : List Int) (V : World) : Prop where
  mp : ∃ n f, MapIs Try.prog 101 V B n f ∧ CntOf T f
  row : Kd.R (Kd.int .i64) 3 V w.heap.size (fun _ => True) (.slice A out.length c) out
  bel : Below w.heap.size w V
  lb : w.heap.size ≤ B
/-- In the range over the map. -/
structure FrR (w : World) (B r nn : Nat) (D : DataW Value) (left : Lit → Bool) (cnt B2 : Nat) (T : List (List Nat)) (A : Option Addr) (c : Nat) (out : List Int) (V : World) : Prop where
  rg : V.ranges Try.prog 101 anyElem B r nn D left cnt
  mp : ∃ n f, MapIs Try.prog 101 V B2 n f ∧ n ≤ T.length ∧ CntOf T f
  row : Kd.R (Kd.int .i64) 3 V w.heap.size (fun _ => True) (.slice A out.length c) out
  bel : Below w.heap.size w V
  ne : B2 ≠ B ∧ B2 ≠ r ∧ w.heap.size ≤ B2 ∧ w.heap.size ≤ r
section
variable {w : World} {B r nn : Nat} {D : DataW Value} {left left' : Lit → Bool} {cnt cnt' B2 : Nat} {T T' : List (List Nat)} {A : Option Addr} {c : Nat} {out : List Int} {V V' : World}
theorem FrR.below (h : FrR w B r nn D left cnt B2 T A c out V) (hb : Below V.heap.size V V') : FrR w B r nn D left cnt B2 T A c out V' := by
  obtain ⟨n, f, m1, m2, m3⟩ := h.mp
  exact ⟨h.rg.kept (grown_of_below hb none) (by simp) (by simp), ⟨n, f, m1.below hb, m2, m3⟩, Kd.R_below h.row hb, below_step h.bel hb, h.ne⟩
theorem FrR.iter (h : FrR w B r nn D left cnt B2 T A c out V) (hg : V.grownBy V' (some r)) (hr : V'.ranges Try.prog 101 anyElem B r nn D left' cnt') : FrR w B r nn D left' cnt' B2 T A c out V' := by
  obtain ⟨n, f, m1, m2, m3⟩ := h.mp
  exact ⟨hr, ⟨n, f, m1.kept hg (fun e => h.ne.2.1 (by injection e)), m2, m3⟩, row_past h.row hg (ranges_notCells h.rg), h.bel.grown hg h.bel.size (fun k e => by injection e with e; subst e; exact h.ne.2.2.2), h.ne⟩
theorem FrR.store (h : FrR w B r nn D left cnt B2 T A c out V) (hg : V.grownBy V' (some B2)) (hm : ∃ n f, MapIs Try.prog 101 V' B2 n f ∧ n ≤ T'.length ∧ CntOf T' f) : FrR w B r nn D left cnt B2 T' A c out V' := by
  obtain ⟨n, f, m1, m2, m3⟩ := h.mp
  exact ⟨h.rg.kept hg (fun e => h.ne.1 (by injection e with e; exact e.symm)) (fun e => h.ne.2.1 (by injection e with e; exact e.symm)), hm, row_past h.row hg m1.notCells, h.bel.grown hg h.bel.size (fun k e => by injection e with e; subst e; exact h.ne.2.2.1), h.ne⟩
end
theorem visit {L : List (List Nat)} {f : KMap} {D : DataW Value} {kl : Lit} {x c : Value} {y : DataW Value × List MemPlace} (hC : CntOf L f) (hD : ∀ kl z, D.atKey kl (.held z) = .held ((f kl).getD z)) (hk : keyOf Try.prog 101 x = some kl) (hy : anyElem c = some y) (hat : ∀ zd, D.atKey kl zd = y.1) :
    ∃ m ∈ L, Mk m ∧ kl = quadK m ∧ x = .agg (mcells m) ∧ c = .int .i64 ((L.count m : Nat) : Int) := by
  have h1 : ∀ z, (f kl).getD z = c := fun z => by
    have h := (hD kl z).symm.trans (hat (.held z))
    have hy2 : (DataW.held c, []) = y := Option.some.inj hy
    rw [← hy2] at h
    exact DataW.held.inj h
  cases hf : f kl with
  | none =>
    rw [hf] at h1
    have a : Value.bool true = c := h1 (.bool true)
    have b : Value.bool false = c := h1 (.bool false)
    have e := a.trans b.symm
    injection e with e
    cases e
  | some v =>
    rw [hf] at h1
    have hv : v = c := h1 v
    subst hv
    obtain ⟨m, hm, hM, rfl⟩ := hC.key kl v hf
    refine ⟨m, hm, hM, rfl, keyed101.inj hk (key101 m hM.1 hM.2), ?_⟩
    have := hC.at_ m hM
    rw [hf, if_neg (by have := List.count_pos_iff.2 hm; omega)] at this
    injection this
/-- Which marks have been visited. -/
structure Vis (L V : List (List Nat)) (left : Lit → Bool) : Prop where
  nd : V.Nodup
  sub : ∀ m ∈ V, m ∈ L
  lf : ∀ m ∈ L, left (quadK m) = true ↔ m ∉ V
theorem Vis.step {L V : List (List Nat)} {left : Lit → Bool} (h : Vis L V left) (hL : ∀ m ∈ L, Mk m) {m : List Nat} (hm : m ∈ L) (hl : left (quadK m) = true) : Vis L (V ++ [m]) (fun z => left z && !z.sameKey (quadK m)) ∧ m ∉ V := by
  have hn := (h.lf m hm).1 hl
  refine ⟨⟨?_, fun a ha => ?_, fun a ha => ?_⟩, hn⟩
  · rw [List.nodup_append]
    refine ⟨h.nd, by simp, fun a ha b hb e => ?_⟩
    rw [List.mem_singleton] at hb
    subst hb; subst e
    exact hn ha
  · rcases List.mem_append.1 ha with e | e
    · exact h.sub a e
    · rw [List.mem_singleton] at e; subst e; exact hm
  · have hk : WideAt.IsKeyLit (quadK m) := keyed101.key (key101 m (hL m hm).1 (hL m hm).2)
    rw [Bool.and_eq_true, h.lf a ha, List.mem_append, List.mem_singleton]
    constructor
    · rintro ⟨h1, h2⟩ (h3 | h3)
      · exact h1 h3
      · subst h3
        rw [WideAt.sameKey_self hk] at h2
        cases h2
    · intro h1
      refine ⟨fun e => h1 (.inl e), ?_⟩
      rw [Bool.not_eq_true']
      rw [Bool.eq_false_iff]
      intro e
      exact h1 (.inr (quadK_inj (hL a ha).1 (hL a ha).2 (hL m hm).1 (hL m hm).2 (WideAt.sameKey_eq e)))
end Go.Proofs.Ytagdbadljcongaa.X
end
