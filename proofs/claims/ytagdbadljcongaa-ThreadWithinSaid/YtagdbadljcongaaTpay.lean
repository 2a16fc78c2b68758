/- Texts behind ThreadWithin, part 25: contracts of the program's functions and the plain words for them. -/
import Derived.Maps.OwnSet
import Derived.Maps.RangeWalk
import Derived.DeepKeys3
import Derived.WideKeyPair
import Derived.WideKeyEntry
import Derived.RangeFuncWrites
import Derived.Test.YtagdbadljcongaaTpae
import Derived.Test.YtagdbadljcongaaTpau
import Derived.Test.YtagdbadljcongaaTpav
section
/- A map's block, told key by key: what is at each key, whatever the elements are. -/
set_option linter.unusedVariables false
set_option linter.unusedSimpArgs false
namespace Go.Proofs.Ytagdbadljcongaa.X
open Go.RowKit Go.Proofs.YtagdbadljcongaaW.PrintWords Go.Proofs.YtagdbadljcongaaW.PrintLast Go.Proofs.YtagdbadljcongaaW.PrintMore
open Go.Maps (Keyed)

/-- Any element: it reads as itself. -/
def anyElem (v : Value) : Option (DataW Value × List MemPlace) := some (.held v, [])
/-- What stands at each key. -/
abbrev KMap := Lit → Option Value
def KMap.put (f : KMap) (k : Lit) (v : Value) : KMap := fun k' => if k'.sameKey k = true then some v else f k'
def KMap.empty : KMap := fun _ => none
theorem KMap.put_same (f : KMap) {k : Lit} (hk : WideAt.IsKeyLit k) (v : Value) : f.put k v k = some v := by unfold KMap.put; rw [if_pos (WideAt.sameKey_self hk)]
theorem KMap.put_other (f : KMap) {k k' : Lit} (h : k' ≠ k) (v : Value) : f.put k v k' = f k' := by unfold KMap.put; rw [if_neg (fun e => h (WideAt.sameKey_eq e))]

/-- Block B of w is a map of at most n entries with f k at each key k. -/
structure MapIs (P : Program) (kt : TypeId) (w : World) (B n : Nat) (f : KMap) : Prop where mk ::
  ex : ∃ D, w.ownsMap P kt anyElem B n D ∧ (∀ kl, Maps.has D kl = (f kl).isSome) ∧ ∀ kl z, D.atKey kl (.held z) = .held ((f kl).getD z)
section
variable {P : Program} {kt : TypeId} {w w' : World} {B n : Nat} {f : KMap}
theorem MapIs.made (w : World) (P : Program) (kt : TypeId) : MapIs P kt (w.alloc (.map #[] 0)) w.heap.size 0 KMap.empty :=
  ⟨⟨.map [], World.ownsMap_made w P kt anyElem, fun _ => rfl, fun _ _ => rfl⟩⟩
theorem MapIs.lt (h : MapIs P kt w B n f) : B < w.heap.size := by
  obtain ⟨D, h1, h2⟩ := h.ex
  exact h1.lt
theorem MapIs.kept (h : MapIs P kt w B n f) {row : Option Nat} (hg : w.grownBy w' row) (hne : some B ≠ row) : MapIs P kt w' B n f := by
  obtain ⟨D, h1, h2⟩ := h.ex
  exact ⟨⟨D, h1.kept hg hne, h2⟩⟩
theorem MapIs.block (h : MapIs P kt w B n f) (hb : w'.heap[B]? = w.heap[B]?) : MapIs P kt w' B n f := by
  obtain ⟨D, ⟨es, clock, he, F⟩, h2⟩ := h.ex
  exact ⟨⟨D, ⟨es, clock, hb.trans he, F⟩, h2⟩⟩
theorem MapIs.below (h : MapIs P kt w B n f) (hb : Below w.heap.size w w') : MapIs P kt w' B n f := h.kept (grown_of_below hb none) (by simp)
theorem MapIs.alloc (h : MapIs P kt w B n f) (o : Obj) : MapIs P kt (w.alloc o) B n f := h.below (below_alloc (Below.refl _ _) o)
theorem MapIs.drewN (h : MapIs P kt w B n f) (m : Nat) : MapIs P kt (w.drewN m) B n f := h.below (pw_below_drewN (Below.refl _ _) m)
theorem MapIs.setCell (h : MapIs P kt w B n f) {a : Addr} (ha : B ≠ a.block) (u : Value) : MapIs P kt (w.setCell a u) B n f := by
  obtain ⟨D, h1, h2⟩ := h.ex
  exact ⟨⟨D, h1.setCell ha u, h2⟩⟩
/-- A map's block is no row of cells. -/
theorem MapIs.ne (h : MapIs P kt w B n f) {g : Nat} {cs : Array Value} {t : TypeId} {m : Nat × Nat} (hg : w.heap[g]? = some (.cells cs t m)) : B ≠ g := by
  obtain ⟨D, ⟨es, clock, hb, _⟩, _⟩ := h.ex
  intro e
  subst e
  rw [hb] at hg
  cases hg
theorem nodup_len {α : Type} : ∀ (l L : List α), l.Pairwise (fun a b => a ≠ b) → (∀ x ∈ l, x ∈ L) → l.length ≤ L.length
  | [], _, _, _ => Nat.zero_le _
  | x :: r, L, h, hs => by
    classical
    obtain ⟨h1, h2⟩ := List.pairwise_cons.1 h
    have hx := hs x (by simp)
    have := nodup_len r (L.erase x) h2 (fun y hy => (List.mem_erase_of_ne (fun e => h1 y hy e.symm)).2 (hs y (by simp [hy])))
    rw [List.length_erase_of_mem hx] at this
    have hp := List.length_pos_of_mem hx
    simp; omega
/-- m[k]. -/
theorem MapIs.look (h : MapIs P kt w B n f) {t e : TypeId} (K : Keyed P kt) (ht : P.underlying t = some (.map kt e)) {z : Value} (hz : (zeroValue e).run P w = .ok z w) {key : Value} {kl : Lit} (hkey : keyOf P kt key = some kl) :
    (Instr.lookup t (.map (some B)) key false).run P w = .ok ((f kl).getD z) w := by
  obtain ⟨D, h1, h2, h3⟩ := h.ex
  obtain ⟨v, ps, hrun, hv⟩ := h1.lookup K ht hz (zd := .held z) (zp := []) rfl hkey
  rw [h3] at hv
  injection hv with hv
  injection hv with hv _
  injection hv with hv
  rw [hrun, hv]
theorem MapIs.look_ok (h : MapIs P kt w B n f) {t e : TypeId} (K : Keyed P kt) (ht : P.underlying t = some (.map kt e)) {z : Value} (hz : (zeroValue e).run P w = .ok z w) {key : Value} {kl : Lit} (hkey : keyOf P kt key = some kl) :
    (Instr.lookup t (.map (some B)) key true).run P w = .ok (.tuple #[(f kl).getD z, .bool (f kl).isSome]) w := by
  obtain ⟨D, h1, h2, h3⟩ := h.ex
  obtain ⟨v, ps, hrun, hv⟩ := h1.look_ok K ht hz (zd := .held z) (zp := []) rfl hkey
  rw [h3] at hv
  injection hv with hv
  injection hv with hv _
  injection hv with hv
  rw [hrun, hv, h2]
/-- m[k] = v. -/
theorem MapIs.store (h : MapIs P kt w B n f) {t e : TypeId} (K : Keyed P kt) (ht : P.underlying t = some (.map kt e)) (hn : n < maxLen) {key val : Value} {kl : Lit} (hkey : keyOf P kt key = some kl) :
    ∃ w', (Instr.mapUpdate t (.map (some B)) key val).run P w = .ok () w' ∧ MapIs P kt w' B (n + 1) (f.put kl val) ∧ w.grownBy w' (some B) := by
  obtain ⟨D, h1, h2, h3⟩ := h.ex
  obtain ⟨w', hrun, r1, r2⟩ := h1.update K ht hn hkey (val := val) (d := .held val) (ps := []) rfl
  refine ⟨w', hrun, ⟨⟨_, r1, fun k' => ?_, fun k' z => ?_⟩⟩, r2⟩
  · by_cases e : k' = kl
    · subst e
      rw [Maps.has_put_same h1.isMap (K.key hkey), KMap.put_same f (K.key hkey)]; rfl
    · rw [Maps.has_put_other e, KMap.put_other f e, h2]
  · by_cases e : k' = kl
    · subst e
      rw [Maps.atKey_put_same h1.isMap (K.key hkey), KMap.put_same f (K.key hkey)]; rfl
    · rw [Maps.atKey_put_other e, KMap.put_other f e, h3]
/-- len(m). -/
theorem MapIs.len (h : MapIs P kt w B n f) {t e : TypeId} (K : Keyed P kt) (ht : P.underlying t = some (.map kt e)) (ty : TypeId) :
    ∃ m : Nat, (Builtin.len_ #[t] ty #[.map (some B)]).run P w = .ok (.int .i64 m) w ∧ ∀ L : List Lit, L.Pairwise (fun a b => a ≠ b) → (∀ kl, (f kl).isSome = true ↔ kl ∈ L) → m = L.length := by
  obtain ⟨D, h1, h2, h3⟩ := h.ex
  refine ⟨Maps.size D, h1.len ht ty, fun L hL hiff => ?_⟩
  have hc := h1
  obtain ⟨es', rfl, hp⟩ := h1.tidy K
  have hkey : ∀ p ∈ es', WideAt.IsKeyLit p.1 := by
    intro p hp'
    obtain ⟨es, clock, hb, F, hs, hD⟩ := hc
    injection hD with hD
    have hk := Maps.fit_keys F
    have hp2 : p ∈ es.toList.map (WideElems.rg P kt anyElem) := by
      have := hD ▸ hp'
      exact (WideShapes.sorted_perm _).mem_iff.1 this
    obtain ⟨v, hv⟩ := hk p hp2
    exact K.key hv
  have a1 := nodup_len (es'.map (·.1)) L (by rw [List.pairwise_map]; exact hp) (by
    intro x hx
    obtain ⟨p, hp', rfl⟩ := List.mem_map.1 hx
    rw [← hiff, ← h2, Maps.has_eq, List.any_eq_true]
    exact ⟨p, hp', WideAt.sameKey_self (hkey p hp')⟩)
  have a2 := nodup_len L (es'.map (·.1)) hL (by
    intro x hx
    rw [← hiff, ← h2, Maps.has_eq, List.any_eq_true] at hx
    obtain ⟨p, hp', hs⟩ := hx
    exact List.mem_map.2 ⟨p, hp', WideAt.sameKey_eq hs⟩)
  rw [Maps.size_eq]
  rw [List.length_map] at a1 a2
  omega
end
section
variable {P : Program} (w : World) {ops : Array Oper} {rest : List Oper} {o : Oper} {a : Act} {Q : Exit → Act → World → Prop}
end
end Go.Proofs.Ytagdbadljcongaa.X
end

section
/- The keys of this seat's maps: a pair of numbers, and four numbers. -/
set_option linter.unusedVariables false
set_option linter.unusedSimpArgs false
namespace Go.Proofs.Ytagdbadljcongaa.X
open Go Go.RowKit Go.Proofs.YtagdbadljcongaaW.PrintWords Go.Proofs.YtagdbadljcongaaW.PrintLast Go.Proofs.YtagdbadljcongaaW.PrintMore
theorem law110 : WideMaps.KeyLaw Try.prog 110 := deep_law (m := 3) (by omega) (by kernel_rfl) (by kernel_rfl) (by kernel_rfl)
theorem keyed110 : Maps.Keyed Try.prog 110 := Maps.Keyed.of_law law110
def pairV (i j : Nat) : Value := .agg #[.int .i64 i, .int .i64 j]
def pairK (i j : Nat) : Lit := .string (keyBytes [.int .i64 i, .int .i64 j])
theorem types_pos : ∃ m, Try.prog.types.size = m + 1 := ⟨Try.prog.types.size - 1, by have : 0 < Try.prog.types.size := of_decide_eq_true (by kernel_rfl); omega⟩
theorem key110 (i j : Nat) (hi : i ≤ 1000000) (hj : j ≤ 1000000) : keyOf Try.prog 110 (pairV i j) = some (pairK i j) := by
  obtain ⟨m, hm⟩ := types_pos
  have wi : (Lit.int .i64 i).wf = true := WalkArith.wf_i64 (by omega)
  have wj : (Lit.int .i64 j).wf = true := WalkArith.wf_i64 (by omega)
  have c110 : Try.prog.cellsOf 110 = 2 := by kernel_rfl
  have c3 : Try.prog.cellsOf 3 = 1 := by kernel_rfl
  have kt : Try.prog.keyType 110 = true := by kernel_rfl
  unfold keyOf pairV pairK
  simp only [Try.underlying110]
  rw [if_pos (by simp [kt, Value.formed, Try.underlying110, c110]), hm]
  unfold Program.keyLits
  simp only [Try.underlying110, Value.cells]
  rw [if_pos ⟨by rw [c110]; rfl, by decide +kernel⟩]
  simp [List.mapM_cons, List.mapM_nil, c3, Program.keyLits, Try.underlying3, wi, wj]
theorem pairK_inj {i j i' j' : Nat} (hi : i ≤ 1000000) (hj : j ≤ 1000000) (hi' : i' ≤ 1000000) (hj' : j' ≤ 1000000) (h : pairK i j = pairK i' j') : i = i' ∧ j = j' := by
  have h1 := key110 i j hi hj
  have h2 := key110 i' j' hi' hj'
  rw [← h] at h2
  have := keyed110.inj h1 h2
  unfold pairV at this
  simp at this
  omega
theorem law101 : WideMaps.KeyLaw Try.prog 101 := deep_law (m := 3) (by omega) (by kernel_rfl) (by kernel_rfl) (by kernel_rfl)
theorem keyed101 : Maps.Keyed Try.prog 101 := Maps.Keyed.of_law law101
end Go.Proofs.Ytagdbadljcongaa.X
end

section
/- 'm[k] += x': an entry is made or found, then its value is stored. -/
set_option linter.unusedVariables false
set_option linter.unusedSimpArgs false
namespace Go.Proofs.Ytagdbadljcongaa.X
open Go Go.RowKit Go.Proofs.YtagdbadljcongaaW.PrintWords Go.Proofs.YtagdbadljcongaaW.PrintLast Go.Proofs.YtagdbadljcongaaW.PrintMore
open Go.ChangeShapes Go.WideShapes Go.MapKept Go.ChangeMaps Go.WideElems
section
variable {P : Program} {kt : TypeId} {w w' : World} {B n : Nat} {f : KMap}
theorem entry_is_update {t k e : TypeId} {es : Array MapEntry} {clock b : Nat} (K : WideMaps.KeyLaw P k) (ht : P.underlying t = some (.map k e)) {z : Value} (hz : ∀ u : World, (zeroValue e).run P u = .ok z u) (hb : w.heap[b]? = some (.map es clock))
    (F : ∀ x ∈ es.toList, ∃ l, keyOf P k x.key = some l) {key : Value} {kl : Lit} (hkey : keyOf P k key = some kl) :
    ∃ (v0 st : Value) (W1 : World), (Instr.mapEntry t (.map (some b)) key).run P w = .ok (.tuple #[v0, st]) W1 ∧ (Instr.mapUpdate t (.map (some b)) key v0).run P w = .ok () W1 ∧ (Instr.lookup t (.map (some b)) key false).run P w = .ok v0 w := by
  rcases K.find w hkey es.toList F with ⟨h1, h2⟩ | ⟨j, e0, h1, h2, h3⟩
  · refine ⟨z, goInt clock, setBlock w b (.map (es.push ⟨key, z, clock⟩) (clock + 1)), ?_, ?_, ?_⟩
    · simp [Instr.mapEntry, run_underlying ht, MapKept.run_getObj_map hb, K.check w false hkey, h1, hz, MapKept.run_setObj_map _ hb, Result.andThen, setBlock]
    · simp [Instr.mapUpdate, run_underlying ht, MapKept.run_getObj_map hb, K.check w false hkey, h1, MapKept.run_setObj_map _ hb, Result.andThen, setBlock]
    · simp [Instr.lookup, run_underlying ht, MapKept.run_getObj_map hb, K.check w es.isEmpty hkey, h1, hz, Result.andThen]
  · have hj : es[j]? = some e0 := by simpa using h2
    refine ⟨e0.val, goInt e0.born, setBlock w b (.map (es.modify j fun e => { e with key := key }) clock), ?_, ?_, ?_⟩
    · simp [Instr.mapEntry, run_underlying ht, MapKept.run_getObj_map hb, K.check w false hkey, h1, hj, h3, K.stays w hkey, MapKept.run_setObj_map _ hb, Result.andThen, setBlock]
    · have hmod : es.modify j (fun e => { e with key := key, val := e0.val }) = es.modify j (fun e => { e with key := key }) := by
        apply Array.ext'
        rw [Array.toList_modify, Array.toList_modify, modify_eq_set _ _ _ _ h2, modify_eq_set _ _ _ _ h2]
      simp [Instr.mapUpdate, run_underlying ht, MapKept.run_getObj_map hb, K.check w false hkey, h1, hj, h3, K.stays w hkey, MapKept.run_setObj_map _ hb, Result.andThen, setBlock]
      first | rw [hmod] | simp [hmod]
    · simp [Instr.lookup, run_underlying ht, MapKept.run_getObj_map hb, K.check w es.isEmpty hkey, h1, hz, Result.andThen]
/-- An entry is made or found: then its value is stored, in whatever world the map's block lies as it was left. -/
theorem MapIs.entry (h : MapIs P kt w B n f) {t e : TypeId} (K : WideMaps.KeyLaw P kt) (ht : P.underlying t = some (.map kt e)) (hn : n < maxLen) {z : Value} (hz : ∀ u : World, (zeroValue e).run P u = .ok z u) {key : Value} {kl : Lit} (hkey : keyOf P kt key = some kl) :
    ∃ (st : Value) (W1 : World), (Instr.mapEntry t (.map (some B)) key).run P w = .ok (.tuple #[(f kl).getD z, st]) W1 ∧ MapIs P kt W1 B (n + 1) (f.put kl ((f kl).getD z)) ∧ w.grownBy W1 (some B) ∧
      ∀ val : Value, ∃ W2, (Instr.entryStore t (.map (some B)) st val).run P W1 = .ok () W2 ∧ MapIs P kt W2 B (n + 1) (f.put kl val) ∧ w.grownBy W2 (some B) := by
  have hK := Maps.Keyed.of_law K
  obtain ⟨D, ⟨es, clock, hb, F, hs, hD⟩, hh⟩ := h.ex
  obtain ⟨v0, st, W1, r1, r2, r3⟩ := entry_is_update K ht hz hb F.keys hkey
  obtain ⟨v0', st', es1, clock1, s1, _, s3⟩ := entry_then_store K ht hz hb F hkey
  rw [r1] at s1
  injection s1 with s1 s2
  injection s1 with s1
  simp at s1
  obtain ⟨rfl, rfl⟩ := s1
  have hl := h.look hK ht (hz w) hkey
  rw [r3] at hl
  injection hl with hl
  obtain ⟨W', u1, u2, u3⟩ := h.store hK ht hn hkey (val := v0)
  rw [r2] at u1
  injection u1 with _ u1
  subst u1
  rw [hl] at r1 u2
  refine ⟨_, W1, r1, u2, u3, fun val => ?_⟩
  have hbl : W1.heap[B]? = some (.map es1 clock1) := by
    rw [s2]
    have hlt : B < w.heap.size := (Array.getElem?_eq_some_iff.1 hb).1
    simp [setBlock, hlt]
  obtain ⟨es', clock', t1, t2⟩ := s3 W1 val hbl
  obtain ⟨W'', x1, x2, x3⟩ := h.store hK ht hn hkey (val := val)
  rw [t2] at x1
  injection x1 with _ x1
  have e : setBlock W1 B (.map es' clock') = W'' := by
    rw [← x1, s2]
    simp [setBlock]
  exact ⟨W'', by rw [t1, e], x2, x3⟩
end
end Go.Proofs.Ytagdbadljcongaa.X
end

section
/- thread.isFamily: through slices.ContainsFunc, IndexFunc and its closure. -/
set_option linter.unusedVariables false
set_option linter.unusedSimpArgs false
namespace Go.Proofs.Ytagdbadljcongaa.X
open Go Go.RowKit Go.Proofs Go.Proofs.YtagdbadljcongaaW.PrintWords Go.Proofs.YtagdbadljcongaaW.PrintLast Go.Proofs.YtagdbadljcongaaW.PrintMore
def fam1 (s : ByteArray) : Bool := isW (bl s) && decide (s.size ≤ 8)
/-- Whether a list is a family. -/
def famB (l : List ByteArray) : Bool := l.all fam1
set_option maxHeartbeats 2000000 in
set_option maxRecDepth 100000 in
theorem fam_cl (s : ByteArray) (w : World) (r : Bool) (hr : fam1 s = r) : Calls Try.prog 71 #[.string s] w fun e w' => e = .returned (.bool (!r)) ∧ Below w.heap.size w w' := by
  obtain ⟨v, hv⟩ : ∃ v, isW (bl s) = v := ⟨_, rfl⟩
  have HV := Aside0.mk hv
  have h2 : r = (v && decide (s.size ≤ 8)) := by rw [← hr, ← hv]; rfl
  subst h2
  clear hv hr
  cases v with
  | false =>
    go_enter Try.func71, Try.ntmps71
    go_wp2_with (go_at_call 48; (with_reducible refine (newWord_b s _ _ HV.out).mono ?_); rintro e w1 ⟨p, rfl, hb⟩; have HB := Aside0.mk hb; clear hb)
    go_ret
    exact ⟨rfl, HB.out⟩
  | true =>
    by_cases h8 : s.size ≤ 8
    · have h1 : ¬ ((8 : Int) < (s.size : Int)) := by omega
      have h2 : ¬ (8 < s.size) := by omega
      have h3 := decide_eq_true h8
      go_enter Try.func71, Try.ntmps71
      go_wp2_with (go_at_call 48; (with_reducible refine (newWord_b s _ _ HV.out).mono ?_); rintro e w1 ⟨p, rfl, hb⟩; have HB := Aside0.mk hb; clear hb)
      go_ret
      exact ⟨by simp [h8] <;> omega, HB.out⟩
    · have h1 : (8 : Int) < (s.size : Int) := by omega
      have h2 : 8 < s.size := by omega
      have h3 := decide_eq_false h8
      go_enter Try.func71, Try.ntmps71
      go_wp2_with (go_at_call 48; (with_reducible refine (newWord_b s _ _ HV.out).mono ?_); rintro e w1 ⟨p, rfl, hb⟩; have HB := Aside0.mk hb; clear hb)
      go_ret
      exact ⟨by simp [h8] <;> omega, HB.out⟩
set_option maxHeartbeats 4000000 in
set_option maxRecDepth 1000000 in
theorem fam_idx (A : Option Addr) (c : Nat) (l : List ByteArray) (w : World) (hC : Kd.C Kd.string w A l.length l) (hl : l.length ≤ 1000000) :
    Calls Try.prog 77 #[.slice A l.length c, .func (.func 71) #[] #[]] w fun e w' => ∃ r : Int, e = .returned (.int .i64 r) ∧ Aside0 (-1 ≤ r ∧ r ≤ 1000000 ∧ (0 ≤ r ↔ famB l = false)) ∧ Below w.heap.size w w' := by
  have HC := Aside0.mk hC
  have HL := Aside0.mk hl
  clear hC hl
  go_enter Try.func77, Try.ntmps77
  go_wp2
  go_loopw [8] (fun v8 wr => ∃ i : Nat, v8 = .int .i64 i ∧ i ≤ l.length ∧ Aside0 (Below w.heap.size w wr) ∧ Aside0 (∀ j, j < i → ∀ h : j < l.length, fam1 l[j] = true)) (fun v8 _ => l.length - (intOf v8).toNat)
  case atStart => exact ⟨0, rfl, by omega, ⟨Below.refl _ _⟩, ⟨by omega⟩⟩
  case round =>
    obtain ⟨i, rfl, hi, HB, HAL⟩ := hrel
    by_cases hlt : i < l.length
    · have hltI : (i : Int) < (l.length : Int) := by omega
      have hi0 : (0 : Int) ≤ (i : Int) := by omega
      obtain ⟨s, hs⟩ : ∃ s, l[i] = s := ⟨_, rfl⟩
      obtain ⟨ad, e, hx⟩ := Kd.at_string (Kd.C_below HC.out HB.out) (i : Int) hi0 hltI
      cases e
      have er : rdOf ByteArray.empty l (i : Int) = s := by unfold rdOf; simp [List.getD_eq_getElem?_getD, hlt, hs]
      rw [er, Int.toNat_natCast] at hx
      obtain ⟨r, hr⟩ : ∃ r, fam1 s = r := ⟨_, rfl⟩
      have HR := Aside0.mk hr
      have HS := Aside0.mk (show ∀ h : i < l.length, l[i] = s from fun _ => hs)
      have HLT := Aside0.mk hlt
      have hib : (i : Int) ≤ 1000000 := by have := HL.out; omega
      clear hlt hs er hr
      cases r with
      | true =>
        go_wp2_with (go_at_call 71; (with_reducible refine (fam_cl s _ _ HR.out).mono ?_); rintro e w1 ⟨rfl, hb⟩; have HB1 := Aside0.mk (below_step HB.out hb); clear hb)
        go_roundw
        case rel => exact ⟨i + 1, by go_num, by have := HLT.out; omega, HB1, ⟨fun j hj h => by
          by_cases e : j = i
          · subst e; rw [HS.out h]; exact HR.out
          · exact HAL.out j (by omega) h⟩⟩
        case measure => simp [intOf]; have := HLT.out; omega
      | false =>
        go_wp2_with (go_at_call 71; (with_reducible refine (fam_cl s _ _ HR.out).mono ?_); rintro e w1 ⟨rfl, hb⟩; have HB1 := Aside0.mk (below_step HB.out hb); clear hb)
        go_ret
        refine ⟨_, rfl, ⟨by omega, hib, iff_of_true hi0 ?_⟩, HB1.out⟩
        rw [Bool.eq_false_iff]
        intro h
        have := List.all_eq_true.1 h _ (List.getElem_mem HLT.out)
        rw [HS.out HLT.out, HR.out] at this
        cases this
    · have hltI : ¬ ((i : Int) < (l.length : Int)) := by omega
      have HLT := Aside0.mk hlt
      clear hlt
      go_wp2
      go_ret
      refine ⟨_, rfl, ⟨by omega, by omega, iff_of_false (by omega) ?_⟩, HB.out⟩
      rw [Bool.not_eq_false]
      refine List.all_eq_true.2 fun b hb => ?_
      obtain ⟨j, hj, rfl⟩ := List.getElem_of_mem hb
      exact HAL.out j (by have := HLT.out; omega) hj
set_option maxHeartbeats 2000000 in
set_option maxRecDepth 100000 in
theorem fam_cont (A : Option Addr) (c : Nat) (l : List ByteArray) (w : World) (hC : Kd.C Kd.string w A l.length l) (hl : l.length ≤ 1000000) (r : Bool) (hr : famB l = r) :
    Calls Try.prog 63 #[.slice A l.length c, .func (.func 71) #[] #[]] w fun e w' => e = .returned (.bool (!r)) ∧ Below w.heap.size w w' := by
  have H := Aside0.mk (fam_idx A c l w hC hl)
  have HR := Aside0.mk hr
  clear hC hl hr
  cases r with
  | true =>
    go_enter Try.func63, Try.ntmps63
    go_wp2_with (go_at_call 77; (with_reducible refine H.out.mono ?_); rintro e w1 ⟨r, rfl, HR2, hb⟩; have HB := Aside0.mk hb; have hr0 : decide (0 ≤ r) = false := decide_eq_false (fun h => by have := HR2.out.2.2.1 h; rw [HR.out] at this; cases this); clear hb)
    go_ret
    exact ⟨rfl, HB.out⟩
  | false =>
    go_enter Try.func63, Try.ntmps63
    go_wp2_with (go_at_call 77; (with_reducible refine H.out.mono ?_); rintro e w1 ⟨r, rfl, HR2, hb⟩; have HB := Aside0.mk hb; have hr0 : decide (0 ≤ r) = true := decide_eq_true (HR2.out.2.2.2 HR.out); clear hb)
    go_ret
    exact ⟨rfl, HB.out⟩
set_option maxHeartbeats 2000000 in
set_option maxRecDepth 100000 in
theorem fam_any (A : Option Addr) (c : Nat) (l : List ByteArray) (w : World) (hC : Kd.C Kd.string w A l.length l) (hl : l.length ≤ 1000000) (r : Bool) (hr : (decide (l.length ≤ 4) && famB l) = r) :
    Calls Try.prog 58 #[.slice A l.length c] w fun e w' => e = .returned (.bool r) ∧ Below w.heap.size w w' := by
  obtain ⟨v, hv⟩ : ∃ v, famB l = v := ⟨_, rfl⟩
  have H := Aside0.mk (fam_cont A c l w hC hl v hv)
  rw [hv] at hr
  subst hr
  by_cases h4 : l.length ≤ 4
  · have h1 : (l.length : Int) ≤ 4 := by omega
    clear hv hl hC
    go_enter Try.func58, Try.ntmps58
    go_wp2_with (go_at_call 63; (with_reducible refine H.out.mono ?_); rintro e w1 ⟨rfl, hb⟩; have HB := Aside0.mk hb; clear hb)
    go_ret
    exact ⟨by simp [h4], HB.out⟩
  · have h1 : ¬ ((l.length : Int) ≤ 4) := by omega
    clear hv hl hC
    go_enter Try.func58, Try.ntmps58
    go_wp2
    go_ret
    exact ⟨by simp [h4], Below.refl _ _⟩
end Go.Proofs.Ytagdbadljcongaa.X
end

section
/- Counting the words without some subsequences, as the program does it. -/
set_option linter.unusedVariables false
set_option linter.unusedSimpArgs false
namespace Go.Proofs.Ytagdbadljcongaa.X
open Go.RowKit Go.Proofs.YtagdbadljcongaaW.PrintWords
/-- The marks behind one letter more (x), from the i-th word on; none: a word is complete. -/
def aftL : List (List Nat) → Nat → List Nat → Nat → Option (List Nat)
  | [], _, m, _ => some m
  | w :: ws, i, m, x =>
    if w[m.getD i 0]? = some x then
      if m.getD i 0 + 1 = w.length then none else aftL ws (i + 1) (m.set i (m.getD i 0 + 1)) x
    else aftL ws (i + 1) m x
/-- Marks within the words (those from the i-th on are ws). -/
structure MOk (W : List (List Nat)) (m : List Nat) : Prop where
  len : m.length = 4
  lt : ∀ i, ∀ h : i < W.length, m.getD i 0 < (W[i]).length
  le : ∀ x ∈ m, x ≤ 8
theorem aftL_step {W : List (List Nat)} {i : Nat} {m : List Nat} {x : Nat} (h : i < W.length) : aftL (W.drop i) i m x =
    if (W[i])[m.getD i 0]? = some x then (if m.getD i 0 + 1 = (W[i]).length then none else aftL (W.drop (i + 1)) (i + 1) (m.set i (m.getD i 0 + 1)) x) else aftL (W.drop (i + 1)) (i + 1) m x := by
  rw [List.drop_eq_getElem_cons h]
  rfl
theorem getD_set (m : List Nat) (i j v : Nat) : (m.set i v).getD j 0 = if i = j ∧ i < m.length then v else m.getD j 0 := by
  simp only [List.getD_eq_getElem?_getD, List.getElem?_set]
  by_cases h : i = j
  · subst h
    by_cases h2 : i < m.length <;> simp [h2]
  · simp [h]
theorem MOk.set {W : List (List Nat)} {m : List Nat} (h : MOk W m) {i : Nat} (hi : i < W.length) (h8 : (W[i]).length ≤ 8) (hn : m.getD i 0 + 1 ≠ (W[i]).length) : MOk W (m.set i (m.getD i 0 + 1)) := by
  refine ⟨by rw [List.length_set]; exact h.len, fun j hj => ?_, fun x hx => ?_⟩
  · rw [getD_set]
    split
    · rename_i e
      obtain ⟨rfl, _⟩ := e
      have := h.lt i hi
      omega
    · exact h.lt j hj
  · rcases List.mem_or_eq_of_mem_set hx with e | e
    · exact h.le x e
    · have := h.lt i hi; omega
theorem aftL_ok {W : List (List Nat)} (h8 : ∀ w ∈ W, w.length ≤ 8) (x : Nat) : ∀ (k i : Nat) (m m' : List Nat), W.length - i = k → MOk W m → aftL (W.drop i) i m x = some m' → MOk W m'
  | 0, i, m, m', hk, hm, h => by
    rw [List.drop_eq_nil_of_le (by omega)] at h
    injection h with h
    subst h; exact hm
  | k + 1, i, m, m', hk, hm, h => by
    have hi : i < W.length := by omega
    rw [aftL_step hi] at h
    split at h
    · split at h
      · cases h
      · exact aftL_ok h8 x k (i + 1) _ m' (by omega) (hm.set hi (h8 _ (List.getElem_mem hi)) (by assumption)) h
    · exact aftL_ok h8 x k (i + 1) _ m' (by omega) hm h
def aft (W : List (List Nat)) (m : List Nat) (x : Nat) : Option (List Nat) := aftL W 0 m x
theorem aft_ok {W : List (List Nat)} (h8 : ∀ w ∈ W, w.length ≤ 8) {x : Nat} {m m' : List Nat} (hm : MOk W m) (h : aft W m x = some m') : MOk W m' := aftL_ok h8 x _ 0 m m' rfl hm (by rw [List.drop_zero]; exact h)
/-- What the first c letters make of marks. -/
def gos (W : List (List Nat)) (m : List Nat) (c : Nat) : List (List Nat) := (List.range c).filterMap fun d => aft W m (97 + d)
theorem gos_succ (W : List (List Nat)) (m : List Nat) (c : Nat) : gos W m (c + 1) = gos W m c ++ (aft W m (97 + c)).toList := by
  unfold gos
  rw [List.range_succ, List.filterMap_append]
  congr 1
theorem gos_len (W : List (List Nat)) (m : List Nat) (c : Nat) : (gos W m c).length ≤ c := by
  have := List.length_filterMap_le (fun d => aft W m (97 + d)) (List.range c)
  simpa [gos] using this
/-- The marks of all words of a length, each as often as it comes. -/
def lev (W : List (List Nat)) (k : Nat) : Nat → List (List Nat)
  | 0 => if [] ∈ W then [] else [[0, 0, 0, 0]]
  | n + 1 => (lev W k n).flatMap fun m => gos W m k
/-- How many words of each length there are. -/
def freeL (W : List (List Nat)) (k n : Nat) : List Nat := (List.range (n + 1)).map fun l => (lev W k l).length
theorem flat_le {S : List (List Nat)} {g : List Nat → List (List Nat)} {k : Nat} (h : ∀ m ∈ S, (g m).length ≤ k) : (S.flatMap g).length ≤ S.length * k := by
  induction S with
  | nil => simp
  | cons a r ih =>
    have h1 := h a (by simp)
    have h2 := ih (fun m hm => h m (by simp [hm]))
    simp only [List.flatMap_cons, List.length_append, List.length_cons, Nat.add_mul, Nat.one_mul]
    omega
theorem lev_le (W : List (List Nat)) (k : Nat) (hk : k ≤ 4) : ∀ n, (lev W k n).length ≤ 4 ^ n
  | 0 => by unfold lev; split <;> simp
  | n + 1 => by
    have h1 := flat_le (S := lev W k n) (g := fun m => gos W m k) (k := 4) (fun m _ => Nat.le_trans (gos_len W m k) hk)
    have h2 := lev_le W k hk n
    show ((lev W k n).flatMap fun m => gos W m k).length ≤ 4 ^ (n + 1)
    rw [Nat.pow_succ]
    exact Nat.le_trans h1 (Nat.mul_le_mul_right 4 h2)
theorem lev_ok {W : List (List Nat)} (h8 : ∀ w ∈ W, w.length ≤ 8) (k : Nat) : ∀ n, ∀ m ∈ lev W k n, MOk W m
  | 0, m, hm => by
    unfold lev at hm
    split at hm
    · cases hm
    · rename_i hn
      rw [List.mem_singleton] at hm
      subst hm
      refine ⟨rfl, fun i hi => ?_, by simp⟩
      have h0 : (W[i]).length ≠ 0 := fun e => hn (by rw [← List.eq_nil_of_length_eq_zero e]; exact List.getElem_mem hi)
      have : ([0, 0, 0, 0] : List Nat).getD i 0 = 0 := by
        simp only [List.getD_eq_getElem?_getD]
        rcases i with _ | _ | _ | _ | i <;> rfl
      rw [this]; omega
  | n + 1, m, hm => by
    obtain ⟨a, ha, h⟩ := List.mem_flatMap.1 hm
    obtain ⟨d, _, hd⟩ := List.mem_filterMap.1 h
    exact aft_ok h8 (lev_ok h8 k n a ha) hd
/-- What has come of some marks, each taken as often as S has it. -/
def acc (S : List (List Nat)) (g : List Nat → List (List Nat)) (V : List (List Nat)) : List (List Nat) := V.flatMap fun m => (g m).flatMap fun t => List.replicate (S.count m) t
theorem sum_one {V : List (List Nat)} (hn : V.Nodup) {x : List Nat} (hx : x ∈ V) (h : List Nat → Nat) : (V.map fun m => (if m = x then 1 else 0) * h m).sum = h x := by
  induction V with
  | nil => cases hx
  | cons a r ih =>
    obtain ⟨h1, h2⟩ := List.nodup_cons.1 hn
    simp only [List.map_cons, List.sum_cons]
    by_cases e : a = x
    · subst e
      have h0 : (r.map fun m => (if m = a then 1 else 0) * h m).sum = 0 := by
        clear ih hx hn h2
        induction r with
        | nil => rfl
        | cons b t ih =>
          have : b ≠ a := fun e => h1 (by simp [e])
          simp only [List.map_cons, List.sum_cons, if_neg this, Nat.zero_mul, Nat.zero_add]
          exact ih (fun hm => h1 (by simp [hm]))
      rw [if_pos rfl, h0]; simp
    · rw [if_neg e, ih h2 (by simpa [Ne.symm e] using hx)]; simp
theorem sum_cover {V : List (List Nat)} (hn : V.Nodup) (h : List Nat → Nat) : ∀ S : List (List Nat), (∀ x ∈ S, x ∈ V) → (V.map fun m => S.count m * h m).sum = (S.map h).sum
  | [], _ => by
    have : ∀ V : List (List Nat), (V.map fun m => ([] : List (List Nat)).count m * h m).sum = 0 := by
      intro V; induction V with
      | nil => rfl
      | cons a r ih => simp only [List.map_cons, List.sum_cons, List.count_nil, Nat.zero_mul, Nat.zero_add]; simpa using ih
    exact this V
  | x :: r, hs => by
    have ih := sum_cover hn h r (fun y hy => hs y (by simp [hy]))
    have h1 := sum_one hn (hs x (by simp)) h
    rw [List.map_cons, List.sum_cons, ← ih, ← h1]
    clear ih h1 hs hn
    induction V with
    | nil => rfl
    | cons a t ih =>
      simp only [List.map_cons, List.sum_cons]
      rw [ih, List.count_cons]
      have : (if (x == a) = true then 1 else 0) = (if a = x then 1 else 0 : Nat) := by
        by_cases e : a = x
        · subst e; simp
        · rw [if_neg e, if_neg (by simpa using Ne.symm e)]
      rw [this, Nat.add_mul]
      omega
theorem sum_sub {V : List (List Nat)} (hn : V.Nodup) (S : List (List Nat)) : (V.map fun m => S.count m).sum ≤ S.length := by
  have h := sum_cover hn (fun _ => 1) (S.filter fun x => decide (x ∈ V)) (fun x hx => by simpa using (List.mem_filter.1 hx).2)
  have e : (V.map fun m => S.count m) = V.map fun m => (S.filter fun x => decide (x ∈ V)).count m * 1 := by
    refine List.map_congr_left fun m hm => ?_
    rw [Nat.mul_one, List.count_filter (by simpa using hm)]
  rw [e, h]
  have h1 : ∀ L : List (List Nat), (L.map fun _ => 1).sum = L.length := fun L => by
    induction L with
    | nil => rfl
    | cons a r ih => simp only [List.map_cons, List.sum_cons, List.length_cons, ih]; omega
  rw [h1]
  exact List.length_filter_le _ _
theorem count_rep (n : Nat) (a : List Nat) : ∀ L : List (List Nat), (L.flatMap fun t => List.replicate n t).count a = n * L.count a
  | [] => by simp
  | x :: r => by
    rw [List.flatMap_cons, List.count_append, count_rep n a r, List.count_cons, List.count_replicate, Nat.mul_add]
    by_cases e : x = a
    · subst e; simp; omega
    · have : (x == a) = false := by simpa using e
      simp [this]
theorem length_rep (n : Nat) : ∀ L : List (List Nat), (L.flatMap fun t => List.replicate n t).length = n * L.length
  | [] => by simp
  | x :: r => by rw [List.flatMap_cons, List.length_append, length_rep n r, List.length_cons, List.length_replicate, Nat.mul_succ]; omega
theorem count_acc (S : List (List Nat)) (g : List Nat → List (List Nat)) (a : List Nat) : ∀ V : List (List Nat), (acc S g V).count a = (V.map fun m => S.count m * (g m).count a).sum
  | [] => by simp [acc]
  | x :: r => by
    have ih := count_acc S g a r
    unfold acc at ih ⊢
    rw [List.flatMap_cons, List.count_append, ih, count_rep]
    rfl
theorem count_flat (g : List Nat → List (List Nat)) (a : List Nat) : ∀ S : List (List Nat), (S.flatMap g).count a = (S.map fun m => (g m).count a).sum
  | [] => by simp
  | x :: r => by rw [List.flatMap_cons, List.count_append, count_flat g a r]; rfl
theorem acc_count {S V : List (List Nat)} (hn : V.Nodup) (hs : ∀ x ∈ S, x ∈ V) (g : List Nat → List (List Nat)) (a : List Nat) : (acc S g V).count a = (S.flatMap g).count a := by
  rw [count_acc, count_flat]
  exact sum_cover hn (fun m => (g m).count a) S hs
theorem acc_snoc (S : List (List Nat)) (g : List Nat → List (List Nat)) (V : List (List Nat)) (m : List Nat) : acc S g (V ++ [m]) = acc S g V ++ (g m).flatMap fun t => List.replicate (S.count m) t := by
  unfold acc
  rw [List.flatMap_append]
  simp
theorem acc_le (S : List (List Nat)) (g : List Nat → List (List Nat)) (k : Nat) : ∀ V : List (List Nat), (∀ m ∈ V, (g m).length ≤ k) → (acc S g V).length ≤ k * (V.map fun m => S.count m).sum
  | [], _ => by simp [acc]
  | x :: r, h => by
    have ih := acc_le S g k r (fun m hm => h m (by simp [hm]))
    unfold acc at ih ⊢
    rw [List.flatMap_cons, List.length_append, length_rep, List.map_cons, List.sum_cons, Nat.mul_add]
    have h1 := Nat.mul_le_mul_left (S.count x) (h x (by simp))
    rw [Nat.mul_comm (S.count x) k] at h1
    omega
end Go.Proofs.Ytagdbadljcongaa.X
end

section
/- marks.after. -/
set_option linter.unusedVariables false
set_option linter.unusedSimpArgs false
namespace Go.Proofs.Ytagdbadljcongaa.X
open Go Go.RowKit Go.Proofs Go.Proofs.YtagdbadljcongaaW.PrintWords Go.Proofs.YtagdbadljcongaaW.PrintLast Go.Proofs.YtagdbadljcongaaW.PrintMore
/-- Marks as cells. -/
def mcells (m : List Nat) : Array Value := (m.map fun (x : Nat) => Value.int .i64 (x : Int)).toArray
theorem mcells_at (m : List Nat) (i : Nat) (h : i < m.length) : (mcells m)[i]? = some (.int .i64 ((m.getD i 0 : Nat) : Int)) := by
  unfold mcells
  simp [List.getElem?_map, List.getElem?_eq_getElem h, List.getD_eq_getElem?_getD]
theorem mcells_set (m : List Nat) (i v : Nat) : (mcells m).setIfInBounds i (.int .i64 (v : Int)) = mcells (m.set i v) := by
  unfold mcells
  simp [List.map_set]
theorem four {m : List Nat} (h : m.length = 4) : ∃ a b c d, m = [a, b, c, d] := by
  match m, h with
  | [a, b, c, d], _ => exact ⟨a, b, c, d, rfl⟩
structure MkAt (w : World) (m : List Nat) (V : World) : Prop where
  c1 : V.heap[w.heap.size]? = some (.cells (mcells m) 101 (0, 0))
  c2 : V.heap[w.heap.size + 1]? = some (.cells #[.int .i64 0, .int .i64 0, .int .i64 0, .int .i64 0] 101 (0, 0))
  bel : Below w.heap.size w V
/-- What after returns. -/
def AfPost (r : Option (List Nat)) (w : World) (e : Ending) (w' : World) : Prop :=
  ∃ a b c d : Nat, e = .returned (.tuple #[.agg #[.int .i64 (a : Int), .int .i64 (b : Int), .int .i64 (c : Int), .int .i64 (d : Int)], .bool r.isSome]) ∧ (∀ m', r = some m' → m' = [a, b, c, d]) ∧ Below w.heap.size w w'
theorem blk_set4 {V : World} {g : Nat} {x0 x1 x2 x3 : Value} (h : V.heap[g]? = some (.cells #[x0, x1, x2, x3] 101 (0, 0))) (a b c d : Value) : ((((V.setCell ⟨g, 0, none⟩ a).setCell ⟨g, 1, none⟩ b).setCell ⟨g, 2, none⟩ c).setCell ⟨g, 3, none⟩ d).heap[g]? = some (.cells #[a, b, c, d] 101 (0, 0)) :=
  (blk_set (((blk_set ((blk_set ((blk_set h 0 a).trans rfl) 1 b).trans rfl) 2 c).trans rfl)) 3 d).trans rfl
theorem below4 {w V : World} {g : Nat} (h : Below w.heap.size w V) (hg : w.heap.size ≤ g) (a b c d : Value) : Below w.heap.size w ((((V.setCell ⟨g, 0, none⟩ a).setCell ⟨g, 1, none⟩ b).setCell ⟨g, 2, none⟩ c).setCell ⟨g, 3, none⟩ d) :=
  (((h.setCell hg _).setCell hg _).setCell hg _).setCell hg _
theorem info101 : (Try.prog.info? 101).map (·.size) = some 4 := by kernel_rfl
set_option maxHeartbeats 4000000 in
set_option maxRecDepth 1000000 in
theorem after_m (A : Option Addr) (c : Nat) (l : List ByteArray) (w : World) (hC : Kd.C Kd.string w A l.length l) (hl : l.length ≤ 4) (h8 : ∀ s ∈ l, s.size ≤ 8) (m : List Nat) (hm : MOk (l.map bl) m) (d : Nat) (hd : d < 4) (r : Option (List Nat)) (hr : aft (l.map bl) m (97 + d) = r) :
    Calls Try.prog 66 #[.agg (mcells m), .slice A l.length c, .int .u8 (97 + (d : Int))] w (AfPost r w) := by
  have HC := Aside0.mk hC
  have H8 := Aside0.mk h8
  have HL := Aside0.mk hl
  have HM := Aside0.mk hm
  have HD := Aside0.mk hd
  have HRR := Aside0.mk hr
  obtain ⟨a0, a1, a2, a3, e4⟩ := four hm.len
  subst e4
  show Calls Try.prog 66 #[.agg #[.int .i64 (a0 : Int), .int .i64 (a1 : Int), .int .i64 (a2 : Int), .int .i64 (a3 : Int)], .slice A l.length c, .int .u8 (97 + (d : Int))] w (AfPost r w)
  clear hC h8 hl hm hd hr
  go_enter Try.func66, Try.ntmps66
  go_wp2
  obtain ⟨W0, hW0⟩ : ∃ W0, (w.alloc (.cells #[.int .i64 (a0 : Int), .int .i64 (a1 : Int), .int .i64 (a2 : Int), .int .i64 (a3 : Int)] 101)).alloc (.cells #[.int .i64 0, .int .i64 0, .int .i64 0, .int .i64 0] 101) = W0 := ⟨_, rfl⟩
  have H0 := Aside0.mk (show MkAt w [a0, a1, a2, a3] W0 by
    rw [← hW0]
    refine ⟨blk_alloc (blk_new _ _) _, ?_, below_alloc (below_alloc (Below.refl _ _) _) _⟩
    have := blk_new (w.alloc (.cells #[.int .i64 (a0 : Int), .int .i64 (a1 : Int), .int .i64 (a2 : Int), .int .i64 (a3 : Int)] 101)) (.cells #[.int .i64 0, .int .i64 0, .int .i64 0, .int .i64 0] 101)
    rwa [World.size_alloc] at this)
  rw [hW0]
  clear hW0
  go_loopw [12] (fun v12 wr => ∃ (i : Nat) (m : List Nat), v12 = .int .i64 i ∧ i ≤ l.length ∧ Aside0 (MkAt w m wr) ∧ Aside0 (MOk (l.map bl) m) ∧ Aside0 (aftL ((l.map bl).drop i) i m (97 + d) = r)) (fun v12 _ => l.length - (intOf v12).toNat)
  case atStart => exact ⟨0, _, rfl, by omega, H0, HM, ⟨by rw [List.drop_zero]; exact HRR.out⟩⟩
  case round =>
    obtain ⟨i, m, rfl, hi, HA, HO, HE⟩ := hrel
    clear H0 HM HRR
    by_cases hlt : i < l.length
    · have hltI : (i : Int) < (l.length : Int) := by omega
      have hi0 : (0 : Int) ≤ (i : Int) := by omega
      have hi4 : (i : Int) < 4 := by have := HL.out; omega
      obtain ⟨s, hs⟩ : ∃ s, l[i] = s := ⟨_, rfl⟩
      obtain ⟨ad, e, hx⟩ := Kd.at_string (Kd.C_below HC.out HA.out.bel) (i : Int) hi0 hltI
      cases e
      have er : rdOf ByteArray.empty l (i : Int) = s := by unfold rdOf; simp [List.getD_eq_getElem?_getD, hlt, hs]
      rw [er, Int.toNat_natCast] at hx
      have hWi : ∀ h : i < (l.map bl).length, (l.map bl)[i] = bl s := fun h => by rw [List.getElem_map, hs]
      obtain ⟨p, hp⟩ : ∃ p, m.getD i 0 = p := ⟨_, rfl⟩
      have hps : p < s.size := by
        have := HO.out.lt i (by simpa using hlt)
        rw [hWi, hp, bl_length] at this
        exact this
      have hs8 : s.size ≤ 8 := H8.out s (by rw [← hs]; exact List.getElem_mem hlt)
      obtain ⟨v, hv⟩ : ∃ v, (bl s)[p]'(by rw [bl_length]; exact hps) = v := ⟨_, rfl⟩
      have hxv : ∀ h : p < s.size, (s[p]'h).toNat = v := fun h => by rw [← bl_get s p h]; exact hv
      have q1 : wr.cell? ⟨w.heap.size, i, none⟩ = some (.int .i64 (p : Int)) := by
        rw [← hp]
        exact (blk_cell HA.out.c1 i).trans (mcells_at m i (by rw [HO.out.len]; have := HL.out; omega))
      have HST := Aside0.mk (show (if v = 97 + d then (if p + 1 = s.size then none else aftL ((l.map bl).drop (i + 1)) (i + 1) (m.set i (p + 1)) (97 + d)) else aftL ((l.map bl).drop (i + 1)) (i + 1) m (97 + d)) = r by
        have h := HE.out
        rw [aftL_step (by simpa using hlt), hWi, hp, bl_length] at h
        rw [← h]
        have e2 : (bl s)[p]? = some v := by rw [List.getElem?_eq_getElem (by rw [bl_length]; exact hps), hv]
        rw [e2]
        simp)
      have HP := Aside0.mk hp
      have HLT := Aside0.mk hlt
      have HWI := Aside0.mk hWi
      have hpI : (p : Int) < (s.size : Int) := by omega
      have hp8 : (p : Int) < 8 := by omega
      have hp0 : (0 : Int) ≤ (p : Int) := by omega
      have HS8 := Aside0.mk hs8
      clear hlt hs er hWi hp hv hs8
      by_cases hvd : v = 97 + d
      · subst hvd
        have hxv2 : ∀ h : p < s.size, ((s[p]'h).toNat : Int) = 97 + (d : Int) := fun h => by rw [hxv h]; simp
        have f1 := blk_frozen HA.out.c1 i
        clear hxv
        go_upto_region 6 with (fail)
        have h1 : (wr.setCell ⟨w.heap.size, i, none⟩ (.int .i64 ((p : Int) + 1))).heap[w.heap.size]? = some (.cells (mcells (m.set i (p + 1))) 101 (0, 0)) := by
          have := blk_set HA.out.c1 i (.int .i64 ((p : Int) + 1))
          rw [show ((p : Int) + 1) = ((p + 1 : Nat) : Int) by omega, mcells_set] at this
          exact this
        have hlen : (m.set i (p + 1)).length = 4 := by rw [List.length_set]; exact HO.out.len
        have h2 := blk_far HA.out.c2 (p := ⟨w.heap.size, i, none⟩) (by show w.heap.size + 1 ≠ w.heap.size; omega) (.int .i64 ((p : Int) + 1))
        have HA2 := Aside0.mk (show MkAt w (m.set i (p + 1)) (wr.setCell ⟨w.heap.size, i, none⟩ (.int .i64 ((p : Int) + 1))) from ⟨h1, h2, HA.out.bel.setCell (Nat.le_refl _) _⟩)
        have q2 : (wr.setCell ⟨w.heap.size, i, none⟩ (.int .i64 ((p : Int) + 1))).cell? ⟨w.heap.size, i, none⟩ = some (.int .i64 ((p : Int) + 1)) := by
          refine (blk_cell h1 i).trans ((mcells_at _ i (by rw [hlen]; have := HL.out; have := HLT.out; omega)).trans ?_)
          rw [getD_set, if_pos ⟨rfl, by rw [HO.out.len]; have := HL.out; have := HLT.out; omega⟩]
          simp
        obtain ⟨W1, hW1⟩ : ∃ W1, wr.setCell ⟨w.heap.size, i, none⟩ (.int .i64 ((p : Int) + 1)) = W1 := ⟨_, rfl⟩
        rw [hW1] at HA2 q2 ⊢
        clear h1 h2 hW1 q1 hx hxv2 f1
        have HST := HST.out
        rw [if_pos rfl] at HST
        have HLEN := Aside0.mk hlen
        clear hlen
        by_cases hps1 : p + 1 = s.size
        · rw [if_pos hps1] at HST
          subst HST
          have e1 : (p : Int) + 1 = (s.size : Int) := by omega
          have e2 : ((p : Int) + 1 == (s.size : Int)) = true := by simpa using e1
          obtain ⟨b0, b1, b2, b3, e4⟩ := four HLEN.out
          have g1 := HA2.out.c1
          rw [e4] at g1
          have c0 : W1.cell? ⟨w.heap.size, 0, none⟩ = some (.int .i64 (b0 : Int)) := (blk_cell g1 0).trans rfl
          have c1 : W1.cell? ⟨w.heap.size, 1, none⟩ = some (.int .i64 (b1 : Int)) := (blk_cell g1 1).trans rfl
          have c2 : W1.cell? ⟨w.heap.size, 2, none⟩ = some (.int .i64 (b2 : Int)) := (blk_cell g1 2).trans rfl
          have c3 : W1.cell? ⟨w.heap.size, 3, none⟩ = some (.int .i64 (b3 : Int)) := (blk_cell g1 3).trans rfl
          have g2 := HA2.out.c2
          have d0 : W1.cell? ⟨w.heap.size + 1, 0, none⟩ = some (.int .i64 0) := (blk_cell g2 0).trans rfl
          have d1 : W1.cell? ⟨w.heap.size + 1, 1, none⟩ = some (.int .i64 0) := (blk_cell g2 1).trans rfl
          have d2 : W1.cell? ⟨w.heap.size + 1, 2, none⟩ = some (.int .i64 0) := (blk_cell g2 2).trans rfl
          have d3 : W1.cell? ⟨w.heap.size + 1, 3, none⟩ = some (.int .i64 0) := (blk_cell g2 3).trans rfl
          have f0 := blk_frozen g2 0
          have f1 := blk_frozen g2 1
          have f2 := blk_frozen g2 2
          have f3 := blk_frozen g2 3
          have HF := Aside0.mk (blk_set4 g2 (.int .i64 (b0 : Int)) (.int .i64 (b1 : Int)) (.int .i64 (b2 : Int)) (.int .i64 (b3 : Int)))
          have HB4 := Aside0.mk (below4 HA2.out.bel (Nat.le_succ w.heap.size) (.int .i64 (b0 : Int)) (.int .i64 (b1 : Int)) (.int .i64 (b2 : Int)) (.int .i64 (b3 : Int)))
          clear hps1 g1 g2 e4
          go_wp2
          refine bodyPost_ret (results_ct rfl _ _ (w.heap.size + 1) 101 _ (0, 0) _ rfl HF.out Try.underlying101 rfl info101) rfl ?_
          exact ⟨b0, b1, b2, b3, rfl, fun _ h => (by cases h), HB4.out⟩
        · rw [if_neg hps1] at HST
          have HR := Aside0.mk HST
          have e1 : ¬ ((p : Int) + 1 = (s.size : Int)) := by omega
          have e2 : ((p : Int) + 1 == (s.size : Int)) = false := by simpa using e1
          have HO2 := Aside0.mk (show MOk (l.map bl) (m.set i (p + 1)) by
            have h := HO.out.set (i := i) (by simpa using HLT.out) (by rw [HWI.out, bl_length]; exact HS8.out) (by rw [HWI.out, HP.out, bl_length]; exact hps1)
            rw [HP.out] at h
            exact h)
          clear hps1 HST
          go_wp2
          go_roundw
          case rel => exact ⟨i + 1, m.set i (p + 1), by go_num, by have := HLT.out; omega, HA2, HO2, HR⟩
          case measure => simp [intOf]; have := HLT.out; omega
      · have hxv2 : ∀ h : p < s.size, ¬ ((s[p]'h).toNat : Int) = 97 + (d : Int) := fun h => by rw [hxv h]; omega
        have hxv3 : ∀ h : p < s.size, (((s[p]'h).toNat : Int) == 97 + (d : Int)) = false := fun h => by simpa using hxv2 h
        have HST := HST.out
        rw [if_neg hvd] at HST
        have HR := Aside0.mk HST
        clear hvd HST hxv
        go_wp2
        go_roundw
        case rel => exact ⟨i + 1, m, by go_num, by have := HLT.out; omega, HA, HO, HR⟩
        case measure => simp [intOf]; have := HLT.out; omega
    · have hltI : ¬ ((i : Int) < (l.length : Int)) := by omega
      have HR := HE.out
      rw [List.drop_eq_nil_of_le (by simp; omega)] at HR
      simp only [aftL] at HR
      subst HR
      obtain ⟨b0, b1, b2, b3, e4⟩ := four HO.out.len
      have g1 := HA.out.c1
      rw [e4] at g1
      have c0 : wr.cell? ⟨w.heap.size, 0, none⟩ = some (.int .i64 (b0 : Int)) := (blk_cell g1 0).trans rfl
      have c1 : wr.cell? ⟨w.heap.size, 1, none⟩ = some (.int .i64 (b1 : Int)) := (blk_cell g1 1).trans rfl
      have c2 : wr.cell? ⟨w.heap.size, 2, none⟩ = some (.int .i64 (b2 : Int)) := (blk_cell g1 2).trans rfl
      have c3 : wr.cell? ⟨w.heap.size, 3, none⟩ = some (.int .i64 (b3 : Int)) := (blk_cell g1 3).trans rfl
      have g2 := HA.out.c2
      have d0 : wr.cell? ⟨w.heap.size + 1, 0, none⟩ = some (.int .i64 0) := (blk_cell g2 0).trans rfl
      have d1 : wr.cell? ⟨w.heap.size + 1, 1, none⟩ = some (.int .i64 0) := (blk_cell g2 1).trans rfl
      have d2 : wr.cell? ⟨w.heap.size + 1, 2, none⟩ = some (.int .i64 0) := (blk_cell g2 2).trans rfl
      have d3 : wr.cell? ⟨w.heap.size + 1, 3, none⟩ = some (.int .i64 0) := (blk_cell g2 3).trans rfl
      have f0 := blk_frozen g2 0
      have f1 := blk_frozen g2 1
      have f2 := blk_frozen g2 2
      have f3 := blk_frozen g2 3
      have HF := Aside0.mk (blk_set4 g2 (.int .i64 (b0 : Int)) (.int .i64 (b1 : Int)) (.int .i64 (b2 : Int)) (.int .i64 (b3 : Int)))
      have HB4 := Aside0.mk (below4 HA.out.bel (Nat.le_succ w.heap.size) (.int .i64 (b0 : Int)) (.int .i64 (b1 : Int)) (.int .i64 (b2 : Int)) (.int .i64 (b3 : Int)))
      have HE4 := Aside0.mk e4
      clear hlt g1 g2 e4
      go_wp2
      refine bodyPost_ret (results_ct rfl _ _ (w.heap.size + 1) 101 _ (0, 0) _ rfl HF.out Try.underlying101 rfl info101) rfl ?_
      exact ⟨b0, b1, b2, b3, rfl, fun m' h => by injection h with h; rw [← h]; exact HE4.out, HB4.out⟩
end Go.Proofs.Ytagdbadljcongaa.X
end

section
/- Marks as keys of a map; what the map says of a list of marks. -/
set_option linter.unusedVariables false
set_option linter.unusedSimpArgs false
namespace Go.Proofs.Ytagdbadljcongaa.X
open Go Go.RowKit Go.Proofs.YtagdbadljcongaaW.PrintWords Go.Proofs.YtagdbadljcongaaW.PrintLast Go.Proofs.YtagdbadljcongaaW.PrintMore
def quadK (m : List Nat) : Lit := .string (keyBytes (m.map fun (x : Nat) => Lit.int .i64 (x : Int)))
theorem key101 (m : List Nat) (h4 : m.length = 4) (h8 : ∀ x ∈ m, x ≤ 1000000) : keyOf Try.prog 101 (.agg (mcells m)) = some (quadK m) := by
  obtain ⟨k, hm⟩ := types_pos
  obtain ⟨a, b, c, d, rfl⟩ := four h4
  have w1 : (Lit.int .i64 (a : Int)).wf = true := WalkArith.wf_i64 (by have := h8 a (by simp); omega)
  have w2 : (Lit.int .i64 (b : Int)).wf = true := WalkArith.wf_i64 (by have := h8 b (by simp); omega)
  have w3 : (Lit.int .i64 (c : Int)).wf = true := WalkArith.wf_i64 (by have := h8 c (by simp); omega)
  have w4 : (Lit.int .i64 (d : Int)).wf = true := WalkArith.wf_i64 (by have := h8 d (by simp); omega)
  have c101 : Try.prog.cellsOf 101 = 4 := by kernel_rfl
  have c3 : Try.prog.cellsOf 3 = 1 := by kernel_rfl
  have kt : Try.prog.keyType 101 = true := by kernel_rfl
  unfold keyOf mcells quadK
  simp only [Try.underlying101]
  rw [if_pos (by simp [kt, Value.formed, Try.underlying101, c101]), hm]
  unfold Program.keyLits
  simp only [Try.underlying101, Value.cells]
  rw [if_pos (by rw [c101]; rfl)]
  simp [List.range, List.range.loop, List.mapM_cons, List.mapM_nil, c3, Program.keyLits, Try.underlying3, w1, w2, w3, w4]
theorem mcells_inj {m m' : List Nat} (h : mcells m = mcells m') : m = m' := by
  unfold mcells at h
  have h : (m.map fun (x : Nat) => Value.int .i64 (x : Int)) = (m'.map fun (x : Nat) => Value.int .i64 (x : Int)) := congrArg Array.toList h
  exact (List.map_inj_right (fun x y e => by injection e with _ e; omega)).1 h
theorem quadK_inj {m m' : List Nat} (h4 : m.length = 4) (h8 : ∀ x ∈ m, x ≤ 1000000) (h4' : m'.length = 4) (h8' : ∀ x ∈ m', x ≤ 1000000) (h : quadK m = quadK m') : m = m' := by
  have h1 := key101 m h4 h8
  have h2 := key101 m' h4' h8'
  rw [← h] at h2
  have h3 := keyed101.inj h1 h2
  exact mcells_inj (by injection h3)
/-- Marks that may come: four of at most 8. -/
def Mk (m : List Nat) : Prop := m.length = 4 ∧ ∀ x ∈ m, x ≤ 1000000
theorem MOk.mk' {W : List (List Nat)} {m : List Nat} (h : MOk W m) : Mk m := ⟨h.len, fun x hx => Nat.le_trans (h.le x hx) (by omega)⟩
/-- What the map says of a list of marks: how often each comes. -/
structure CntOf (T : List (List Nat)) (f : KMap) : Prop where
  at_ : ∀ m, Mk m → f (quadK m) = if T.count m = 0 then none else some (.int .i64 ((T.count m : Nat) : Int))
  key : ∀ kl v, f kl = some v → ∃ m ∈ T, Mk m ∧ kl = quadK m
theorem CntOf.nil : CntOf [] KMap.empty := ⟨fun m _ => by simp [KMap.empty], fun kl v h => by cases h⟩
theorem CntOf.perm {T T' : List (List Nat)} {f : KMap} (h : CntOf T f) (hc : ∀ a, T.count a = T'.count a) : CntOf T' f := by
  refine ⟨fun m hm => by rw [← hc]; exact h.at_ m hm, fun kl v e => ?_⟩
  obtain ⟨m, hm, h2, h3⟩ := h.key kl v e
  exact ⟨m, List.count_pos_iff.1 (by rw [← hc]; exact List.count_pos_iff.2 hm), h2, h3⟩
theorem CntOf.getD {T : List (List Nat)} {f : KMap} (h : CntOf T f) {m : List Nat} (hm : Mk m) : (f (quadK m)).getD (.int .i64 0) = .int .i64 ((T.count m : Nat) : Int) := by
  rw [h.at_ m hm]
  split
  · rename_i e; rw [e]; rfl
  · rfl
theorem CntOf.push {T : List (List Nat)} {f : KMap} (h : CntOf T f) {m : List Nat} (hm : Mk m) {n : Nat} (hn : 0 < n) : CntOf (T ++ List.replicate n m) (f.put (quadK m) (.int .i64 ((T.count m : Int) + (n : Int)))) := by
  have hk : WideAt.IsKeyLit (quadK m) := keyed101.key (key101 m hm.1 hm.2)
  refine ⟨fun m' hm' => ?_, fun kl v e => ?_⟩
  · rw [List.count_append, List.count_replicate]
    by_cases e : m' = m
    · subst e
      rw [KMap.put_same f hk, if_neg (by simp; omega)]
      simp
    · rw [KMap.put_other f (fun e2 => e (quadK_inj hm'.1 hm'.2 hm.1 hm.2 e2)), h.at_ m' hm', if_neg (show ¬ (m == m') = true by simpa using Ne.symm e)]
      rfl
  · by_cases e2 : kl = quadK m
    · exact ⟨m, by simp; exact .inr (by omega), hm, e2⟩
    · rw [KMap.put_other f e2] at e
      obtain ⟨m', a, b, c⟩ := h.key kl v e
      exact ⟨m', by simp [a], b, c⟩
end Go.Proofs.Ytagdbadljcongaa.X
end

section
namespace Go.Proofs.Ytagdbadljcongaa.X
open Go.RowKit Go.Proofs.YtagdbadljcongaaW.PrintWords Go.Proofs.YtagdbadljcongaaW.PrintLast Go.Proofs.YtagdbadljcongaaW.PrintMore
attribute [local go_sem] max2_int min2_int max_two min_two max_three min_three max_four min_four   -- for this text's walks alone
set_option linter.unusedVariables false
set_option linter.unusedSimpArgs false

def slices_Index_string_string.l0 : Nat → List ByteArray → ByteArray → Int → Int → Option (Int)
 | 0, _, _, _, _ => none
 | k + 1, x0, x1, x7, x8 => if x8 < x7 then (if 0 ≤ x8 then (if x8 < (x0.length : Int) then (if x1.toList = (rdOf ByteArray.empty x0 x8).toList then (some x8) else (slices_Index_string_string.l0 k x0 x1 x7 (wrap64 (x8 + 1)))) else (none)) else (none)) else (some (-1))
def slices_Index_string_string.f (k : Nat) (l0 : List ByteArray) (a1 : ByteArray) : Option (Int) := slices_Index_string_string.l0 k l0 a1 (l0.length : Int) 0
set_option maxHeartbeats 8000000 in
set_option maxRecDepth 100000 in
theorem slices_Index_string_string.calls (k : Nat) (A0 : Option Addr) (c0 : Nat) (l0 : List ByteArray) (a1 : ByteArray) (r : Int) (w : World) (hr0 : Kd.C Kd.string w A0 l0.length l0) (hc0 : l0.length ≤ c0) (h : slices_Index_string_string.f k l0 a1 = some r) :
  Calls Try.prog 78 #[.slice A0 l0.length c0, .string a1] w fun e w' => e = .returned (.int .i64 r) ∧ Drawn0 w w' := by
 have HR0 := Aside0.mk hr0
 have HC0 := Aside0.mk hc0
 clear hr0 hc0
 have H : (slices_Index_string_string.l0 k l0 a1 (l0.length : Int) 0) = some r := h
 clear h
 have H' := Aside0.mk H
 clear H
 go_enter Try.func78, Try.ntmps78
 go_wp2
 go_loopg [8] k (fun kq v8 w' => ∃ (x8_1 : Int), v8 = .int .i64 x8_1 ∧ Aside0 (slices_Index_string_string.l0 kq l0 a1 (l0.length : Int) x8_1 = some r) ∧ Aside0 (kq ≤ k) ∧ Drawn0 w w')
 case atStart => exact ⟨(0), (by first | rfl | (simp; done) | (simp [*]; done)), H', ⟨Nat.le_refl _⟩, by repeat (first | exact Drawn0.refl _ | apply Drawn0.step)⟩
 case round =>
  clear H'
  try clear p2
  obtain ⟨x8_1, rfl, HA, HK1, ⟨m1, rfl⟩⟩ := hrel
  cases gk with
  | zero => exact absurd HA.out (by simp [slices_Index_string_string.l0])
  | succ k1 =>
   have H := HA.out
   clear HA
   simp only [slices_Index_string_string.l0] at H
   by_cases c3 : x8_1 < (l0.length : Int)
   ·rw [if_pos c3] at H
    have c3b0 : decide (x8_1 < (l0.length : Int)) = true := decide_eq_true c3
    clear c3
    by_cases c4 : 0 ≤ x8_1
    ·rw [if_pos c4] at H
     have c4b0 : decide (0 ≤ x8_1) = true := decide_eq_true c4
     clear c4
     by_cases c5 : x8_1 < (l0.length : Int)
     ·rw [if_pos c5] at H
      have c5b0 : decide (x8_1 < (l0.length : Int)) = true := decide_eq_true c5
      clear c5
      by_cases c6 : a1.toList = (rdOf ByteArray.empty l0 x8_1).toList
      ·rw [if_pos c6] at H
       have c6b0 : (a1.toList == (rdOf ByteArray.empty l0 x8_1).toList) = true := beq_iff_eq.mpr c6
       have c6b1 : (a1.toList != (rdOf ByteArray.empty l0 x8_1).toList) = false := bne_eq_false_iff_eq.mpr c6
       clear c6
       obtain rfl := Option.some.inj H
       have p104 : 0 ≤ (x8_1 : Int) := of_decide_eq_true az
       have q104 : x8_1 < (l0.length : Int) := of_decide_eq_true az
       obtain ⟨ad104, e104, hx104_0⟩ := Kd.at_string HR0.out x8_1 p104 q104
       cases e104
       replace p104 := eq_true p104
       replace q104 := eq_true q104
       go_wp2
       go_ret
       exact ⟨by first | rfl | (simp; done) | (simp [*]; done), by repeat (first | exact Drawn0.refl _ | apply Drawn0.step)⟩
      ·rw [if_neg c6] at H
       have c6b0 : (a1.toList == (rdOf ByteArray.empty l0 x8_1).toList) = false := beq_eq_false_iff_ne.mpr c6
       have c6b1 : (a1.toList != (rdOf ByteArray.empty l0 x8_1).toList) = true := bne_iff_ne.mpr c6
       have H' := Aside0.mk H
       clear H
       have p104 : 0 ≤ (x8_1 : Int) := of_decide_eq_true az
       have q104 : x8_1 < (l0.length : Int) := of_decide_eq_true az
       obtain ⟨ad104, e104, hx104_0⟩ := Kd.at_string HR0.out x8_1 p104 q104
       cases e104
       replace p104 := eq_true p104
       replace q104 := eq_true q104
       go_wp2
       go_roundg k1
       case measure => have := HK1.out; omega
       case rel => exact ⟨(wrap64 (x8_1 + 1)), (by first | rfl | (simp; done) | (simp [*]; done)), H', ⟨by have := HK1.out; omega⟩, by repeat (first | exact Drawn0.refl _ | apply Drawn0.step)⟩
     ·rw [if_neg c5] at H
      exact absurd H (by simp)
    ·rw [if_neg c4] at H
     exact absurd H (by simp)
   ·rw [if_neg c3] at H
    have c3b0 : decide (x8_1 < (l0.length : Int)) = false := decide_eq_false c3
    clear c3
    obtain rfl := Option.some.inj H
    go_wp2
    go_ret
    exact ⟨by first | rfl | (simp; done) | (simp [*]; done), by repeat (first | exact Drawn0.refl _ | apply Drawn0.step)⟩

end Go.Proofs.Ytagdbadljcongaa.X
end

section
namespace Go.Proofs.Ytagdbadljcongaa.X
open Go.RowKit Go.Proofs.YtagdbadljcongaaW.PrintWords Go.Proofs.YtagdbadljcongaaW.PrintLast Go.Proofs.YtagdbadljcongaaW.PrintMore
attribute [local go_sem] max2_int min2_int max_two min_two max_three min_three max_four min_four   -- for this text's walks alone
set_option linter.unusedVariables false
set_option linter.unusedSimpArgs false

def slices_Contains_string_string.f (k : Nat) (l0 : List ByteArray) (a1 : ByteArray) : Option (Bool) := (slices_Index_string_string.f k l0 a1).bind fun t105 => (some (decide (t105 ≥ 0)))
set_option maxHeartbeats 8000000 in
set_option maxRecDepth 100000 in
theorem slices_Contains_string_string.calls (k : Nat) (A0 : Option Addr) (c0 : Nat) (l0 : List ByteArray) (a1 : ByteArray) (r : Bool) (w : World) (hr0 : Kd.C Kd.string w A0 l0.length l0) (hc0 : l0.length ≤ c0) (h : slices_Contains_string_string.f k l0 a1 = some r) :
  Calls Try.prog 65 #[.slice A0 l0.length c0, .string a1] w fun e w' => e = .returned (.bool r) ∧ Drawn0 w w' := by
 have HR0 := Aside0.mk hr0
 have HC0 := Aside0.mk hc0
 clear hr0 hc0
 have H : ((slices_Index_string_string.f k l0 a1).bind fun t105 => (some (decide (t105 ≥ 0)))) = some r := h
 clear h
 replace H := Option.bind_eq_some_iff.mp H
 obtain ⟨t105, A30, H⟩ := H
 replace H : (some (decide (t105 ≥ 0))) = some r := H
 have A3 := Aside0.mk A30
 clear A30
 obtain rfl := Option.some.inj H
 go_enter Try.func65, Try.ntmps65
 go_wp2_with (first | ((with_reducible refine gate_callee (f := 78) rfl ?_); refine goesL_ (some 7) rfl rfl Try.func78 (by kernel_rfl) rfl #[.slice A0 l0.length c0, .string a1] rfl dz ?_; (with_reducible refine (slices_Index_string_string.calls k _ _ l0 a1 t105 _ ?side1 ?side2 A3.out).mono ?_); (case side1 => exact cz (HR0.out)); (case side2 => exact HC0.out); rintro e w' ⟨rfl, ⟨nd, rfl⟩⟩; refine ⟨_, rfl, ?_⟩))
 go_ret
 exact ⟨by first | rfl | (simp; done) | (simp [*]; done), by repeat (first | exact Drawn0.refl _ | apply Drawn0.step)⟩

end Go.Proofs.Ytagdbadljcongaa.X
end

section
/- thread.differ. -/
set_option linter.unusedVariables false
set_option linter.unusedSimpArgs false
namespace Go.Proofs.Ytagdbadljcongaa.X
open Go Go.RowKit Go.Proofs.YtagdbadljcongaaW.PrintWords Go.Proofs.YtagdbadljcongaaW.PrintLast Go.Proofs.YtagdbadljcongaaW.PrintMore
attribute [local go_sem] Oper.semAt_some
theorem eqA110 (d : Nat) (w : World) (x0 y0 : Int) (x1 y1 : Int) :
    (Op.equalIn (d + 2) 110 (.agg #[.int .i64 x0, .int .i64 x1]) (.agg #[.int .i64 y0, .int .i64 y1])).run Try.prog w = .ok (x0 == y0 && (x1 == y1)) w := by
  refine eqA_of Try.underlying110 (by kernel_rfl) ?_
  refine eqf_cons (by rfl) (by go_simp; rfl) (by go_simp; rfl) (by go_simp) ?_
  exact eqf_last (by rfl) (by go_simp; rfl) (by go_simp; rfl) (by go_simp)
attribute [local go_sem high] eqA110
/-- Where the variables lie. -/
structure DfG where
  bx : Nat
  bw : Nat
  gx : Nat
  gy : Nat
  gr : Nat
  B : Nat
  gm : Nat
  gq : Nat
def pairQ (e : Ent) : S88 := ⟨e.i, e.j⟩
/-- A box for the first map. -/
abbrev stepV (i j : Nat) (s : ByteArray) : Value := .agg #[.int .i64 i, .int .i64 j, .string s]
/-- What the map says of the queue. -/
def MapOf (Q : List Ent) (f : KMap) : Prop :=
  (∀ m (h : m < Q.length), 0 < m → ∃ m' c, ∃ h' : m' < m, c < 4 ∧ (Q[m]).wd = (Q[m']'(by omega)).wd ++ [97 + c] ∧ f (pairK (Q[m]).i (Q[m]).j) = some (stepV (Q[m']'(by omega)).i (Q[m']'(by omega)).j (ltr c))) ∧
  (∀ i j, i ≤ 61 → j ≤ 61 → (∀ e ∈ Q.tail, ¬ (e.i = i ∧ e.j = j)) → f (pairK i j) = none)
/-- What the variables hold; gp is the entry's box. -/
structure DfAt (u w : ByteArray) (E : DfG) (lo : Nat) (ok : Nat → Prop) (Q : List Ent) (A : Option Addr) (c : Nat) (W : World) : Prop where
  cx : W.heap[E.gx]? = some (.cells #[.pointer (some ⟨E.bx, 0, none⟩)] 70 (0, 0))
  cy : W.heap[E.gy]? = some (.cells #[.pointer (some ⟨E.bw, 0, none⟩)] 70 (0, 0))
  cr : ∃ o, W.heap[E.gr]? = some (.cells #[.string o] 9 (0, 0))
  cm : W.heap[E.gm]? = some (.cells #[.map (some E.B)] 108 (0, 0))
  cq : W.heap[E.gq]? = some (.cells #[.slice A Q.length c] 111 (0, 0))
  row : Kd.R k88 110 W lo ok (.slice A Q.length c) (Q.map pairQ)
  mp : ∃ n f, MapIs Try.prog 110 W E.B n f ∧ n ≤ Q.length ∧ MapOf Q f
  wx : WordAt W E.bx u
  wy : WordAt W E.bw w
  lo_ : lo ≤ E.gx ∧ lo ≤ E.gy ∧ lo ≤ E.gr ∧ lo ≤ E.B ∧ lo ≤ E.gm ∧ lo ≤ E.gq
theorem DfAt.kept {u w : ByteArray} {E : DfG} {lo : Nat} {ok : Nat → Prop} {Q : List Ent} {A : Option Addr} {c : Nat} {W W' : World} (h : DfAt u w E lo ok Q A c W) (hk : ∀ (g : Nat) (cs : Array Value) (t : TypeId), W.heap[g]? = some (.cells cs t (0, 0)) → W'.heap[g]? = some (.cells cs t (0, 0)))
    (hm : ∀ n f, MapIs Try.prog 110 W E.B n f → MapIs Try.prog 110 W' E.B n f) : DfAt u w E lo ok Q A c W' := by
  obtain ⟨fx, x1, x2⟩ := h.wx.ex
  obtain ⟨fy, y1, y2⟩ := h.wy.ex
  obtain ⟨o, ho⟩ := h.cr
  obtain ⟨n, f, m1, m2, m3⟩ := h.mp
  refine ⟨hk _ _ _ h.cx, hk _ _ _ h.cy, ⟨o, hk _ _ _ ho⟩, hk _ _ _ h.cm, hk _ _ _ h.cq, ?_, ⟨n, f, hm _ _ m1, m2, m3⟩, ⟨fx, hk _ _ _ x1, x2⟩, ⟨fy, hk _ _ _ y1, y2⟩, h.lo_⟩
  refine Kd.R_mono (Kd.R_move (Kd.R_bound h.row) (fun k hkk => ?_)) (fun k hkk => hkk.1)
  obtain ⟨_, _, _, q, _, cells, hc⟩ := hkk
  rw [hc, hk _ _ _ hc]
theorem DfAt.below {u w : ByteArray} {E : DfG} {lo : Nat} {ok : Nat → Prop} {Q : List Ent} {A : Option Addr} {c : Nat} {W W' : World} (h : DfAt u w E lo ok Q A c W) (hb : Below W.heap.size W W') : DfAt u w E lo ok Q A c W' :=
  h.kept (fun g cs t e => blk_below e hb) (fun n f m => m.below hb)
theorem DfAt.put {u w : ByteArray} {E : DfG} {lo : Nat} {ok : Nat → Prop} {Q : List Ent} {A : Option Addr} {c : Nat} {W : World} (h : DfAt u w E lo ok Q A c W) {l : Nat} {ob : Obj} (hl : W.heap[l]? = some ob) (hc : ob.isCells = false) (hB : l ≠ E.B) (ob' : Obj) : DfAt u w E lo ok Q A c (W.putObj l ob') :=
  h.kept (fun g cs t e => by rw [World.putObj_heap_other (fun e2 => by subst e2; rw [hl] at e; injection e with e; subst e; cases hc)]; exact e) (fun n f m => m.block (World.putObj_heap_other (fun e => hB e.symm)))
theorem DfAt.okMono {u w : ByteArray} {E : DfG} {lo : Nat} {ok ok' : Nat → Prop} {Q : List Ent} {A : Option Addr} {c : Nat} {W : World} (h : DfAt u w E lo ok Q A c W) (hk : ∀ k, k < W.heap.size → ok k → ok' k) : DfAt u w E lo ok' Q A c W :=
  ⟨h.cx, h.cy, h.cr, h.cm, h.cq, Kd.R_mono (Kd.R_bound h.row) (fun k hkk => hk k hkk.2.2.1 hkk.1), h.mp, h.wx, h.wy, h.lo_⟩
/-- A store into a box of this walk's own that no fact speaks of. -/
theorem DfAt.setFar {u w : ByteArray} {E : DfG} {lo : Nat} {gp : Nat} {Q : List Ent} {A : Option Addr} {c : Nat} {W : World} (h : DfAt u w E lo (fun k => k ≠ gp) Q A c W) {x y : Value} (hp : W.heap[gp]? = some (.cells #[x, y] 110 (0, 0))) (j : Nat) (v : Value) : DfAt u w E lo (fun k => k ≠ gp) Q A c (W.setCell ⟨gp, j, none⟩ v) := by
  have ne : ∀ (g : Nat) (cs : Array Value) (t : TypeId), W.heap[g]? = some (.cells cs t (0, 0)) → t ≠ 110 → (W.setCell ⟨gp, j, none⟩ v).heap[g]? = some (.cells cs t (0, 0)) := fun g cs t e ht => blk_far e (by show g ≠ gp; rintro rfl; rw [hp] at e; injection e with e; injection e with _ e; exact ht e.symm) v
  obtain ⟨fx, x1, x2⟩ := h.wx.ex
  obtain ⟨fy, y1, y2⟩ := h.wy.ex
  obtain ⟨o, ho⟩ := h.cr
  obtain ⟨n, f, m1, m2, m3⟩ := h.mp
  exact ⟨ne _ _ _ h.cx (by decide), ne _ _ _ h.cy (by decide), ⟨o, ne _ _ _ ho (by decide)⟩, ne _ _ _ h.cm (by decide), ne _ _ _ h.cq (by decide), Kd.R_far h.row (fun k hk => hk) v, ⟨n, f, m1.setCell (m1.ne hp) v, m2, m3⟩, ⟨fx, ne _ _ _ x1 (by decide), x2⟩, ⟨fy, ne _ _ _ y1 (by decide), y2⟩, h.lo_⟩
/-- The result's cell is set. -/
theorem DfAt.setR {u w : ByteArray} {E : DfG} {lo : Nat} {ok : Nat → Prop} {Q : List Ent} {A : Option Addr} {c : Nat} {W : World} (h : DfAt u w E lo ok Q A c W) (s : ByteArray) : (W.setCell ⟨E.gr, 0, none⟩ (.string s)).heap[E.gr]? = some (.cells #[.string s] 9 (0, 0)) := by
  obtain ⟨o, ho⟩ := h.cr
  exact (blk_set ho 0 _).trans rfl
theorem pair_get {W : World} {lo g n c : Nat} {ok : Nat → Prop} {Q : List Ent} (h : Kd.R k88 110 W lo ok (.slice (some ⟨g, 0, none⟩) n c) (Q.map pairQ)) (q : Nat) (hq : q < Q.length) :
    W.cell? ⟨g, q * 2, none⟩ = some (.int .i64 (Q[q]).i) ∧ W.cell? ⟨g, q * 2 + 1, none⟩ = some (.int .i64 (Q[q]).j) := by
  have hC := (Kd.R_reads' h).2.2
  obtain ⟨ad, e, h1, h2⟩ := at_T88 hC (q : Int) (by omega) (by simpa using hq)
  injection e with e
  subst e
  have er : rd_T88 (Q.map pairQ) (q : Int) = pairQ Q[q] := by unfold rd_T88; simp [List.getD_eq_getElem?_getD, hq]
  rw [er] at h1 h2
  have ea : (⟨g, 0, none⟩ : Addr).add ((q : Int).toNat * 2) = ⟨g, q * 2, none⟩ := by rw [show (q : Int).toNat = q by omega]; exact add_plain g (q * 2)
  rw [ea] at h1 h2
  exact ⟨h1, h2⟩
theorem res54 (tmps : Array Value) (W : World) (g : Nat) (o : ByteArray) (h : tmps.getD 4 undef = .pointer (some ⟨g, 0, none⟩)) (c : W.heap[g]? = some (.cells #[.string o] 9 (0, 0))) : (results Try.f54 tmps).run Try.prog W = .ok (.string o) W := by
  have h' : tmps[4]?.getD undef = .pointer (some ⟨g, 0, none⟩) := by simpa using h
  have hc : W.cell? ⟨g, 0, none⟩ = some (.string o) := (blk_cell c 0).trans rfl
  simp [results, Try.results54, asAddr, h', hc, go_sem]
theorem zero113 (W : World) : (zeroValue 113).run Try.prog W = .ok (.agg #[.int .i64 0, .int .i64 0, .string ⟨#[]⟩]) W := by kernel_rfl
theorem info110 : (Try.prog.info? 110).map (fun i => (i.zero, i.size, i.bytes)) = some (some (.agg #[.int .i64 0, .int .i64 0]), 2, 16) := by kernel_rfl
/-- A look into the map. -/
theorem look_pair {u s : ByteArray} {E : DfG} {lo : Nat} {ok : Nat → Prop} {Q : List Ent} {A : Option Addr} {c : Nat} {W : World} (h : DfAt u s E lo ok Q A c W) (hQ : QOk (bl u) (bl s) Q) (a b : Nat) (ha : a ≤ 60) (hb : b ≤ 60) :
    ∃ (x y : Int) (z : ByteArray), (Instr.lookup 108 (.map (some E.B)) (.agg #[.int .i64 ((a : Int) + 1), .int .i64 ((b : Int) + 1)]) true).run Try.prog W = .ok (.tuple #[.agg #[.int .i64 x, .int .i64 y, .string z], .bool (knownB Q (a + 1) (b + 1))]) W := by
  obtain ⟨n, f, m1, m2, m3, m4⟩ := h.mp
  have hk : keyOf Try.prog 110 (.agg #[.int .i64 ((a : Int) + 1), .int .i64 ((b : Int) + 1)]) = some (pairK (a + 1) (b + 1)) := key110 (a + 1) (b + 1) (by omega) (by omega)
  have hl := m1.look_ok (t := 108) (e := 113) keyed110 Try.underlying108 (zero113 W) hk
  cases hkn : knownB Q (a + 1) (b + 1) with
  | true =>
    obtain ⟨e, he, h1, h2⟩ := (knownB_iff _ _ _).1 hkn
    obtain ⟨m, hm, rfl⟩ := List.getElem_of_mem he
    have hm0 : 0 < m := by
      rcases Nat.eq_zero_or_pos m with h0 | h0
      · subst h0
        obtain ⟨t, ht, _⟩ := hQ.hd
        simp only [ht, List.getElem_cons_zero, root] at h1
        omega
      · exact h0
    obtain ⟨m', c', h', _, _, hf⟩ := m3 m hm hm0
    rw [h1, h2] at hf
    rw [hf] at hl
    exact ⟨_, _, _, hl⟩
  | false =>
    have hf := m4 (a + 1) (b + 1) (by omega) (by omega) (fun e he h1 => by
      have : knownB Q (a + 1) (b + 1) = true := (knownB_iff _ _ _).2 ⟨e, List.mem_of_mem_tail he, h1.1, h1.2⟩
      rw [hkn] at this; cases this)
    rw [hf] at hl
    exact ⟨_, _, _, hl⟩
theorem app_pair {w W : World} {base : Nat} {ok : Nat → Prop} {A : Option Addr} {c n : Nat} {xs : List S88} {x : S88} (hn : xs.length = n) (hr : Kd.R k88 110 W base ok (.slice A n c) xs) (hB : Below base w W) (hbase : base ≤ W.heap.size) (hfresh : ∀ k, W.heap.size ≤ k → ok k) (hl : xs.length ≤ 1000000) (i j : Nat) (ops : Array Oper) (rest : List Oper) (o : Oper) (a : Act) (Q : Exit → Act → World → Prop)
    (hgd : o.guard = none) (ho : o.op = .call { callee := .builtin .append, args := #[.tmp i, .tmp j], argTypes := #[111, 111] }) (hs : a.eval (.tmp i) = .slice A n c) (hx : a.eval (.tmp j) = .slice (some ⟨W.heap.size, 0, none⟩) 1 1)
    (h : ∀ A' c' w', Kd.R k88 110 w' base ok (.slice A' (n + 1) c') (xs ++ [x]) → Below base w w' → W.grownBy w' (Value.slice A n c).ownBlock → wpList Try.prog ops Q rest (a.put o.dst (.slice A' (n + 1) c')) w') :
    wpList Try.prog ops Q (o :: rest) a (W.alloc (.cells #[.int .i64 x.f0, .int .i64 x.f1] 110)) := by
  refine Kd.R_append k88 (w0 := w) base hgd (.tmp i) (.tmp j) 111 110 (.agg #[.int .i64 0, .int .i64 0]) 16 ho Try.underlying111 info110 rfl (by decide) (by decide) (.slice A n c) xs x [.int .i64 x.f0, .int .i64 x.f1] ok (fun _ => False) hs hx (k88_mkM _ _ _ _) (fun _ h => h.elim) hfresh hr hB hbase (by omega) ?_
  intro v1 w1 ho hb hg hat
  obtain ⟨A', c', rfl⟩ := Kd.R_slice ho
  have e : (xs ++ [x]).length = n + 1 := by simp [hn]
  rw [e] at ho ⊢
  exact h A' c' w1 ho hb hg
theorem tail_push {Q t : List Ent} {r : Ent} (h : Q = r :: t) (x : Ent) : (Q ++ [x]).tail = Q.tail ++ [x] := by subst h; rfl
/-- The map with one entry more. -/
theorem MapOf.push {Q : List Ent} {f : KMap} (h : MapOf Q f) {u w : List Nat} (hQ : QOk u w Q) (hu : u.length ≤ 60) (hw : w.length ≤ 60) {m c : Nat} (hm : m < Q.length) (hc : c < 4) {i j : Nat} (hi : i ≤ 61) (hj : j ≤ 61) (hk : knownB Q i j = false) :
    MapOf (Q ++ [⟨i, j, (Q[m]).wd ++ [97 + c]⟩]) (f.put (pairK i j) (stepV (Q[m]).i (Q[m]).j (ltr c))) := by
  have key : ∀ i' j', i' ≤ 61 → j' ≤ 61 → ¬ (i' = i ∧ j' = j) → pairK i' j' ≠ pairK i j := fun i' j' h1 h2 h3 e => h3 (pairK_inj (by omega) (by omega) (by omega) (by omega) e)
  refine ⟨fun m2 h2 h0 => ?_, fun i' j' h1 h2 h3 => ?_⟩
  · by_cases e : m2 < Q.length
    · obtain ⟨m', c', h', a, b, d⟩ := h.1 m2 e h0
      refine ⟨m', c', h', a, by rw [List.getElem_append_left e, List.getElem_append_left (by omega)]; exact b, ?_⟩
      rw [List.getElem_append_left e, List.getElem_append_left (by omega)]
      have hle := hQ.le (List.getElem_mem e)
      rw [KMap.put_other f (key _ _ (by omega) (by omega) (fun e2 => by
        have : knownB Q i j = true := (knownB_iff _ _ _).2 ⟨_, List.getElem_mem e, e2.1, e2.2⟩
        rw [hk] at this; cases this))]
      exact d
    · have e2 : m2 = Q.length := by simp at h2; omega
      subst e2
      refine ⟨m, c, hm, hc, by rw [List.getElem_append_right (Nat.le_refl _), List.getElem_append_left hm]; simp, ?_⟩
      rw [List.getElem_append_right (Nat.le_refl _), List.getElem_append_left hm]
      simp only [Nat.sub_self, List.getElem_cons_zero]
      exact KMap.put_same f (keyed110.key (key110 i j (by omega) (by omega))) _
  · have htl : (Q ++ [(⟨i, j, (Q[m]).wd ++ [97 + c]⟩ : Ent)]).tail = Q.tail ++ [⟨i, j, (Q[m]).wd ++ [97 + c]⟩] := by
      obtain ⟨t, ht, _⟩ := hQ.hd
      exact tail_push ht _
    rw [htl] at h3
    rw [KMap.put_other f (key _ _ h1 h2 (fun e => h3 ⟨i, j, (Q[m]).wd ++ [97 + c]⟩ (by simp) ⟨e.1.symm, e.2.symm⟩))]
    exact h.2 i' j' h1 h2 (fun e he => h3 e (List.mem_append_left _ he))
/-- The entry is in: behind the map's store, the append and the queue's box. -/
theorem DfAt.push {u s : ByteArray} {E : DfG} {lo gp : Nat} {Q : List Ent} {A A' : Option Addr} {c c' : Nat} {W W5 W6 : World} {x y : Value} {new : Ent} (h : DfAt u s E lo (fun k => k ≠ gp) Q A c W) (hp : W.heap[gp]? = some (.cells #[x, y] 110 (0, 0)))
    (hm : ∃ n f, MapIs Try.prog 110 W5 E.B n f ∧ n ≤ Q.length + 1 ∧ MapOf (Q ++ [new]) f) (g5 : W.grownBy W5 (some E.B)) (hr : Kd.R k88 110 W6 lo (fun k => k ≠ gp) (.slice A' (Q.length + 1) c') (Q.map pairQ ++ [pairQ new])) (g6 : W5.grownBy W6 (Value.slice A Q.length c).ownBlock) :
    DfAt u s E lo (fun k => k ≠ gp) (Q ++ [new]) A' c' (W6.setCell ⟨E.gq, 0, none⟩ (.slice A' (Q.length + 1) c')) ∧ (W6.setCell ⟨E.gq, 0, none⟩ (.slice A' (Q.length + 1) c')).heap[gp]? = some (.cells #[x, y] 110 (0, 0)) := by
  obtain ⟨n0, f0, m0, _⟩ := h.mp
  obtain ⟨n, f, m1, m2, m3⟩ := hm
  have a5 : ∀ (g : Nat) (cs : Array Value) (t : TypeId), W.heap[g]? = some (.cells cs t (0, 0)) → W5.heap[g]? = some (.cells cs t (0, 0)) := fun g cs t e => blk_grown e g5 (fun e2 => by injection e2 with e2; exact m0.ne e e2.symm)
  have r5 : Kd.R k88 110 W5 lo (fun k => k ≠ gp) (.slice A Q.length c) (Q.map pairQ) := by
    refine Kd.R_mono (Kd.R_move (Kd.R_bound h.row) (fun k hkk => ?_)) (fun k hkk => hkk.1)
    obtain ⟨_, _, _, q, _, cells, hc⟩ := hkk
    rw [hc, a5 _ _ _ hc]
  have a6 : ∀ (g : Nat) (cs : Array Value) (t : TypeId), W.heap[g]? = some (.cells cs t (0, 0)) → t ≠ 110 → W6.heap[g]? = some (.cells cs t (0, 0)) := fun g cs t e ht => blk_grown (a5 g cs t e) g6 (Kd.R_ne r5 (a5 g cs t e) (fun e2 => ht e2.symm))
  have a7 : ∀ (g : Nat) (cs : Array Value) (t : TypeId), W.heap[g]? = some (.cells cs t (0, 0)) → t ≠ 110 → t ≠ 111 → (W6.setCell ⟨E.gq, 0, none⟩ (.slice A' (Q.length + 1) c')).heap[g]? = some (.cells cs t (0, 0)) := fun g cs t e ht ht2 => blk_far (a6 g cs t e ht) (by show g ≠ E.gq; rintro rfl; have := h.cq; rw [e] at this; injection this with this; injection this with _ this; exact ht2 this) _
  have q6 := a6 _ _ _ h.cq (by decide)
  have p6 : W6.heap[gp]? = some (.cells #[x, y] 110 (0, 0)) := blk_grown (a5 _ _ _ hp) g6 (fun e => (h.row.1 gp e.symm) rfl)
  obtain ⟨fx, x1, x2⟩ := h.wx.ex
  obtain ⟨fy, y1, y2⟩ := h.wy.ex
  obtain ⟨o, ho⟩ := h.cr
  have m6 : MapIs Try.prog 110 W6 E.B n f := m1.kept g6 (fun e => by
    obtain ⟨cells, hc⟩ := Kd.R_typed r5 _ e.symm
    exact m1.ne hc rfl)
  refine ⟨⟨a7 _ _ _ h.cx (by decide) (by decide), a7 _ _ _ h.cy (by decide) (by decide), ⟨o, a7 _ _ _ ho (by decide) (by decide)⟩, a7 _ _ _ h.cm (by decide) (by decide), ?_, ?_, ⟨n, f, m6.setCell (m6.ne q6) _, by simpa using m2, m3⟩, ⟨fx, a7 _ _ _ x1 (by decide) (by decide), x2⟩, ⟨fy, a7 _ _ _ y1 (by decide) (by decide), y2⟩, h.lo_⟩, ?_⟩
  · rw [List.length_append]; exact (blk_set q6 0 _).trans rfl
  · rw [List.length_append, List.map_append]
    exact Kd.R_set hr q6 (by decide) 0 _
  · exact blk_far p6 (by show gp ≠ E.gq; rintro rfl; rw [q6] at p6; injection p6 with p6; injection p6 with _ p6; cases p6) _
theorem blk_new_at {w : World} {n : Nat} (h : w.heap.size = n) (cs : Array Value) (t : TypeId) : (w.alloc (.cells cs t)).heap[n]? = some (.cells cs t (0, 0)) := by subst h; exact blk_new w _
theorem size_at {w : World} {n : Nat} (h : w.heap.size = n) (o : Obj) : (w.alloc o).heap.size = n + 1 := by subst h; exact World.size_alloc _ _
/-- Ahead of the search. -/
theorem DfAt.start (u s : ByteArray) (bx bw : Nat) (w : World) (hx : WordAt w bx u) (hw : WordAt w bw s) : DfAt u s ⟨bx, bw, w.heap.size, w.heap.size + 1, w.heap.size + 1 + 1, w.heap.size + 1 + 1 + 1, w.heap.size + 1 + 1 + 1 + 1, w.heap.size + 1 + 1 + 1 + 1 + 1 + 1⟩ w.heap.size (fun _ => True) [root] (some ⟨w.heap.size + 1 + 1 + 1 + 1 + 1, 0, none⟩) 1
    (((((((w.alloc (.cells #[.pointer (some ⟨bx, 0, none⟩)] 70)).alloc (.cells #[.pointer (some ⟨bw, 0, none⟩)] 70)).alloc (.cells #[.string ⟨#[]⟩] 9)).alloc (.map #[] 0)).alloc (.cells #[.map (some (w.heap.size + 1 + 1 + 1))] 108)).alloc (.cells #[.int .i64 0, .int .i64 0] 110)).alloc (.cells #[.slice (some ⟨w.heap.size + 1 + 1 + 1 + 1 + 1, 0, none⟩) 1 1] 111)) ∧ Below w.heap.size w
    (((((((w.alloc (.cells #[.pointer (some ⟨bx, 0, none⟩)] 70)).alloc (.cells #[.pointer (some ⟨bw, 0, none⟩)] 70)).alloc (.cells #[.string ⟨#[]⟩] 9)).alloc (.map #[] 0)).alloc (.cells #[.map (some (w.heap.size + 1 + 1 + 1))] 108)).alloc (.cells #[.int .i64 0, .int .i64 0] 110)).alloc (.cells #[.slice (some ⟨w.heap.size + 1 + 1 + 1 + 1 + 1, 0, none⟩) 1 1] 111)) := by
  obtain ⟨n, hn⟩ : ∃ n, w.heap.size = n := ⟨_, rfl⟩
  rw [hn]
  have c0 := blk_new_at hn #[.pointer (some ⟨bx, 0, none⟩)] 70
  have s0 := size_at hn (.cells #[.pointer (some ⟨bx, 0, none⟩)] 70)
  have b0 : Below w.heap.size w (w.alloc (.cells #[.pointer (some ⟨bx, 0, none⟩)] 70)) := below_alloc (Below.refl _ _) _
  generalize w.alloc (.cells #[.pointer (some ⟨bx, 0, none⟩)] 70) = w0 at *
  have c1 := blk_new_at s0 #[.pointer (some ⟨bw, 0, none⟩)] 70
  have s1 := size_at s0 (.cells #[.pointer (some ⟨bw, 0, none⟩)] 70)
  have b1 : Below w0.heap.size w0 (w0.alloc (.cells #[.pointer (some ⟨bw, 0, none⟩)] 70)) := below_alloc (Below.refl _ _) _
  generalize w0.alloc (.cells #[.pointer (some ⟨bw, 0, none⟩)] 70) = w1 at *
  have c2 := blk_new_at s1 #[.string ⟨#[]⟩] 9
  have s2 := size_at s1 (.cells #[.string ⟨#[]⟩] 9)
  have b2 : Below w1.heap.size w1 (w1.alloc (.cells #[.string ⟨#[]⟩] 9)) := below_alloc (Below.refl _ _) _
  generalize w1.alloc (.cells #[.string ⟨#[]⟩] 9) = w2 at *
  have c3 := MapIs.made w2 Try.prog 110
  have s3 := size_at s2 (.map #[] 0)
  have b3 : Below w2.heap.size w2 (w2.alloc (.map #[] 0)) := below_alloc (Below.refl _ _) _
  rw [s2] at c3
  generalize w2.alloc (.map #[] 0) = w3 at *
  have c4 := blk_new_at s3 #[.map (some (n + 1 + 1 + 1))] 108
  have s4 := size_at s3 (.cells #[.map (some (n + 1 + 1 + 1))] 108)
  have b4 : Below w3.heap.size w3 (w3.alloc (.cells #[.map (some (n + 1 + 1 + 1))] 108)) := below_alloc (Below.refl _ _) _
  generalize w3.alloc (.cells #[.map (some (n + 1 + 1 + 1))] 108) = w4 at *
  have s5 := size_at s4 (.cells #[.int .i64 0, .int .i64 0] 110)
  have b5 : Below w4.heap.size w4 (w4.alloc (.cells #[.int .i64 0, .int .i64 0] 110)) := below_alloc (Below.refl _ _) _
  have c5 : Kd.R k88 110 (w4.alloc (.cells #[.int .i64 0, .int .i64 0] 110)) n (fun _ => True) (.slice (some ⟨n + 1 + 1 + 1 + 1 + 1, 0, none⟩) 1 1) [(⟨0, 0⟩ : S88)] := by
    refine ⟨fun k _ => trivial, ?_⟩
    have h := OwnRow.lit (R := k88.M (w4.alloc (.cells #[.int .i64 0, .int .i64 0] 110)) n (fun k => True ∧ some k ≠ some (n + 1 + 1 + 1 + 1 + 1))) (e := 110) w4 n (Reps.c2 (k88_mkM _ _ _ ⟨0, 0⟩) (Reps.none _ 2)) (by omega) (by decide)
    rw [s4] at h
    exact h
  generalize w4.alloc (.cells #[.int .i64 0, .int .i64 0] 110) = w5 at *
  have c6 := blk_new_at s5 #[.slice (some ⟨n + 1 + 1 + 1 + 1 + 1, 0, none⟩) 1 1] 111
  have b6 : Below w5.heap.size w5 (w5.alloc (.cells #[.slice (some ⟨n + 1 + 1 + 1 + 1 + 1, 0, none⟩) 1 1] 111)) := below_alloc (Below.refl _ _) _
  generalize w5.alloc (.cells #[.slice (some ⟨n + 1 + 1 + 1 + 1 + 1, 0, none⟩) 1 1] 111) = w6 at *
  have d5 := below_step b5 b6
  have d4 := below_step b4 d5
  have d3 := below_step b3 d4
  have d2 := below_step b2 d3
  have d1 := below_step b1 d2
  have d0 := below_step b0 d1
  have d00 := d0
  rw [hn] at d0
  refine ⟨⟨blk_below c0 d1, blk_below c1 d2, ⟨_, blk_below c2 d3⟩, blk_below c4 d5, c6, Kd.R_below c5 b6, ⟨0, _, c3.below d4, by simp, ⟨fun m h h0 => by simp at h; omega, fun _ _ _ _ _ => rfl⟩⟩, hx.below d00, hw.below d00, ?_⟩, d0⟩
  dsimp only
  omega
end Go.Proofs.Ytagdbadljcongaa.X
end

section
/- A range over a function whose body may write a map that lay ahead of the loop. -/
set_option linter.unusedVariables false
set_option linter.unusedSimpArgs false
namespace Go.Proofs.Ytagdbadljcongaa.X
open Go Go.RowKit Go.Proofs.YtagdbadljcongaaW.PrintWords Go.Proofs.YtagdbadljcongaaW.PrintLast Go.Proofs.YtagdbadljcongaaW.PrintMore
section
variable {F : Fence} {n : Nat} {P : Program}
/-- How a round's body may be left. -/
def postG (B : Nat) (I : Nat → World → Prop) (Ix : Code → Nat → World → Prop) (c : Nat) (W : World) : Exit → Act → World → Prop
  | .normal, _, W' => KeepsFrom B W W' ∧ I (c + 1) W'
  | .ret, _, W' => KeepsFrom B W W' ∧ Ix .ret c W'
  | .exit id, _, W' => KeepsFrom B W W' ∧ Ix (.exit id) c W'
  | .goto t, _, W' => KeepsFrom B W W' ∧ Ix (.goto t) c W'
  | .panic _, _, _ => False
  | .outgrown, _, _ => False
theorem wpIn_rangeFunc_G {g : Operand} {ps : Array Tmp} {assign body : Code} {Q : Exit → Act → World → Prop} {a : Act} {w : World}
    (hro : F.round = none) (h1 : 1 ≤ n) {gf : Nat} {lb : Array Value} (hg : a.eval g = .func (.func gf) #[] lb) (hFg : F.fn gf) (eg : ∀ args w, (callFunc gf args).run P w = .ok (.enter gf args) w)
    {encs : Nat → Array Value} {k : Nat} (hseq : SeqJ F (n - 1) P gf lb encs k w) (hps : ∀ x, (encs x).size = ps.size)
    (I : Nat → World → Prop) (Ix : Code → Nat → World → Prop)
    (hI : ∀ c W l o o', w.heap.size ≤ l → W.heap[l]? = some o → o.isCells = false → I c W → I c (W.putObj l o'))
    (hIx : ∀ e c W l o o', w.heap.size ≤ l → W.heap[l]? = some o → o.isCells = false → Ix e c W → Ix e c (W.putObj l o'))
    (h0 : ∀ o o', I 0 ((w.alloc o).alloc o')) (a₁ : Nat → Act)
    (hassign : ∀ (l : Nat) (c : Nat) (W : World) (K : Act → World → Prop), K (a₁ c) W →
      assign.wpIn (F.inRound l) (n - 1 - 1) P (Exit.then K (fun _ _ _ => False)) { tmps := (ps.zip (encs c)).foldl (fun t (p, v) => t.setIfInBounds p v) a.tmps, defers := [] } W)
    (hbody : ∀ (l : Nat) (c : Nat) (W : World), w.heap.size ≤ l → c < k → I c W → body.wpIn (F.inRound l) (n - 1 - 1) P (postG w.heap.size I Ix c W) (a₁ c) W)
    (hdone : ∀ (D : Nat) (W : World), w.heap.size ≤ D → I k W → W.heap[D]? = some (.deferred (some [])) → Q .normal { a with defers := { target := .collected D, args := #[] } :: a.defers } W)
    (hstop : ∀ (D : Nat) (e : Code) (c : Nat) (W : World), w.heap.size ≤ D → c < k → Ix e c W → W.heap[D]? = some (.deferred (some [])) → e.wpIn F n P Q { a with defers := { target := .collected D, args := #[] } :: a.defers } W) :
    (Code.rangeFunc g ps assign body).wpIn F n P Q a w := by
  refine wpIn_rangeFunc ?_
  intro fn hfn
  rw [hro]
  obtain ⟨rec, hrec⟩ : ∃ rec : LoopState → Option Code → Loop, rec = fun st pe => { state := st, pending := pe, fn, tmps := a.tmps, params := ps, assign, body, defers := w.heap.size } := ⟨_, rfl⟩
  obtain ⟨W1, hW1⟩ : ∃ W1, (w.alloc (.deferred (some []))).alloc (.loop (rec .ready none)) = W1 := ⟨_, rfl⟩
  have hL1 : W1.heap[w.heap.size + 1]? = some (.loop (rec .ready none)) := by
    rw [← hW1]; have := World.alloc_heap_new (w.alloc (.deferred (some []))) (.loop (rec .ready none)); rwa [World.size_alloc] at this
  have hK1 : W1.heap[w.heap.size]? = some (.deferred (some [])) := by
    rw [← hW1]; exact (Below.heap_alloc _ _ _ (by simp)).trans (World.alloc_heap_new w _)
  have hI1 : I 0 W1 := by rw [← hW1]; exact h0 _ _
  have hb1 : Below w.heap.size w W1 := by
    rw [← hW1]; exact ((Below.refl _ w).alloc (Nat.le_refl _) _).alloc (by simp) _
  refine ⟨w.heap.size + 1, [{ target := .collected w.heap.size, args := #[] }], W1, { target := .fn (.func gf) lb, args := #[.func (.yield (w.heap.size + 1)) #[] #[]] }, W1, gf,
    #[.func (.yield (w.heap.size + 1)) #[] #[]] ++ lb, W1, ?_, ?_, ?_, ?_, fun _ => h1, ?_⟩
  · rw [← hW1, hrec]; exact run_enterLoop_outer _ _ _ _ _
  · simp only [resolve, hg]
    simp [go_sem]
  · intro f' hf'; simp [Target.leads] at hf'; subst hf'; exact hFg
  · simp [invoke, go_sem, eg]
  · refine (hseq (w.heap.size + 1)
      (fun c W => I c W ∧ W.heap[w.heap.size + 1]? = some (.loop (rec .ready none)) ∧ W.heap[w.heap.size]? = some (.deferred (some [])))
      (fun c W => ∃ e, Ix e c W ∧ W.heap[w.heap.size + 1]? = some (.loop (rec .done (some e))) ∧ W.heap[w.heap.size]? = some (.deferred (some [])))
      W1 hb1 ?_ ⟨hI1, hL1, hK1⟩).mono ?_
    · rintro c W hck ⟨hIc, hl, hk⟩
      have hlt : w.heap.size + 1 < W.heap.size := (Array.getElem?_eq_some_iff.1 hl).1
      have hy := run_yield (P := P) (args := encs c) hl (by rw [hrec]; exact hps c)
      rw [hrec] at hy
      refine ⟨fn, _, assign, body, hy, roundIn_of_wpIn hfn (hassign _ c W _ ⟨_, run_beginRound hl (by rw [hrec]), ?_⟩)⟩
      have hl2 : (W.putObj (w.heap.size + 1) (.loop { rec .ready none with state := .busy })).heap[w.heap.size + 1]? = some (.loop { rec .ready none with state := .busy }) := World.putObj_heap_same hlt
      have hk2 : (W.putObj (w.heap.size + 1) (.loop { rec .ready none with state := .busy })).heap[w.heap.size]? = some (.deferred (some [])) := (World.putObj_heap_other (by omega)).trans hk
      refine wpIn_mono (hbody _ c _ (by omega) hck (hI _ _ _ _ _ (by omega) hl rfl hIc)) ?_
      have fin : ∀ (jump : Option Code) (W3 : World), W3.heap[w.heap.size + 1]? = some (.loop { rec .ready none with state := .busy }) → W3.heap[w.heap.size]? = some (.deferred (some [])) →
          (Instr.endRound (w.heap.size + 1) jump).run P W3 = .ok (.bool jump.isNone) (W3.putObj (w.heap.size + 1) (.loop (rec (if jump.isNone then .ready else .done) jump))) ∧
          (W3.putObj (w.heap.size + 1) (.loop (rec (if jump.isNone then .ready else .done) jump))).heap[w.heap.size + 1]? = some (.loop (rec (if jump.isNone then .ready else .done) jump)) ∧
          (W3.putObj (w.heap.size + 1) (.loop (rec (if jump.isNone then .ready else .done) jump))).heap[w.heap.size]? = some (.deferred (some [])) := fun jump W3 hl3 hk3 => by
        have := run_endRound (P := P) jump hl3
        rw [hrec] at this ⊢
        exact ⟨this, World.putObj_heap_same (Array.getElem?_eq_some_iff.1 hl3).1, (World.putObj_heap_other (by omega)).trans hk3⟩
      rintro e a3 W3 hp
      cases e with
      | normal =>
        obtain ⟨hk3, hi3⟩ := hp
        have h3l := hk3.same _ _ (by omega) hl2 rfl
        obtain ⟨hr, hl4, hk4⟩ := fin none W3 h3l (hk3.same _ _ (by omega) hk2 rfl)
        exact ⟨_, _, hr, .inl ⟨rfl, hI _ _ _ _ _ (by omega) h3l rfl hi3, hl4, hk4⟩⟩
      | ret =>
        obtain ⟨hk3, hi3⟩ := hp
        have h3l := hk3.same _ _ (by omega) hl2 rfl
        obtain ⟨hr, hl4, hk4⟩ := fin (some .ret) W3 h3l (hk3.same _ _ (by omega) hk2 rfl)
        exact ⟨_, _, hr, .inr ⟨rfl, .ret, hIx _ _ _ _ _ _ (by omega) h3l rfl hi3, hl4, hk4⟩⟩
      | exit id =>
        obtain ⟨hk3, hi3⟩ := hp
        have h3l := hk3.same _ _ (by omega) hl2 rfl
        obtain ⟨hr, hl4, hk4⟩ := fin (some (.exit id)) W3 h3l (hk3.same _ _ (by omega) hk2 rfl)
        exact ⟨_, _, hr, .inr ⟨rfl, .exit id, hIx _ _ _ _ _ _ (by omega) h3l rfl hi3, hl4, hk4⟩⟩
      | goto t =>
        obtain ⟨hk3, hi3⟩ := hp
        have h3l := hk3.same _ _ (by omega) hl2 rfl
        obtain ⟨hr, hl4, hk4⟩ := fin (some (.goto t)) W3 h3l (hk3.same _ _ (by omega) hk2 rfl)
        exact ⟨_, _, hr, .inr ⟨rfl, .goto t, hIx _ _ _ _ _ _ (by omega) h3l rfl hi3, hl4, hk4⟩⟩
      | panic ch => exact hp.elim
      | outgrown => exact hp.elim
    · rintro e W2 ⟨⟨v, rfl⟩, (⟨hIk, hl, hk⟩ | ⟨c, hck, cd, hi, hl, hk⟩)⟩
      · exact ⟨none, _, by have := run_endLoop (P := P) hl (by rw [hrec]; simp); rw [hrec] at this; exact this, hdone _ _ (Nat.le_refl _) (hI _ _ _ _ _ (by omega) hl rfl hIk) ((World.putObj_heap_other (by omega)).trans hk)⟩
      · exact ⟨some cd, _, by have := run_endLoop (P := P) hl (by rw [hrec]; simp); rw [hrec] at this; exact this, hstop _ cd c _ (Nat.le_refl _) hck (hIx _ _ _ _ _ _ (by omega) hl rfl hi) ((World.putObj_heap_other (by omega)).trans hk)⟩
end
end Go.Proofs.Ytagdbadljcongaa.X
end
