/- Texts behind ThreadAll, part 17: contracts of the program's functions and the plain words for them. -/
import Derived.ChangeKeysEq
import Derived.Test.YtagdbadljcongaaProg
import Derived.Below
import Derived.Deep.Draws
import Derived.Deep.AppendLies
import Derived.Maps.AppendAt
import Derived.OwnWalk
import Derived.Laws.BytesArg
import Derived.Laws.MakeOwn
import Derived.Laws.OwnMore
import Derived.Deep.OwnRows
import Derived.Tactics
import Derived.Lib.ConvBytes
import Derived.Laws.Slices
import Derived.WalkKit
import Derived.KernelRfl
import Derived.RowKit3
import Derived.Deep.LoopGhost
import Derived.Deep.QuietTactic
import Derived.BigQuiet
import Derived.WideLaws
import Derived.Deep.DeepCutAuto
import Derived.Deep.CutBlock
import Derived.Deep.RegionHeld3
import Derived.Laws.Rows
import Derived.Lib.AppendStr
import Derived.ArgAppend
import Derived.Laws.IdiomCopy
import Derived.OrdersHeld
import Derived.Laws.BitsLemmas
import Derived.RowKit
import Derived.Maps.OwnSet
import Derived.Maps.RangeWalk
import Derived.DeepKeys3
import Derived.WideKeyPair
import Derived.WideKeyEntry
import Derived.IntWalk
import Derived.Lib.OthersKept
import Derived.Lib.TrimU
import Derived.Laws.RangeString
import Derived.Shelf.GgClosure.Gives
import Derived.Test.YtagdbadljcongaaTpaa
import Derived.Test.YtagdbadljcongaaTpab
import Derived.Test.YtagdbadljcongaaTpad
import Derived.Test.YtagdbadljcongaaTpae
import Derived.Test.YtagdbadljcongaaTpag
import Derived.Test.YtagdbadljcongaaTpah
import Derived.Test.YtagdbadljcongaaTpai
import Derived.Test.YtagdbadljcongaaTpaj
import Derived.Test.YtagdbadljcongaaTpal
import Derived.Test.YtagdbadljcongaaTpam
import Derived.Test.YtagdbadljcongaaTpan
import Derived.Test.YtagdbadljcongaaTpap
section
/- Small laws of this session: '==' of a [2]int and of a [3]int, as one Bool. -/
set_option linter.unusedVariables false
set_option linter.unusedSimpArgs false
namespace Go.Proofs.Ytagdbadljcongaa.X
open Go.RowKit
/-- New blocks and draws. -/
inductive Steps : World → World → Prop
  | refl (w : World) : Steps w w
  | alloc {w w' : World} (h : Steps w w') (o : Obj) : Steps w (w'.alloc o)
  | drewN {w w' : World} (h : Steps w w') (n : Nat) : Steps w (w'.drewN n)
  | drew {w w' : World} (h : Steps w w') : Steps w w'.drew
section
open Go.Proofs.YtagdbadljcongaaW.PrintWords
theorem Steps.bel {w w' : World} (h : Steps w w') : Below w.heap.size w w' := by
  induction h with
  | refl => exact Below.refl _ _
  | alloc h o ih => exact below_alloc ih o
  | drewN h n ih => exact pw_below_drewN ih n
  | drew h ih => exact below_drew ih
variable {α : Type} {d : Kd α} {e : Nat} {w w' : World} {base : Nat} {ok : Nat → Prop} {v : Value} {xs : List α}
theorem cz {A : Option Addr} {n : Nat} (h : Kd.C d w A n xs) (s : Steps w w' := by with_reducible repeat (first | exact Steps.refl _ | apply Steps.alloc | apply Steps.drewN | apply Steps.drew)) : Kd.C d w' A n xs := Kd.C_below h s.bel
theorem sz (h : Kd.S d e w base ok v xs) (s : Steps w w' := by with_reducible repeat (first | exact Steps.refl _ | apply Steps.alloc | apply Steps.drewN | apply Steps.drew)) : Kd.S d e w' base ok v xs := Kd.S_below h s.bel
theorem kl {g : Nat} {o : Obj} (h : w.heap[g]? = some o) (s : Steps w w' := by with_reducible repeat (first | exact Steps.refl _ | apply Steps.alloc | apply Steps.drewN | apply Steps.drew)) : g < w'.heap.size := blk_lt (blk_below h s.bel)
theorem az {p : Prop} (h : p := by first | (with_reducible assumption) | assumption) : p := h
theorem dz {β : Type} {y z : β} (h : y = z := by (try simp only [List.map_toArray, List.map_cons, List.map_nil]); first | done | rfl | (simp only [List.length_drop, List.length_take]; rfl)) : y = z := h
end
section
variable {P : Program} {T E : TypeId}
end
end Go.Proofs.Ytagdbadljcongaa.X
end

section
namespace Go.Proofs.Ytagdbadljcongaa.X
open Go.RowKit Go.Proofs.YtagdbadljcongaaW.PrintWords Go.Proofs.YtagdbadljcongaaW.PrintLast Go.Proofs.YtagdbadljcongaaW.PrintMore
attribute [local go_sem] max2_int min2_int max_two min_two max_three min_three max_four min_four   -- for this text's walks alone
set_option linter.unusedVariables false
set_option linter.unusedSimpArgs false



structure S88 where
 f0 : Int
 f1 : Int
def z88 : S88 := ⟨(0 : Int), (0 : Int)⟩
def k88 : Kd S88 := Kd.iso (Kd.pair (Kd.int .i64) (Kd.int .i64)) (fun x : S88 => (x.f0, x.f1))
theorem k88_open {w : World} {x : S88} {cs : List Value} (h : k88.K w x cs) : cs = [.int .i64 x.f0, .int .i64 x.f1] := by
 obtain ⟨_, _, rfl, rfl, rfl⟩ := h
 exact rfl
theorem k88_mkM (w : World) (base : Nat) (ok : Nat → Prop) (x : S88)  : k88.M w base ok x [.int .i64 x.f0, .int .i64 x.f1] := ⟨[.int .i64 x.f0], [.int .i64 x.f1], rfl, rfl, rfl⟩
def rd_T88 (xs : List S88) (i : Int) : S88 := xs.getD i.toNat z88
theorem at_T88 {w : World} {A : Option Addr} {n : Nat} {xs : List S88} (h : Kd.C k88 w A n xs) (i : Int) (h0 : 0 ≤ i) (h1 : i < n) : ∃ ad , A = some ad ∧ w.cell? (ad.add (i.toNat * 2)) = some (.int .i64 (rd_T88 xs i).f0) ∧ w.cell? ⟨(ad.add (i.toNat * 2)).block, (ad.add (i.toNat * 2)).off + 1, none⟩ = some (.int .i64 (rd_T88 xs i).f1) := by
 obtain ⟨ad, c, e, _, hK, hc0⟩ := Kd.C_get h z88 i h0 h1
 have hc : ∀ j u, c[j]? = some u → w.cell? (ad.add (i.toNat * 2 + j)) = some u := hc0
 obtain rfl := k88_open hK
 exact ⟨ad, e, hc 0 _ rfl, by rw [← add_field _ _ 1 (by omega)]; exact hc 1 _ rfl⟩

structure S75 where
 f0 : Int
 f1 : Int
 f2 : Int
 f3 : Int
end Go.Proofs.Ytagdbadljcongaa.X
end

section
/- A map's block, told key by key: what is at each key, whatever the elements are. -/
set_option linter.unusedVariables false
set_option linter.unusedSimpArgs false
namespace Go.Proofs.Ytagdbadljcongaa.X
open Go.RowKit Go.Proofs.YtagdbadljcongaaW.PrintWords Go.Proofs.YtagdbadljcongaaW.PrintLast Go.Proofs.YtagdbadljcongaaW.PrintMore
open Go.Maps (Keyed)

/-- Any element: it reads as itself. -/
def anyElem (v : Value) : Option (DataW Value × List MemPlace) := some (.held v, [])
/-- What stands at each key. -/
abbrev KMap := Lit → Option Value
def KMap.put (f : KMap) (k : Lit) (v : Value) : KMap := fun k' => if k'.sameKey k = true then some v else f k'
def KMap.empty : KMap := fun _ => none
theorem KMap.put_same (f : KMap) {k : Lit} (hk : WideAt.IsKeyLit k) (v : Value) : f.put k v k = some v := by unfold KMap.put; rw [if_pos (WideAt.sameKey_self hk)]
theorem KMap.put_other (f : KMap) {k k' : Lit} (h : k' ≠ k) (v : Value) : f.put k v k' = f k' := by unfold KMap.put; rw [if_neg (fun e => h (WideAt.sameKey_eq e))]

/-- Block B of w is a map of at most n entries with f k at each key k. -/
structure MapIs (P : Program) (kt : TypeId) (w : World) (B n : Nat) (f : KMap) : Prop where mk ::
  ex : ∃ D, w.ownsMap P kt anyElem B n D ∧ (∀ kl, Maps.has D kl = (f kl).isSome) ∧ ∀ kl z, D.atKey kl (.held z) = .held ((f kl).getD z)
section
variable {P : Program} {kt : TypeId} {w w' : World} {B n : Nat} {f : KMap}
theorem MapIs.made (w : World) (P : Program) (kt : TypeId) : MapIs P kt (w.alloc (.map #[] 0)) w.heap.size 0 KMap.empty :=
  ⟨⟨.map [], World.ownsMap_made w P kt anyElem, fun _ => rfl, fun _ _ => rfl⟩⟩
theorem MapIs.lt (h : MapIs P kt w B n f) : B < w.heap.size := by
  obtain ⟨D, h1, h2⟩ := h.ex
  exact h1.lt
theorem MapIs.kept (h : MapIs P kt w B n f) {row : Option Nat} (hg : w.grownBy w' row) (hne : some B ≠ row) : MapIs P kt w' B n f := by
  obtain ⟨D, h1, h2⟩ := h.ex
  exact ⟨⟨D, h1.kept hg hne, h2⟩⟩
theorem MapIs.block (h : MapIs P kt w B n f) (hb : w'.heap[B]? = w.heap[B]?) : MapIs P kt w' B n f := by
  obtain ⟨D, ⟨es, clock, he, F⟩, h2⟩ := h.ex
  exact ⟨⟨D, ⟨es, clock, hb.trans he, F⟩, h2⟩⟩
theorem MapIs.below (h : MapIs P kt w B n f) (hb : Below w.heap.size w w') : MapIs P kt w' B n f := h.kept (grown_of_below hb none) (by simp)
theorem MapIs.alloc (h : MapIs P kt w B n f) (o : Obj) : MapIs P kt (w.alloc o) B n f := h.below (below_alloc (Below.refl _ _) o)
theorem MapIs.drewN (h : MapIs P kt w B n f) (m : Nat) : MapIs P kt (w.drewN m) B n f := h.below (pw_below_drewN (Below.refl _ _) m)
theorem MapIs.setCell (h : MapIs P kt w B n f) {a : Addr} (ha : B ≠ a.block) (u : Value) : MapIs P kt (w.setCell a u) B n f := by
  obtain ⟨D, h1, h2⟩ := h.ex
  exact ⟨⟨D, h1.setCell ha u, h2⟩⟩
/-- A map's block is no row of cells. -/
theorem MapIs.ne (h : MapIs P kt w B n f) {g : Nat} {cs : Array Value} {t : TypeId} {m : Nat × Nat} (hg : w.heap[g]? = some (.cells cs t m)) : B ≠ g := by
  obtain ⟨D, ⟨es, clock, hb, _⟩, _⟩ := h.ex
  intro e
  subst e
  rw [hb] at hg
  cases hg
theorem nodup_len {α : Type} : ∀ (l L : List α), l.Pairwise (fun a b => a ≠ b) → (∀ x ∈ l, x ∈ L) → l.length ≤ L.length
  | [], _, _, _ => Nat.zero_le _
  | x :: r, L, h, hs => by
    classical
    obtain ⟨h1, h2⟩ := List.pairwise_cons.1 h
    have hx := hs x (by simp)
    have := nodup_len r (L.erase x) h2 (fun y hy => (List.mem_erase_of_ne (fun e => h1 y hy e.symm)).2 (hs y (by simp [hy])))
    rw [List.length_erase_of_mem hx] at this
    have hp := List.length_pos_of_mem hx
    simp; omega
/-- m[k]. -/
theorem MapIs.look (h : MapIs P kt w B n f) {t e : TypeId} (K : Keyed P kt) (ht : P.underlying t = some (.map kt e)) {z : Value} (hz : (zeroValue e).run P w = .ok z w) {key : Value} {kl : Lit} (hkey : keyOf P kt key = some kl) :
    (Instr.lookup t (.map (some B)) key false).run P w = .ok ((f kl).getD z) w := by
  obtain ⟨D, h1, h2, h3⟩ := h.ex
  obtain ⟨v, ps, hrun, hv⟩ := h1.lookup K ht hz (zd := .held z) (zp := []) rfl hkey
  rw [h3] at hv
  injection hv with hv
  injection hv with hv _
  injection hv with hv
  rw [hrun, hv]
theorem MapIs.look_ok (h : MapIs P kt w B n f) {t e : TypeId} (K : Keyed P kt) (ht : P.underlying t = some (.map kt e)) {z : Value} (hz : (zeroValue e).run P w = .ok z w) {key : Value} {kl : Lit} (hkey : keyOf P kt key = some kl) :
    (Instr.lookup t (.map (some B)) key true).run P w = .ok (.tuple #[(f kl).getD z, .bool (f kl).isSome]) w := by
  obtain ⟨D, h1, h2, h3⟩ := h.ex
  obtain ⟨v, ps, hrun, hv⟩ := h1.look_ok K ht hz (zd := .held z) (zp := []) rfl hkey
  rw [h3] at hv
  injection hv with hv
  injection hv with hv _
  injection hv with hv
  rw [hrun, hv, h2]
/-- m[k] = v. -/
theorem MapIs.store (h : MapIs P kt w B n f) {t e : TypeId} (K : Keyed P kt) (ht : P.underlying t = some (.map kt e)) (hn : n < maxLen) {key val : Value} {kl : Lit} (hkey : keyOf P kt key = some kl) :
    ∃ w', (Instr.mapUpdate t (.map (some B)) key val).run P w = .ok () w' ∧ MapIs P kt w' B (n + 1) (f.put kl val) ∧ w.grownBy w' (some B) := by
  obtain ⟨D, h1, h2, h3⟩ := h.ex
  obtain ⟨w', hrun, r1, r2⟩ := h1.update K ht hn hkey (val := val) (d := .held val) (ps := []) rfl
  refine ⟨w', hrun, ⟨⟨_, r1, fun k' => ?_, fun k' z => ?_⟩⟩, r2⟩
  · by_cases e : k' = kl
    · subst e
      rw [Maps.has_put_same h1.isMap (K.key hkey), KMap.put_same f (K.key hkey)]; rfl
    · rw [Maps.has_put_other e, KMap.put_other f e, h2]
  · by_cases e : k' = kl
    · subst e
      rw [Maps.atKey_put_same h1.isMap (K.key hkey), KMap.put_same f (K.key hkey)]; rfl
    · rw [Maps.atKey_put_other e, KMap.put_other f e, h3]
/-- len(m). -/
theorem MapIs.len (h : MapIs P kt w B n f) {t e : TypeId} (K : Keyed P kt) (ht : P.underlying t = some (.map kt e)) (ty : TypeId) :
    ∃ m : Nat, (Builtin.len_ #[t] ty #[.map (some B)]).run P w = .ok (.int .i64 m) w ∧ ∀ L : List Lit, L.Pairwise (fun a b => a ≠ b) → (∀ kl, (f kl).isSome = true ↔ kl ∈ L) → m = L.length := by
  obtain ⟨D, h1, h2, h3⟩ := h.ex
  refine ⟨Maps.size D, h1.len ht ty, fun L hL hiff => ?_⟩
  have hc := h1
  obtain ⟨es', rfl, hp⟩ := h1.tidy K
  have hkey : ∀ p ∈ es', WideAt.IsKeyLit p.1 := by
    intro p hp'
    obtain ⟨es, clock, hb, F, hs, hD⟩ := hc
    injection hD with hD
    have hk := Maps.fit_keys F
    have hp2 : p ∈ es.toList.map (WideElems.rg P kt anyElem) := by
      have := hD ▸ hp'
      exact (WideShapes.sorted_perm _).mem_iff.1 this
    obtain ⟨v, hv⟩ := hk p hp2
    exact K.key hv
  have a1 := nodup_len (es'.map (·.1)) L (by rw [List.pairwise_map]; exact hp) (by
    intro x hx
    obtain ⟨p, hp', rfl⟩ := List.mem_map.1 hx
    rw [← hiff, ← h2, Maps.has_eq, List.any_eq_true]
    exact ⟨p, hp', WideAt.sameKey_self (hkey p hp')⟩)
  have a2 := nodup_len L (es'.map (·.1)) hL (by
    intro x hx
    rw [← hiff, ← h2, Maps.has_eq, List.any_eq_true] at hx
    obtain ⟨p, hp', hs⟩ := hx
    exact List.mem_map.2 ⟨p, hp', WideAt.sameKey_eq hs⟩)
  rw [Maps.size_eq]
  rw [List.length_map] at a1 a2
  omega
end
section
variable {P : Program} (w : World) {ops : Array Oper} {rest : List Oper} {o : Oper} {a : Act} {Q : Exit → Act → World → Prop}
end
end Go.Proofs.Ytagdbadljcongaa.X
end

section
/- The keys of this seat's maps: a pair of numbers, and four numbers. -/
set_option linter.unusedVariables false
set_option linter.unusedSimpArgs false
namespace Go.Proofs.Ytagdbadljcongaa.X
open Go Go.RowKit Go.Proofs.YtagdbadljcongaaW.PrintWords Go.Proofs.YtagdbadljcongaaW.PrintLast Go.Proofs.YtagdbadljcongaaW.PrintMore
theorem law110 : WideMaps.KeyLaw Try.prog 110 := deep_law (m := 3) (by omega) (by kernel_rfl) (by kernel_rfl) (by kernel_rfl)
theorem keyed110 : Maps.Keyed Try.prog 110 := Maps.Keyed.of_law law110
def pairV (i j : Nat) : Value := .agg #[.int .i64 i, .int .i64 j]
def pairK (i j : Nat) : Lit := .string (keyBytes [.int .i64 i, .int .i64 j])
theorem types_pos : ∃ m, Try.prog.types.size = m + 1 := ⟨Try.prog.types.size - 1, by have : 0 < Try.prog.types.size := of_decide_eq_true (by kernel_rfl); omega⟩
theorem key110 (i j : Nat) (hi : i ≤ 1000000) (hj : j ≤ 1000000) : keyOf Try.prog 110 (pairV i j) = some (pairK i j) := by
  obtain ⟨m, hm⟩ := types_pos
  have wi : (Lit.int .i64 i).wf = true := WalkArith.wf_i64 (by omega)
  have wj : (Lit.int .i64 j).wf = true := WalkArith.wf_i64 (by omega)
  have c110 : Try.prog.cellsOf 110 = 2 := by kernel_rfl
  have c3 : Try.prog.cellsOf 3 = 1 := by kernel_rfl
  have kt : Try.prog.keyType 110 = true := by kernel_rfl
  unfold keyOf pairV pairK
  simp only [Try.underlying110]
  rw [if_pos (by simp [kt, Value.formed, Try.underlying110, c110]), hm]
  unfold Program.keyLits
  simp only [Try.underlying110, Value.cells]
  rw [if_pos ⟨by rw [c110]; rfl, by decide +kernel⟩]
  simp [List.mapM_cons, List.mapM_nil, c3, Program.keyLits, Try.underlying3, wi, wj]
theorem pairK_inj {i j i' j' : Nat} (hi : i ≤ 1000000) (hj : j ≤ 1000000) (hi' : i' ≤ 1000000) (hj' : j' ≤ 1000000) (h : pairK i j = pairK i' j') : i = i' ∧ j = j' := by
  have h1 := key110 i j hi hj
  have h2 := key110 i' j' hi' hj'
  rw [← h] at h2
  have := keyed110.inj h1 h2
  unfold pairV at this
  simp at this
  omega
theorem law101 : WideMaps.KeyLaw Try.prog 101 := deep_law (m := 3) (by omega) (by kernel_rfl) (by kernel_rfl) (by kernel_rfl)
theorem keyed101 : Maps.Keyed Try.prog 101 := Maps.Keyed.of_law law101
end Go.Proofs.Ytagdbadljcongaa.X
end

section
/- 'm[k] += x': an entry is made or found, then its value is stored. -/
set_option linter.unusedVariables false
set_option linter.unusedSimpArgs false
namespace Go.Proofs.Ytagdbadljcongaa.X
open Go Go.RowKit Go.Proofs.YtagdbadljcongaaW.PrintWords Go.Proofs.YtagdbadljcongaaW.PrintLast Go.Proofs.YtagdbadljcongaaW.PrintMore
open Go.ChangeShapes Go.WideShapes Go.MapKept Go.ChangeMaps Go.WideElems
section
variable {P : Program} {kt : TypeId} {w w' : World} {B n : Nat} {f : KMap}
theorem entry_is_update {t k e : TypeId} {es : Array MapEntry} {clock b : Nat} (K : WideMaps.KeyLaw P k) (ht : P.underlying t = some (.map k e)) {z : Value} (hz : ∀ u : World, (zeroValue e).run P u = .ok z u) (hb : w.heap[b]? = some (.map es clock))
    (F : ∀ x ∈ es.toList, ∃ l, keyOf P k x.key = some l) {key : Value} {kl : Lit} (hkey : keyOf P k key = some kl) :
    ∃ (v0 st : Value) (W1 : World), (Instr.mapEntry t (.map (some b)) key).run P w = .ok (.tuple #[v0, st]) W1 ∧ (Instr.mapUpdate t (.map (some b)) key v0).run P w = .ok () W1 ∧ (Instr.lookup t (.map (some b)) key false).run P w = .ok v0 w := by
  rcases K.find w hkey es.toList F with ⟨h1, h2⟩ | ⟨j, e0, h1, h2, h3⟩
  · refine ⟨z, goInt clock, setBlock w b (.map (es.push ⟨key, z, clock⟩) (clock + 1)), ?_, ?_, ?_⟩
    · simp [Instr.mapEntry, run_underlying ht, MapKept.run_getObj_map hb, K.check w false hkey, h1, hz, MapKept.run_setObj_map _ hb, Result.andThen, setBlock]
    · simp [Instr.mapUpdate, run_underlying ht, MapKept.run_getObj_map hb, K.check w false hkey, h1, MapKept.run_setObj_map _ hb, Result.andThen, setBlock]
    · simp [Instr.lookup, run_underlying ht, MapKept.run_getObj_map hb, K.check w es.isEmpty hkey, h1, hz, Result.andThen]
  · have hj : es[j]? = some e0 := by simpa using h2
    refine ⟨e0.val, goInt e0.born, setBlock w b (.map (es.modify j fun e => { e with key := key }) clock), ?_, ?_, ?_⟩
    · simp [Instr.mapEntry, run_underlying ht, MapKept.run_getObj_map hb, K.check w false hkey, h1, hj, h3, K.stays w hkey, MapKept.run_setObj_map _ hb, Result.andThen, setBlock]
    · have hmod : es.modify j (fun e => { e with key := key, val := e0.val }) = es.modify j (fun e => { e with key := key }) := by
        apply Array.ext'
        rw [Array.toList_modify, Array.toList_modify, modify_eq_set _ _ _ _ h2, modify_eq_set _ _ _ _ h2]
      simp [Instr.mapUpdate, run_underlying ht, MapKept.run_getObj_map hb, K.check w false hkey, h1, hj, h3, K.stays w hkey, MapKept.run_setObj_map _ hb, Result.andThen, setBlock]
      first | rw [hmod] | simp [hmod]
    · simp [Instr.lookup, run_underlying ht, MapKept.run_getObj_map hb, K.check w es.isEmpty hkey, h1, hz, Result.andThen]
/-- An entry is made or found: then its value is stored, in whatever world the map's block lies as it was left. -/
theorem MapIs.entry (h : MapIs P kt w B n f) {t e : TypeId} (K : WideMaps.KeyLaw P kt) (ht : P.underlying t = some (.map kt e)) (hn : n < maxLen) {z : Value} (hz : ∀ u : World, (zeroValue e).run P u = .ok z u) {key : Value} {kl : Lit} (hkey : keyOf P kt key = some kl) :
    ∃ (st : Value) (W1 : World), (Instr.mapEntry t (.map (some B)) key).run P w = .ok (.tuple #[(f kl).getD z, st]) W1 ∧ MapIs P kt W1 B (n + 1) (f.put kl ((f kl).getD z)) ∧ w.grownBy W1 (some B) ∧
      ∀ val : Value, ∃ W2, (Instr.entryStore t (.map (some B)) st val).run P W1 = .ok () W2 ∧ MapIs P kt W2 B (n + 1) (f.put kl val) ∧ w.grownBy W2 (some B) := by
  have hK := Maps.Keyed.of_law K
  obtain ⟨D, ⟨es, clock, hb, F, hs, hD⟩, hh⟩ := h.ex
  obtain ⟨v0, st, W1, r1, r2, r3⟩ := entry_is_update K ht hz hb F.keys hkey
  obtain ⟨v0', st', es1, clock1, s1, _, s3⟩ := entry_then_store K ht hz hb F hkey
  rw [r1] at s1
  injection s1 with s1 s2
  injection s1 with s1
  simp at s1
  obtain ⟨rfl, rfl⟩ := s1
  have hl := h.look hK ht (hz w) hkey
  rw [r3] at hl
  injection hl with hl
  obtain ⟨W', u1, u2, u3⟩ := h.store hK ht hn hkey (val := v0)
  rw [r2] at u1
  injection u1 with _ u1
  subst u1
  rw [hl] at r1 u2
  refine ⟨_, W1, r1, u2, u3, fun val => ?_⟩
  have hbl : W1.heap[B]? = some (.map es1 clock1) := by
    rw [s2]
    have hlt : B < w.heap.size := (Array.getElem?_eq_some_iff.1 hb).1
    simp [setBlock, hlt]
  obtain ⟨es', clock', t1, t2⟩ := s3 W1 val hbl
  obtain ⟨W'', x1, x2, x3⟩ := h.store hK ht hn hkey (val := val)
  rw [t2] at x1
  injection x1 with _ x1
  have e : setBlock W1 B (.map es' clock') = W'' := by
    rw [← x1, s2]
    simp [setBlock]
  exact ⟨W'', by rw [t1, e], x2, x3⟩
end
end Go.Proofs.Ytagdbadljcongaa.X
end

section
/- Words as lists of bytes: the place of the next letter. -/
set_option linter.unusedVariables false
set_option linter.unusedSimpArgs false
namespace Go.Proofs.Ytagdbadljcongaa.X
open Go.RowKit Go.Proofs.YtagdbadljcongaaW.PrintWords
/-- The bytes of a string. -/
def bl (s : ByteArray) : List Nat := s.data.toList.map (·.toNat)
theorem bl_length (s : ByteArray) : (bl s).length = s.size := by simp [bl]
theorem bl_get (s : ByteArray) (i : Nat) (h : i < s.size) : (bl s)[i]'(by rw [bl_length]; exact h) = (s[i]'h).toNat := by
  simp [bl]; rfl
def ltrB (b : Nat) : Bool := decide (97 ≤ b ∧ b ≤ 100)
def isW (l : List Nat) : Bool := decide (l.length ≤ 60) && l.all ltrB
theorem isW_iff (l : List Nat) : isW l = true ↔ l.length ≤ 60 ∧ ∀ b ∈ l, 97 ≤ b ∧ b ≤ 100 := by
  simp [isW, ltrB]
/-- The first place of a letter, or the length. -/
def nxl : List Nat → Nat → Nat
  | [], _ => 0
  | b :: l, c => if b = c then 0 else nxl l c + 1
theorem nxl_le : ∀ (l : List Nat) (c : Nat), nxl l c ≤ l.length
  | [], _ => Nat.le_refl _
  | b :: l, c => by
    have := nxl_le l c
    unfold nxl; split <;> simp; omega
/-- The first place of a letter from a place on, or the length. -/
def nx (l : List Nat) (i c : Nat) : Nat := i + nxl (l.drop i) c
theorem nx_le (l : List Nat) (i c : Nat) (h : i ≤ l.length) : i ≤ nx l i c ∧ nx l i c ≤ l.length := by
  have := nxl_le (l.drop i) c
  rw [List.length_drop] at this
  unfold nx; omega
theorem nx_end (l : List Nat) (c : Nat) : nx l l.length c = l.length := by
  unfold nx; rw [List.drop_length]; rfl
theorem nx_step (l : List Nat) (i c : Nat) (h : i < l.length) : nx l i c = if l[i] = c then i else nx l (i + 1) c := by
  unfold nx
  rw [List.drop_eq_getElem_cons h]
  generalize l.drop (i + 1) = r
  rw [show nxl (l[i] :: r) c = if l[i] = c then 0 else nxl r c + 1 from rfl]
  split
  · rfl
  · omega
theorem nx_same {l : List Nat} {i c : Nat} (h : i < l.length) (e : l[i] = c) : nx l i c = i := by rw [nx_step l i c h, if_pos e]
theorem nx_next {l : List Nat} {i c : Nat} (h : i < l.length) (e : l[i] ≠ c) : nx l i c = nx l (i + 1) c := by rw [nx_step l i c h, if_neg e]
end Go.Proofs.Ytagdbadljcongaa.X
end

section
namespace Go.Proofs.Ytagdbadljcongaa.X
open Go.RowKit Go.Proofs.YtagdbadljcongaaW.PrintWords Go.Proofs.YtagdbadljcongaaW.PrintLast Go.Proofs.YtagdbadljcongaaW.PrintMore
attribute [local go_sem] max2_int min2_int max_two min_two max_three min_three max_four min_four   -- for this text's walks alone
set_option linter.unusedVariables false
set_option linter.unusedSimpArgs false

def thread_within.f (a0 : Int) (a1 : Int) (a2 : Int) : Option (Bool) := if a0 ≥ a1 then (some (decide (a0 ≤ a2))) else (some false)
set_option maxHeartbeats 8000000 in
set_option maxRecDepth 100000 in
theorem thread_within.calls (a0 : Int) (a1 : Int) (a2 : Int) (r : Bool) (w : World) (h : thread_within.f a0 a1 a2 = some r) :
  Calls Try.prog 49 #[.int .i64 a0, .int .i64 a1, .int .i64 a2] w fun e w' => e = .returned (.bool r) ∧ Drawn0 w w' := by
 have H : (if a0 ≥ a1 then (some (decide (a0 ≤ a2))) else (some false)) = some r := h
 clear h
 by_cases c4 : a0 ≥ a1
 ·rw [if_pos c4] at H
  have c4b0 : decide (a1 ≤ a0) = true := decide_eq_true c4
  clear c4
  obtain rfl := Option.some.inj H
  go_enter Try.func49, Try.ntmps49
  go_wp2
  go_ret
  exact ⟨by first | rfl | (simp; done) | (simp [*]; done), by repeat (first | exact Drawn0.refl _ | apply Drawn0.step)⟩
 ·rw [if_neg c4] at H
  have c4b0 : decide (a1 ≤ a0) = false := decide_eq_false c4
  clear c4
  obtain rfl := Option.some.inj H
  go_enter Try.func49, Try.ntmps49
  go_wp2
  go_ret
  exact ⟨by first | rfl | (simp; done) | (simp [*]; done), by repeat (first | exact Drawn0.refl _ | apply Drawn0.step)⟩

end Go.Proofs.Ytagdbadljcongaa.X
end

section
/- thread.newWord and after: a word's block: its text, and where the next letters are. -/
set_option linter.unusedVariables false
set_option linter.unusedSimpArgs false
namespace Go.Proofs.Ytagdbadljcongaa.X
open Go.RowKit Go.Proofs.YtagdbadljcongaaW.PrintWords Go.Proofs.YtagdbadljcongaaW.PrintLast Go.Proofs.YtagdbadljcongaaW.PrintMore
/-- A word's cells. -/
def wcells (s : ByteArray) (f : Nat → Int) : Array Value := (Value.string s :: (List.range 244).map fun j => Value.int .i64 (f j)).toArray
/-- Block b of w holds the word s. -/
structure WordAt (w : World) (b : Nat) (s : ByteArray) : Prop where
  ex : ∃ f, w.heap[b]? = some (.cells (wcells s f) 78 (0, 0)) ∧ ∀ i c, i ≤ s.size → c < 4 → f (i * 4 + c) = (nx (bl s) i (97 + c) : Int)
theorem wcells_at (s : ByteArray) (f : Nat → Int) (j : Nat) (h : j < 244) : (wcells s f)[1 + j]? = some (.int .i64 (f j)) := by
  simp [wcells, Nat.add_comm 1 j, h]
theorem WordAt.below {w w' : World} {b : Nat} {s : ByteArray} (h : WordAt w b s) (hb : Below w.heap.size w w') : WordAt w' b s := by
  obtain ⟨f, h1, h2⟩ := h.ex
  exact ⟨⟨f, blk_below h1 hb, h2⟩⟩
theorem WordAt.text {w : World} {b : Nat} {s : ByteArray} (h : WordAt w b s) : w.cell? ⟨b, 0, none⟩ = some (.string s) := by
  obtain ⟨f, h1, h2⟩ := h.ex
  exact (blk_cell h1 0).trans rfl
theorem WordAt.cell {w : World} {b : Nat} {s : ByteArray} (h : WordAt w b s) (hs : s.size ≤ 60) {i c : Nat} (hi : i ≤ s.size) (hc : c < 4) : w.cell? ⟨b, 1 + i * 4 + c, none⟩ = some (.int .i64 (nx (bl s) i (97 + c) : Int)) := by
  obtain ⟨f, h1, h2⟩ := h.ex
  rw [← h2 i c hi hc, blk_cell h1, Nat.add_assoc]
  exact wcells_at s f _ (by omega)
set_option maxHeartbeats 2000000 in
set_option maxRecDepth 100000 in
theorem after_any (w : World) (b : Nat) (s : ByteArray) (hw : WordAt w b s) (hs : s.size ≤ 60) (i c : Nat) (hi : i ≤ s.size) (hc : c < 4) :
    Calls Try.prog 57 #[.pointer (some ⟨b, 0, none⟩), .int .i64 i, .int .i64 c] w fun e w' => e = .returned (.tuple #[.int .i64 (nx (bl s) i (97 + c) + 1 : Int), .bool (decide (nx (bl s) i (97 + c) < s.size))]) ∧ Drawn0 w w' := by
  have h1 := hw.text
  have h2 := hw.cell hs hi hc
  have h3 := nx_le (bl s) i (97 + c) (by rw [bl_length]; exact hi)
  rw [bl_length] at h3
  generalize nx (bl s) i (97 + c) = q at h2 h3 ⊢
  have a1 : (0 : Int) ≤ (i : Int) := by omega
  have a2 : (i : Int) < 61 := by omega
  have a3 : (0 : Int) ≤ (c : Int) := by omega
  have a4 : (c : Int) < 4 := by omega
  have a5 : (q : Int) ≤ 60 := by omega
  have a6 : (s.size : Int) ≤ 60 := by omega
  clear hw hs hi hc h3
  go_enter Try.func57, Try.ntmps57
  go_wp2
  go_quiet (fail)
  go_wp2
  go_ret2
  exact ⟨rfl, ⟨⟨_, rfl⟩⟩⟩
theorem build78 (s : ByteArray) (W : World) : (Instr.build 78 #[(0, .string s)]).run Try.prog W = .ok (.agg (wcells s fun _ => 0)) W := by kernel_rfl
theorem box78 (s : ByteArray) (W : World) : (Instr.box 78 (.agg (wcells s fun _ => 0))).run Try.prog W = .ok (.pointer (some ⟨W.heap.size, 0, none⟩)) (W.alloc (.cells (wcells s fun _ => 0) 78)) := by kernel_rfl
def upd (f : Nat → Int) (j : Nat) (v : Int) : Nat → Int := fun k => if k = j then v else f k
theorem wcells_set (s : ByteArray) (f : Nat → Int) (j : Nat) (v : Int) (h : j < 244) : (wcells s f).setIfInBounds (1 + j) (.int .i64 v) = wcells s (upd f j v) := by
  apply Array.ext_getElem?
  intro i
  rw [Array.getElem?_setIfInBounds]
  have hsz : (wcells s f).size = 245 := by simp [wcells]
  by_cases e : 1 + j = i
  · subst e
    rw [if_pos rfl, if_pos (by omega), wcells_at s _ j h]
    simp [upd]
  · rw [if_neg e]
    rcases i with _ | i
    · simp [wcells]
    · by_cases hi : i < 244
      · rw [Nat.add_comm i 1, wcells_at s f i hi, wcells_at s _ i hi]
        simp [upd, show i ≠ j by omega]
      · simp [wcells, hi]
/-- The world behind a store into the table. -/
theorem wset {w : World} {b : Nat} {s : ByteArray} {f : Nat → Int} (h : w.heap[b]? = some (.cells (wcells s f) 78 (0, 0))) (j : Nat) (v : Int) (hj : j < 244) :
    (w.setCell ⟨b, 1 + j, none⟩ (.int .i64 v)).heap[b]? = some (.cells (wcells s (upd f j v)) 78 (0, 0)) := by
  rw [← wcells_set s f j v hj]; exact blk_set h (1 + j) (.int .i64 v)
def NWPost (s : ByteArray) (w : World) (e : Ending) (w' : World) : Prop :=
  if isW (bl s) = true then e = .returned (.tuple #[.pointer (some ⟨w.heap.size, 0, none⟩), .bool true]) ∧ WordAt w' w.heap.size s ∧ Below w.heap.size w w'
  else e = .returned (.tuple #[.pointer none, .bool false]) ∧ Below w.heap.size w w'
set_option maxHeartbeats 2000000 in
set_option maxRecDepth 100000 in
theorem newWord_big (s : ByteArray) (w : World) (h : 60 < s.size) : Calls Try.prog 48 #[.string s] w (NWPost s w) := by
  have hf : isW (bl s) = false := by simp [isW, bl_length]; omega
  have h1 : ((60 : Int) < (s.size : Int)) = True := eq_true (by omega)
  have HF := Aside0.mk (show NWPost s w (.returned (.tuple #[.pointer none, .bool false])) w by unfold NWPost; rw [hf]; exact ⟨rfl, Below.refl _ _⟩)
  clear hf h
  go_enter Try.func48, Try.ntmps48
  go_wp2
  go_ret2
  exact HF.out
/-- The table is filled from row i on; in row i the first k letters' places are the length. -/
def Rows0 (s : ByteArray) (w : World) (k : Nat) (wr : World) : Prop :=
  ∃ f, wr.heap[w.heap.size]? = some (.cells (wcells s f) 78 (0, 0)) ∧ (∀ c, c < k → f (s.size * 4 + c) = (s.size : Int)) ∧ Below w.heap.size w wr
def Rows1 (s : ByteArray) (w : World) (i : Nat) (wr : World) : Prop :=
  ∃ f, wr.heap[w.heap.size]? = some (.cells (wcells s f) 78 (0, 0)) ∧ (∀ j c, i ≤ j → j ≤ s.size → c < 4 → f (j * 4 + c) = (nx (bl s) j (97 + c) : Int)) ∧ Below w.heap.size w wr ∧ ∀ j, i ≤ j → ∀ h : j < (bl s).length, ltrB ((bl s)[j]) = true
theorem Rows0.start (s : ByteArray) (w : World) : Rows0 s w 0 (w.alloc (.cells (wcells s fun _ => 0) 78)) :=
  ⟨_, blk_new w _, fun c h => by omega, below_alloc (Below.refl _ _) _⟩
theorem Rows0.cell {s : ByteArray} {w wr : World} {k : Nat} (h : Rows0 s w k wr) (hs : s.size ≤ 60) (hk : k < 4) : ∃ v, wr.cell? ⟨w.heap.size, 1 + s.size * 4 + k, none⟩ = some (.int .i64 v) ∧ wr.frozen? ⟨w.heap.size, 1 + s.size * 4 + k, none⟩ = false := by
  obtain ⟨f, h1, _⟩ := h
  exact ⟨_, (blk_cell h1 _).trans (by rw [Nat.add_assoc]; exact wcells_at s f _ (by omega)), blk_frozen h1 _⟩
theorem Rows0.step {s : ByteArray} {w wr : World} {k : Nat} (h : Rows0 s w k wr) (hs : s.size ≤ 60) (hk : k < 4) : Rows0 s w (k + 1) (wr.setCell ⟨w.heap.size, 1 + s.size * 4 + k, none⟩ (.int .i64 s.size)) := by
  obtain ⟨f, h1, h2, h3⟩ := h
  refine ⟨_, by rw [Nat.add_assoc]; exact wset h1 (s.size * 4 + k) _ (by omega), fun c hc => ?_, h3.setCell (Nat.le_refl _) _⟩
  unfold upd
  by_cases e : c = k
  · subst e; rw [if_pos rfl]
  · rw [if_neg (by omega)]; exact h2 c (by omega)
theorem Rows0.done {s : ByteArray} {w wr : World} (h : Rows0 s w 4 wr) : Rows1 s w s.size wr := by
  obtain ⟨f, h1, h2, h3⟩ := h
  refine ⟨f, h1, fun j c h4 h5 hc => ?_, h3, fun j h4 h5 => by rw [bl_length] at h5; omega⟩
  obtain rfl : j = s.size := by omega
  rw [h2 c hc, ← bl_length, nx_end]
theorem Rows1.cell {s : ByteArray} {w wr : World} {i : Nat} (h : Rows1 s w i wr) (hs : s.size ≤ 60) {j c : Nat} (hi : i ≤ j) (hj : j ≤ s.size) (hc : c < 4) :
    wr.cell? ⟨w.heap.size, 1 + j * 4 + c, none⟩ = some (.int .i64 (nx (bl s) j (97 + c) : Int)) := by
  obtain ⟨f, h1, h2, _⟩ := h
  rw [← h2 j c hi hj hc]
  exact (blk_cell h1 _).trans (by rw [Nat.add_assoc]; exact wcells_at s f _ (by omega))
theorem Rows1.there {s : ByteArray} {w wr : World} {i : Nat} (h : Rows1 s w i wr) {j : Nat} (hj : j < 244) :
    ∃ v, wr.cell? ⟨w.heap.size, 1 + j, none⟩ = some (.int .i64 v) ∧ wr.frozen? ⟨w.heap.size, 1 + j, none⟩ = false := by
  obtain ⟨f, h1, h2, _⟩ := h
  exact ⟨_, (blk_cell h1 _).trans (wcells_at s f _ hj), blk_frozen h1 _⟩
/-- Row m + 1, as it is read; row m, as it may be written. -/
theorem Rows1.quad {s : ByteArray} {w wr : World} {m : Nat} (h : Rows1 s w (m + 1) wr) (hs : s.size ≤ 60) (hm : m < s.size) : ∃ q0 q1 q2 q3 v0 v1 v2 v3 : Int,
    (wr.cell? ⟨w.heap.size, 1 + (m + 1) * 4, none⟩ = some (.int .i64 q0) ∧ wr.cell? ⟨w.heap.size, 1 + (m + 1) * 4 + 1, none⟩ = some (.int .i64 q1) ∧ wr.cell? ⟨w.heap.size, 1 + (m + 1) * 4 + 2, none⟩ = some (.int .i64 q2) ∧ wr.cell? ⟨w.heap.size, 1 + (m + 1) * 4 + 3, none⟩ = some (.int .i64 q3)) ∧
    (wr.cell? ⟨w.heap.size, 1 + m * 4, none⟩ = some (.int .i64 v0) ∧ wr.frozen? ⟨w.heap.size, 1 + m * 4, none⟩ = false) ∧ (wr.cell? ⟨w.heap.size, 1 + m * 4 + 1, none⟩ = some (.int .i64 v1) ∧ wr.frozen? ⟨w.heap.size, 1 + m * 4 + 1, none⟩ = false) ∧ (wr.cell? ⟨w.heap.size, 1 + m * 4 + 2, none⟩ = some (.int .i64 v2) ∧ wr.frozen? ⟨w.heap.size, 1 + m * 4 + 2, none⟩ = false) ∧ (wr.cell? ⟨w.heap.size, 1 + m * 4 + 3, none⟩ = some (.int .i64 v3) ∧ wr.frozen? ⟨w.heap.size, 1 + m * 4 + 3, none⟩ = false) ∧
    Aside0 (q0 = (nx (bl s) (m + 1) (97 + 0) : Int) ∧ q1 = (nx (bl s) (m + 1) (97 + 1) : Int) ∧ q2 = (nx (bl s) (m + 1) (97 + 2) : Int) ∧ q3 = (nx (bl s) (m + 1) (97 + 3) : Int)) := by
  obtain ⟨v0, t0, f0⟩ := h.there (j := m * 4) (by omega)
  obtain ⟨v1, t1, f1⟩ := h.there (j := m * 4 + 1) (by omega)
  obtain ⟨v2, t2, f2⟩ := h.there (j := m * 4 + 2) (by omega)
  obtain ⟨v3, t3, f3⟩ := h.there (j := m * 4 + 3) (by omega)
  exact ⟨_, _, _, _, v0, v1, v2, v3, ⟨h.cell hs (c := 0) (Nat.le_refl _) hm (by omega), h.cell hs (c := 1) (Nat.le_refl _) hm (by omega), h.cell hs (c := 2) (Nat.le_refl _) hm (by omega), h.cell hs (c := 3) (Nat.le_refl _) hm (by omega)⟩, ⟨t0, f0⟩, ⟨t1, f1⟩, ⟨t2, f2⟩, ⟨t3, f3⟩, ⟨rfl, rfl, rfl, rfl⟩⟩
theorem Rows1.below {s : ByteArray} {w wr w' : World} {i : Nat} (h : Rows1 s w i wr) (hb : Below wr.heap.size wr w') : Rows1 s w i w' := by
  obtain ⟨f, h1, h2, h3, h4⟩ := h
  exact ⟨f, blk_below h1 hb, h2, below_step h3 hb, h4⟩
/-- Row m holds what row m + 1 holds. -/
def RowsC (s : ByteArray) (w : World) (m : Nat) (wr : World) : Prop :=
  ∃ f, wr.heap[w.heap.size]? = some (.cells (wcells s f) 78 (0, 0)) ∧ (∀ c, c < 4 → f (m * 4 + c) = (nx (bl s) (m + 1) (97 + c) : Int)) ∧ (∀ j c, m + 1 ≤ j → j ≤ s.size → c < 4 → f (j * 4 + c) = (nx (bl s) j (97 + c) : Int)) ∧ Below w.heap.size w wr ∧ ∀ j, m + 1 ≤ j → ∀ h : j < (bl s).length, ltrB ((bl s)[j]) = true
theorem Rows1.copied {s : ByteArray} {w wr : World} {m : Nat} {q0 q1 q2 q3 : Int} (h : Rows1 s w (m + 1) wr) (hs : s.size ≤ 60) (hm : m < s.size)
    (hq : q0 = (nx (bl s) (m + 1) (97 + 0) : Int) ∧ q1 = (nx (bl s) (m + 1) (97 + 1) : Int) ∧ q2 = (nx (bl s) (m + 1) (97 + 2) : Int) ∧ q3 = (nx (bl s) (m + 1) (97 + 3) : Int)) :
    RowsC s w m ((((wr.setCell ⟨w.heap.size, 1 + m * 4, none⟩ (.int .i64 q0)).setCell ⟨w.heap.size, 1 + m * 4 + 1, none⟩ (.int .i64 q1)).setCell ⟨w.heap.size, 1 + m * 4 + 2, none⟩ (.int .i64 q2)).setCell ⟨w.heap.size, 1 + m * 4 + 3, none⟩ (.int .i64 q3)).drew := by
  obtain ⟨f, h1, h2, h3, h4⟩ := h
  obtain ⟨e0, e1, e2, e3⟩ := hq
  have g0 := wset h1 (m * 4) q0 (by omega)
  have g1 := wset g0 (m * 4 + 1) q1 (by omega)
  have g2 := wset g1 (m * 4 + 2) q2 (by omega)
  have g3 := wset g2 (m * 4 + 3) q3 (by omega)
  simp only [← Nat.add_assoc] at g3
  refine ⟨_, g3, fun c hc => ?_, fun j c hj hj2 hc => ?_, below_drew ((((h3.setCell (Nat.le_refl _) _).setCell (Nat.le_refl _) _).setCell (Nat.le_refl _) _).setCell (Nat.le_refl _) _), h4⟩
  · have hc' : c = 0 ∨ c = 1 ∨ c = 2 ∨ c = 3 := by omega
    unfold upd
    rcases hc' with rfl | rfl | rfl | rfl
    · rw [if_neg (by omega), if_neg (by omega), if_neg (by omega), if_pos (by omega), e0]
    · rw [if_neg (by omega), if_neg (by omega), if_pos (by omega), e1]
    · rw [if_neg (by omega), if_pos (by omega), e2]
    · rw [if_pos (by omega), e3]
  · unfold upd
    rw [if_neg (by omega), if_neg (by omega), if_neg (by omega), if_neg (by omega), h2 j c hj hj2 hc]
theorem RowsC.there {s : ByteArray} {w wr : World} {m : Nat} (h : RowsC s w m wr) {j : Nat} (hj : j < 244) :
    ∃ v, wr.cell? ⟨w.heap.size, 1 + j, none⟩ = some (.int .i64 v) ∧ wr.frozen? ⟨w.heap.size, 1 + j, none⟩ = false := by
  obtain ⟨f, h1, h2, _⟩ := h
  exact ⟨_, (blk_cell h1 _).trans (wcells_at s f _ hj), blk_frozen h1 _⟩
theorem RowsC.put {s : ByteArray} {w wr : World} {m c : Nat} (h : RowsC s w m wr) (hs : s.size ≤ 60) (hm : m < s.size) (hc : c < 4) (hl : (s[m]'hm).toNat = 97 + c) : Rows1 s w m (wr.setCell ⟨w.heap.size, 1 + m * 4 + c, none⟩ (.int .i64 m)) := by
  obtain ⟨f, h1, h2, h3, h4, h5⟩ := h
  have hml : m < (bl s).length := by rw [bl_length]; exact hm
  have hl' : (bl s)[m]'hml = 97 + c := by rw [bl_get s m hm]; exact hl
  refine ⟨_, by rw [Nat.add_assoc]; exact wset h1 (m * 4 + c) _ (by omega), fun j d hj hj2 hd => ?_, h4.setCell (Nat.le_refl _) _, fun j hj hj2 => ?_⟩
  · unfold upd
    by_cases e : j = m
    · subst e
      by_cases e2 : d = c
      · subst e2
        rw [if_pos rfl, nx_same hml hl']
      · rw [if_neg (by omega), h2 d hd, nx_next hml (by rw [hl']; omega)]
    · rw [if_neg (by omega), h3 j d (by omega) hj2 hd]
  · by_cases e : j = m
    · subst e
      rw [hl']; simp [ltrB]; omega
    · exact h5 j (by omega) hj2
theorem within_y (a b c : Int) (W : World) (h1 : b ≤ a) (h2 : a ≤ c) : Calls Try.prog 49 #[.int .i64 a, .int .i64 b, .int .i64 c] W fun e w' => e = .returned (.bool true) ∧ Drawn0 W w' :=
  thread_within.calls a b c true W (by unfold thread_within.f; rw [if_pos h1, decide_eq_true h2])
theorem within_n (a b c : Int) (W : World) (h : ¬ (b ≤ a ∧ a ≤ c)) : Calls Try.prog 49 #[.int .i64 a, .int .i64 b, .int .i64 c] W fun e w' => e = .returned (.bool false) ∧ Drawn0 W w' :=
  thread_within.calls a b c false W (by
    unfold thread_within.f
    by_cases h1 : a ≥ b
    · rw [if_pos h1, decide_eq_false (fun h2 => h ⟨h1, h2⟩)]
    · rw [if_neg h1])
set_option maxHeartbeats 2000000 in
set_option maxRecDepth 100000 in
theorem newWord_any (s : ByteArray) (w : World) (h : s.size ≤ 60) : Calls Try.prog 48 #[.string s] w (NWPost s w) := by
  have h1 : ((60 : Int) < (s.size : Int)) = False := eq_false (by omega)
  have b1 := build78 s
  have b2 := box78 s
  have a1 : (0 : Int) ≤ (s.size : Int) := by omega
  have a2 : (s.size : Int) < 61 := by omega
  have HS := Aside0.mk h
  clear h
  go_enter Try.func48, Try.ntmps48
  go_wp2
  clear b1 b2
  go_loopw [14] (fun v14 wr => ∃ k : Nat, v14 = .int .i64 k ∧ k ≤ 4 ∧ Aside0 (Rows0 s w k wr)) (fun v14 _ => 4 - (intOf v14).toNat)
  case atStart => exact ⟨0, rfl, by omega, ⟨Rows0.start s w⟩⟩
  case round =>
    obtain ⟨k, rfl, hk, HR⟩ := hrel
    by_cases hlt : k < 4
    · obtain ⟨v, c1, c2⟩ := HR.out.cell HS.out hlt
      have a3 : (k : Int) < 4 := by omega
      clear hlt
      go_wp2
      go_roundw
      case rel => exact ⟨k + 1, by go_num, by omega, ⟨HR.out.step HS.out (by omega)⟩⟩
      case measure => simp [intOf]; omega
    · have HR1 := Aside0.mk (show Rows1 s w s.size wr by have e : k = 4 := by omega
                                                         subst e; exact HR.out.done)
      have hge : ¬ ((k : Int) < 4) := by omega
      clear HR hlt hk
      go_wp2
      clear a1 a2 h1 hge
      go_loopw [6] (fun v6 wr => ∃ i : Int, v6 = .int .i64 i ∧ -1 ≤ i ∧ i < (s.size : Int) ∧ Aside0 (Rows1 s w (i + 1).toNat wr)) (fun v6 _ => (intOf v6 + 1).toNat)
      case atStart => exact ⟨(s.size : Int) - 1, rfl, by omega, by omega, ⟨by rw [show ((s.size : Int) - 1 + 1).toNat = s.size by omega]; exact HR1.out⟩⟩
      case round =>
        obtain ⟨i, rfl, hi1, hi2, HR⟩ := hrel
        clear HR1
        by_cases hp : 0 ≤ i
        · obtain ⟨m, rfl⟩ := Int.eq_ofNat_of_zero_le hp
          clear hp hi1
          have hm : m < s.size := by omega
          have HR := Aside0.mk (show Rows1 s w (m + 1) wr by have := HR.out; rwa [show ((m : Int) + 1).toNat = m + 1 by omega] at this)
          by_cases hg : ltrB ((bl s)[m]'(by rw [bl_length]; exact hm)) = true
          · obtain ⟨c, hc, hc4⟩ : ∃ c : Nat, (s[m]'hm).toNat = 97 + c ∧ c < 4 := by
              rw [← bl_get s m hm]; simp [ltrB] at hg; exact ⟨(bl s)[m]'(by rw [bl_length]; exact hm) - 97, by omega, by omega⟩
            have hx : ∀ h : m < s.size, ((s[m]'h).toNat : Int) = 97 + (c : Int) := fun _ => by rw [hc]; simp
            have c1 : (97 : Int) + (c : Int) - 97 = (c : Int) := by omega
            have c2 : (c : Int) < 4 := by omega
            have c3 : (m : Int) < 61 := by have := HS.out; omega
            have c4 : (m : Int) + 1 < 61 := by have := HS.out; omega
            have c5 : (0 : Int) ≤ (m : Int) + 1 := by omega
            have c6 : (0 : Int) ≤ (m : Int) := by omega
            have c7 : IntKind.i64.wrap ((m : Int) + 1) = (m : Int) + 1 := IntWalk.i64_in _ (by have := HS.out; omega)
            have c8 : ((m : Int) + 1).toNat = m + 1 := by omega
            have HC := Aside0.mk hc
            have HG := Aside0.mk hg
            clear hc hg hc4
            go_upto_region 15 with (go_at_call 49; (with_reducible refine (within_y _ _ _ _ (by omega) (by omega)).mono ?_); rintro e w1 ⟨rfl, HD⟩; have HR2 := Aside0.mk (HR.out.below HD.below); obtain ⟨q0, q1, q2, q3, v0, v1, v2, v3, ⟨r0, r1, r2, r3⟩, ⟨t0, f0⟩, ⟨t1, f1⟩, ⟨t2, f2⟩, ⟨t3, f3⟩, HQ⟩ := HR2.out.quad HS.out hm; clear HD)
            refine start_ (n := 13) (S := fun w' => w'.cell? ⟨w.heap.size, 1 + (m + 1) * 4, none⟩ = some (.int .i64 q0) ∧ w'.cell? ⟨w.heap.size, 1 + (m + 1) * 4 + 1, none⟩ = some (.int .i64 q1) ∧ w'.cell? ⟨w.heap.size, 1 + (m + 1) * 4 + 2, none⟩ = some (.int .i64 q2) ∧ w'.cell? ⟨w.heap.size, 1 + (m + 1) * 4 + 3, none⟩ = some (.int .i64 q3)) (ds := [12]) #[false, false, false, false, false, false, false, false, false, false, false, false, false] (by kernel_rfl) rfl rfl ⟨r0, r1, r2, r3⟩ (fun hHeld => ?_)
            refine pure_ (i := 0) (N := (some 43)) (v := ?_) (a' := ?_) #[true, false, false, false, false, false, false, false, false, false, false, false, false] rfl rfl (by kernel_rfl) (fun _ _ _ h => h) (Or.inl ⟨by rfl, ?_⟩) ?_ ?_
            rotate_left
            · intro w'
              go_simp
              with_reducible rfl
            rotate_left
            · simp only [Act.put, List.setIfInBounds_toArray, List.set_cons_zero, List.set_cons_succ, i64_w, i32_w]
              rfl
            refine pure_ (i := 1) (N := (some 44)) (v := ?_) (a' := ?_) #[true, true, false, false, false, false, false, false, false, false, false, false, false] rfl rfl (by kernel_rfl) (fun _ _ _ h => h) (Or.inl ⟨by rfl, ?_⟩) ?_ ?_
            rotate_left
            · intro w'
              go_simp
              with_reducible rfl
            rotate_left
            · simp only [Act.put, List.setIfInBounds_toArray, List.set_cons_zero, List.set_cons_succ, i64_w, i32_w]
              rfl
            refine pure_ (i := 2) (N := (some 45)) (v := ?_) (a' := ?_) #[true, true, true, false, false, false, false, false, false, false, false, false, false] rfl rfl (by kernel_rfl) (fun _ _ _ h => h) (Or.inl ⟨by rfl, ?_⟩) ?_ ?_
            rotate_left
            · intro w'
              go_simp
              with_reducible rfl
            rotate_left
            · simp only [Act.put, List.setIfInBounds_toArray, List.set_cons_zero, List.set_cons_succ, i64_w, i32_w]
              rfl
            refine pure_ (i := 3) (N := (some 46)) (v := ?_) (a' := ?_) #[true, true, true, true, false, false, false, false, false, false, false, false, false] rfl rfl (by kernel_rfl) (fun _ _ _ h => h) (Or.inl ⟨by rfl, ?_⟩) ?_ ?_
            rotate_left
            · intro w'
              go_simp
              with_reducible rfl
            rotate_left
            · simp only [Act.put, List.setIfInBounds_toArray, List.set_cons_zero, List.set_cons_succ, i64_w, i32_w]
              rfl
            refine pure_ (i := 4) (N := (some 47)) (v := ?_) (a' := ?_) #[true, true, true, true, true, false, false, false, false, false, false, false, false] rfl rfl (by kernel_rfl) (fun _ _ _ h => h) (Or.inl ⟨by rfl, ?_⟩) ?_ ?_
            rotate_left
            · intro w'
              go_simp
              with_reducible rfl
            rotate_left
            · simp only [Act.put, List.setIfInBounds_toArray, List.set_cons_zero, List.set_cons_succ, i64_w, i32_w]
              rfl
            refine pure_ (i := 5) (N := (some 48)) (v := ?_) (a' := ?_) #[true, true, true, true, true, true, false, false, false, false, false, false, false] rfl rfl (by kernel_rfl) (fun _ _ _ h => h) (Or.inl ⟨by rfl, ?_⟩) ?_ ?_
            rotate_left
            · intro w'
              go_simp
              with_reducible rfl
            rotate_left
            · simp only [Act.put, List.setIfInBounds_toArray, List.set_cons_zero, List.set_cons_succ, i64_w, i32_w]
              rfl
            refine pure_ (i := 6) (N := (some 49)) (v := ?_) (a' := ?_) #[true, true, true, true, true, true, true, false, false, false, false, false, false] rfl rfl (by kernel_rfl) (fun _ _ _ h => h) (Or.inl ⟨by rfl, ?_⟩) ?_ ?_
            rotate_left
            · intro w'
              go_simp
              with_reducible rfl
            rotate_left
            · simp only [Act.put, List.setIfInBounds_toArray, List.set_cons_zero, List.set_cons_succ, i64_w, i32_w]
              rfl
            refine pure_ (i := 7) (N := (some 50)) (v := ?_) (a' := ?_) #[true, true, true, true, true, true, true, true, false, false, false, false, false] rfl rfl (by kernel_rfl) (fun _ _ _ h => h) (Or.inl ⟨by rfl, ?_⟩) ?_ ?_
            rotate_left
            · intro w'
              go_simp
              with_reducible rfl
            rotate_left
            · simp only [Act.put, List.setIfInBounds_toArray, List.set_cons_zero, List.set_cons_succ, i64_w, i32_w]
              rfl
            refine take_ (i := 8) (N := (some 51)) (v := ?_) (a' := ?_) #[true, true, true, true, true, true, true, true, true, false, false, false, false] rfl rfl (by kernel_rfl) (fun _ _ _ h => h) (Or.inl ⟨by rfl, ?_⟩) hHeld ?_ ?_
            rotate_left
            · rintro w' ⟨s0, s1, s2, s3⟩
              go_simp
              with_reducible rfl
            rotate_left
            · simp only [Act.put, List.setIfInBounds_toArray, List.set_cons_zero, List.set_cons_succ, i64_w, i32_w]
              rfl
            refine pure_ (i := 9) (N := (some 52)) (v := ?_) (a' := ?_) #[true, true, true, true, true, true, true, true, true, true, false, false, false] rfl rfl (by kernel_rfl) (fun _ _ _ h => h) (Or.inl ⟨by rfl, ?_⟩) ?_ ?_
            rotate_left
            · intro w'
              go_simp
              with_reducible rfl
            rotate_left
            · simp only [Act.put, List.setIfInBounds_toArray, List.set_cons_zero, List.set_cons_succ, i64_w, i32_w]
              rfl
            refine pure_ (i := 10) (N := (some 53)) (v := ?_) (a' := ?_) #[true, true, true, true, true, true, true, true, true, true, true, false, false] rfl rfl (by kernel_rfl) (fun _ _ _ h => h) (Or.inl ⟨by rfl, ?_⟩) ?_ ?_
            rotate_left
            · intro w'
              go_simp
              with_reducible rfl
            rotate_left
            · simp only [Act.put, List.setIfInBounds_toArray, List.set_cons_zero, List.set_cons_succ, i64_w, i32_w]
              rfl
            refine pure_ (i := 11) (N := (some 54)) (v := ?_) (a' := ?_) #[true, true, true, true, true, true, true, true, true, true, true, true, false] rfl rfl (by kernel_rfl) (fun _ _ _ h => h) (Or.inl ⟨by rfl, ?_⟩) ?_ ?_
            rotate_left
            · intro w'
              go_simp
              with_reducible rfl
            rotate_left
            · simp only [Act.put, List.setIfInBounds_toArray, List.set_cons_zero, List.set_cons_succ, i64_w, i32_w]
              rfl
            refine last_ (i := 12) (N := none) #[true, true, true, true, true, true, true, true, true, true, true, true, true] rfl rfl (by kernel_rfl) (by decide) (fun K hK => ?_)
            refine skip_ (w1 := ?_) (by rfl) rfl ?_ ?_
            rotate_left
            · go_simp
              rfl
            refine hK.out _ _ ?_
            clear hK K
            refine done_ (by kernel_rfl) ?_
            have HRC := Aside0.mk (HR2.out.copied HS.out hm HQ.out)
            obtain ⟨w2, hw2⟩ : ∃ w2, w2 = ((((w1.setCell ⟨w.heap.size, 1 + m * 4, none⟩ (.int .i64 q0)).setCell ⟨w.heap.size, 1 + m * 4 + 1, none⟩ (.int .i64 q1)).setCell ⟨w.heap.size, 1 + m * 4 + 2, none⟩ (.int .i64 q2)).setCell ⟨w.heap.size, 1 + m * 4 + 3, none⟩ (.int .i64 q3)).drew := ⟨_, rfl⟩
            rw [← hw2]
            replace HRC := Aside0.mk (show RowsC s w m w2 by rw [hw2]; exact HRC.out)
            clear hw2 r0 r1 r2 r3 t0 f0 t1 f1 t2 f2 t3 f3 HQ
            obtain ⟨v, t0, f0⟩ := HRC.out.there (j := m * 4 + c) (by omega)
            rw [← Nat.add_assoc] at t0 f0
            go_wp2
            go_roundw
            case rel => exact ⟨(m : Int) - 1, rfl, by omega, by omega, ⟨by rw [show ((m : Int) - 1 + 1).toNat = m by omega]; exact HRC.out.put HS.out hm (by omega) HC.out⟩⟩
            case measure => simp [intOf]
          · have HF := Aside0.mk (show isW (bl s) = false by
              rw [Bool.eq_false_iff]; intro he
              refine hg ?_
              unfold isW at he
              rw [Bool.and_eq_true, List.all_eq_true] at he
              exact he.2 _ (List.getElem_mem _))
            obtain ⟨b, hb⟩ : ∃ b : Nat, (s[m]'hm).toNat = b := ⟨_, rfl⟩
            have hx : ∀ h : m < s.size, ((s[m]'h).toNat : Int) = (b : Int) := fun _ => by rw [hb]
            have hb256 : (b : Int) < 256 := by have := (s[m]'hm).toNat_lt; omega
            have HB := Aside0.mk (show ¬ ((0 : Int) ≤ (b : Int) - 97 ∧ (b : Int) - 97 ≤ 3) by
              intro h
              refine hg ?_
              rw [bl_get s m hm, hb]; simp [ltrB]; omega)
            clear hg hb
            go_wp2_with (go_at_call 49; (with_reducible refine (within_n _ _ _ _ HB.out).mono ?_); rintro e w1 ⟨rfl, HD⟩; have HD' := Aside0.mk HD; clear HD)
            go_ret2
            unfold NWPost
            rw [HF.out]
            obtain ⟨f, h1, h2, h3, h4⟩ := HR.out
            exact ⟨rfl, below_step h3 HD'.out.below⟩
        · obtain rfl : i = -1 := by omega
          clear hp hi1 hi2
          go_wp2
          go_ret2
          obtain ⟨f, h1, h2, h3, h4⟩ := HR.out
          have HT : isW (bl s) = true := by
            rw [isW_iff, bl_length]
            refine ⟨HS.out, fun b hb => ?_⟩
            obtain ⟨j, hj, rfl⟩ := List.getElem_of_mem hb
            have := h4 j (by omega) hj
            simpa [ltrB] using this
          unfold NWPost
          rw [if_pos HT]
          exact ⟨rfl, ⟨⟨f, h1, fun j c hj hc => h2 j c (by omega) hj hc⟩⟩, h3⟩
theorem newWord_post (s : ByteArray) (w : World) : Calls Try.prog 48 #[.string s] w (NWPost s w) := by
  by_cases h : s.size ≤ 60
  · exact newWord_any s w h
  · exact newWord_big s w (by omega)
theorem newWord_yes (s : ByteArray) (w : World) (h : isW (bl s) = true) : Calls Try.prog 48 #[.string s] w fun e w' => e = .returned (.tuple #[.pointer (some ⟨w.heap.size, 0, none⟩), .bool true]) ∧ WordAt w' w.heap.size s ∧ Below w.heap.size w w' :=
  (newWord_post s w).mono fun e w' hp => by unfold NWPost at hp; rw [if_pos h] at hp; exact hp
theorem newWord_no (s : ByteArray) (w : World) (h : isW (bl s) = false) : Calls Try.prog 48 #[.string s] w fun e w' => e = .returned (.tuple #[.pointer none, .bool false]) ∧ Below w.heap.size w w' :=
  (newWord_post s w).mono fun e w' hp => by unfold NWPost at hp; rw [if_neg (by rw [h]; decide)] at hp; exact hp
theorem newWord_b (s : ByteArray) (r : Bool) (w : World) (h : isW (bl s) = r) : Calls Try.prog 48 #[.string s] w fun e w' => ∃ p, e = .returned (.tuple #[.pointer p, .bool r]) ∧ Below w.heap.size w w' := by
  cases r with
  | true => exact (newWord_yes s w h).mono fun e w' ⟨h1, _, h2⟩ => ⟨_, h1, h2⟩
  | false => exact (newWord_no s w h).mono fun e w' ⟨h1, h2⟩ => ⟨_, h1, h2⟩
end Go.Proofs.Ytagdbadljcongaa.X
end

section
/- thread.isOver: through strings.ContainsFunc, IndexFunc and indexFunc with its closure, at a word. -/
set_option linter.unusedVariables false
set_option linter.unusedSimpArgs false
namespace Go.Proofs.Ytagdbadljcongaa.X
open Go Go.RowKit Go.Proofs Go.Proofs.YtagdbadljcongaaW.PrintWords Go.Proofs.YtagdbadljcongaaW.PrintLast Go.Proofs.YtagdbadljcongaaW.PrintMore
/-- Whether a word has the first k letters only. -/
def ovr (l : List Nat) (k : Nat) : Bool := l.all fun b => decide (b < 97 + k)
set_option maxHeartbeats 2000000 in
set_option maxRecDepth 100000 in
theorem over_yes (g d k : Nat) (W : World) (hg : W.cell? ⟨g, 0, none⟩ = some (.int .i64 k)) (hd : d < 4) (hk : 1 ≤ k) (hk4 : k ≤ 4) (h : d < k) : Calls Try.prog 69 #[.int .i32 (97 + (d : Int)), .pointer (some ⟨g, 0, none⟩)] W fun e w' => e = .returned (.bool false) ∧ Drawn0 W w' := by
  have h1 : (0 : Int) ≤ (d : Int) := by omega
  have h2 : (d : Int) < 4 := by omega
  have h3 : (d : Int) ≤ (k : Int) - 1 := by omega
  have h4 : (k : Int) ≤ 4 := by omega
  have h5 : (97 : Int) + (d : Int) - 97 = (d : Int) := by omega
  clear hd hk hk4 h
  go_enter Try.func69, Try.ntmps69
  go_wp2_with (go_at_call 49; (with_reducible refine (within_y _ _ _ _ (by omega) (by omega)).mono ?_); rintro e w1 ⟨rfl, HD⟩; have HDD := Aside0.mk HD; clear HD)
  go_ret
  exact ⟨rfl, HDD.out⟩
set_option maxHeartbeats 2000000 in
set_option maxRecDepth 100000 in
theorem over_no (g d k : Nat) (W : World) (hg : W.cell? ⟨g, 0, none⟩ = some (.int .i64 k)) (hd : d < 4) (hk : 1 ≤ k) (hk4 : k ≤ 4) (h : ¬ d < k) : Calls Try.prog 69 #[.int .i32 (97 + (d : Int)), .pointer (some ⟨g, 0, none⟩)] W fun e w' => e = .returned (.bool true) ∧ Drawn0 W w' := by
  have h1 : (0 : Int) ≤ (d : Int) := by omega
  have h2 : (d : Int) < 4 := by omega
  have h3 : ¬ ((0 : Int) ≤ (d : Int) ∧ (d : Int) ≤ (k : Int) - 1) := by omega
  have h4 : (k : Int) ≤ 4 := by omega
  have h5 : (97 : Int) + (d : Int) - 97 = (d : Int) := by omega
  have H3 := Aside0.mk h3
  clear hd hk hk4 h h3
  go_enter Try.func69, Try.ntmps69
  go_wp2_with (go_at_call 49; (with_reducible refine (within_n _ _ _ _ H3.out).mono ?_); rintro e w1 ⟨rfl, HD⟩; have HDD := Aside0.mk HD; clear HD)
  go_ret
  exact ⟨rfl, HDD.out⟩
set_option maxHeartbeats 4000000 in
set_option maxRecDepth 1000000 in
theorem idxf (s : ByteArray) (g k : Nat) (w : World) (hs : isW (bl s) = true) (hg : w.cell? ⟨g, 0, none⟩ = some (.int .i64 k)) (hgl : g < w.heap.size) (hk : 1 ≤ k) (hk4 : k ≤ 4) :
    Calls Try.prog 92 #[.string s, .func (.func 69) #[] #[.pointer (some ⟨g, 0, none⟩)], .bool true] w fun e w' => ∃ r : Int, e = .returned (.int .i64 r) ∧ Aside0 (-1 ≤ r ∧ r ≤ 60 ∧ (0 ≤ r ↔ ovr (bl s) k = false)) ∧ Below w.heap.size w w' := by
  have HS := Aside0.mk hs
  have HG := Aside0.mk hg
  have HGL := Aside0.mk hgl
  have HK := Aside0.mk hk
  have HK4 := Aside0.mk hk4
  have hs60 : s.size ≤ 60 := by rw [← bl_length]; exact ((isW_iff _).1 hs).1
  have HS60 := Aside0.mk hs60
  clear hs hg hgl hk hk4 hs60
  go_enter Try.func92, Try.ntmps92
  go_wp2
  go_loopg [] s.size (fun gf wx => ∃ pos : Nat, Aside0 (wx.heap[w.heap.size]? = some (.stringIter s pos)) ∧ Aside0 (Below w.heap.size w wx) ∧ Aside0 (∀ j, j < pos → ∀ h : j < (bl s).length, (bl s)[j] < 97 + k) ∧ Aside0 (pos + gf = s.size))
  case atStart => exact ⟨0, ⟨World.iter_heap w s 0⟩, ⟨(Below.refl _ w).alloc (Nat.le_refl _) _⟩, ⟨by omega⟩, ⟨by omega⟩⟩
  case round =>
    obtain ⟨pos, HIT, HBW, HAL, HFU⟩ := hrel
    by_cases hps : pos < s.size
    · obtain ⟨g', rfl⟩ : ∃ g', gk = g' + 1 := ⟨gk - 1, by have := HFU.out; omega⟩
      obtain ⟨d, hd, hd4⟩ : ∃ c, (bl s)[pos]'(by rw [bl_length]; exact hps) = 97 + c ∧ c < 4 := by
        have := ((isW_iff (bl s)).1 HS.out).2 _ (List.getElem_mem (by rw [bl_length]; exact hps))
        exact ⟨(bl s)[pos]'(by rw [bl_length]; exact hps) - 97, by omega, by omega⟩
      have hdec : Utf8.decode s pos = (97 + d, 1) := by
        have h2 : (s[pos]'hps).toNat = 97 + d := by rw [← bl_get s pos hps]; exact hd
        rw [decode_ascii s pos hps (by omega), h2]
      have hnx : ∀ ty, (Instr.next (.pointer (some ⟨w.heap.size, 0, none⟩)) true ty).run Try.prog wr = _ := fun ty => Lib.run_next_any_at wr w.heap.size s pos ty HIT.out hps
      rw [hdec] at hnx
      have hit2 := Lib.iterAt_heap wr w.heap.size s pos (pos + 1) HIT.out
      have hbw2 := Lib.below_iterAt HBW.out (k := w.heap.size) (Nat.le_refl _) s (pos + 1)
      obtain ⟨W, hWd⟩ : ∃ W, wr.iterAt w.heap.size s (pos + 1) = W := ⟨_, rfl⟩
      rw [hWd] at hnx hit2 hbw2
      have e97 : ((97 + d : Nat) : Int) = 97 + (d : Int) := by simp
      simp only [e97] at hnx
      have HIT2 := Aside0.mk hit2
      have HBW2 := Aside0.mk hbw2
      have HPS := Aside0.mk hps
      have HD := Aside0.mk (show ∀ h : pos < (bl s).length, (bl s)[pos] = 97 + d from fun _ => hd)
      have HD4 := Aside0.mk hd4
      have hcg : W.cell? ⟨g, 0, none⟩ = some (.int .i64 k) := (hbw2.cell (p := ⟨g, 0, none⟩) HGL.out).trans HG.out
      have HCG := Aside0.mk hcg
      clear hdec hit2 hbw2 hWd hps hd hd4 e97 hcg
      by_cases hdk : d < k
      · have HDK := Aside0.mk hdk
        clear hdk
        go_wp2_with (go_at_call 69; (with_reducible refine (over_yes g d k W HCG.out HD4.out HK.out HK4.out HDK.out).mono ?_); rintro e W' ⟨rfl, HDR⟩; have HB3 := Aside0.mk HDR.below; clear HDR)
        go_roundg g'
        case measure => omega
        case rel => exact ⟨pos + 1, ⟨blk_below HIT2.out HB3.out⟩, ⟨below_step HBW2.out HB3.out⟩, ⟨fun j hj h => by
          by_cases e : j = pos
          · subst e; rw [HD.out h]; have := HDK.out; omega
          · exact HAL.out j (by omega) h⟩, ⟨by have := HFU.out; omega⟩⟩
      · have HDK := Aside0.mk hdk
        clear hdk
        go_wp2_with (go_at_call 69; (with_reducible refine (over_no g d k W HCG.out HD4.out HK.out HK4.out HDK.out).mono ?_); rintro e W' ⟨rfl, HDR⟩; have HB3 := Aside0.mk HDR.below; clear HDR)
        go_ret
        refine ⟨_, rfl, ⟨by have := HPS.out; have := HS60.out; omega, by have := HPS.out; have := HS60.out; omega, ?_⟩, below_step HBW2.out HB3.out⟩
        refine iff_of_true (by omega) ?_
        rw [Bool.eq_false_iff]
        intro h
        have := List.all_eq_true.1 h _ (List.getElem_mem (show pos < (bl s).length by rw [bl_length]; exact HPS.out))
        rw [HD.out (by rw [bl_length]; exact HPS.out)] at this
        have h2 := HDK.out
        simp at this; omega
    · have hnx : ∀ ty, (Instr.next (.pointer (some ⟨w.heap.size, 0, none⟩)) true ty).run Try.prog wr = _ := fun ty => Lib.run_next_end_at wr w.heap.size s pos ty HIT.out hps
      have HPS := Aside0.mk hps
      clear hps
      go_wp2
      go_ret
      refine ⟨_, rfl, ⟨by omega, by omega, iff_of_false (by omega) ?_⟩, HBW.out⟩
      rw [Bool.not_eq_false]
      refine List.all_eq_true.2 fun b hb => ?_
      obtain ⟨j, hj, rfl⟩ := List.getElem_of_mem hb
      exact decide_eq_true (HAL.out j (by have h1 := HPS.out; rw [bl_length] at hj; omega) hj)
set_option maxHeartbeats 2000000 in
set_option maxRecDepth 100000 in
theorem idxf2 (s : ByteArray) (g k : Nat) (w : World) (hs : isW (bl s) = true) (hg : w.cell? ⟨g, 0, none⟩ = some (.int .i64 k)) (hgl : g < w.heap.size) (hk : 1 ≤ k) (hk4 : k ≤ 4) :
    Calls Try.prog 79 #[.string s, .func (.func 69) #[] #[.pointer (some ⟨g, 0, none⟩)]] w fun e w' => ∃ r : Int, e = .returned (.int .i64 r) ∧ Aside0 (-1 ≤ r ∧ r ≤ 60 ∧ (0 ≤ r ↔ ovr (bl s) k = false)) ∧ Below w.heap.size w w' := by
  have H := Aside0.mk (idxf s g k w hs hg hgl hk hk4)
  clear hs hg hgl hk hk4
  go_enter Try.func79, Try.ntmps79
  go_wp2_with (go_at_call 92; (with_reducible refine H.out.mono ?_); rintro e w1 ⟨r, rfl, HR, hb⟩; have HB := Aside0.mk hb; clear hb)
  go_ret
  exact ⟨r, rfl, HR, HB.out⟩
set_option maxHeartbeats 2000000 in
set_option maxRecDepth 100000 in
theorem contf (s : ByteArray) (g k : Nat) (w : World) (hs : isW (bl s) = true) (hg : w.cell? ⟨g, 0, none⟩ = some (.int .i64 k)) (hgl : g < w.heap.size) (hk : 1 ≤ k) (hk4 : k ≤ 4) (r : Bool) (hr : ovr (bl s) k = r) :
    Calls Try.prog 68 #[.string s, .func (.func 69) #[] #[.pointer (some ⟨g, 0, none⟩)]] w fun e w' => e = .returned (.bool (!r)) ∧ Below w.heap.size w w' := by
  have H := Aside0.mk (idxf2 s g k w hs hg hgl hk hk4)
  have HR := Aside0.mk hr
  clear hs hg hgl hk hk4 hr
  cases r with
  | true =>
    go_enter Try.func68, Try.ntmps68
    go_wp2_with (go_at_call 79; (with_reducible refine H.out.mono ?_); rintro e w1 ⟨r, rfl, HR2, hb⟩; have HB := Aside0.mk hb; have hr0 : decide (0 ≤ r) = false := decide_eq_false (fun h => by have := HR2.out.2.2.1 h; rw [HR.out] at this; cases this); clear hb)
    go_ret
    exact ⟨rfl, HB.out⟩
  | false =>
    go_enter Try.func68, Try.ntmps68
    go_wp2_with (go_at_call 79; (with_reducible refine H.out.mono ?_); rintro e w1 ⟨r, rfl, HR2, hb⟩; have HB := Aside0.mk hb; have hr0 : decide (0 ≤ r) = true := decide_eq_true (HR2.out.2.2.2 HR.out); clear hb)
    go_ret
    exact ⟨rfl, HB.out⟩
set_option maxHeartbeats 2000000 in
set_option maxRecDepth 100000 in
theorem over_any (s : ByteArray) (k : Nat) (w : World) (hs : isW (bl s) = true) (hk : 1 ≤ k) (hk4 : k ≤ 4) (r : Bool) (hr : ovr (bl s) k = r) :
    Calls Try.prog 50 #[.string s, .int .i64 k] w fun e w' => e = .returned (.bool r) ∧ Below w.heap.size w w' := by
  have H := Aside0.mk (contf s w.heap.size k (w.alloc (.cells #[.int .i64 (k : Int)] 3)) hs ((blk_cell (blk_new w _) 0).trans rfl) (by rw [World.size_alloc]; omega) hk hk4 r hr)
  clear hs hk hk4 hr
  go_enter Try.func50, Try.ntmps50
  go_wp2_with (go_at_call 68; (with_reducible refine H.out.mono ?_); rintro e w1 ⟨rfl, hb⟩; have HB := Aside0.mk (below_step (below_alloc (Below.refl _ _) _) hb); clear hb)
  go_ret
  exact ⟨by simp, HB.out⟩
end Go.Proofs.Ytagdbadljcongaa.X
end

section
/- thread.isFamily: through slices.ContainsFunc, IndexFunc and its closure. -/
set_option linter.unusedVariables false
set_option linter.unusedSimpArgs false
namespace Go.Proofs.Ytagdbadljcongaa.X
open Go Go.RowKit Go.Proofs Go.Proofs.YtagdbadljcongaaW.PrintWords Go.Proofs.YtagdbadljcongaaW.PrintLast Go.Proofs.YtagdbadljcongaaW.PrintMore
def fam1 (s : ByteArray) : Bool := isW (bl s) && decide (s.size ≤ 8)
/-- Whether a list is a family. -/
def famB (l : List ByteArray) : Bool := l.all fam1
set_option maxHeartbeats 2000000 in
set_option maxRecDepth 100000 in
theorem fam_cl (s : ByteArray) (w : World) (r : Bool) (hr : fam1 s = r) : Calls Try.prog 71 #[.string s] w fun e w' => e = .returned (.bool (!r)) ∧ Below w.heap.size w w' := by
  obtain ⟨v, hv⟩ : ∃ v, isW (bl s) = v := ⟨_, rfl⟩
  have HV := Aside0.mk hv
  have h2 : r = (v && decide (s.size ≤ 8)) := by rw [← hr, ← hv]; rfl
  subst h2
  clear hv hr
  cases v with
  | false =>
    go_enter Try.func71, Try.ntmps71
    go_wp2_with (go_at_call 48; (with_reducible refine (newWord_b s _ _ HV.out).mono ?_); rintro e w1 ⟨p, rfl, hb⟩; have HB := Aside0.mk hb; clear hb)
    go_ret
    exact ⟨rfl, HB.out⟩
  | true =>
    by_cases h8 : s.size ≤ 8
    · have h1 : ¬ ((8 : Int) < (s.size : Int)) := by omega
      have h2 : ¬ (8 < s.size) := by omega
      have h3 := decide_eq_true h8
      go_enter Try.func71, Try.ntmps71
      go_wp2_with (go_at_call 48; (with_reducible refine (newWord_b s _ _ HV.out).mono ?_); rintro e w1 ⟨p, rfl, hb⟩; have HB := Aside0.mk hb; clear hb)
      go_ret
      exact ⟨by simp [h8] <;> omega, HB.out⟩
    · have h1 : (8 : Int) < (s.size : Int) := by omega
      have h2 : 8 < s.size := by omega
      have h3 := decide_eq_false h8
      go_enter Try.func71, Try.ntmps71
      go_wp2_with (go_at_call 48; (with_reducible refine (newWord_b s _ _ HV.out).mono ?_); rintro e w1 ⟨p, rfl, hb⟩; have HB := Aside0.mk hb; clear hb)
      go_ret
      exact ⟨by simp [h8] <;> omega, HB.out⟩
set_option maxHeartbeats 4000000 in
set_option maxRecDepth 1000000 in
theorem fam_idx (A : Option Addr) (c : Nat) (l : List ByteArray) (w : World) (hC : Kd.C Kd.string w A l.length l) (hl : l.length ≤ 1000000) :
    Calls Try.prog 77 #[.slice A l.length c, .func (.func 71) #[] #[]] w fun e w' => ∃ r : Int, e = .returned (.int .i64 r) ∧ Aside0 (-1 ≤ r ∧ r ≤ 1000000 ∧ (0 ≤ r ↔ famB l = false)) ∧ Below w.heap.size w w' := by
  have HC := Aside0.mk hC
  have HL := Aside0.mk hl
  clear hC hl
  go_enter Try.func77, Try.ntmps77
  go_wp2
  go_loopw [8] (fun v8 wr => ∃ i : Nat, v8 = .int .i64 i ∧ i ≤ l.length ∧ Aside0 (Below w.heap.size w wr) ∧ Aside0 (∀ j, j < i → ∀ h : j < l.length, fam1 l[j] = true)) (fun v8 _ => l.length - (intOf v8).toNat)
  case atStart => exact ⟨0, rfl, by omega, ⟨Below.refl _ _⟩, ⟨by omega⟩⟩
  case round =>
    obtain ⟨i, rfl, hi, HB, HAL⟩ := hrel
    by_cases hlt : i < l.length
    · have hltI : (i : Int) < (l.length : Int) := by omega
      have hi0 : (0 : Int) ≤ (i : Int) := by omega
      obtain ⟨s, hs⟩ : ∃ s, l[i] = s := ⟨_, rfl⟩
      obtain ⟨ad, e, hx⟩ := Kd.at_string (Kd.C_below HC.out HB.out) (i : Int) hi0 hltI
      cases e
      have er : rdOf ByteArray.empty l (i : Int) = s := by unfold rdOf; simp [List.getD_eq_getElem?_getD, hlt, hs]
      rw [er, Int.toNat_natCast] at hx
      obtain ⟨r, hr⟩ : ∃ r, fam1 s = r := ⟨_, rfl⟩
      have HR := Aside0.mk hr
      have HS := Aside0.mk (show ∀ h : i < l.length, l[i] = s from fun _ => hs)
      have HLT := Aside0.mk hlt
      have hib : (i : Int) ≤ 1000000 := by have := HL.out; omega
      clear hlt hs er hr
      cases r with
      | true =>
        go_wp2_with (go_at_call 71; (with_reducible refine (fam_cl s _ _ HR.out).mono ?_); rintro e w1 ⟨rfl, hb⟩; have HB1 := Aside0.mk (below_step HB.out hb); clear hb)
        go_roundw
        case rel => exact ⟨i + 1, by go_num, by have := HLT.out; omega, HB1, ⟨fun j hj h => by
          by_cases e : j = i
          · subst e; rw [HS.out h]; exact HR.out
          · exact HAL.out j (by omega) h⟩⟩
        case measure => simp [intOf]; have := HLT.out; omega
      | false =>
        go_wp2_with (go_at_call 71; (with_reducible refine (fam_cl s _ _ HR.out).mono ?_); rintro e w1 ⟨rfl, hb⟩; have HB1 := Aside0.mk (below_step HB.out hb); clear hb)
        go_ret
        refine ⟨_, rfl, ⟨by omega, hib, iff_of_true hi0 ?_⟩, HB1.out⟩
        rw [Bool.eq_false_iff]
        intro h
        have := List.all_eq_true.1 h _ (List.getElem_mem HLT.out)
        rw [HS.out HLT.out, HR.out] at this
        cases this
    · have hltI : ¬ ((i : Int) < (l.length : Int)) := by omega
      have HLT := Aside0.mk hlt
      clear hlt
      go_wp2
      go_ret
      refine ⟨_, rfl, ⟨by omega, by omega, iff_of_false (by omega) ?_⟩, HB.out⟩
      rw [Bool.not_eq_false]
      refine List.all_eq_true.2 fun b hb => ?_
      obtain ⟨j, hj, rfl⟩ := List.getElem_of_mem hb
      exact HAL.out j (by have := HLT.out; omega) hj
set_option maxHeartbeats 2000000 in
set_option maxRecDepth 100000 in
theorem fam_cont (A : Option Addr) (c : Nat) (l : List ByteArray) (w : World) (hC : Kd.C Kd.string w A l.length l) (hl : l.length ≤ 1000000) (r : Bool) (hr : famB l = r) :
    Calls Try.prog 63 #[.slice A l.length c, .func (.func 71) #[] #[]] w fun e w' => e = .returned (.bool (!r)) ∧ Below w.heap.size w w' := by
  have H := Aside0.mk (fam_idx A c l w hC hl)
  have HR := Aside0.mk hr
  clear hC hl hr
  cases r with
  | true =>
    go_enter Try.func63, Try.ntmps63
    go_wp2_with (go_at_call 77; (with_reducible refine H.out.mono ?_); rintro e w1 ⟨r, rfl, HR2, hb⟩; have HB := Aside0.mk hb; have hr0 : decide (0 ≤ r) = false := decide_eq_false (fun h => by have := HR2.out.2.2.1 h; rw [HR.out] at this; cases this); clear hb)
    go_ret
    exact ⟨rfl, HB.out⟩
  | false =>
    go_enter Try.func63, Try.ntmps63
    go_wp2_with (go_at_call 77; (with_reducible refine H.out.mono ?_); rintro e w1 ⟨r, rfl, HR2, hb⟩; have HB := Aside0.mk hb; have hr0 : decide (0 ≤ r) = true := decide_eq_true (HR2.out.2.2.2 HR.out); clear hb)
    go_ret
    exact ⟨rfl, HB.out⟩
set_option maxHeartbeats 2000000 in
set_option maxRecDepth 100000 in
theorem fam_any (A : Option Addr) (c : Nat) (l : List ByteArray) (w : World) (hC : Kd.C Kd.string w A l.length l) (hl : l.length ≤ 1000000) (r : Bool) (hr : (decide (l.length ≤ 4) && famB l) = r) :
    Calls Try.prog 58 #[.slice A l.length c] w fun e w' => e = .returned (.bool r) ∧ Below w.heap.size w w' := by
  obtain ⟨v, hv⟩ : ∃ v, famB l = v := ⟨_, rfl⟩
  have H := Aside0.mk (fam_cont A c l w hC hl v hv)
  rw [hv] at hr
  subst hr
  by_cases h4 : l.length ≤ 4
  · have h1 : (l.length : Int) ≤ 4 := by omega
    clear hv hl hC
    go_enter Try.func58, Try.ntmps58
    go_wp2_with (go_at_call 63; (with_reducible refine H.out.mono ?_); rintro e w1 ⟨rfl, hb⟩; have HB := Aside0.mk hb; clear hb)
    go_ret
    exact ⟨by simp [h4], HB.out⟩
  · have h1 : ¬ ((l.length : Int) ≤ 4) := by omega
    clear hv hl hC
    go_enter Try.func58, Try.ntmps58
    go_wp2
    go_ret
    exact ⟨by simp [h4], Below.refl _ _⟩
end Go.Proofs.Ytagdbadljcongaa.X
end

section
/- How many different subsequences there are. -/
set_option linter.unusedVariables false
set_option linter.unusedSimpArgs false
namespace Go.Proofs.Ytagdbadljcongaa.X
open Go.RowKit Go.Proofs.YtagdbadljcongaaW.PrintWords
theorem nxl_cons (b : Nat) (l : List Nat) (c : Nat) : nxl (b :: l) c = if b = c then 0 else nxl l c + 1 := rfl
/-- The numbers for all suffixes. -/
def cntL : List Nat → List Nat
  | [] => [1]
  | b :: l =>
    let t := fun c => if nxl (b :: l) c < l.length + 1 then (cntL l).getD (nxl (b :: l) c) 0 else 0
    (1 + t 97 + t 98 + t 99 + t 100) :: cntL l
def cs (l : List Nat) : Nat := (cntL l).headD 0
theorem cntL_get : ∀ (l : List Nat) (p : Nat), p ≤ l.length → (cntL l).getD p 0 = cs (l.drop p)
  | [], p, h => by
    obtain rfl : p = 0 := by simpa using h
    rfl
  | b :: l, 0, h => rfl
  | b :: l, p + 1, h => by
    show (cntL l).getD p 0 = _
    rw [cntL_get l p (by simpa using h)]; rfl
/-- What follows after a letter, if it occurs. -/
def term (l : List Nat) (c : Nat) : Nat := if nxl l c < l.length then cs (l.drop (nxl l c + 1)) else 0
def psum (l : List Nat) : Nat → Nat
  | 0 => 1
  | k + 1 => psum l k + term l (97 + k)
theorem psum_succ (l : List Nat) (k : Nat) : psum l (k + 1) = psum l k + term l (97 + k) := rfl
theorem cs_nil : cs [] = 1 := rfl
theorem cs_eq (l : List Nat) : cs l = psum l 4 := by
  cases l with
  | nil => rfl
  | cons b l =>
    have ht : ∀ c, (if nxl (b :: l) c < l.length + 1 then (cntL l).getD (nxl (b :: l) c) 0 else 0) = term (b :: l) c := by
      intro c
      unfold term
      rw [List.length_cons]
      split
      · rename_i h
        rw [cntL_get l _ (by omega)]; rfl
      · rfl
    show 1 + _ + _ + _ + _ = 1 + _ + _ + _ + _
    rw [← ht, ← ht, ← ht, ← ht]
theorem psum_mono (l : List Nat) {i j : Nat} (h : i ≤ j) : psum l i ≤ psum l j := by
  induction j with
  | zero =>
    obtain rfl : i = 0 := by omega
    exact Nat.le_refl _
  | succ j ih =>
    rcases Nat.lt_or_ge i (j + 1) with h1 | h1
    · exact Nat.le_trans (ih (by omega)) (Nat.le_add_right _ _)
    · obtain rfl : i = j + 1 := by omega
      exact Nat.le_refl _
theorem term_cons_same (b : Nat) (l : List Nat) : term (b :: l) b = cs l := by
  unfold term
  rw [nxl_cons, if_pos rfl, if_pos (by simp)]
  rfl
theorem term_cons_other {b c : Nat} (l : List Nat) (h : b ≠ c) : term (b :: l) c = term l c := by
  unfold term
  rw [nxl_cons, if_neg h, List.length_cons]
  by_cases h1 : nxl l c < l.length
  · rw [if_pos (by omega), if_pos h1]; rfl
  · rw [if_neg (by omega), if_neg h1]
theorem cs_sum (l : List Nat) : cs l = 1 + term l 97 + term l 98 + term l 99 + term l 100 := cs_eq l
theorem cs_cons_le (b : Nat) (l : List Nat) : cs (b :: l) ≤ 2 * cs l := by
  have h0 := cs_sum (b :: l)
  have h1 := cs_sum l
  have key : ∀ c, term (b :: l) c = if b = c then cs l else term l c := by
    intro c
    split
    · rename_i e; subst e; exact term_cons_same b l
    · rename_i e; exact term_cons_other l e
  rw [key, key, key, key] at h0
  repeat' split at h0
  all_goals omega
theorem cs_le : ∀ l : List Nat, cs l ≤ 2 ^ l.length
  | [] => by decide
  | b :: l => by
    have h1 := cs_cons_le b l
    have h2 := cs_le l
    rw [List.length_cons, Nat.pow_succ]; omega
theorem cs_pos (l : List Nat) : 1 ≤ cs l := by rw [cs_sum]; omega
theorem pow60 {n : Nat} (h : n ≤ 60) : 2 ^ n ≤ 1152921504606846976 := Nat.le_trans (Nat.pow_le_pow_right (by decide) h) (by decide)
theorem cs_60 {l : List Nat} (h : l.length ≤ 60) : cs l ≤ 1152921504606846976 := Nat.le_trans (cs_le l) (pow60 h)
/-- At a place in a word. -/
theorem term_at (l : List Nat) (i c : Nat) (h : i ≤ l.length) : term (l.drop i) c = if nx l i c < l.length then cs (l.drop (nx l i c + 1)) else 0 := by
  unfold term nx
  rw [List.length_drop, List.drop_drop]
  by_cases h1 : i + nxl (l.drop i) c < l.length
  · rw [if_pos h1, if_pos (by omega), Nat.add_assoc]
  · rw [if_neg h1, if_neg (by omega)]
/-- The numbers from each place on. -/
def cntF (l : List Nat) (j : Nat) : Int := if j ≤ l.length then (cs (l.drop j) : Int) else 0
end Go.Proofs.Ytagdbadljcongaa.X
end

section
/- A word within another one: the first positions; the rank of a subsequence. -/
set_option linter.unusedVariables false
set_option linter.unusedSimpArgs false
namespace Go.Proofs.Ytagdbadljcongaa.X
open Go.RowKit Go.Proofs.YtagdbadljcongaaW.PrintWords
/-- The first positions of u in l from a place on. -/
def wth (l : List Nat) : Nat → List Nat → Option (List Nat)
  | _, [] => some []
  | i, c :: u => if nx l i c < l.length then (wth l (nx l i c + 1) u).map (nx l i c :: ·) else none
/-- The sum over the letters before one. -/
def less (l : List Nat) : Nat → Nat
  | 0 => 0
  | k + 1 => less l k + term l (97 + k)
/-- The rank of u among the subsequences of what follows place i. -/
def idx (l : List Nat) : Nat → List Nat → Option Nat
  | _, [] => some 0
  | i, c :: u => if nx l i c < l.length then (idx l (nx l i c + 1) u).map (1 + less (l.drop i) (c - 97) + ·) else none
theorem psum_less (l : List Nat) (k : Nat) : psum l k = 1 + less l k := by
  induction k with
  | zero => rfl
  | succ k ih => rw [psum_succ, ih, show less l (k + 1) = less l k + term l (97 + k) from rfl]; omega
end Go.Proofs.Ytagdbadljcongaa.X
end

section
/- Counting the words without some subsequences, as the program does it. -/
set_option linter.unusedVariables false
set_option linter.unusedSimpArgs false
namespace Go.Proofs.Ytagdbadljcongaa.X
open Go.RowKit Go.Proofs.YtagdbadljcongaaW.PrintWords
/-- The marks behind one letter more (x), from the i-th word on; none: a word is complete. -/
def aftL : List (List Nat) → Nat → List Nat → Nat → Option (List Nat)
  | [], _, m, _ => some m
  | w :: ws, i, m, x =>
    if w[m.getD i 0]? = some x then
      if m.getD i 0 + 1 = w.length then none else aftL ws (i + 1) (m.set i (m.getD i 0 + 1)) x
    else aftL ws (i + 1) m x
/-- Marks within the words (those from the i-th on are ws). -/
structure MOk (W : List (List Nat)) (m : List Nat) : Prop where
  len : m.length = 4
  lt : ∀ i, ∀ h : i < W.length, m.getD i 0 < (W[i]).length
  le : ∀ x ∈ m, x ≤ 8
theorem aftL_step {W : List (List Nat)} {i : Nat} {m : List Nat} {x : Nat} (h : i < W.length) : aftL (W.drop i) i m x =
    if (W[i])[m.getD i 0]? = some x then (if m.getD i 0 + 1 = (W[i]).length then none else aftL (W.drop (i + 1)) (i + 1) (m.set i (m.getD i 0 + 1)) x) else aftL (W.drop (i + 1)) (i + 1) m x := by
  rw [List.drop_eq_getElem_cons h]
  rfl
theorem getD_set (m : List Nat) (i j v : Nat) : (m.set i v).getD j 0 = if i = j ∧ i < m.length then v else m.getD j 0 := by
  simp only [List.getD_eq_getElem?_getD, List.getElem?_set]
  by_cases h : i = j
  · subst h
    by_cases h2 : i < m.length <;> simp [h2]
  · simp [h]
theorem MOk.set {W : List (List Nat)} {m : List Nat} (h : MOk W m) {i : Nat} (hi : i < W.length) (h8 : (W[i]).length ≤ 8) (hn : m.getD i 0 + 1 ≠ (W[i]).length) : MOk W (m.set i (m.getD i 0 + 1)) := by
  refine ⟨by rw [List.length_set]; exact h.len, fun j hj => ?_, fun x hx => ?_⟩
  · rw [getD_set]
    split
    · rename_i e
      obtain ⟨rfl, _⟩ := e
      have := h.lt i hi
      omega
    · exact h.lt j hj
  · rcases List.mem_or_eq_of_mem_set hx with e | e
    · exact h.le x e
    · have := h.lt i hi; omega
theorem aftL_ok {W : List (List Nat)} (h8 : ∀ w ∈ W, w.length ≤ 8) (x : Nat) : ∀ (k i : Nat) (m m' : List Nat), W.length - i = k → MOk W m → aftL (W.drop i) i m x = some m' → MOk W m'
  | 0, i, m, m', hk, hm, h => by
    rw [List.drop_eq_nil_of_le (by omega)] at h
    injection h with h
    subst h; exact hm
  | k + 1, i, m, m', hk, hm, h => by
    have hi : i < W.length := by omega
    rw [aftL_step hi] at h
    split at h
    · split at h
      · cases h
      · exact aftL_ok h8 x k (i + 1) _ m' (by omega) (hm.set hi (h8 _ (List.getElem_mem hi)) (by assumption)) h
    · exact aftL_ok h8 x k (i + 1) _ m' (by omega) hm h
def aft (W : List (List Nat)) (m : List Nat) (x : Nat) : Option (List Nat) := aftL W 0 m x
theorem aft_ok {W : List (List Nat)} (h8 : ∀ w ∈ W, w.length ≤ 8) {x : Nat} {m m' : List Nat} (hm : MOk W m) (h : aft W m x = some m') : MOk W m' := aftL_ok h8 x _ 0 m m' rfl hm (by rw [List.drop_zero]; exact h)
/-- What the first c letters make of marks. -/
def gos (W : List (List Nat)) (m : List Nat) (c : Nat) : List (List Nat) := (List.range c).filterMap fun d => aft W m (97 + d)
theorem gos_succ (W : List (List Nat)) (m : List Nat) (c : Nat) : gos W m (c + 1) = gos W m c ++ (aft W m (97 + c)).toList := by
  unfold gos
  rw [List.range_succ, List.filterMap_append]
  congr 1
theorem gos_len (W : List (List Nat)) (m : List Nat) (c : Nat) : (gos W m c).length ≤ c := by
  have := List.length_filterMap_le (fun d => aft W m (97 + d)) (List.range c)
  simpa [gos] using this
/-- The marks of all words of a length, each as often as it comes. -/
def lev (W : List (List Nat)) (k : Nat) : Nat → List (List Nat)
  | 0 => if [] ∈ W then [] else [[0, 0, 0, 0]]
  | n + 1 => (lev W k n).flatMap fun m => gos W m k
/-- How many words of each length there are. -/
def freeL (W : List (List Nat)) (k n : Nat) : List Nat := (List.range (n + 1)).map fun l => (lev W k l).length
theorem flat_le {S : List (List Nat)} {g : List Nat → List (List Nat)} {k : Nat} (h : ∀ m ∈ S, (g m).length ≤ k) : (S.flatMap g).length ≤ S.length * k := by
  induction S with
  | nil => simp
  | cons a r ih =>
    have h1 := h a (by simp)
    have h2 := ih (fun m hm => h m (by simp [hm]))
    simp only [List.flatMap_cons, List.length_append, List.length_cons, Nat.add_mul, Nat.one_mul]
    omega
theorem lev_le (W : List (List Nat)) (k : Nat) (hk : k ≤ 4) : ∀ n, (lev W k n).length ≤ 4 ^ n
  | 0 => by unfold lev; split <;> simp
  | n + 1 => by
    have h1 := flat_le (S := lev W k n) (g := fun m => gos W m k) (k := 4) (fun m _ => Nat.le_trans (gos_len W m k) hk)
    have h2 := lev_le W k hk n
    show ((lev W k n).flatMap fun m => gos W m k).length ≤ 4 ^ (n + 1)
    rw [Nat.pow_succ]
    exact Nat.le_trans h1 (Nat.mul_le_mul_right 4 h2)
theorem lev_ok {W : List (List Nat)} (h8 : ∀ w ∈ W, w.length ≤ 8) (k : Nat) : ∀ n, ∀ m ∈ lev W k n, MOk W m
  | 0, m, hm => by
    unfold lev at hm
    split at hm
    · cases hm
    · rename_i hn
      rw [List.mem_singleton] at hm
      subst hm
      refine ⟨rfl, fun i hi => ?_, by simp⟩
      have h0 : (W[i]).length ≠ 0 := fun e => hn (by rw [← List.eq_nil_of_length_eq_zero e]; exact List.getElem_mem hi)
      have : ([0, 0, 0, 0] : List Nat).getD i 0 = 0 := by
        simp only [List.getD_eq_getElem?_getD]
        rcases i with _ | _ | _ | _ | i <;> rfl
      rw [this]; omega
  | n + 1, m, hm => by
    obtain ⟨a, ha, h⟩ := List.mem_flatMap.1 hm
    obtain ⟨d, _, hd⟩ := List.mem_filterMap.1 h
    exact aft_ok h8 (lev_ok h8 k n a ha) hd
/-- What has come of some marks, each taken as often as S has it. -/
def acc (S : List (List Nat)) (g : List Nat → List (List Nat)) (V : List (List Nat)) : List (List Nat) := V.flatMap fun m => (g m).flatMap fun t => List.replicate (S.count m) t
theorem sum_one {V : List (List Nat)} (hn : V.Nodup) {x : List Nat} (hx : x ∈ V) (h : List Nat → Nat) : (V.map fun m => (if m = x then 1 else 0) * h m).sum = h x := by
  induction V with
  | nil => cases hx
  | cons a r ih =>
    obtain ⟨h1, h2⟩ := List.nodup_cons.1 hn
    simp only [List.map_cons, List.sum_cons]
    by_cases e : a = x
    · subst e
      have h0 : (r.map fun m => (if m = a then 1 else 0) * h m).sum = 0 := by
        clear ih hx hn h2
        induction r with
        | nil => rfl
        | cons b t ih =>
          have : b ≠ a := fun e => h1 (by simp [e])
          simp only [List.map_cons, List.sum_cons, if_neg this, Nat.zero_mul, Nat.zero_add]
          exact ih (fun hm => h1 (by simp [hm]))
      rw [if_pos rfl, h0]; simp
    · rw [if_neg e, ih h2 (by simpa [Ne.symm e] using hx)]; simp
theorem sum_cover {V : List (List Nat)} (hn : V.Nodup) (h : List Nat → Nat) : ∀ S : List (List Nat), (∀ x ∈ S, x ∈ V) → (V.map fun m => S.count m * h m).sum = (S.map h).sum
  | [], _ => by
    have : ∀ V : List (List Nat), (V.map fun m => ([] : List (List Nat)).count m * h m).sum = 0 := by
      intro V; induction V with
      | nil => rfl
      | cons a r ih => simp only [List.map_cons, List.sum_cons, List.count_nil, Nat.zero_mul, Nat.zero_add]; simpa using ih
    exact this V
  | x :: r, hs => by
    have ih := sum_cover hn h r (fun y hy => hs y (by simp [hy]))
    have h1 := sum_one hn (hs x (by simp)) h
    rw [List.map_cons, List.sum_cons, ← ih, ← h1]
    clear ih h1 hs hn
    induction V with
    | nil => rfl
    | cons a t ih =>
      simp only [List.map_cons, List.sum_cons]
      rw [ih, List.count_cons]
      have : (if (x == a) = true then 1 else 0) = (if a = x then 1 else 0 : Nat) := by
        by_cases e : a = x
        · subst e; simp
        · rw [if_neg e, if_neg (by simpa using Ne.symm e)]
      rw [this, Nat.add_mul]
      omega
theorem sum_sub {V : List (List Nat)} (hn : V.Nodup) (S : List (List Nat)) : (V.map fun m => S.count m).sum ≤ S.length := by
  have h := sum_cover hn (fun _ => 1) (S.filter fun x => decide (x ∈ V)) (fun x hx => by simpa using (List.mem_filter.1 hx).2)
  have e : (V.map fun m => S.count m) = V.map fun m => (S.filter fun x => decide (x ∈ V)).count m * 1 := by
    refine List.map_congr_left fun m hm => ?_
    rw [Nat.mul_one, List.count_filter (by simpa using hm)]
  rw [e, h]
  have h1 : ∀ L : List (List Nat), (L.map fun _ => 1).sum = L.length := fun L => by
    induction L with
    | nil => rfl
    | cons a r ih => simp only [List.map_cons, List.sum_cons, List.length_cons, ih]; omega
  rw [h1]
  exact List.length_filter_le _ _
theorem count_rep (n : Nat) (a : List Nat) : ∀ L : List (List Nat), (L.flatMap fun t => List.replicate n t).count a = n * L.count a
  | [] => by simp
  | x :: r => by
    rw [List.flatMap_cons, List.count_append, count_rep n a r, List.count_cons, List.count_replicate, Nat.mul_add]
    by_cases e : x = a
    · subst e; simp; omega
    · have : (x == a) = false := by simpa using e
      simp [this]
theorem length_rep (n : Nat) : ∀ L : List (List Nat), (L.flatMap fun t => List.replicate n t).length = n * L.length
  | [] => by simp
  | x :: r => by rw [List.flatMap_cons, List.length_append, length_rep n r, List.length_cons, List.length_replicate, Nat.mul_succ]; omega
theorem count_acc (S : List (List Nat)) (g : List Nat → List (List Nat)) (a : List Nat) : ∀ V : List (List Nat), (acc S g V).count a = (V.map fun m => S.count m * (g m).count a).sum
  | [] => by simp [acc]
  | x :: r => by
    have ih := count_acc S g a r
    unfold acc at ih ⊢
    rw [List.flatMap_cons, List.count_append, ih, count_rep]
    rfl
theorem count_flat (g : List Nat → List (List Nat)) (a : List Nat) : ∀ S : List (List Nat), (S.flatMap g).count a = (S.map fun m => (g m).count a).sum
  | [] => by simp
  | x :: r => by rw [List.flatMap_cons, List.count_append, count_flat g a r]; rfl
theorem acc_count {S V : List (List Nat)} (hn : V.Nodup) (hs : ∀ x ∈ S, x ∈ V) (g : List Nat → List (List Nat)) (a : List Nat) : (acc S g V).count a = (S.flatMap g).count a := by
  rw [count_acc, count_flat]
  exact sum_cover hn (fun m => (g m).count a) S hs
theorem acc_snoc (S : List (List Nat)) (g : List Nat → List (List Nat)) (V : List (List Nat)) (m : List Nat) : acc S g (V ++ [m]) = acc S g V ++ (g m).flatMap fun t => List.replicate (S.count m) t := by
  unfold acc
  rw [List.flatMap_append]
  simp
theorem acc_le (S : List (List Nat)) (g : List Nat → List (List Nat)) (k : Nat) : ∀ V : List (List Nat), (∀ m ∈ V, (g m).length ≤ k) → (acc S g V).length ≤ k * (V.map fun m => S.count m).sum
  | [], _ => by simp [acc]
  | x :: r, h => by
    have ih := acc_le S g k r (fun m hm => h m (by simp [hm]))
    unfold acc at ih ⊢
    rw [List.flatMap_cons, List.length_append, length_rep, List.map_cons, List.sum_cons, Nat.mul_add]
    have h1 := Nat.mul_le_mul_left (S.count x) (h x (by simp))
    rw [Nat.mul_comm (S.count x) k] at h1
    omega
end Go.Proofs.Ytagdbadljcongaa.X
end
