/- Texts behind TestsMore, part 19: contracts of the program's functions and the plain words for them. -/
import Derived.ChangeKeysEq
import Derived.Test.YtekmiepdodaidaaDoorProg
import Derived.Below
import Derived.Deep.Draws
import Derived.Deep.AppendLies
import Derived.Maps.AppendAt
import Derived.OwnWalk
import Derived.Laws.BytesArg
import Derived.Laws.MakeOwn
import Derived.Laws.OwnMore
import Derived.Deep.OwnRows
import Derived.Tactics
import Derived.Lib.ConvBytes
import Derived.Laws.Slices
import Derived.WalkKit
import Derived.KernelRfl
import Derived.RowKit3
import Derived.Deep.LoopGhost
import Derived.Deep.QuietTactic
import Derived.BigQuiet
import Derived.WideLaws
import Derived.Deep.DeepCutAuto
import Derived.Deep.CutBlock
import Derived.Deep.RegionHeld3
import Derived.Laws.Rows
import Derived.Lib.AppendStr
import Derived.ArgAppend
import Derived.Laws.IdiomCopy
import Derived.OrdersHeld
import Derived.Laws.BitsLemmas
import Derived.RowKit
import Derived.Maps.OwnSet
import Derived.Maps.RangeWalk
import Derived.Shelf.Spec.TrailingZeros
import Derived.Laws.BitsAllLaws
import Derived.Laws.EntriesVeiled
import Derived.Test.YtekmiepdodaidaaDoorTpaa
import Derived.Test.YtekmiepdodaidaaDoorTpab
import Derived.Test.YtekmiepdodaidaaDoorTpac
import Derived.Test.YtekmiepdodaidaaDoorTpae
import Derived.Test.YtekmiepdodaidaaDoorTpag
import Derived.Test.YtekmiepdodaidaaDoorTpah
import Derived.Test.YtekmiepdodaidaaDoorTpai
import Derived.Test.YtekmiepdodaidaaDoorTpaj
import Derived.Test.YtekmiepdodaidaaDoorTpal
import Derived.Test.YtekmiepdodaidaaDoorTpam
import Derived.Test.YtekmiepdodaidaaDoorTpan
import Derived.Test.YtekmiepdodaidaaDoorTpap
import Derived.Test.YtekmiepdodaidaaDoorTpaq
import Derived.Test.YtekmiepdodaidaaDoorTpar
section
/- Small laws of this session: '==' of a [2]int and of a [3]int, as one Bool. -/
set_option linter.unusedVariables false
set_option linter.unusedSimpArgs false
namespace Go.Proofs.YtekmiepdodaidaaDoor.X
open Go.RowKit
/-- The walk's goal held back: what stands behind a cut. -/
theorem hold_ {p : Prop} (h : ∀ q : Prop, Go.Proofs.YtekmiepdodaidaaDoorW.PrintWords.Aside0 (p → q) → q) : p := h p ⟨id⟩
/-- New blocks and draws. -/
inductive Steps : World → World → Prop
 | refl (w : World) : Steps w w
 | alloc {w w' : World} (h : Steps w w') (o : Obj) : Steps w (w'.alloc o)
 | drewN {w w' : World} (h : Steps w w') (n : Nat) : Steps w (w'.drewN n)
 | drew {w w' : World} (h : Steps w w') : Steps w w'.drew
section
open Go.Proofs.YtekmiepdodaidaaDoorW.PrintWords
theorem Steps.bel {w w' : World} (h : Steps w w') : Below w.heap.size w w' := by
 induction h with
 | refl => exact Below.refl _ _
 | alloc h o ih => exact below_alloc ih o
 | drewN h n ih => exact pw_below_drewN ih n
 | drew h ih => exact below_drew ih
variable {α : Type} {d : Kd α} {e : Nat} {w w' : World} {base : Nat} {ok : Nat → Prop} {v : Value} {xs : List α}
theorem rz (h : Kd.R d e w base ok v xs) (s : Steps w w' := by with_reducible repeat (first | exact Steps.refl _ | apply Steps.alloc | apply Steps.drewN | apply Steps.drew)) : Kd.R d e w' base ok v xs := Kd.R_below h s.bel
theorem kz {g : Nat} {o : Obj} (h : w.heap[g]? = some o) (s : Steps w w' := by with_reducible repeat (first | exact Steps.refl _ | apply Steps.alloc | apply Steps.drewN | apply Steps.drew)) : w'.heap[g]? = some o := blk_below h s.bel
theorem cz {A : Option Addr} {n : Nat} (h : Kd.C d w A n xs) (s : Steps w w' := by with_reducible repeat (first | exact Steps.refl _ | apply Steps.alloc | apply Steps.drewN | apply Steps.drew)) : Kd.C d w' A n xs := Kd.C_below h s.bel
theorem sz (h : Kd.S d e w base ok v xs) (s : Steps w w' := by with_reducible repeat (first | exact Steps.refl _ | apply Steps.alloc | apply Steps.drewN | apply Steps.drew)) : Kd.S d e w' base ok v xs := Kd.S_below h s.bel
theorem kb {w2 : World} {g : Nat} {o : Obj} (h : w.heap[g]? = some o) (hb : Below w'.heap.size w' w2) (s : Steps w w' := by with_reducible repeat (first | exact Steps.refl _ | apply Steps.alloc | apply Steps.drewN | apply Steps.drew)) : w2.heap[g]? = some o := blk_below (blk_below h s.bel) hb
theorem kl {g : Nat} {o : Obj} (h : w.heap[g]? = some o) (s : Steps w w' := by with_reducible repeat (first | exact Steps.refl _ | apply Steps.alloc | apply Steps.drewN | apply Steps.drew)) : g < w'.heap.size := blk_lt (blk_below h s.bel)
theorem az {p : Prop} (h : p := by first | (with_reducible assumption) | assumption) : p := h
theorem bz {B : Nat} (h : Below B w w' := by repeat (first | (with_reducible first | exact HB.out | apply below_alloc | apply pw_below_drewN | apply below_drew1 | refine below_set ?_ (Aside0.out (by assumption))) | exact HB.out)) : Below B w w' := h
theorem dz {β : Type} {y z : β} (h : y = z := by (try simp only [List.map_toArray, List.map_cons, List.map_nil]); first | done | rfl | (simp only [List.length_drop, List.length_take]; rfl)) : y = z := h
end
section
variable {P : Program} {T E : TypeId}
theorem part_int (hE : P.underlying E = some (.int .i64)) (cs : Array Value) (j : Nat) (v : Value) (W : World) (h : cs[j]? = some v) : (part E cs j).run P W = .ok v W := by
 simp [part, isAgg, run_underlying hE, h]
theorem eq_int (hE : P.underlying E = some (.int .i64)) (d : Nat) (x y : Int) (W : World) : (Op.equalIn (d + 1) E (.int .i64 x) (.int .i64 y)).run P W = .ok (x == y) W := by
 simp [Op.equalIn, run_underlying hE]
theorem eqArr_2 (hT : P.underlying T = some (.array 2 E)) (hE : P.underlying E = some (.int .i64)) (hs : (P.info? E).map (·.size) = some 1) (d : Nat) (w : World) (x0 y0 x1 y1 : Int) :
  (Op.equalIn (d + 2) T (.agg #[.int .i64 x0, .int .i64 x1]) (.agg #[.int .i64 y0, .int .i64 y1])).run P w = .ok (x0 == y0 && (x1 == y1)) w := by
 obtain ⟨i, hi, hz⟩ := Option.map_eq_some_iff.1 hs
 have hc : P.cellsOf E = 1 := by simp [Program.cellsOf, hi, hz]
 rw [run_equalIn_array w (d + 1) _ _ hT hi, hc]
 have hr : List.range 2 = [0, 1] := rfl
 simp only [hr, Op.eqItems, Sem.run_bind, Nat.zero_mul, Nat.mul_one]
 rw [part_int hE _ 0 (.int .i64 x0) w rfl]
 simp only [Result.andThen_ok]
 rw [part_int hE _ 0 (.int .i64 y0) w rfl]
 simp only [Result.andThen_ok, eq_int hE]
 have a1 := part_int hE #[.int .i64 x0, .int .i64 x1] 1 (.int .i64 x1) w rfl
 have b1 := part_int hE #[.int .i64 y0, .int .i64 y1] 1 (.int .i64 y1) w rfl
 by_cases h0 : x0 = y0 <;> by_cases h1 : x1 = y1 <;> simp [h0, h1, a1, b1, eq_int hE] <;> simp_all [eq_int hE]
end
end Go.Proofs.YtekmiepdodaidaaDoor.X
end

section
namespace Go.Proofs.YtekmiepdodaidaaDoor.X
open Go.RowKit Go.Proofs.YtekmiepdodaidaaDoorW.PrintWords Go.Proofs.YtekmiepdodaidaaDoorW.PrintLast Go.Proofs.YtekmiepdodaidaaDoorW.PrintMore
attribute [local go_sem] max2_int min2_int max_two min_two max_three min_three max_four min_four   -- for this text's walks alone
set_option linter.unusedVariables false
set_option linter.unusedSimpArgs false



def errW : Option Int → Value
 | none => .nilIface
 | some c => .iface 0 (.int .i64 c)
theorem errW_none : errW none = .nilIface := rfl
theorem errW_some (c : Int) : errW (some c) = .iface 0 (.int .i64 c) := rfl

theorem info3 : (Tryd.prog.info? 3).map (fun i => (i.zero, i.size, i.bytes)) = some (some (.int .i64 0), 1, 8) := by kernel_rfl
theorem info22 : (Tryd.prog.info? 22).map (fun i => (i.zero, i.size, i.bytes)) = some (some (.slice none 0 0), 1, 24) := by kernel_rfl
def rd_L1 (xs : List (List Int)) (i : Int) : (List Int) := xs.getD i.toNat ([] : List Int)
theorem at_L1 {w : World} {A : Option Addr} {n : Nat} {xs : List (List Int)} (h : Kd.C (Kd.slice 3 (Kd.int .i64)) w A n xs) (i : Int) (h0 : 0 ≤ i) (h1 : i < n) : ∃ ad A0 c0, A = some ad ∧ w.cell? (ad.add i.toNat) = some (.slice A0 (rd_L1 xs i).length c0) ∧ (rd_L1 xs i).length ≤ c0 ∧ (Kd.int .i64).C w A0 (rd_L1 xs i).length (rd_L1 xs i) := by
 obtain ⟨ad, c, e, _, hK, hc0⟩ := Kd.C_get h ([] : List Int) i h0 h1
 have hc : ∀ j u, c[j]? = some u → w.cell? (ad.add (i.toNat * 1 + j)) = some u := hc0
 obtain ⟨A0, c0, rfl, l0, g0⟩ := hK
 exact ⟨ad, A0, c0, e, by have hq := hc 0 _ rfl; rwa [Nat.mul_one, Nat.add_zero] at hq, l0, g0⟩

structure S53 where
 f0 : Int
 f1 : Int
def z53 : S53 := ⟨(0 : Int), (0 : Int)⟩
def k53 : Kd S53 := Kd.iso (Kd.pair (Kd.int .i64) (Kd.int .i64)) (fun x : S53 => (x.f0, x.f1))
theorem k53_open {w : World} {x : S53} {cs : List Value} (h : k53.K w x cs) : cs = [.int .i64 x.f0, .int .i64 x.f1] := by
 obtain ⟨_, _, rfl, rfl, rfl⟩ := h
 exact rfl
theorem k53_mk (w : World) (x : S53)  : k53.K w x [.int .i64 x.f0, .int .i64 x.f1] := ⟨[.int .i64 x.f0], [.int .i64 x.f1], rfl, rfl, rfl⟩
theorem k53_mkM (w : World) (base : Nat) (ok : Nat → Prop) (x : S53)  : k53.M w base ok x [.int .i64 x.f0, .int .i64 x.f1] := ⟨[.int .i64 x.f0], [.int .i64 x.f1], rfl, rfl, rfl⟩
def rd_T53 (xs : List S53) (i : Int) : S53 := xs.getD i.toNat z53
theorem at_T53 {w : World} {A : Option Addr} {n : Nat} {xs : List S53} (h : Kd.C k53 w A n xs) (i : Int) (h0 : 0 ≤ i) (h1 : i < n) : ∃ ad , A = some ad ∧ w.cell? (ad.add (i.toNat * 2)) = some (.int .i64 (rd_T53 xs i).f0) ∧ w.cell? ⟨(ad.add (i.toNat * 2)).block, (ad.add (i.toNat * 2)).off + 1, none⟩ = some (.int .i64 (rd_T53 xs i).f1) := by
 obtain ⟨ad, c, e, _, hK, hc0⟩ := Kd.C_get h z53 i h0 h1
 have hc : ∀ j u, c[j]? = some u → w.cell? (ad.add (i.toNat * 2 + j)) = some u := hc0
 obtain rfl := k53_open hK
 exact ⟨ad, e, hc 0 _ rfl, by rw [← add_field _ _ 1 (by omega)]; exact hc 1 _ rfl⟩

structure S57 where
 f0 : Int
 f1 : Int
 f2 : Int
 f3 : Int
def z57 : S57 := ⟨(0 : Int), (0 : Int), (0 : Int), (0 : Int)⟩
def k57 : Kd S57 := Kd.iso (Kd.pair (Kd.int .i64) (Kd.pair (Kd.int .i64) (Kd.pair (Kd.int .i64) (Kd.int .i64)))) (fun x : S57 => (x.f0, x.f1, x.f2, x.f3))
theorem k57_openM {w : World} {base : Nat} {ok : Nat → Prop} {x : S57} {cs : List Value} (h : k57.M w base ok x cs) : cs = [.int .i64 x.f0, .int .i64 x.f1, .int .i64 x.f2, .int .i64 x.f3] := by
 obtain ⟨_, _, rfl, rfl, ⟨_, _, rfl, rfl, ⟨_, _, rfl, rfl, rfl⟩⟩⟩ := h
 exact rfl
theorem k57_mkM (w : World) (base : Nat) (ok : Nat → Prop) (x : S57)  : k57.M w base ok x [.int .i64 x.f0, .int .i64 x.f1, .int .i64 x.f2, .int .i64 x.f3] := ⟨[.int .i64 x.f0], [.int .i64 x.f1, .int .i64 x.f2, .int .i64 x.f3], rfl, rfl, ⟨[.int .i64 x.f1], [.int .i64 x.f2, .int .i64 x.f3], rfl, rfl, ⟨[.int .i64 x.f2], [.int .i64 x.f3], rfl, rfl, rfl⟩⟩⟩
def rd_T57 (xs : List S57) (i : Int) : S57 := xs.getD i.toNat z57
end Go.Proofs.YtekmiepdodaidaaDoor.X
end

section
/- A map's block, told key by key: what is at each key, whatever the elements are. -/
set_option linter.unusedVariables false
set_option linter.unusedSimpArgs false
namespace Go.Proofs.YtekmiepdodaidaaDoor.X
open Go.RowKit Go.Proofs.YtekmiepdodaidaaDoorW.PrintWords Go.Proofs.YtekmiepdodaidaaDoorW.PrintLast Go.Proofs.YtekmiepdodaidaaDoorW.PrintMore
open Go.Maps (Keyed)

/-- Any element: it reads as itself. -/
def anyElem (v : Value) : Option (DataW Value × List MemPlace) := some (.held v, [])
/-- What stands at each key. -/
abbrev KMap := Lit → Option Value
def KMap.put (f : KMap) (k : Lit) (v : Value) : KMap := fun k' => if k'.sameKey k = true then some v else f k'
def KMap.empty : KMap := fun _ => none
theorem KMap.put_same (f : KMap) {k : Lit} (hk : WideAt.IsKeyLit k) (v : Value) : f.put k v k = some v := by unfold KMap.put; rw [if_pos (WideAt.sameKey_self hk)]
theorem KMap.put_other (f : KMap) {k k' : Lit} (h : k' ≠ k) (v : Value) : f.put k v k' = f k' := by unfold KMap.put; rw [if_neg (fun e => h (WideAt.sameKey_eq e))]

/-- Block B of w is a map of at most n entries with f k at each key k. -/
structure MapIs (P : Program) (kt : TypeId) (w : World) (B n : Nat) (f : KMap) : Prop where mk ::
 ex : ∃ D, w.ownsMap P kt anyElem B n D ∧ (∀ kl, Maps.has D kl = (f kl).isSome) ∧ ∀ kl z, D.atKey kl (.held z) = .held ((f kl).getD z)
section
variable {P : Program} {kt : TypeId} {w w' : World} {B n : Nat} {f : KMap}
theorem MapIs.made (w : World) (P : Program) (kt : TypeId) : MapIs P kt (w.alloc (.map #[] 0)) w.heap.size 0 KMap.empty :=
 ⟨⟨.map [], World.ownsMap_made w P kt anyElem, fun _ => rfl, fun _ _ => rfl⟩⟩
theorem MapIs.mono (h : MapIs P kt w B n f) {n' : Nat} (hn : n ≤ n') : MapIs P kt w B n' f := by
 obtain ⟨D, h1, h2⟩ := h.ex
 exact ⟨⟨D, h1.mono hn, h2⟩⟩
theorem MapIs.lt (h : MapIs P kt w B n f) : B < w.heap.size := by
 obtain ⟨D, h1, h2⟩ := h.ex
 exact h1.lt
theorem MapIs.kept (h : MapIs P kt w B n f) {row : Option Nat} (hg : w.grownBy w' row) (hne : some B ≠ row) : MapIs P kt w' B n f := by
 obtain ⟨D, h1, h2⟩ := h.ex
 exact ⟨⟨D, h1.kept hg hne, h2⟩⟩
theorem MapIs.block (h : MapIs P kt w B n f) (hb : w'.heap[B]? = w.heap[B]?) : MapIs P kt w' B n f := by
 obtain ⟨D, ⟨es, clock, he, F⟩, h2⟩ := h.ex
 exact ⟨⟨D, ⟨es, clock, hb.trans he, F⟩, h2⟩⟩
theorem MapIs.below (h : MapIs P kt w B n f) (hb : Below w.heap.size w w') : MapIs P kt w' B n f := h.kept (grown_of_below hb none) (by simp)
theorem MapIs.alloc (h : MapIs P kt w B n f) (o : Obj) : MapIs P kt (w.alloc o) B n f := h.below (below_alloc (Below.refl _ _) o)
theorem MapIs.drewN (h : MapIs P kt w B n f) (m : Nat) : MapIs P kt (w.drewN m) B n f := h.below (pw_below_drewN (Below.refl _ _) m)
theorem MapIs.setCell (h : MapIs P kt w B n f) {a : Addr} (ha : B ≠ a.block) (u : Value) : MapIs P kt (w.setCell a u) B n f := by
 obtain ⟨D, h1, h2⟩ := h.ex
 exact ⟨⟨D, h1.setCell ha u, h2⟩⟩
/-- A map's block is no row of cells. -/
theorem MapIs.ne (h : MapIs P kt w B n f) {g : Nat} {cs : Array Value} {t : TypeId} {m : Nat × Nat} (hg : w.heap[g]? = some (.cells cs t m)) : B ≠ g := by
 obtain ⟨D, ⟨es, clock, hb, _⟩, _⟩ := h.ex
 intro e
 subst e
 rw [hb] at hg
 cases hg
theorem nodup_len {α : Type} : ∀ (l L : List α), l.Pairwise (fun a b => a ≠ b) → (∀ x ∈ l, x ∈ L) → l.length ≤ L.length
 | [], _, _, _ => Nat.zero_le _
 | x :: r, L, h, hs => by
  classical
  obtain ⟨h1, h2⟩ := List.pairwise_cons.1 h
  have hx := hs x (by simp)
  have := nodup_len r (L.erase x) h2 (fun y hy => (List.mem_erase_of_ne (fun e => h1 y hy e.symm)).2 (hs y (by simp [hy])))
  rw [List.length_erase_of_mem hx] at this
  have hp := List.length_pos_of_mem hx
  simp; omega
theorem MapIs.size_le (h : MapIs P kt w B n f) (K : Keyed P kt) (L : List Lit) (hL : ∀ kl, (f kl).isSome = true → kl ∈ L) : MapIs P kt w B L.length f := by
 obtain ⟨D, h1, h2, h3⟩ := h.ex
 refine ⟨⟨D, ?_, h2, h3⟩⟩
 obtain ⟨es', rfl, hp⟩ := h1.tidy K
 obtain ⟨es, clock, hb, F, hs, hD⟩ := h1
 refine ⟨es, clock, hb, F, ?_, hD⟩
 injection hD with hD
 have e1 : es'.length = es.size := by rw [hD, length_sorted]; simp
 have := nodup_len (es'.map (·.1)) L (by rw [List.pairwise_map]; exact hp) (by
  intro x hx
  obtain ⟨p, hp', rfl⟩ := List.mem_map.1 hx
  apply hL
  rw [← h2]
  obtain ⟨y, hy⟩ : ∃ y, (es'.map (·.1))[y]? = some p.1 := by
   obtain ⟨i, hi, e⟩ := List.getElem_of_mem hx
   exact ⟨i, by rw [List.getElem?_eq_getElem hi, e]⟩
  rw [Maps.has_eq, List.any_eq_true]
  refine ⟨p, hp', WideAt.sameKey_self ?_⟩
  have hc := (show w.ownsMap P kt anyElem B n (.map es') from ⟨es, clock, hb, F, hs, by rw [hD]⟩)
  have hk := Maps.fit_keys F
  have hp2 : p ∈ es.toList.map (WideElems.rg P kt anyElem) := by
   have := hD ▸ hp'
   exact (WideShapes.sorted_perm _).mem_iff.1 this
  obtain ⟨v, hv⟩ := hk p hp2
  exact K.key hv)
 rw [List.length_map] at this
 omega
/-- m[k]. -/
theorem MapIs.look (h : MapIs P kt w B n f) {t e : TypeId} (K : Keyed P kt) (ht : P.underlying t = some (.map kt e)) {z : Value} (hz : (zeroValue e).run P w = .ok z w) {key : Value} {kl : Lit} (hkey : keyOf P kt key = some kl) :
  (Instr.lookup t (.map (some B)) key false).run P w = .ok ((f kl).getD z) w := by
 obtain ⟨D, h1, h2, h3⟩ := h.ex
 obtain ⟨v, ps, hrun, hv⟩ := h1.lookup K ht hz (zd := .held z) (zp := []) rfl hkey
 rw [h3] at hv
 injection hv with hv
 injection hv with hv _
 injection hv with hv
 rw [hrun, hv]
theorem MapIs.look_ok (h : MapIs P kt w B n f) {t e : TypeId} (K : Keyed P kt) (ht : P.underlying t = some (.map kt e)) {z : Value} (hz : (zeroValue e).run P w = .ok z w) {key : Value} {kl : Lit} (hkey : keyOf P kt key = some kl) :
  (Instr.lookup t (.map (some B)) key true).run P w = .ok (.tuple #[(f kl).getD z, .bool (f kl).isSome]) w := by
 obtain ⟨D, h1, h2, h3⟩ := h.ex
 obtain ⟨v, ps, hrun, hv⟩ := h1.look_ok K ht hz (zd := .held z) (zp := []) rfl hkey
 rw [h3] at hv
 injection hv with hv
 injection hv with hv _
 injection hv with hv
 rw [hrun, hv, h2]
/-- m[k] = v. -/
theorem MapIs.store (h : MapIs P kt w B n f) {t e : TypeId} (K : Keyed P kt) (ht : P.underlying t = some (.map kt e)) (hn : n < maxLen) {key val : Value} {kl : Lit} (hkey : keyOf P kt key = some kl) :
  ∃ w', (Instr.mapUpdate t (.map (some B)) key val).run P w = .ok () w' ∧ MapIs P kt w' B (n + 1) (f.put kl val) ∧ w.grownBy w' (some B) := by
 obtain ⟨D, h1, h2, h3⟩ := h.ex
 obtain ⟨w', hrun, r1, r2⟩ := h1.update K ht hn hkey (val := val) (d := .held val) (ps := []) rfl
 refine ⟨w', hrun, ⟨⟨_, r1, fun k' => ?_, fun k' z => ?_⟩⟩, r2⟩
 ·by_cases e : k' = kl
  ·subst e
   rw [Maps.has_put_same h1.isMap (K.key hkey), KMap.put_same f (K.key hkey)]; rfl
  ·rw [Maps.has_put_other e, KMap.put_other f e, h2]
 ·by_cases e : k' = kl
  ·subst e
   rw [Maps.atKey_put_same h1.isMap (K.key hkey), KMap.put_same f (K.key hkey)]; rfl
  ·rw [Maps.atKey_put_other e, KMap.put_other f e, h3]
/-- len(m). -/
theorem MapIs.len (h : MapIs P kt w B n f) {t e : TypeId} (K : Keyed P kt) (ht : P.underlying t = some (.map kt e)) (ty : TypeId) :
  ∃ m : Nat, (Builtin.len_ #[t] ty #[.map (some B)]).run P w = .ok (.int .i64 m) w ∧ ∀ L : List Lit, L.Pairwise (fun a b => a ≠ b) → (∀ kl, (f kl).isSome = true ↔ kl ∈ L) → m = L.length := by
 obtain ⟨D, h1, h2, h3⟩ := h.ex
 refine ⟨Maps.size D, h1.len ht ty, fun L hL hiff => ?_⟩
 have hc := h1
 obtain ⟨es', rfl, hp⟩ := h1.tidy K
 have hkey : ∀ p ∈ es', WideAt.IsKeyLit p.1 := by
  intro p hp'
  obtain ⟨es, clock, hb, F, hs, hD⟩ := hc
  injection hD with hD
  have hk := Maps.fit_keys F
  have hp2 : p ∈ es.toList.map (WideElems.rg P kt anyElem) := by
   have := hD ▸ hp'
   exact (WideShapes.sorted_perm _).mem_iff.1 this
  obtain ⟨v, hv⟩ := hk p hp2
  exact K.key hv
 have a1 := nodup_len (es'.map (·.1)) L (by rw [List.pairwise_map]; exact hp) (by
  intro x hx
  obtain ⟨p, hp', rfl⟩ := List.mem_map.1 hx
  rw [← hiff, ← h2, Maps.has_eq, List.any_eq_true]
  exact ⟨p, hp', WideAt.sameKey_self (hkey p hp')⟩)
 have a2 := nodup_len L (es'.map (·.1)) hL (by
  intro x hx
  rw [← hiff, ← h2, Maps.has_eq, List.any_eq_true] at hx
  obtain ⟨p, hp', hs⟩ := hx
  exact List.mem_map.2 ⟨p, hp', WideAt.sameKey_eq hs⟩)
 rw [Maps.size_eq]
 rw [List.length_map] at a1 a2
 omega
end
section
variable {P : Program} (w : World) {ops : Array Oper} {rest : List Oper} {o : Oper} {a : Act} {Q : Exit → Act → World → Prop}
theorem wpList_put_is (hg : o.guard = none) (m x v : Operand) (t : TypeId) (hop : o.op = Op.mapUpdate t m x v) (k e : TypeId) (K : Keyed P k) (ht : P.underlying t = some (.map k e))
  (B n : Nat) (f : KMap) (hm : a.eval m = .map (some B)) (hown : MapIs P k w B n f) (hn : n < maxLen) (key val : Value) (kl : Lit) (hx : a.eval x = key) (hv : a.eval v = val) (hkey : keyOf P k key = some kl)
  (hK : ∀ w', MapIs P k w' B (n + 1) (f.put kl val) → w.grownBy w' (some B) → wpList P ops Q rest (a.put o.dst undef) w') : wpList P ops Q (o :: rest) a w := by
 refine wpList_plain hg fun K' hK' => ?_
 obtain ⟨w', hrun, r1, r2⟩ := hown.store K ht hn hkey (val := val)
 unfold Oper.wp
 simp [execOp, hop, hm, hx, hv, hrun, Result.andThen]
 exact hK' _ _ (hK w' r1 r2)
end
end Go.Proofs.YtekmiepdodaidaaDoor.X
end

section
/- math/bits: OnesCount and TrailingZeros. -/
set_option linter.unusedVariables false
set_option linter.unusedSimpArgs false
namespace Go.Proofs.YtekmiepdodaidaaDoor.X
open Go.RowKit Go.Proofs.YtekmiepdodaidaaDoorW.PrintWords Go.Proofs.YtekmiepdodaidaaDoorW.PrintLast Go.Proofs.YtekmiepdodaidaaDoorW.PrintMore

def pc1 (s : Int) : Int := IntKind.u64.wrap (Go.bits .and .u64 (s / 2) 6148914691236517205 + Go.bits .and .u64 s 6148914691236517205)
def pc2 (s : Int) : Int := IntKind.u64.wrap (Go.bits .and .u64 (s / 4) 3689348814741910323 + Go.bits .and .u64 s 3689348814741910323)
def pc3 (s : Int) : Int := Go.bits .and .u64 (IntKind.u64.wrap (s / 16 + s)) 1085102592571150095
def pc4 (s : Int) : Int := IntKind.u64.wrap (s + s / 256)
def pc5 (s : Int) : Int := IntKind.u64.wrap (s + s / 65536)
def pc6 (s : Int) : Int := IntKind.u64.wrap (s + s / 4294967296)
def pc7 (s : Int) : Int := Go.bits .and .i64 (wrap64 s) 127
/-- How many faults a set has. -/
def pcount (s : Int) : Int := pc7 (pc6 (pc5 (pc4 (pc3 (pc2 (pc1 s))))))

set_option maxRecDepth 100000 in
theorem ones77 (s : Int) (w : World) : Calls Tryd.prog 77 #[.int .u64 s] w fun e w' => e = .returned (.int .i64 (pcount s)) ∧ w = w' := by
 go_enter Tryd.func77, Tryd.ntmps77
 go_wp2
 go_ret
 exact ⟨rfl, rfl⟩
theorem ones_n (s : Int) (hs : IntKind.u64.wrap s = s) (w : World) : Calls Tryd.prog 69 #[.int .u64 s] w fun e w' => e = .returned (.int .i64 (pcount s)) ∧ w = w' := by
 have hs' := hs
 go_enter Tryd.func69, Tryd.ntmps69
 go_wp2_with (go_at_call 77; refine (ones77 _ _).mono ?_; rintro e w' ⟨rfl, rfl⟩)
 go_ret
 exact ⟨rfl, rfl⟩
set_option maxRecDepth 100000 in
theorem tz79 (s : Int) (w : World) (k idx : Nat) (hx0 : (s == 0) = false) (key : IntKind.u64.wrap (bits BinOp.and IntKind.u64 s (IntKind.u64.wrap (-s)) * 285870213051353865) / 288230376151711744 = (idx : Int))
  (hi : idx < 64) (hk : k < 64) (hcell : w.cell? ⟨1, idx, none⟩ = some (.int .u8 k)) : Calls Tryd.prog 79 #[.int .u64 s] w fun e w' => e = .returned (.int .i64 k) ∧ w = w' := by
 go_enter Tryd.func79, Tryd.ntmps79
 go_wp2_with (simp only [key])
 go_ret
 exact ⟨rfl, rfl⟩
/-- The library's table lies in its variable. -/
def Tab (w : World) : Prop := TabAt 1 Lib.deBruijn64tab w ∧ 2 ≤ w.heap.size
theorem Tab.below {w W : World} (h : Tab w) (hb : Below w.heap.size w W) : Tab W :=
 ⟨fun j hj => pw_cell_below hb (h.1 j hj), Nat.le_trans h.2 hb.size⟩
theorem tz_n (x : Nat) (hx : x < 18446744073709551616) (h0 : x ≠ 0) (w : World) (hT : Tab w) : Calls Tryd.prog 70 #[.int .u64 x] w fun e w' => e = .returned (.int .i64 (Lib.ctz 64 x)) ∧ w = w' := by
 obtain ⟨hlow, hk⟩ := Lib.lowest_bit 64 x h0 hx
 obtain ⟨hi, htab⟩ := Lib.deBruijn64_at _ hk
 have hcell := hT.1 _ (by rw [show Lib.deBruijn64tab.length = 64 from by decide]; exact hi)
 rw [htab] at hcell
 have hK := Aside0.mk (tz64_key x _ hx h0 hlow)
 have hCell := Aside0.mk hcell
 have hI := Aside0.mk hi
 have hw : IntKind.u64.wrap (x : Int) = (x : Int) := by rw [IntKind.wrap_u64]; omega
 clear hcell hi htab hlow
 obtain ⟨k, hkk⟩ : ∃ k, k = Lib.ctz 64 x := ⟨_, rfl⟩
 rw [← hkk] at hK hCell hk hI ⊢
 go_enter Tryd.func70, Tryd.ntmps70
 go_wp2_with (go_at_call 79; refine (tz79 (x : Int) w k _ (by simp; omega) hK.out hI.out hk hCell.out).mono ?_; rintro e w' ⟨rfl, rfl⟩)
 go_ret
 exact ⟨by rw [hkk]; rfl, rfl⟩
end Go.Proofs.YtekmiepdodaidaaDoor.X
end

section
/- Layer 7, plain: sets of faults as numbers; the best test of a set. -/
set_option linter.unusedVariables false
namespace Go.Proofs.YtekmiepdodaidaaDoor.X
open Go.RowKit Go.Proofs.YtekmiepdodaidaaDoorW.PrintWords Go.Proofs.YtekmiepdodaidaaDoorW.PrintLast Go.Proofs.YtekmiepdodaidaaDoorW.PrintMore

def bAnd (s x : Int) : Int := Go.bits .and .u64 s x
def bSub (s x : Int) : Int := Go.bits .andNot .u64 s x
/-- Does a test divide a set? -/
def splitB (s x : Int) : Bool := !(bAnd s x == 0) && !(bSub s x == 0)
/-- A set of at most ten faults. -/
def SetB (s : Int) : Prop := 0 ≤ s ∧ s < 1024
/-- The first best test of those from number k on. -/
def pickB (c : Int → Int → Int) (s : Int) : Int → List Int → Int × Int → Int × Int
 | _, [], b => b
 | k, x :: xs, b => pickB c s (k + 1) xs (if splitB s x = true then (if b.1 < 0 ∨ c k x < b.2 then (k, c k x) else b) else b)
def cstB (chs : Int → Int × Int) (s : Int) : Int := if pcount s = 1 then 0 else (chs s).2
/-- The choice at a set, by the choices at smaller ones. -/
def chsStep (mf : Int → Int → Int → Int → Int) (ones : List Int) (chs : Int → Int × Int) (s : Int) : Int × Int :=
 pickB (fun k x => mf k s (cstB chs (bSub s x)) (cstB chs (bAnd s x))) s 0 ones (-1, 0)
def chsF (mf : Int → Int → Int → Int → Int) (ones : List Int) : Nat → Int → Int × Int
 | 0, _ => (-1, 0)
 | d + 1, s => chsStep mf ones (chsF mf ones d) s
def chs (mf : Int → Int → Int → Int → Int) (ones : List Int) (s : Int) : Int × Int := chsF mf ones (s.toNat + 1) s

theorem and_sub_nat : ∀ (n a b : Nat), a < 2 ^ n → b < 2 ^ n → (a &&& b) + (a &&& (2 ^ n - 1 - b)) = a
 | 0, a, b, ha, hb => by simp at ha hb; subst ha hb; rfl
 | n + 1, a, b, ha, hb => by
  have hp : 2 ^ (n + 1) = 2 * 2 ^ n := by rw [Nat.pow_succ]; omega
  have ih := and_sub_nat n (a / 2) (b / 2) (by omega) (by omega)
  have e1 : (a &&& b) / 2 = a / 2 &&& b / 2 := Nat.and_div_two
  have e2 : (a &&& (2 ^ (n + 1) - 1 - b)) / 2 = a / 2 &&& (2 ^ (n + 1) - 1 - b) / 2 := Nat.and_div_two
  have e3 : (2 ^ (n + 1) - 1 - b) / 2 = 2 ^ n - 1 - b / 2 := by omega
  rw [e3] at e2
  have m1 : (a &&& b) % 2 = 1 ↔ a % 2 = 1 ∧ b % 2 = 1 := Nat.and_mod_two_eq_one
  have m2 : (a &&& (2 ^ (n + 1) - 1 - b)) % 2 = 1 ↔ a % 2 = 1 ∧ (2 ^ (n + 1) - 1 - b) % 2 = 1 := Nat.and_mod_two_eq_one
  generalize a &&& b = p at *
  generalize a &&& (2 ^ (n + 1) - 1 - b) = q at *
  generalize a / 2 &&& b / 2 = p2 at *
  generalize a / 2 &&& (2 ^ n - 1 - b / 2) = q2 at *
  omega
theorem bAnd_nat {s x : Int} (hs : SetB s) (hx : SetB x) : bAnd s x = ((s.toNat &&& x.toNat : Nat) : Int) := by
 unfold SetB at hs hx; exact u64_and s x (by omega) (by omega) (by omega) (by omega)
theorem bSub_add {s x : Int} (hs : SetB s) (hx : SetB x) : bAnd s x + bSub s x = s := by
 rw [bAnd_nat hs hx]
 unfold SetB at hs hx
 unfold bSub
 rw [u64_andNot s x (by omega) (by omega) (by omega) (by omega)]
 have := and_sub_nat 64 s.toNat x.toNat (by omega) (by omega)
 simp at this
 omega
theorem bAnd_le {s x : Int} (hs : SetB s) (hx : SetB x) : 0 ≤ bAnd s x ∧ bAnd s x ≤ s := by
 rw [bAnd_nat hs hx]
 have := Nat.and_le_left (n := s.toNat) (m := x.toNat)
 unfold SetB at hs hx
 omega
/-- The two parts of a divided set are sets, smaller ones. -/
theorem split_parts {s x : Int} (hs : SetB s) (hx : SetB x) (h : splitB s x = true) : (1 ≤ bAnd s x ∧ bAnd s x < s) ∧ (1 ≤ bSub s x ∧ bSub s x < s) := by
 have h1 := bSub_add hs hx
 have h2 := bAnd_le hs hx
 unfold splitB at h
 simp at h
 omega
theorem pickB_congr {c c' : Int → Int → Int} {s : Int} : ∀ (l : List Int) (k : Int) (b : Int × Int), (∀ x ∈ l, splitB s x = true → ∀ k, c k x = c' k x) → pickB c s k l b = pickB c' s k l b
 | [], _, _, _ => rfl
 | x :: xs, k, b, h => by
  unfold pickB
  by_cases hx : splitB s x = true
  ·rw [if_pos hx, if_pos hx, h x (by simp) hx k]
   exact pickB_congr xs _ _ (fun y hy => h y (by simp [hy]))
  ·rw [if_neg hx, if_neg hx]
   exact pickB_congr xs _ _ (fun y hy => h y (by simp [hy]))
theorem chsF_stable (mf : Int → Int → Int → Int → Int) (ones : List Int) (ho : ∀ x ∈ ones, SetB x) : ∀ (d : Nat) (s : Int), SetB s → s.toNat < d → chsF mf ones d s = chsF mf ones (d + 1) s
 | 0, s, _, h => absurd h (Nat.not_lt_zero _)
 | d + 1, s, hs, h => by
  show chsStep mf ones (chsF mf ones d) s = chsStep mf ones (chsF mf ones (d + 1)) s
  unfold chsStep
  refine pickB_congr ones _ _ (fun x hx hsp k => ?_)
  obtain ⟨⟨a1, a2⟩, b1, b2⟩ := split_parts hs (ho x hx) hsp
  have hs' := hs
  unfold SetB at hs'
  unfold cstB
  rw [chsF_stable mf ones ho d (bSub s x) (by unfold SetB; omega) (by omega), chsF_stable mf ones ho d (bAnd s x) (by unfold SetB; omega) (by omega)]
theorem chsF_more (mf : Int → Int → Int → Int → Int) (ones : List Int) (ho : ∀ x ∈ ones, SetB x) (s : Int) (hs : SetB s) (d : Nat) (hd : s.toNat < d) : chsF mf ones d s = chs mf ones s := by
 unfold chs
 obtain ⟨e, rfl⟩ : ∃ e, d = s.toNat + 1 + e := ⟨d - (s.toNat + 1), by omega⟩
 clear hd
 induction e with
 | zero => rfl
 | succ e ih => rw [← ih]; exact (chsF_stable mf ones ho (s.toNat + 1 + e) s hs (by omega)).symm
theorem chs_eq (mf : Int → Int → Int → Int → Int) (ones : List Int) (ho : ∀ x ∈ ones, SetB x) (s : Int) (hs : SetB s) : chs mf ones s = chsStep mf ones (chs mf ones) s := by
 show chsStep mf ones (chsF mf ones s.toNat) s = _
 unfold chsStep
 refine pickB_congr ones _ _ (fun x hx hsp k => ?_)
 obtain ⟨⟨a1, a2⟩, b1, b2⟩ := split_parts hs (ho x hx) hsp
 have hs' := hs
 unfold SetB at hs'
 have k1 : (bSub s x).toNat < s.toNat := by omega
 have k2 : (bAnd s x).toNat < s.toNat := by omega
 unfold cstB
 rw [chsF_more mf ones ho (bSub s x) (by unfold SetB; omega) s.toNat k1, chsF_more mf ones ho (bAnd s x) (by unfold SetB; omega) s.toNat k2]
end Go.Proofs.YtekmiepdodaidaaDoor.X
end

section
/- (trial).best's closure find, by hand: the best test of a set of faults, by a map of what is known. -/
set_option linter.unusedVariables false
set_option linter.unusedSimpArgs false
namespace Go.Proofs.YtekmiepdodaidaaDoor.X
open Go.RowKit Go.Proofs.YtekmiepdodaidaaDoorW.PrintWords Go.Proofs.YtekmiepdodaidaaDoorW.PrintLast Go.Proofs.YtekmiepdodaidaaDoorW.PrintMore
open Go.Maps (Keyed)

theorem keyed75 : Keyed Tryd.prog 75 := Maps.int_keyed Tryd.underlying75
theorem zero96 (w : World) : (zeroValue 96).run Tryd.prog w = .ok (.agg #[.int .i64 0, .int .i64 0]) w := by kernel_rfl
/-- The key of a set. -/
def ky (s : Int) : Lit := .int .u64 s
theorem ky_of {s : Int} (h : SetB s) : keyOf Tryd.prog 75 (.int .u64 s) = some (ky s) :=
 Maps.keyOf_int_mk Tryd.underlying75 (by unfold SetB at h; simp [Lit.wf, IntKind.min, IntKind.max, IntKind.bits, IntKind.signed]; omega)
theorem ky_key (s : Int) : WideAt.IsKeyLit (ky s) := trivial
theorem ky_inj {s u : Int} (h : ky s = ky u) : s = u := by unfold ky at h; injection h

/-- Where find's variables lie, and what the case is. -/
structure FEnv where
 W0 : World
 go : Nat
 gt : Nat
 gm : Nat
 gf : Nat
 B : Nat
 top : Nat
 A0 : Option Addr
 c0 : Nat
 l0 : List Int
 A1 : Option Addr
 c1 : Nat
 l1 : List (List Int)
 A2 : Option Addr
 c2 : Nat
 l2 : List Int
 A3 : Option Addr
 c3 : Nat
 l3 : List Int
 al : Int
 M : Nat
def FEnv.cells (E : FEnv) : Array Value := #[.slice E.A0 E.l0.length E.c0, .slice E.A1 E.l1.length E.c1, .slice E.A2 E.l2.length E.c2, .slice E.A3 E.l3.length E.c3, .int .u64 E.al]
def FEnv.ptrs (E : FEnv) : Array Value := #[.pointer (some ⟨E.go, 0, none⟩), .pointer (some ⟨E.gt, 0, none⟩), .pointer (some ⟨E.gm, 0, none⟩), .pointer (some ⟨E.gf, 0, none⟩)]
structure FOk (E : FEnv) : Prop where
 r0 : Kd.C (Kd.int .i64) E.W0 E.A0 E.l0.length E.l0
 n0 : E.l0.length ≤ E.c0
 r1 : Kd.C (Kd.slice 3 (Kd.int .i64)) E.W0 E.A1 E.l1.length E.l1
 n1 : E.l1.length ≤ E.c1
 r2 : Kd.C (Kd.int .i64) E.W0 E.A2 E.l2.length E.l2
 n2 : E.l2.length ≤ E.c2
 r3 : Kd.C (Kd.int .u64) E.W0 E.A3 E.l3.length E.l3
 n3 : E.l3.length ≤ E.c3
 low : E.W0.heap.size ≤ E.B ∧ E.W0.heap.size ≤ E.top
 lt : E.go < E.top ∧ E.gt < E.top ∧ E.gm < E.top ∧ E.gf < E.top ∧ E.B < E.top
 sets : ∀ x ∈ E.l3, SetB x
 few : E.l3.length ≤ 12
/-- Is the set done: it is one fault, or its choice is known? -/
def doneB (f : KMap) (u : Int) : Prop := pcount u = 1 ∨ (f (ky u)).isSome = true
/-- What is known is right. -/
def GoodB (E : FEnv) (ch : Int → Int × Int) (f : KMap) : Prop :=
 ∀ kl v, f kl = some v → ∃ s, SetB s ∧ 1 ≤ s ∧ kl = ky s ∧ v = .agg #[.int .i64 (ch s).1, .int .i64 (ch s).2] ∧ ∀ x ∈ E.l3, splitB s x = true → doneB f (bSub s x) ∧ doneB f (bAnd s x)
structure FW (E : FEnv) (ch : Int → Int × Int) (W : World) (f : KMap) : Prop where
 bo : W.heap[E.go]? = some (.cells #[.map (some E.B)] 93 (0, 0))
 bt : W.heap[E.gt]? = some (.cells E.cells 77 (0, 0))
 bm : W.heap[E.gm]? = some (.cells #[.func (.func E.M) #[] #[]] 92 (0, 0))
 bf : W.heap[E.gf]? = some (.cells #[.func (.func 72) #[] E.ptrs] 86 (0, 0))
 mp : MapIs Tryd.prog 75 W E.B 1024 f
 gd : GoodB E ch f
 bl : Below E.W0.heap.size E.W0 W
 tp : E.top ≤ W.heap.size
def KMap.le (f g : KMap) : Prop := ∀ kl v, f kl = some v → g kl = some v
theorem KMap.le_refl (f : KMap) : f.le f := fun _ _ h => h
theorem KMap.le_trans {f g h : KMap} (a : f.le g) (b : g.le h) : f.le h := fun kl v e => b kl v (a kl v e)
theorem doneB_le {f g : KMap} (h : f.le g) {u : Int} (hd : doneB f u) : doneB g u := by
 rcases hd with hd | hd
 ·exact .inl hd
 ·obtain ⟨v, hv⟩ := Option.isSome_iff_exists.1 hd
  exact .inr (by rw [h _ _ hv]; rfl)
theorem FW.below {E : FEnv} {ch : Int → Int × Int} {W W' : World} {f : KMap} (hE : FOk E) (h : FW E ch W f) (hb : Below E.top W W') : FW E ch W' f := by
 obtain ⟨l1, l2, l3, l4, l5⟩ := hE.lt
 refine ⟨(hb.block _ l1).trans h.bo, (hb.block _ l2).trans h.bt, (hb.block _ l3).trans h.bm, (hb.block _ l4).trans h.bf, ?_, h.gd, h.bl.trans (hb.mono hE.low.2), Nat.le_trans h.tp hb.size⟩
 exact h.mp.block (hb.block _ l5)
/-- What find returns at a set. -/
def FPost (E : FEnv) (ch : Int → Int × Int) (W : World) (f : KMap) (u : Int) (e : Ending) (w' : World) : Prop :=
 ∃ g, e = .returned (.int .i64 (cstB ch u)) ∧ FW E ch w' g ∧ W.grownBy w' (some E.B) ∧ f.le g ∧ doneB g u
theorem u64_id {s : Int} (h : SetB s) : IntKind.u64.wrap s = s := by unfold SetB at h; rw [IntKind.wrap_u64]; omega
theorem retI {a b : Int} (h : a = b) : Ending.returned (.int .i64 a) = .returned (.int .i64 b) := by rw [h]
set_option maxHeartbeats 2000000 in
set_option maxRecDepth 100000 in
theorem find_one (E : FEnv) (ch : Int → Int × Int) (s : Int) (hs : SetB s) (hp : pcount s = 1) (W : World) (f : KMap) (h : FW E ch W f) :
  Calls Tryd.prog 72 (#[.int .u64 s] ++ E.ptrs) W (FPost E ch W f s) := by
 have HW := Aside0.mk h
 have HS := Aside0.mk hs
 have HP := Aside0.mk hp
 have c1 : (pcount s == 1) = true := by simp [hp]
 clear h hs hp
 show Calls Tryd.prog 72 #[.int .u64 s, .pointer (some ⟨E.go, 0, none⟩), .pointer (some ⟨E.gt, 0, none⟩), .pointer (some ⟨E.gm, 0, none⟩), .pointer (some ⟨E.gf, 0, none⟩)] W _
 go_enter Tryd.func72, Tryd.ntmps72
 go_wp2_with (go_at_call 69; refine (ones_n _ (u64_id HS.out) _).mono ?_; rintro e w' ⟨rfl, rfl⟩)
 go_ret
 exact ⟨f, retI (by unfold cstB; rw [if_pos HP.out]), HW.out, World.grownBy.refl _ _, KMap.le_refl f, .inl HP.out⟩
set_option maxHeartbeats 4000000 in
set_option maxRecDepth 100000 in
theorem find_memo (E : FEnv) (ch : Int → Int × Int) (s : Int) (hs : SetB s) (hp : pcount s ≠ 1) (W : World) (f : KMap) (h : FW E ch W f) (hE : FOk E) (hm : (f (ky s)).isSome = true) :
  Calls Tryd.prog 72 (#[.int .u64 s] ++ E.ptrs) W (FPost E ch W f s) := by
 have HW := Aside0.mk h
 have HE := Aside0.mk hE
 have HS := Aside0.mk hs
 have HP := Aside0.mk hp
 have HM := Aside0.mk hm
 have c1 : (pcount s == 1) = false := by simp [hp]
 obtain ⟨v, hv⟩ := Option.isSome_iff_exists.1 hm
 obtain ⟨s', _, _, hk, rfl, _⟩ := h.gd _ _ hv
 obtain rfl := ky_inj hk
 have hcz : W.cell? ⟨E.go, 0, none⟩ = some (.map (some E.B)) := (blk_cell h.bo 0).trans rfl
 have hlook := h.mp.look_ok (t := 93) (e := 96) keyed75 Tryd.underlying93 (zero96 W) (ky_of hs)
 rw [hv] at hlook
 simp only [Option.getD_some, Option.isSome_some] at hlook
 clear h hs hp hm hv hk
 show Calls Tryd.prog 72 #[.int .u64 s, .pointer (some ⟨E.go, 0, none⟩), .pointer (some ⟨E.gt, 0, none⟩), .pointer (some ⟨E.gm, 0, none⟩), .pointer (some ⟨E.gf, 0, none⟩)] W _
 go_enter Tryd.func72, Tryd.ntmps72
 go_wp2_with (go_at_call 69; refine (ones_n _ (u64_id HS.out) _).mono ?_; rintro e w' ⟨rfl, rfl⟩)
 go_ret
 exact ⟨f, retI (by unfold cstB; rw [if_neg HP.out]), HW.out.below HE.out ((Below.refl _ _).alloc HW.out.tp _), World.grownBy_alloc _ _ _, KMap.le_refl f, .inr HM.out⟩
theorem grown_setNew {W w : World} {r : Option Nat} (h : W.grownBy w r) {p : Addr} (hp : W.heap.size ≤ p.block) (u : Value) : W.grownBy (w.setCell p u) r :=
 ⟨h.os, h.tape, h.output, by have := h.size; simpa [World.setCell] using this, fun k hk hr => (Below.heap_setCell _ _ _ _ (by omega)).trans (h.block k hk hr)⟩
theorem grown_below {W w w' : World} {r : Option Nat} (h : W.grownBy w r) (hb : Below w.heap.size w w') : W.grownBy w' r :=
 ⟨hb.os.trans h.os, hb.tape.trans h.tape, hb.output.trans h.output, Nat.le_trans h.size hb.size, fun k hk hr => (hb.block k (Nat.lt_of_lt_of_le hk h.size)).trans (h.block k hk hr)⟩
theorem grown_alloc {W w : World} {r : Option Nat} (h : W.grownBy w r) (o : Obj) : W.grownBy (w.alloc o) r := grown_below h (below_alloc (Below.refl _ _) o)
theorem grown_then {a b c : World} {row : Option Nat} (h : a.grownBy b row) (k : b.grownBy c row) : a.grownBy c row :=
 ⟨k.os.trans h.os, k.tape.trans h.tape, k.output.trans h.output, Nat.le_trans h.size k.size, fun i hi hr => (k.block i (Nat.lt_of_lt_of_le hi h.size) hr).trans (h.block i hi hr)⟩
theorem FW.alloc {E : FEnv} {ch : Int → Int × Int} {W : World} {f : KMap} (hE : FOk E) (h : FW E ch W f) (o : Obj) : FW E ch (W.alloc o) f := h.below hE ((Below.refl _ _).alloc h.tp o)
theorem FW.full {E : FEnv} {ch : Int → Int × Int} {W w' : World} {f : KMap} (hE : FOk E) (h : FW E ch W f) (hb : Below W.heap.size W w') : FW E ch w' f := h.below hE (hb.mono h.tp)
theorem FW.set {E : FEnv} {ch : Int → Int × Int} {W : World} {f : KMap} (hE : FOk E) (h : FW E ch W f) {p : Addr} (hp : E.top ≤ p.block) (u : Value) : FW E ch (W.setCell p u) f := h.below hE ((Below.refl _ _).setCell hp u)
/-- The cells that find reads. -/
def FEnv.Cells (E : FEnv) (w : World) : Prop :=
 w.cell? ⟨E.go, 0, none⟩ = some (.map (some E.B)) ∧ w.cell? ⟨E.gm, 0, none⟩ = some (.func (.func E.M) #[] #[]) ∧ w.cell? ⟨E.gf, 0, none⟩ = some (.func (.func 72) #[] E.ptrs) ∧
 w.cell? ⟨E.gt, 0, none⟩ = some (.slice E.A0 E.l0.length E.c0) ∧ w.cell? ⟨E.gt, 1, none⟩ = some (.slice E.A1 E.l1.length E.c1) ∧ w.cell? ⟨E.gt, 2, none⟩ = some (.slice E.A2 E.l2.length E.c2) ∧ w.cell? ⟨E.gt, 3, none⟩ = some (.slice E.A3 E.l3.length E.c3) ∧ w.cell? ⟨E.gt, 4, none⟩ = some (.int .u64 E.al)
theorem FW.cells {E : FEnv} {ch : Int → Int × Int} {W : World} {f : KMap} (h : FW E ch W f) : E.Cells W :=
 ⟨(blk_cell h.bo 0).trans rfl, (blk_cell h.bm 0).trans rfl, (blk_cell h.bf 0).trans rfl, (blk_cell h.bt 0).trans rfl, (blk_cell h.bt 1).trans rfl, (blk_cell h.bt 2).trans rfl, (blk_cell h.bt 3).trans rfl, (blk_cell h.bt 4).trans rfl⟩
def keys1024 : List Lit := (List.range 1024).map fun (n : Nat) => ky (n : Int)
theorem FW.put {E : FEnv} {ch : Int → Int × Int} {W w1 : World} {f : KMap} (hE : FOk E) (h : FW E ch W f) {s : Int} (hs : SetB s) (hs1 : 1 ≤ s) (hdone : ∀ x ∈ E.l3, splitB s x = true → doneB f (bSub s x) ∧ doneB f (bAnd s x))
  (hm : MapIs Tryd.prog 75 w1 E.B 1025 (f.put (ky s) (.agg #[.int .i64 (ch s).1, .int .i64 (ch s).2]))) (hg : W.grownBy w1 (some E.B)) : FW E ch w1 (f.put (ky s) (.agg #[.int .i64 (ch s).1, .int .i64 (ch s).2])) ∧ f.le (f.put (ky s) (.agg #[.int .i64 (ch s).1, .int .i64 (ch s).2])) := by
 have hle : f.le (f.put (ky s) (.agg #[.int .i64 (ch s).1, .int .i64 (ch s).2])) := by
  intro kl v hv
  by_cases e : kl = ky s
  ·subst e
   obtain ⟨u, _, _, hu, rfl, _⟩ := h.gd _ _ hv
   obtain rfl := ky_inj hu
   exact KMap.put_same f (ky_key s) _
  ·rw [KMap.put_other f e]; exact hv
 have hgood : GoodB E ch (f.put (ky s) (.agg #[.int .i64 (ch s).1, .int .i64 (ch s).2])) := by
  intro kl v hv
  by_cases e : kl = ky s
  ·subst e
   rw [KMap.put_same f (ky_key s)] at hv
   injection hv with hv
   exact ⟨s, hs, hs1, rfl, hv.symm, fun x hx hsp => ⟨doneB_le hle (hdone x hx hsp).1, doneB_le hle (hdone x hx hsp).2⟩⟩
  ·rw [KMap.put_other f e] at hv
   obtain ⟨u, a1, a2, a3, a4, a5⟩ := h.gd kl v hv
   exact ⟨u, a1, a2, a3, a4, fun x hx hsp => ⟨doneB_le hle (a5 x hx hsp).1, doneB_le hle (a5 x hx hsp).2⟩⟩
 have hlow := hE.low
 refine ⟨⟨blk_grown h.bo hg (fun e => h.mp.ne h.bo (by injection e with e; exact e.symm)), blk_grown h.bt hg (fun e => h.mp.ne h.bt (by injection e with e; exact e.symm)), blk_grown h.bm hg (fun e => h.mp.ne h.bm (by injection e with e; exact e.symm)), blk_grown h.bf hg (fun e => h.mp.ne h.bf (by injection e with e; exact e.symm)), ?_, hgood, ?_, Nat.le_trans h.tp hg.size⟩, hle⟩
 ·have := hm.size_le keyed75 keys1024 (by
   intro kl hk
   obtain ⟨v, hv⟩ := Option.isSome_iff_exists.1 hk
   obtain ⟨u, a1, a2, rfl, _⟩ := hgood kl v hv
   unfold SetB at a1
   exact List.mem_map.2 ⟨u.toNat, List.mem_range.2 (by omega), by rw [show ((u.toNat : Nat) : Int) = u by omega]⟩)
  rwa [show keys1024.length = 1024 by simp [keys1024]] at this
 ·exact h.bl.grown hg h.bl.size (fun k e => by injection e with e; subst e; exact hlow.1)
/-- Where find stands in a round: what is known, and the best test so far in its block. -/
structure FMid (E : FEnv) (ch : Int → Int × Int) (W : World) (f : KMap) (b1 b2 : Int) (w' : World) (g : KMap) : Prop where
 fw : FW E ch w' g
 gr : W.grownBy w' (some E.B)
 le : f.le g
 bx : w'.heap[W.heap.size + 1]? = some (.cells #[.int .i64 b1, .int .i64 b2] 96 (0, 0))
theorem FMid.below {E : FEnv} {ch : Int → Int × Int} {W w1 w2 : World} {f g : KMap} {b1 b2 : Int} (hE : FOk E) (h : FMid E ch W f b1 b2 w1 g) (hb : Below w1.heap.size w1 w2) : FMid E ch W f b1 b2 w2 g :=
 ⟨h.fw.full hE hb, grown_below h.gr hb, h.le, (hb.block _ (blk_lt h.bx)).trans h.bx⟩
theorem FMid.call {E : FEnv} {ch : Int → Int × Int} {W w1 w2 : World} {f g g2 : KMap} {b1 b2 : Int} (hE : FOk E) (hW : E.top ≤ W.heap.size) (h : FMid E ch W f b1 b2 w1 g) (hf : FW E ch w2 g2) (hg : w1.grownBy w2 (some E.B)) (hl : g.le g2) : FMid E ch W f b1 b2 w2 g2 :=
 ⟨hf, grown_then h.gr hg, KMap.le_trans h.le hl, (hg.block _ (blk_lt h.bx) (by have := hE.lt; intro e; injection e with e; omega)).trans h.bx⟩
theorem FMid.put {E : FEnv} {ch : Int → Int × Int} {W w1 : World} {f g : KMap} {b1 b2 : Int} (hE : FOk E) (hW : E.top ≤ W.heap.size) (h : FMid E ch W f b1 b2 w1 g) (a b : Int) :
  FMid E ch W f a b ((w1.setCell ⟨W.heap.size + 1, 0, none⟩ (.int .i64 a)).setCell ⟨W.heap.size + 1, 1, none⟩ (.int .i64 b)) g := by
 refine ⟨(h.fw.set hE (by show E.top ≤ W.heap.size + 1; omega) _).set hE (by show E.top ≤ W.heap.size + 1; omega) _, grown_setNew (grown_setNew h.gr (by show W.heap.size ≤ W.heap.size + 1; omega) _) (by show W.heap.size ≤ W.heap.size + 1; omega) _, h.le, ?_⟩
 exact (blk_set (blk_set h.bx 0 (.int .i64 a)) 1 (.int .i64 b)).trans rfl
/-- The loop's state: k tests are seen. -/
def FLoop (E : FEnv) (ch : Int → Int × Int) (mf : Int → Int → Int → Int → Int) (W : World) (f : KMap) (s : Int) (k : Nat) (w' : World) : Prop :=
 ∃ g b1 b2, FMid E ch W f b1 b2 w' g ∧ (∀ j, j < k → splitB s (rd E.l3 j) = true → doneB g (bSub s (rd E.l3 j)) ∧ doneB g (bAnd s (rd E.l3 j))) ∧
  pickB (fun k x => mf k s (cstB ch (bSub s x)) (cstB ch (bAnd s x))) s k (E.l3.drop k) (b1, b2) = ch s
theorem FLoop.next {E : FEnv} {ch : Int → Int × Int} {mf : Int → Int → Int → Int → Int} {W w' : World} {f g g' : KMap} {s x sa sb b1 b2 b1' b2' : Int} {k : Nat} (hk : k < E.l3.length) (hx : rd E.l3 k = x) (hsa : bAnd s x = sa) (hsb : bSub s x = sb) (hsp : splitB s x = true)
  (hdone : ∀ j, j < k → splitB s (rd E.l3 j) = true → doneB g (bSub s (rd E.l3 j)) ∧ doneB g (bAnd s (rd E.l3 j))) (hpick : pickB (fun k x => mf k s (cstB ch (bSub s x)) (cstB ch (bAnd s x))) s k (E.l3.drop k) (b1, b2) = ch s)
  (hdr : E.l3.drop k = x :: E.l3.drop (k + 1)) (hl : g.le g') (hda : doneB g' sa) (hdb : doneB g' sb) (hm : FMid E ch W f b1' b2' w' g')
  (hb : (b1', b2') = if b1 < 0 ∨ mf k s (cstB ch sb) (cstB ch sa) < b2 then ((k : Int), mf k s (cstB ch sb) (cstB ch sa)) else (b1, b2)) : FLoop E ch mf W f s (k + 1) w' := by
 refine ⟨g', b1', b2', hm, fun j hj => ?_, ?_⟩
 ·by_cases ej : j = k
  ·subst ej; rw [hx, hsa, hsb]; exact fun _ => ⟨hdb, hda⟩
  ·intro hs
   obtain ⟨h1, h2⟩ := hdone j (by omega) hs
   exact ⟨doneB_le hl h1, doneB_le hl h2⟩
 ·rw [hdr] at hpick
  unfold pickB at hpick
  rw [if_pos hsp, hsa, hsb] at hpick
  rw [hb]
  exact hpick
theorem size_alloc' (w : World) (o : Obj) : (w.alloc o).heap.size = w.heap.size + 1 := by first | (simp; done) | exact Array.size_push _ | rfl
theorem blk_5 (w : World) (o1 o2 o3 o4 o5 : Obj) : (((((w.alloc o1).alloc o2).alloc o3).alloc o4).alloc o5).heap[w.heap.size]? = some o1 ∧ (((((w.alloc o1).alloc o2).alloc o3).alloc o4).alloc o5).heap[w.heap.size + 1]? = some o2 ∧ (((((w.alloc o1).alloc o2).alloc o3).alloc o4).alloc o5).heap[w.heap.size + 1 + 1]? = some o3 ∧ (((((w.alloc o1).alloc o2).alloc o3).alloc o4).alloc o5).heap[w.heap.size + 1 + 1 + 1]? = some o4 ∧ (((((w.alloc o1).alloc o2).alloc o3).alloc o4).alloc o5).heap[w.heap.size + 1 + 1 + 1 + 1]? = some o5 := by
 refine ⟨blk_alloc (blk_alloc (blk_alloc (blk_alloc (blk_new w o1) o2) o3) o4) o5, ?_, ?_, ?_, ?_⟩
 ·have := blk_alloc (blk_alloc (blk_alloc (blk_new (w.alloc o1) o2) o3) o4) o5
  rwa [size_alloc'] at this
 ·have := blk_alloc (blk_alloc (blk_new ((w.alloc o1).alloc o2) o3) o4) o5
  rwa [size_alloc', size_alloc'] at this
 ·have := blk_alloc (blk_new (((w.alloc o1).alloc o2).alloc o3) o4) o5
  rwa [size_alloc', size_alloc', size_alloc'] at this
 ·have := blk_new ((((w.alloc o1).alloc o2).alloc o3).alloc o4) o5
  rwa [size_alloc', size_alloc', size_alloc', size_alloc'] at this
theorem FW.start (E : FEnv) (ch : Int → Int × Int) (h1 : E.gt = E.W0.heap.size) (h2 : E.gm = E.W0.heap.size + 1) (h3 : E.B = E.W0.heap.size + 1 + 1) (h4 : E.go = E.W0.heap.size + 1 + 1 + 1) (h5 : E.gf = E.W0.heap.size + 1 + 1 + 1 + 1) (h6 : E.top = E.W0.heap.size + 1 + 1 + 1 + 1 + 1) :
  FW E ch (((((E.W0.alloc (.cells E.cells 77 (0, 0))).alloc (.cells #[.func (.func E.M) #[] #[]] 92 (0, 0))).alloc (.map #[] 0)).alloc (.cells #[.map (some E.B)] 93 (0, 0))).alloc (.cells #[.func (.func 72) #[] E.ptrs] 86 (0, 0))) KMap.empty := by
 obtain ⟨b1, b2, b3, b4, b5⟩ := blk_5 E.W0 (.cells E.cells 77 (0, 0)) (.cells #[.func (.func E.M) #[] #[]] 92 (0, 0)) (.map #[] 0) (.cells #[.map (some E.B)] 93 (0, 0)) (.cells #[.func (.func 72) #[] E.ptrs] 86 (0, 0))
 refine ⟨by rw [h4]; exact b4, by rw [h1]; exact b1, by rw [h2]; exact b2, by rw [h5]; exact b5, ?_, fun kl v e => (by cases e), ?_, ?_⟩
 ·have hm := (((MapIs.made ((E.W0.alloc (.cells E.cells 77 (0, 0))).alloc (.cells #[.func (.func E.M) #[] #[]] 92 (0, 0))) Tryd.prog 75).alloc (.cells #[.map (some E.B)] 93 (0, 0))).alloc (.cells #[.func (.func 72) #[] E.ptrs] 86 (0, 0))).mono (n' := 1024) (by omega)
  rw [size_alloc', size_alloc', ← h3] at hm
  exact hm
 ·exact below_alloc (below_alloc (below_alloc (below_alloc (below_alloc (Below.refl _ _) _) _) _) _) _
 ·rw [h6, size_alloc', size_alloc', size_alloc', size_alloc', size_alloc']; omega
end Go.Proofs.YtekmiepdodaidaaDoor.X
end

section
/- (trial).best's closure find, by hand: the step, with the measure of function 40. -/
set_option linter.unusedVariables false
set_option linter.unusedSimpArgs false
namespace Go.Proofs.YtekmiepdodaidaaDoor.X
open Go.RowKit Go.Proofs.YtekmiepdodaidaaDoorW.PrintWords Go.Proofs.YtekmiepdodaidaaDoorW.PrintLast Go.Proofs.YtekmiepdodaidaaDoorW.PrintMore

/-- What is asked of the measure. -/
def MOk40 (E : FEnv) (mf : Int → Int → Int → Int → Int) : Prop :=
 ∀ (W : World) (k : Nat) (s z o : Int), Below E.W0.heap.size E.W0 W → k < E.l3.length → SetB s → Calls Tryd.prog 40 #[.agg #[.slice E.A0 E.l0.length E.c0, .slice E.A1 E.l1.length E.c1, .slice E.A2 E.l2.length E.c2, .slice E.A3 E.l3.length E.c3, .int .u64 E.al], .int .i64 k, .int .u64 s, .int .i64 z, .int .i64 o] W fun e w' => e = .returned (.int .i64 (mf k s z o)) ∧ Below W.heap.size W w'
theorem fs_mk40 {E : FEnv} {ch : Int → Int × Int} {g : KMap} {w' : World} (h : FW E ch w' g) (hM : E.M = 40) :
  w'.cell? ⟨E.gm, 0, none⟩ = some (.func (.func 40) #[] #[]) ∧ w'.cell? ⟨E.gf, 0, none⟩ = some (.func (.func 72) #[] #[.pointer (some ⟨E.go, 0, none⟩), .pointer (some ⟨E.gt, 0, none⟩), .pointer (some ⟨E.gm, 0, none⟩), .pointer (some ⟨E.gf, 0, none⟩)]) ∧ w'.cell? ⟨E.gt, 0, none⟩ = some (.slice E.A0 E.l0.length E.c0) ∧ w'.cell? ⟨E.gt, 1, none⟩ = some (.slice E.A1 E.l1.length E.c1) ∧ w'.cell? ⟨E.gt, 2, none⟩ = some (.slice E.A2 E.l2.length E.c2) ∧ w'.cell? ⟨E.gt, 3, none⟩ = some (.slice E.A3 E.l3.length E.c3) ∧ w'.cell? ⟨E.gt, 4, none⟩ = some (.int .u64 E.al) := by
 obtain ⟨h1, h2, h3, h4, h5, h6, h7, h8⟩ := h.cells
 rw [hM] at h2
 exact ⟨h2, h3, h4, h5, h6, h7, h8⟩
set_option maxHeartbeats 8000000 in
set_option maxRecDepth 100000 in
theorem find_step40 (E : FEnv) (ch : Int → Int × Int) (mf : Int → Int → Int → Int → Int) (hE : FOk E) (hM : MOk40 E mf) (hMn : E.M = 40) (s : Int) (hs : SetB s) (hs1 : 1 ≤ s) (hp : pcount s ≠ 1) (hch : ch s = chsStep mf E.l3 ch s) (W : World) (f : KMap) (h : FW E ch W f) (hm : (f (ky s)).isSome = false)
  (ih : ∀ u, SetB u → 1 ≤ u → u < s → ∀ W f, FW E ch W f → Calls Tryd.prog 72 #[.int .u64 u, .pointer (some ⟨E.go, 0, none⟩), .pointer (some ⟨E.gt, 0, none⟩), .pointer (some ⟨E.gm, 0, none⟩), .pointer (some ⟨E.gf, 0, none⟩)] W (FPost E ch W f u)) :
  Calls Tryd.prog 72 #[.int .u64 s, .pointer (some ⟨E.go, 0, none⟩), .pointer (some ⟨E.gt, 0, none⟩), .pointer (some ⟨E.gm, 0, none⟩), .pointer (some ⟨E.gf, 0, none⟩)] W (FPost E ch W f s) := by
 have HW := Aside0.mk h
 have HE := Aside0.mk hE
 have HS := Aside0.mk hs
 have HS1 := Aside0.mk hs1
 have HP := Aside0.mk hp
 have HNM := Aside0.mk hm
 have HCH := Aside0.mk hch
 have hM' := hM
 unfold MOk40 at hM'
 have HMM := Aside0.mk hM'
 clear hM'
 have IH := Aside0.mk ih
 have c1 : (pcount s == 1) = false := by simp [hp]
 have hv : f (ky s) = none := by cases hf : f (ky s) with | none => rfl | some v => rw [hf] at hm; cases hm
 have hcz : W.cell? ⟨E.go, 0, none⟩ = some (.map (some E.B)) := (blk_cell h.bo 0).trans rfl
 have hct : W.cell? ⟨E.gt, 3, none⟩ = some (.slice E.A3 E.l3.length E.c3) := (blk_cell h.bt 3).trans rfl
 have hgo : E.go < W.heap.size := blk_lt h.bo
 have hgt : E.gt < W.heap.size := blk_lt h.bt
 have hlook := h.mp.look_ok (t := 93) (e := 96) keyed75 Tryd.underlying93 (zero96 W) (ky_of hs)
 rw [hv] at hlook
 simp only [Option.getD_none, Option.isSome_none] at hlook
 have hm3 := Kd.C_max hE.r3
 obtain ⟨a3, ha3⟩ : ∃ a, a = E.A3 := ⟨_, rfl⟩
 rw [← ha3] at hct
 have HA3 := Aside0.mk ha3
 clear ha3
 clear h hs hs1 hp hm hv hch hM ih
 go_enter Tryd.func72, Tryd.ntmps72
 go_wp2_with (go_at_call 69; refine (ones_n _ (u64_id HS.out) _).mono ?_; rintro e w' ⟨rfl, rfl⟩)
 go_loopg [29] E.l3.length (fun kq v29 w' => ∃ k : Nat, v29 = .int .i64 k ∧ Aside0 (kq + k = E.l3.length) ∧ Aside0 (FLoop E ch mf W f s k w'))
 case atStart =>
  refine ⟨0, rfl, ⟨by omega⟩, ⟨f, -1, 0, ⟨(HW.out.alloc HE.out _).alloc HE.out _, grown_alloc (World.grownBy_alloc _ _ _) _, KMap.le_refl f, ?_⟩, (by intro j hj; omega), HCH.out.symm⟩⟩
  have := blk_new (W.alloc (.cells #[.int .i64 0, .int .i64 0] 96)) (.cells #[.int .i64 (-1), .int .i64 0] 96 (0, 0))
  rwa [show (W.alloc (.cells #[.int .i64 0, .int .i64 0] 96)).heap.size = W.heap.size + 1 by simp] at this
 case round =>
  obtain ⟨k, rfl, HK, HL⟩ := hrel
  obtain ⟨k1, rfl⟩ : ∃ k1, k1 = gk := ⟨_, rfl⟩
  obtain ⟨g, b1, b2, hMid, hdone, hpick⟩ := HL.out
  clear HL hcz hct hlook hgo hgt
  by_cases hk : k < E.l3.length
  ·have HMid := Aside0.mk hMid
   have HDone := Aside0.mk hdone
   have HPick := Aside0.mk hpick
   have hC := Kd.C_below HE.out.r3 hMid.fw.bl
   obtain ⟨ad, e1, hx⟩ := Kd.at_int hC (k : Int) (by omega) (by omega)
   simp only [Int.toNat_natCast] at hx
   obtain ⟨x, hxn⟩ : ∃ x, rd E.l3 (k : Int) = x := ⟨_, rfl⟩
   have HX := Aside0.mk hxn
   rw [hxn] at hx
   have HSX := Aside0.mk (show SetB x by
    rw [← hxn]; refine HE.out.sets _ ?_
    simp only [rd, Int.toNat_natCast, List.getD_eq_getElem?_getD, List.getElem?_eq_getElem hk, Option.getD_some]; exact List.getElem_mem hk)
   have HDR := Aside0.mk (show E.l3.drop k = x :: E.l3.drop (k + 1) by
    rw [List.drop_eq_getElem_cons hk, ← hxn]; simp [rd, List.getD_eq_getElem?_getD, List.getElem?_eq_getElem hk])
   obtain ⟨sa, hsa⟩ : ∃ sa, Go.bits .and .u64 s x = sa := ⟨_, rfl⟩
   obtain ⟨sb, hsb⟩ : ∃ sb, Go.bits .andNot .u64 s x = sb := ⟨_, rfl⟩
   have HSA := Aside0.mk (show bAnd s x = sa from hsa)
   have HSB := Aside0.mk (show bSub s x = sb from hsb)
   rw [← HA3.out] at e1
   clear hMid hdone hpick hC hxn
   cases e1
   by_cases hz : sa = 0 ∨ sb = 0
   ·have hnot : splitB s x = false := by unfold splitB; rw [HSA.out, HSB.out]; rcases hz with h0 | h0 <;> simp [h0]
    have HNOT := Aside0.mk hnot
    have hrel2 : Aside0 (FLoop E ch mf W f s (k + 1) wr) := ⟨⟨g, b1, b2, HMid.out, (by
     intro j hj
     by_cases ej : j = k
     ·subst ej; rw [HX.out, HNOT.out]; intro hf; cases hf
     ·exact HDone.out j (by omega)), (by
     have hp := HPick.out
     rw [HDR.out] at hp
     unfold pickB at hp
     rw [if_neg (by rw [HNOT.out]; decide)] at hp
     exact hp)⟩⟩
    clear hnot HMid HDone HPick
    by_cases ha : sa = 0
    ·have ca : (sa == 0) = true := by simp [ha]
     clear ha hz
     go_wp2
     go_roundg (k1 - 1)
     case measure => have := HK.out; omega
     case rel => exact ⟨k + 1, by go_num, ⟨by have := HK.out; omega⟩, hrel2⟩
    ·have ca : (sa == 0) = false := by simp [ha]
     have cb : (sb == 0) = true := by simp; omega
     clear ha hz
     go_wp2
     go_roundg (k1 - 1)
     case measure => have := HK.out; omega
     case rel => exact ⟨k + 1, by go_num, ⟨by have := HK.out; omega⟩, hrel2⟩
   ·have ca : (sa == 0) = false := by simp; omega
    have cb : (sb == 0) = false := by simp; omega
    have hyes : splitB s x = true := by unfold splitB; rw [HSA.out, HSB.out, ca, cb]; rfl
    have HYES := Aside0.mk hyes
    have hparts := split_parts HS.out HSX.out hyes
    rw [HSA.out, HSB.out] at hparts
    have HPA := Aside0.mk hparts
    clear hz hyes hparts
    go_upto_region 11 with (fail)
    have HPb := Aside0.mk (show SetB sb ∧ 1 ≤ sb ∧ sb < s by have h1 := HPA.out; have h2 := HS.out; unfold SetB at h2 ⊢; omega)
    have HPa := Aside0.mk (show SetB sa ∧ 1 ≤ sa ∧ sa < s by have h1 := HPA.out; have h2 := HS.out; unfold SetB at h2 ⊢; omega)
    go_region_held3 (fun w' => w'.cell? ⟨E.gm, 0, none⟩ = some (.func (.func 40) #[] #[]) ∧ w'.cell? ⟨E.gf, 0, none⟩ = some (.func (.func 72) #[] #[.pointer (some ⟨E.go, 0, none⟩), .pointer (some ⟨E.gt, 0, none⟩), .pointer (some ⟨E.gm, 0, none⟩), .pointer (some ⟨E.gf, 0, none⟩)]) ∧ w'.cell? ⟨E.gt, 0, none⟩ = some (.slice E.A0 E.l0.length E.c0) ∧ w'.cell? ⟨E.gt, 1, none⟩ = some (.slice E.A1 E.l1.length E.c1) ∧ w'.cell? ⟨E.gt, 2, none⟩ = some (.slice E.A2 E.l2.length E.c2) ∧ w'.cell? ⟨E.gt, 3, none⟩ = some (.slice E.A3 E.l3.length E.c3) ∧ w'.cell? ⟨E.gt, 4, none⟩ = some (.int .u64 E.al)) (first | exact fs_mk40 (HMid.out.fw.full HE.out (below_drew (Below.refl _ _))) hMn | exact fs_mk40 HM9.out.fw hMn | exact fs_mk40 HM10.out.fw hMn | exact fs_mk40 HM11.out.fw hMn)
     (first | (go_at_call 72; (with_reducible refine (IH.out sb ?side1 ?side2 ?side3 _ g (HMid.out.fw.full HE.out (below_drew (Below.refl _ _)))).mono ?_); (case side1 => exact HPb.out.1); (case side2 => exact HPb.out.2.1); (case side3 => exact HPb.out.2.2); rintro e w9 ⟨g9, rfl, hfw, hgr, hle, hdn⟩; (have HM9 := Aside0.mk (FMid.call HE.out HW.out.tp (HMid.out.below HE.out (below_drew (Below.refl _ _))) hfw hgr hle)); (have HL9 := Aside0.mk hle); (have HDb := Aside0.mk hdn); clear hfw hgr hle hdn) | (go_at_call 72; (with_reducible refine (IH.out sa ?side1 ?side2 ?side3 _ g9 HM9.out.fw).mono ?_); (case side1 => exact HPa.out.1); (case side2 => exact HPa.out.2.1); (case side3 => exact HPa.out.2.2); rintro e w10 ⟨g10, rfl, hfw, hgr, hle, hdn⟩; (have HM10 := Aside0.mk (FMid.call HE.out HW.out.tp HM9.out hfw hgr hle)); (have HL10 := Aside0.mk (KMap.le_trans HL9.out hle)); (have HDa := Aside0.mk hdn); (have HDb2 := Aside0.mk (doneB_le hle HDb.out)); clear hfw hgr hle hdn) | (go_at_call 40; (with_reducible refine (HMM.out _ k s (cstB ch sb) (cstB ch sa) ?side1 ?side2 ?side3).mono ?_); (case side1 => exact HM10.out.fw.bl); (case side2 => exact hk); (case side3 => exact HS.out); rintro e w11 ⟨rfl, hb⟩; (have HM11 := Aside0.mk (HM10.out.below HE.out hb)); clear hb))
    obtain ⟨cc, hcc⟩ : ∃ cc, mf k s (cstB ch sb) (cstB ch sa) = cc := ⟨_, rfl⟩
    rw [hcc]
    have HCC := Aside0.mk hcc
    clear hcc
    have hb0 : w11.cell? ⟨W.heap.size + 1, 0, none⟩ = some (.int .i64 b1) := (blk_cell HM11.out.bx 0).trans rfl
    have hb1 : w11.cell? ⟨W.heap.size + 1, 1, none⟩ = some (.int .i64 b2) := (blk_cell HM11.out.bx 1).trans rfl
    have hf0 := blk_frozen HM11.out.bx 0
    have hf1 := blk_frozen HM11.out.bx 1
    have HB1 := Aside0.mk hb1
    clear hb1
    have hb1 := HB1.out
    by_cases ht : b1 < 0 ∨ cc < b2
    ·have HT := Aside0.mk ht
     have hrel2 : Aside0 (FLoop E ch mf W f s (k + 1) ((w11.setCell ⟨W.heap.size + 1, 0, none⟩ (.int .i64 k)).setCell ⟨W.heap.size + 1, 1, none⟩ (.int .i64 cc))) :=
      ⟨FLoop.next hk HX.out HSA.out HSB.out HYES.out HDone.out HPick.out HDR.out HL10.out HDa.out HDb2.out (FMid.put HE.out HW.out.tp HM11.out k cc) (by rw [HCC.out, if_pos HT.out])⟩
     by_cases h0 : b1 < 0
     ·have d0 : decide (b1 < 0) = true := decide_eq_true h0
      clear ht h0
      go_wp2
      go_roundg (k1 - 1)
      case measure => have := HK.out; omega
      case rel => exact ⟨k + 1, by go_num, ⟨by have := HK.out; omega⟩, hrel2⟩
     ·have d0 : decide (b1 < 0) = false := decide_eq_false h0
      have d1 : decide (cc < b2) = true := decide_eq_true (by omega)
      clear ht h0
      go_wp2
      go_roundg (k1 - 1)
      case measure => have := HK.out; omega
      case rel => exact ⟨k + 1, by go_num, ⟨by have := HK.out; omega⟩, hrel2⟩
    ·have HT := Aside0.mk ht
     have hrel2 : Aside0 (FLoop E ch mf W f s (k + 1) w11) :=
      ⟨FLoop.next hk HX.out HSA.out HSB.out HYES.out HDone.out HPick.out HDR.out HL10.out HDa.out HDb2.out HM11.out (by rw [HCC.out, if_neg HT.out])⟩
     have d0 : decide (b1 < 0) = false := decide_eq_false (fun h => ht (.inl h))
     have d1 : decide (cc < b2) = false := decide_eq_false (fun h => ht (.inr h))
     clear ht
     go_wp2
     go_roundg (k1 - 1)
     case measure => have := HK.out; omega
     case rel => exact ⟨k + 1, by go_num, ⟨by have := HK.out; omega⟩, hrel2⟩
  ·obtain rfl : k = E.l3.length := by have := HK.out; omega
   rw [List.drop_length] at hpick
   have hbe : (b1, b2) = ch s := hpick
   have HBE := Aside0.mk hbe
   have hdone2 : ∀ x ∈ E.l3, splitB s x = true → doneB g (bSub s x) ∧ doneB g (bAnd s x) := by
    intro x hx hsp
    obtain ⟨j, hj, rfl⟩ := List.getElem_of_mem hx
    have he : rd E.l3 j = E.l3[j] := by simp [rd, List.getD_eq_getElem?_getD, List.getElem?_eq_getElem hj]
    have := hdone j hj
    rw [he] at this
    exact this hsp
   have HD2 := Aside0.mk hdone2
   have HMid := Aside0.mk hMid
   have hb0 : wr.cell? ⟨W.heap.size + 1, 0, none⟩ = some (.int .i64 b1) := (blk_cell hMid.bx 0).trans rfl
   have hb1 : wr.cell? ⟨W.heap.size + 1, 1, none⟩ = some (.int .i64 b2) := (blk_cell hMid.bx 1).trans rfl
   have hcz2 : wr.cell? ⟨E.go, 0, none⟩ = some (.map (some E.B)) := (blk_cell hMid.fw.bo 0).trans rfl
   have hB : some (W.heap.size + 1) ≠ some E.B := by intro e; injection e with e; have h1 := HE.out.lt; have h2 := HW.out.tp; omega
   have HB := Aside0.mk hB
   clear hMid hdone hpick hbe hdone2 hk hB
   go_wp2_with (at_mapUpdate; refine wpList_put_is _ rfl _ _ _ 93 rfl 75 96 keyed75 Tryd.underlying93 E.B 1024 g rfl HMid.out.fw.mp (by decide) (.int .u64 s) _ (ky s) rfl rfl (ky_of HS.out) ?_; intro w1 hown1 hgrow1; have HO1 := Aside0.mk hown1; have HG1 := Aside0.mk hgrow1; have hb1' : w1.cell? ⟨W.heap.size + 1, 1, none⟩ = some (.int .i64 b2) := (blk_cell (blk_grown HMid.out.bx hgrow1 HB.out) 1).trans rfl; clear hown1 hgrow1)
   go_ret
   have e1 : b1 = (ch s).1 := by rw [← HBE.out]
   have e2 : b2 = (ch s).2 := by rw [← HBE.out]
   have ho := HO1.out
   rw [e1, e2] at ho
   obtain ⟨hfw, hle⟩ := FW.put HE.out HMid.out.fw HS.out HS1.out HD2.out ho HG1.out
   exact ⟨_, retI (by unfold cstB; rw [if_neg HP.out, e2]), hfw, grown_then HMid.out.gr HG1.out, KMap.le_trans HMid.out.le hle, .inr (by rw [KMap.put_same _ (ky_key s)]; rfl)⟩
theorem find_all40 (E : FEnv) (ch : Int → Int × Int) (mf : Int → Int → Int → Int → Int) (hE : FOk E) (hM : MOk40 E mf) (hMn : E.M = 40) (hch : ∀ s, SetB s → 1 ≤ s → ch s = chsStep mf E.l3 ch s) (d : Nat) :
  ∀ u, SetB u → 1 ≤ u → u.toNat ≤ d → ∀ W f, FW E ch W f → Calls Tryd.prog 72 #[.int .u64 u, .pointer (some ⟨E.go, 0, none⟩), .pointer (some ⟨E.gt, 0, none⟩), .pointer (some ⟨E.gm, 0, none⟩), .pointer (some ⟨E.gf, 0, none⟩)] W (FPost E ch W f u) := by
 induction d with
 | zero => intro u h1 h2 h3; unfold SetB at h1; omega
 | succ d ih =>
  intro u h1 h2 h3 W f h
  by_cases hp : pcount u = 1
  ·exact find_one E ch u h1 hp W f h
  ·by_cases hm : (f (ky u)).isSome = true
   ·exact find_memo E ch u h1 hp W f h hE hm
   ·exact find_step40 E ch mf hE hM hMn u h1 h2 hp (hch u h1 h2) W f h (by simpa using hm) (fun v v1 v2 v3 => ih v v1 v2 (by omega))
/-- What best returns: the map of the choices. -/
def BPost40 (l3 : List Int) (ch : Int → Int × Int) (al : Int) (W : World) (e : Ending) (w' : World) : Prop :=
 ∃ B f, e = .returned (.map (some B)) ∧ MapIs Tryd.prog 75 w' B 1024 f ∧ W.heap.size ≤ B ∧ Below W.heap.size W w' ∧ doneB f al ∧
  ∀ kl v, f kl = some v → ∃ s, SetB s ∧ 1 ≤ s ∧ kl = ky s ∧ v = .agg #[.int .i64 (ch s).1, .int .i64 (ch s).2] ∧ ∀ x ∈ l3, splitB s x = true → doneB f (bSub s x) ∧ doneB f (bAnd s x)
set_option maxHeartbeats 8000000 in
set_option maxRecDepth 100000 in
theorem best40 (A0 : Option Addr) (c0 : Nat) (l0 : List Int) (A1 : Option Addr) (c1 : Nat) (l1 : List (List Int)) (A2 : Option Addr) (c2 : Nat) (l2 : List Int) (A3 : Option Addr) (c3 : Nat) (l3 : List Int) (al : Int) (mf : Int → Int → Int → Int → Int) (W : World)
  (r0 : Kd.C (Kd.int .i64) W A0 l0.length l0) (n0 : l0.length ≤ c0) (r1 : Kd.C (Kd.slice 3 (Kd.int .i64)) W A1 l1.length l1) (n1 : l1.length ≤ c1) (r2 : Kd.C (Kd.int .i64) W A2 l2.length l2) (n2 : l2.length ≤ c2) (r3 : Kd.C (Kd.int .u64) W A3 l3.length l3) (n3 : l3.length ≤ c3)
  (hs : ∀ x ∈ l3, SetB x) (hf : l3.length ≤ 12) (ha : SetB al) (ha1 : 1 ≤ al)
  (hM : ∀ (w : World) (k : Nat) (s z o : Int), Below W.heap.size W w → k < l3.length → SetB s → Calls Tryd.prog 40 #[.agg #[.slice A0 l0.length c0, .slice A1 l1.length c1, .slice A2 l2.length c2, .slice A3 l3.length c3, .int .u64 al], .int .i64 k, .int .u64 s, .int .i64 z, .int .i64 o] w fun e w' => e = .returned (.int .i64 (mf k s z o)) ∧ Below w.heap.size w w') :
  Calls Tryd.prog 59 #[.agg #[.slice A0 l0.length c0, .slice A1 l1.length c1, .slice A2 l2.length c2, .slice A3 l3.length c3, .int .u64 al], .func (.func 40) #[] #[]] W (BPost40 l3 (chs mf l3) al W) := by
 have hE : ∀ go gt gm gf B top, W.heap.size ≤ B ∧ W.heap.size ≤ top → (go < top ∧ gt < top ∧ gm < top ∧ gf < top ∧ B < top) → FOk ⟨W, go, gt, gm, gf, B, top, A0, c0, l0, A1, c1, l1, A2, c2, l2, A3, c3, l3, al, 40⟩ :=
  fun go gt gm gf B top h1 h2 => ⟨r0, n0, r1, n1, r2, n2, r3, n3, h1, h2, hs, hf⟩
 have HE := Aside0.mk hE
 have HM := Aside0.mk hM
 have HA := Aside0.mk ha
 have HA1 := Aside0.mk ha1
 have HS := Aside0.mk hs
 have hmm := @run_makeMap Tryd.prog
 clear r0 r1 r2 r3 hs hf ha ha1 hM hE
 go_enter Tryd.func59, Tryd.ntmps59
 go_upto_region 4 with (fail)
 have hFW := FW.start ⟨W, W.heap.size + 1 + 1 + 1, W.heap.size, W.heap.size + 1, W.heap.size + 1 + 1 + 1 + 1, W.heap.size + 1 + 1, W.heap.size + 1 + 1 + 1 + 1 + 1, A0, c0, l0, A1, c1, l1, A2, c2, l2, A3, c3, l3, al, 40⟩ (chs mf l3) rfl rfl rfl rfl rfl rfl
 have HFW := Aside0.mk hFW
 clear hFW
 have HFA := Aside0.mk (find_all40 ⟨W, W.heap.size + 1 + 1 + 1, W.heap.size, W.heap.size + 1, W.heap.size + 1 + 1 + 1 + 1, W.heap.size + 1 + 1, W.heap.size + 1 + 1 + 1 + 1 + 1, A0, c0, l0, A1, c1, l1, A2, c2, l2, A3, c3, l3, al, 40⟩ (chs mf l3) mf (HE.out _ _ _ _ _ _ (by omega) (by omega)) HM.out rfl (fun s h1 _ => chs_eq mf l3 HS.out s h1) al.toNat al HA.out HA1.out (Nat.le_refl _) _ KMap.empty HFW.out)
 go_wp2_with (go_at_call 72; refine (HFA.out).mono ?_; rintro e w9 ⟨g9, rfl, hfw, hgr, hle, hdn⟩; have HFW9 := Aside0.mk hfw; have HDN := Aside0.mk hdn; have hcz : w9.cell? ⟨W.heap.size + 1 + 1 + 1, 0, none⟩ = some (.map (some (W.heap.size + 1 + 1))) := (blk_cell hfw.bo 0).trans rfl; clear hfw hgr hle hdn)
 go_ret
 exact ⟨_, g9, rfl, HFW9.out.mp, by show W.heap.size ≤ W.heap.size + 1 + 1; omega, HFW9.out.bl, HDN.out, HFW9.out.gd⟩
end Go.Proofs.YtekmiepdodaidaaDoor.X
end

section
/- Layer 7, plain: the plan of a choice of tests, as the list of its nodes. -/
set_option linter.unusedVariables false
namespace Go.Proofs.YtekmiepdodaidaaDoor.X
open Go.RowKit Go.Proofs.YtekmiepdodaidaaDoorW.PrintWords Go.Proofs.YtekmiepdodaidaaDoorW.PrintLast Go.Proofs.YtekmiepdodaidaaDoorW.PrintMore

def tzB (s : Int) : Int := (Lib.ctz 64 s.toNat : Nat)
/-- The nodes of the plan of s, the first of which stands at place p. -/
def treeF (tf : Int → Int) (ones : List Int) : Nat → Int → Nat → List S57
 | 0, _, _ => []
 | d + 1, s, p => if pcount s = 1 then [⟨-1, tzB s, 0, 0⟩] else
   let z := treeF tf ones d (bSub s (rd ones (tf s))) (p + 1)
   ⟨tf s, 0, ((p + 1 : Nat) : Int), ((p + 1 + z.length : Nat) : Int)⟩ :: (z ++ treeF tf ones d (bAnd s (rd ones (tf s))) (p + 1 + z.length))
def treeB (tf : Int → Int) (ones : List Int) (s : Int) (p : Nat) : List S57 := treeF tf ones (s.toNat + 1) s p
/-- The sets that a plan comes to: each is divided by its test, or is one fault. -/
structure Runs (tf : Int → Int) (ones : List Int) (R : Int → Prop) : Prop where
 set : ∀ s, R s → SetB s ∧ 1 ≤ s
 test : ∀ s, R s → pcount s ≠ 1 → 0 ≤ tf s ∧ tf s < ones.length ∧ SetB (rd ones (tf s)) ∧ splitB s (rd ones (tf s)) = true ∧ R (bSub s (rd ones (tf s))) ∧ R (bAnd s (rd ones (tf s)))
section
variable {tf : Int → Int} {ones : List Int} {R : Int → Prop} (H : Runs tf ones R)
include H
theorem treeF_stable : ∀ (d : Nat) (s : Int) (p : Nat), R s → s.toNat < d → treeF tf ones d s p = treeF tf ones (d + 1) s p
 | 0, s, p, _, h => absurd h (Nat.not_lt_zero _)
 | d + 1, s, p, hR, h => by
  have hs := H.set s hR
  unfold SetB at hs
  unfold treeF
  by_cases h1 : pcount s = 1
  ·rw [if_pos h1, if_pos h1]
  ·rw [if_neg h1, if_neg h1]
   obtain ⟨t0, t1, t2, t3, t4, t5⟩ := H.test s hR h1
   obtain ⟨⟨a1, a2⟩, b1, b2⟩ := split_parts (H.set s hR).1 t2 t3
   rw [treeF_stable d (bSub s (rd ones (tf s))) (p + 1) t4 (by omega)]
   dsimp only
   rw [treeF_stable d (bAnd s (rd ones (tf s))) _ t5 (by omega)]
theorem treeF_more (s : Int) (p : Nat) (hR : R s) (d : Nat) (hd : s.toNat < d) : treeF tf ones d s p = treeB tf ones s p := by
 unfold treeB
 obtain ⟨e, rfl⟩ : ∃ e, d = s.toNat + 1 + e := ⟨d - (s.toNat + 1), by omega⟩
 clear hd
 induction e with
 | zero => rfl
 | succ e ih => rw [← ih]; exact (treeF_stable H (s.toNat + 1 + e) s p hR (by omega)).symm
omit H in
theorem treeB_one (s : Int) (p : Nat) (h1 : pcount s = 1) : treeB tf ones s p = [⟨-1, tzB s, 0, 0⟩] := by
 unfold treeB treeF; rw [if_pos h1]
theorem treeB_two (s : Int) (p : Nat) (hR : R s) (h1 : pcount s ≠ 1) : treeB tf ones s p =
  ⟨tf s, 0, ((p + 1 : Nat) : Int), ((p + 1 + (treeB tf ones (bSub s (rd ones (tf s))) (p + 1)).length : Nat) : Int)⟩ :: (treeB tf ones (bSub s (rd ones (tf s))) (p + 1) ++ treeB tf ones (bAnd s (rd ones (tf s))) (p + 1 + (treeB tf ones (bSub s (rd ones (tf s))) (p + 1)).length)) := by
 have hs := H.set s hR
 unfold SetB at hs
 obtain ⟨t0, t1, t2, t3, t4, t5⟩ := H.test s hR h1
 obtain ⟨⟨a1, a2⟩, b1, b2⟩ := split_parts (H.set s hR).1 t2 t3
 have k1 : (bSub s (rd ones (tf s))).toNat < s.toNat := by omega
 have k2 : (bAnd s (rd ones (tf s))).toNat < s.toNat := by omega
 show treeF tf ones (s.toNat + 1) s p = _
 unfold treeF
 rw [if_neg h1]
 dsimp only
 rw [treeF_more H _ _ t4 s.toNat k1, treeF_more H _ _ t5 s.toNat k2]
theorem treeB_len (d : Nat) : ∀ (s : Int) (p : Nat), R s → s.toNat ≤ d → (treeB tf ones s p).length + 1 ≤ 2 * s.toNat := by
 induction d with
 | zero => intro s p hR h; have hs := (H.set s hR).2; omega
 | succ d ih =>
  intro s p hR h
  have hs := H.set s hR
  by_cases h1 : pcount s = 1
  ·rw [treeB_one s p h1]; simp only [List.length_cons, List.length_nil]; omega
  ·obtain ⟨t0, t1, t2, t3, t4, t5⟩ := H.test s hR h1
   obtain ⟨⟨a1, a2⟩, b1, b2⟩ := split_parts (H.set s hR).1 t2 t3
   have hadd := bSub_add (H.set s hR).1 t2
   have e1 := ih _ (p + 1) t4 (by omega)
   have e2 := ih _ (p + 1 + (treeB tf ones (bSub s (rd ones (tf s))) (p + 1)).length) t5 (by omega)
   rw [treeB_two H s p hR h1, List.length_cons, List.length_append]
   generalize (treeB tf ones (bAnd s (rd ones (tf s))) (p + 1 + (treeB tf ones (bSub s (rd ones (tf s))) (p + 1)).length)).length = m2 at *
   generalize (treeB tf ones (bSub s (rd ones (tf s))) (p + 1)).length = m1 at *
   generalize bSub s (rd ones (tf s)) = u1 at *
   generalize bAnd s (rd ones (tf s)) = u2 at *
   have hs2 := hs.2
   clear ih H hs t2 t3 t4 t5 h1
   omega
end
end Go.Proofs.YtekmiepdodaidaaDoor.X
end

section
/- (trial).plan's closure add, by hand: where its variables lie, and what it does to the list of nodes. -/
set_option linter.unusedVariables false
set_option linter.unusedSimpArgs false
namespace Go.Proofs.YtekmiepdodaidaaDoor.X
open Go.RowKit Go.Proofs.YtekmiepdodaidaaDoorW.PrintWords Go.Proofs.YtekmiepdodaidaaDoorW.PrintLast Go.Proofs.YtekmiepdodaidaaDoorW.PrintMore

structure PEnv where
 W0 : World
 go : Nat
 gs : Nat
 ga : Nat
 gt : Nat
 gq : Nat
 A0 : Option Addr
 c0 : Nat
 l0 : List Int
 A1 : Option Addr
 c1 : Nat
 l1 : List (List Int)
 A2 : Option Addr
 c2 : Nat
 l2 : List Int
 A3 : Option Addr
 c3 : Nat
 l3 : List Int
 al : Int
 F : Nat
def PEnv.cells (E : PEnv) : Array Value := #[.slice E.A0 E.l0.length E.c0, .slice E.A1 E.l1.length E.c1, .slice E.A2 E.l2.length E.c2, .slice E.A3 E.l3.length E.c3, .int .u64 E.al]
def PEnv.ptrs (E : PEnv) : Array Value := #[.pointer (some ⟨E.go, 0, none⟩), .pointer (some ⟨E.gs, 0, none⟩), .pointer (some ⟨E.ga, 0, none⟩), .pointer (some ⟨E.gt, 0, none⟩)]
def PEnv.fv (E : PEnv) : Value := .func (.func E.F) #[] #[.pointer (some ⟨E.gq, 0, none⟩)]
structure POk (E : PEnv) : Prop where
 r3 : Kd.C (Kd.int .u64) E.W0 E.A3 E.l3.length E.l3
 n3 : E.l3.length ≤ E.c3
 lt : E.W0.heap.size ≤ E.go
 tab : Tab E.W0
/-- The nodes so far are xs. -/
structure PW (E : PEnv) (W : World) (v : Value) (xs : List S57) : Prop where
 bo : W.heap[E.go]? = some (.cells #[v] 27 (0, 0))
 bs : W.heap[E.gs]? = some (.cells #[E.fv] 86 (0, 0))
 ba : W.heap[E.ga]? = some (.cells #[.func (.func 68) #[] E.ptrs] 86 (0, 0))
 bt : W.heap[E.gt]? = some (.cells E.cells 77 (0, 0))
 rw : Kd.R k57 57 W E.W0.heap.size (fun _ => True) v xs
 bl : Below E.W0.heap.size E.W0 W
theorem PW.below {E : PEnv} {W W' : World} {v : Value} {xs : List S57} (h : PW E W v xs) (hb : Below W.heap.size W W') : PW E W' v xs :=
 ⟨(hb.block _ (blk_lt h.bo)).trans h.bo, (hb.block _ (blk_lt h.bs)).trans h.bs, (hb.block _ (blk_lt h.ba)).trans h.ba, (hb.block _ (blk_lt h.bt)).trans h.bt, Kd.R_below h.rw hb, h.bl.trans (hb.mono h.bl.size)⟩
theorem PW.tab {E : PEnv} {W : World} {v : Value} {xs : List S57} (hE : POk E) (h : PW E W v xs) : Tab W := hE.tab.below h.bl
/-- The new list is stored. -/
theorem PW.put {E : PEnv} {W w1 : World} {v v1 : Value} {xs ys : List S57} (hE : POk E) (h : PW E W v xs) (hr : Kd.R k57 57 w1 E.W0.heap.size (fun _ => True) v1 ys) (hb : Below E.W0.heap.size E.W0 w1) (hg : W.grownBy w1 v.ownBlock) : PW E (w1.setCell ⟨E.go, 0, none⟩ v1) v1 ys := by
 have e1 := blk_grown h.bo hg (Kd.R_ne h.rw h.bo (by decide))
 have e2 := blk_grown h.bs hg (Kd.R_ne h.rw h.bs (by decide))
 have e3 := blk_grown h.ba hg (Kd.R_ne h.rw h.ba (by decide))
 have e4 := blk_grown h.bt hg (Kd.R_ne h.rw h.bt (by decide))
 exact ⟨(blk_set e1 0 v1).trans rfl, blk_far e2 (blk_ne h.bs h.bo (by decide)) _, blk_far e3 (blk_ne h.ba h.bo (by decide)) _, blk_far e4 (blk_ne h.bt h.bo (by decide)) _, Kd.R_set hr e1 (by decide) 0 v1, hb.setCell hE.lt _⟩
/-- What add returns at a set: its first node's place; its nodes are added. -/
def APost (E : PEnv) (tf : Int → Int) (s : Int) (xs : List S57) (e : Ending) (w' : World) : Prop :=
 ∃ v', e = .returned (.int .i64 (xs.length : Nat)) ∧ PW E w' v' (xs ++ treeB tf E.l3 s xs.length)
theorem info57t : (Tryd.prog.info? 57).map (fun i => (i.zero, i.size, i.bytes)) = some (some (.agg #[(.int .i64 0), (.int .i64 0), (.int .i64 0), (.int .i64 0)]), 4, 32) := by kernel_rfl
set_option maxHeartbeats 4000000 in
set_option maxRecDepth 100000 in
theorem add_one (E : PEnv) (tf : Int → Int) (s : Int) (hs : SetB s) (hs1 : 1 ≤ s) (hp : pcount s = 1) (W : World) (v : Value) (xs : List S57) (hE : POk E) (h : PW E W v xs) (hl : xs.length ≤ 4096) :
  Calls Tryd.prog 68 #[.int .u64 s, .pointer (some ⟨E.go, 0, none⟩), .pointer (some ⟨E.gs, 0, none⟩), .pointer (some ⟨E.ga, 0, none⟩), .pointer (some ⟨E.gt, 0, none⟩)] W (APost E tf s xs) := by
 have HW := Aside0.mk h
 have HE := Aside0.mk hE
 have HS := Aside0.mk hs
 have HS1 := Aside0.mk hs1
 have HP := Aside0.mk hp
 have c1 : (pcount s == 1) = true := by simp [hp]
 obtain ⟨A, c, rfl⟩ := Kd.R_slice h.rw
 have hcz : W.cell? ⟨E.go, 0, none⟩ = some (.slice A xs.length c) := (blk_cell h.bo 0).trans rfl
 clear h hs hs1 hp
 go_enter Tryd.func68, Tryd.ntmps68
 go_upto_region 3 with (go_at_call 69; refine (ones_n _ (u64_id HS.out) _).mono ?_; rintro e w' ⟨rfl, rfl⟩)
 obtain ⟨x, hx⟩ : ∃ x : Nat, s = x := ⟨s.toNat, by have := HS1.out; omega⟩
 subst hx
 have HX := Aside0.mk (show x < 18446744073709551616 ∧ x ≠ 0 by have h1 := HS1.out; have h2 := HS.out; unfold SetB at h2; omega)
 have HL := Aside0.mk hl
 clear hl
 refine start_ (n := 7) (S := fun w' => w'.cell? ⟨E.go, 0, none⟩ = some (.slice A xs.length c)) (ds := [5, 6]) #[false, false, false, false, false, false, false] (by kernel_rfl) rfl rfl hcz (fun hHeld => ?_)
 refine take_ (i := 0) (N := (some 16)) (v := ?_) (a' := ?_) #[true, false, false, false, false, false, false] rfl rfl (by kernel_rfl) (fun _ _ _ h => h) (Or.inl ⟨by rfl, ?_⟩) hHeld ?_ ?_
 rotate_left
 ·rintro w' s0
  go_simp
  with_reducible rfl
 rotate_left
 ·simp only [Act.put, List.setIfInBounds_toArray, List.set_cons_zero, List.set_cons_succ, i64_w, i32_w]
  rfl
 refine pure_ (i := 1) (N := (some 17)) (v := ?_) (a' := ?_) #[true, true, false, false, false, false, false] rfl rfl (by kernel_rfl) (fun _ _ _ h => h) (Or.inl ⟨by rfl, ?_⟩) ?_ ?_
 rotate_left
 ·intro w'
  go_simp
  with_reducible rfl
 rotate_left
 ·simp only [Act.put, List.setIfInBounds_toArray, List.set_cons_zero, List.set_cons_succ, i64_w, i32_w]
  rfl
 refine one_ (i := 2) (N := (some 18)) #[true, true, true, false, false, false, false] rfl rfl (by kernel_rfl) (by decide) (fun K hK => ?_)
 refine goes_ Tryd.func70 (by kernel_rfl) rfl #[.int .u64 (x : Int)] (by rfl) rfl rfl (by (try simp only [List.map_toArray, List.map_cons, List.map_nil]); first | done | rfl) ?_
 refine (tz_n x HX.out.1 HX.out.2 _ ((HW.out.tab HE.out).below (below_drew (Below.refl _ _)))).mono ?_
 rintro e w' ⟨rfl, rfl⟩
 refine ⟨_, rfl, ?_⟩
 refine hK.out _ _ hHeld (fun hHeld => ?_)
 clear hK K
 refine norm_ (a' := ?_) ?_ ?_
 rotate_left
 ·show Act.put _ (some 18) _ = _
  simp only [Act.put, List.setIfInBounds_toArray, List.set_cons_zero, List.set_cons_succ, i64_w, i32_w]
  rfl
 refine pure_ (i := 3) (N := (some 19)) (v := ?_) (a' := ?_) #[true, true, true, true, false, false, false] rfl rfl (by kernel_rfl) (fun _ _ _ h => h) (Or.inl ⟨by rfl, ?_⟩) ?_ ?_
 rotate_left
 ·intro w'
  go_simp
  with_reducible rfl
 rotate_left
 ·simp only [Act.put, List.setIfInBounds_toArray, List.set_cons_zero, List.set_cons_succ, i64_w, i32_w]
  rfl
 refine one_ (i := 4) (N := (some 20)) #[true, true, true, true, true, false, false] rfl rfl (by kernel_rfl) (by decide) (fun K hK => ?_)
 refine value_ (w1 := ?_) (v := ?_) (by rfl) rfl ?_ ?_
 rotate_left 2
 ·go_simp
  constructor
  ·rfl
  ·rfl
 refine hK.out _ _ (pw_cell_below (below_alloc (Below.refl _ _) _) hHeld) (fun hHeld => ?_)
 clear hK K
 refine norm_ (a' := ?_) ?_ ?_
 rotate_left
 ·show Act.put _ (some 20) _ = _
  simp only [Act.put, List.setIfInBounds_toArray, List.set_cons_zero, List.set_cons_succ, i64_w, i32_w]
  rfl
 refine last_ (i := 5) (N := (some 21)) #[true, true, true, true, true, true, false] rfl rfl (by kernel_rfl) (by decide) (fun K hK => ?_)
 refine Kd.R_append_step k57 (w0 := E.W0) E.W0.heap.size (by rfl) (.tmp 16) (.tmp 20) 27 57 (.agg #[(.int .i64 0), (.int .i64 0), (.int .i64 0), (.int .i64 0)]) 32 rfl Tryd.underlying27 info57t rfl (by decide) (by omega) (.slice A xs.length c) xs (⟨-1, (Lib.ctz 64 x : Nat), 0, 0⟩ : S57) [.int .i64 (-1), .int .i64 (Lib.ctz 64 x : Nat), .int .i64 0, .int .i64 0] (fun _ => True) (fun _ => False) rfl rfl (k57_mkM _ _ _ _) (fun _ hk => hk.elim) (fun _ _ => trivial) (Kd.R_drew HW.out.rw) (below_drew HW.out.bl) HW.out.bl.size (by have := HL.out; omega) ?_
 intro v1 w1 ho hb hg hat
 obtain ⟨A1, c1', rfl⟩ := Kd.R_slice ho
 have HPW := Aside0.mk (PW.put HE.out (HW.out.below (below_drew (Below.refl _ _))) ho hb hg)
 have e1 := blk_grown (HW.out.below (below_drew (Below.refl _ _))).bo hg (Kd.R_ne (HW.out.below (below_drew (Below.refl _ _))).rw (HW.out.below (below_drew (Below.refl _ _))).bo (by decide))
 have hcz1 : w1.cell? ⟨E.go, 0, none⟩ = some (.slice A xs.length c) := (blk_cell e1 0).trans rfl
 have hfz1 := blk_frozen e1 0
 have HPF := Aside0.mk (show PW E _ _ (xs ++ treeB tf E.l3 (x : Int) xs.length) by rw [treeB_one _ _ HP.out]; exact HPW.out)
 have hlen : ∀ z : S57, (xs ++ [z]).length = xs.length + 1 := fun z => by simp
 rw [hlen] at HPF
 clear HPW hlen
 clear ho hb hg hat e1
 refine hK.out _ _ ?_
 clear hK K
 refine norm_ (a' := ?_) ?_ ?_
 rotate_left
 ·show Act.put _ (some 21) _ = _
  simp only [Act.put, List.setIfInBounds_toArray, List.set_cons_zero, List.set_cons_succ, i64_w, i32_w]
  rfl
 refine last_ (i := 6) (N := none) #[true, true, true, true, true, true, true] rfl rfl (by kernel_rfl) (by decide) (fun K hK => ?_)
 refine skip_ (w1 := ?_) (by rfl) rfl ?_ ?_
 rotate_left
 ·go_simp
  rfl
 refine hK.out _ _ ?_
 clear hK K
 refine done_ (by kernel_rfl) ?_
 go_wp2
 go_ret
 exact ⟨_, rfl, HPF.out⟩
theorem keepGo {w : World} {a g i : Nat} {v u : Value} (h : w.cell? ⟨a, 0, none⟩ = some v) (hne : a ≠ g) : (w.setCell ⟨g, i, none⟩ u).drew.cell? ⟨a, 0, none⟩ = some v :=
 (World.cell?_of_block (w := w) (w' := (w.setCell ⟨g, i, none⟩ u).drew) (a := ⟨a, 0, none⟩) (Below.heap_setCell w ⟨g, i, none⟩ u a hne)).trans h
theorem keepGo2 {w : World} {a g i j : Nat} {v u u2 : Value} (h : w.cell? ⟨a, 0, none⟩ = some v) (hne : a ≠ g) : ((w.setCell ⟨g, i, none⟩ u).setCell ⟨g, j, none⟩ u2).drew.cell? ⟨a, 0, none⟩ = some v := keepGo (keepGo (w := w) h hne) hne
theorem node_put {base : Nat} {W : World} {g n cap : Nat} {ys : List S57} {i : Nat} (h : Kd.R k57 57 W base (fun _ => True) (.slice (some ⟨g, 0, none⟩) n cap) ys) (hi : i < ys.length) (f : S57) (hf : ys.getD i z57 = f) (z o : Int) :
  (W.cell? ⟨g, i * 4 + 2, none⟩ = some (.int .i64 f.f2) ∧ W.cell? ⟨g, i * 4 + 3, none⟩ = some (.int .i64 f.f3) ∧ W.frozen? ⟨g, i * 4 + 2, none⟩ = false ∧ W.frozen? ⟨g, i * 4 + 3, none⟩ = false) ∧
   Kd.R k57 57 ((W.setCell ⟨g, i * 4 + 2, none⟩ (.int .i64 z)).setCell ⟨g, i * 4 + 3, none⟩ (.int .i64 o)) base (fun _ => True) (.slice (some ⟨g, 0, none⟩) n cap) (ys.set i ⟨f.f0, f.f1, z, o⟩) ∧ W.grownBy ((W.setCell ⟨g, i * 4 + 2, none⟩ (.int .i64 z)).setCell ⟨g, i * 4 + 3, none⟩ (.int .i64 o)) (some g) := by
 obtain ⟨hn, _, _⟩ := Kd.R_reads' h
 obtain ⟨c, hcl, hM, hcc, hfz⟩ := Kd.R_elem h z57 (i : Int) (by omega) (by omega)
 simp only [Int.toNat_natCast] at hM hcc hfz
 rw [hf] at hM
 have hc := k57_openM hM
 subst hc
 refine ⟨⟨hcc 2 _ rfl, hcc 3 _ rfl, hfz 2, hfz 3⟩, ?_⟩
 have := Kd.R_seg (okp := fun _ => False) h (i : Int) (by omega) (by omega) (c := [.int .i64 f.f0, .int .i64 f.f1, .int .i64 f.f2, .int .i64 f.f3]) (seg := [.int .i64 z, .int .i64 o]) (j := 2) hcl (by simpa only [Int.toNat_natCast] using hcc) (by show 2 + 2 ≤ 4; omega) (x' := ⟨f.f0, f.f1, z, o⟩) (k57_mkM _ _ _ ⟨f.f0, f.f1, z, o⟩) (fun _ hk => hk.elim)
 simp only [Int.toNat_natCast] at this
 exact this
/-- The two links of a node are stored. -/
theorem PW.node {E : PEnv} {W W' : World} {v : Value} {xs ys : List S57} {g : Nat} (hE : POk E) (h : PW E W v xs) (hg : v.ownBlock = some g) (hr : Kd.R k57 57 W' E.W0.heap.size (fun _ => True) v ys) (hG : W.grownBy W' (some g)) : PW E W' v ys := by
 have hne : ∀ {b : Nat} {t : Nat} {cs : Array Value}, W.heap[b]? = some (.cells cs t (0, 0)) → 57 ≠ t → some b ≠ some g := fun hb ht => by rw [← hg]; exact Kd.R_ne h.rw hb ht
 exact ⟨blk_grown h.bo hG (hne h.bo (by decide)), blk_grown h.bs hG (hne h.bs (by decide)), blk_grown h.ba hG (hne h.ba (by decide)), blk_grown h.bt hG (hne h.bt (by decide)), hr, h.bl.grown hG h.bl.size (fun k e => by injection e with e; subst e; exact Kd.R_base h.rw _ hg)⟩
theorem blk_4 (w : World) (o1 o2 o3 o4 : Obj) : ((((w.alloc o1).alloc o2).alloc o3).alloc o4).heap[w.heap.size]? = some o1 ∧ ((((w.alloc o1).alloc o2).alloc o3).alloc o4).heap[w.heap.size + 1]? = some o2 ∧ ((((w.alloc o1).alloc o2).alloc o3).alloc o4).heap[w.heap.size + 1 + 1]? = some o3 ∧ ((((w.alloc o1).alloc o2).alloc o3).alloc o4).heap[w.heap.size + 1 + 1 + 1]? = some o4 := by
 refine ⟨blk_alloc (blk_alloc (blk_alloc (blk_new w o1) o2) o3) o4, ?_, ?_, ?_⟩
 ·have := blk_alloc (blk_alloc (blk_new (w.alloc o1) o2) o3) o4
  rwa [size_alloc'] at this
 ·have := blk_alloc (blk_new ((w.alloc o1).alloc o2) o3) o4
  rwa [size_alloc', size_alloc'] at this
 ·have := blk_new (((w.alloc o1).alloc o2).alloc o3) o4
  rwa [size_alloc', size_alloc', size_alloc'] at this
theorem PW.start (E : PEnv) (h1 : E.gt = E.W0.heap.size) (h2 : E.gs = E.W0.heap.size + 1) (h3 : E.go = E.W0.heap.size + 1 + 1) (h4 : E.ga = E.W0.heap.size + 1 + 1 + 1) :
  PW E ((((E.W0.alloc (.cells E.cells 77 (0, 0))).alloc (.cells #[E.fv] 86 (0, 0))).alloc (.cells #[.slice none 0 0] 27 (0, 0))).alloc (.cells #[.func (.func 68) #[] E.ptrs] 86 (0, 0))) (.slice none 0 0) [] := by
 obtain ⟨b1, b2, b3, b4⟩ := blk_4 E.W0 (.cells E.cells 77 (0, 0)) (.cells #[E.fv] 86 (0, 0)) (.cells #[.slice none 0 0] 27 (0, 0)) (.cells #[.func (.func 68) #[] E.ptrs] 86 (0, 0))
 exact ⟨by rw [h3]; exact b3, by rw [h2]; exact b2, by rw [h4]; exact b4, by rw [h1]; exact b1, Kd.R_nil _ _ _ _ _, below_alloc (below_alloc (below_alloc (below_alloc (Below.refl _ _) _) _) _) _⟩
/-- What plan returns: the nodes, in memory of their own. -/
def PPost (l : List S57) (W : World) (e : Ending) (w' : World) : Prop := ∃ v, e = .returned v ∧ Kd.R k57 57 w' W.heap.size (fun _ => True) v l ∧ Below W.heap.size W w'
def AllPost (l : List S57) (W : World) (e : Ending) (w' : World) : Prop := ∃ v, e = .returned (.int .i64 0) ∧ w'.heap[W.heap.size + 1 + 1]? = some (.cells #[v] 27 (0, 0)) ∧ Kd.R k57 57 w' W.heap.size (fun _ => True) v l ∧ Below W.heap.size W w'
theorem all_post {E : PEnv} {tf : Int → Int} {al : Int} {e : Ending} {w' : World} (h : APost E tf al [] e w') (hgo : E.go = E.W0.heap.size + 1 + 1 := by rfl) : AllPost (treeB tf E.l3 al 0) E.W0 e w' := by
 obtain ⟨v, h1, h2⟩ := h
 have h3 := h2.rw
 rw [List.nil_append, List.length_nil] at h3
 rw [List.length_nil] at h1
 have h4 := h2.bo
 rw [hgo] at h4
 exact ⟨v, h1, h4, h3, h2.bl⟩
end Go.Proofs.YtekmiepdodaidaaDoor.X
end
