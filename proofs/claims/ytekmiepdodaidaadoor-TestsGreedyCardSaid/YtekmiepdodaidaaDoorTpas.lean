/- Texts behind TestsGreedy, part 19: contracts of the program's functions and the plain words for them. -/
import Derived.ChangeKeysEq
import Derived.Test.YtekmiepdodaidaaDoorProg
import Derived.Below
import Derived.Deep.Draws
import Derived.Deep.AppendLies
import Derived.Maps.AppendAt
import Derived.OwnWalk
import Derived.Laws.BytesArg
import Derived.Laws.MakeOwn
import Derived.Laws.OwnMore
import Derived.Deep.OwnRows
import Derived.Tactics
import Derived.Lib.ConvBytes
import Derived.Laws.Slices
import Derived.WalkKit
import Derived.KernelRfl
import Derived.RowKit3
import Derived.Deep.LoopGhost
import Derived.Deep.QuietTactic
import Derived.BigQuiet
import Derived.WideLaws
import Derived.Deep.DeepCutAuto
import Derived.Deep.CutBlock
import Derived.Deep.RegionHeld3
import Derived.Laws.Rows
import Derived.Lib.AppendStr
import Derived.ArgAppend
import Derived.Laws.IdiomCopy
import Derived.OrdersHeld
import Derived.Laws.BitsLemmas
import Derived.RowKit
import Derived.Shelf.Spec.TrailingZeros
import Derived.Laws.BitsAllLaws
import Derived.Test.YtekmiepdodaidaaDoorTpaa
import Derived.Test.YtekmiepdodaidaaDoorTpab
import Derived.Test.YtekmiepdodaidaaDoorTpac
import Derived.Test.YtekmiepdodaidaaDoorTpae
import Derived.Test.YtekmiepdodaidaaDoorTpag
import Derived.Test.YtekmiepdodaidaaDoorTpah
import Derived.Test.YtekmiepdodaidaaDoorTpai
import Derived.Test.YtekmiepdodaidaaDoorTpaj
import Derived.Test.YtekmiepdodaidaaDoorTpal
import Derived.Test.YtekmiepdodaidaaDoorTpam
import Derived.Test.YtekmiepdodaidaaDoorTpan
import Derived.Test.YtekmiepdodaidaaDoorTpap
import Derived.Test.YtekmiepdodaidaaDoorTpaq
import Derived.Test.YtekmiepdodaidaaDoorTpar
section
/- Small laws of this session: '==' of a [2]int and of a [3]int, as one Bool. -/
set_option linter.unusedVariables false
set_option linter.unusedSimpArgs false
namespace Go.Proofs.YtekmiepdodaidaaDoor.X
open Go.RowKit
/-- The walk's goal held back: what stands behind a cut. -/
theorem hold_ {p : Prop} (h : ∀ q : Prop, Go.Proofs.YtekmiepdodaidaaDoorW.PrintWords.Aside0 (p → q) → q) : p := h p ⟨id⟩
/-- New blocks and draws. -/
inductive Steps : World → World → Prop
 | refl (w : World) : Steps w w
 | alloc {w w' : World} (h : Steps w w') (o : Obj) : Steps w (w'.alloc o)
 | drewN {w w' : World} (h : Steps w w') (n : Nat) : Steps w (w'.drewN n)
 | drew {w w' : World} (h : Steps w w') : Steps w w'.drew
section
open Go.Proofs.YtekmiepdodaidaaDoorW.PrintWords
theorem Steps.bel {w w' : World} (h : Steps w w') : Below w.heap.size w w' := by
 induction h with
 | refl => exact Below.refl _ _
 | alloc h o ih => exact below_alloc ih o
 | drewN h n ih => exact pw_below_drewN ih n
 | drew h ih => exact below_drew ih
variable {α : Type} {d : Kd α} {e : Nat} {w w' : World} {base : Nat} {ok : Nat → Prop} {v : Value} {xs : List α}
theorem rz (h : Kd.R d e w base ok v xs) (s : Steps w w' := by with_reducible repeat (first | exact Steps.refl _ | apply Steps.alloc | apply Steps.drewN | apply Steps.drew)) : Kd.R d e w' base ok v xs := Kd.R_below h s.bel
theorem kz {g : Nat} {o : Obj} (h : w.heap[g]? = some o) (s : Steps w w' := by with_reducible repeat (first | exact Steps.refl _ | apply Steps.alloc | apply Steps.drewN | apply Steps.drew)) : w'.heap[g]? = some o := blk_below h s.bel
theorem cz {A : Option Addr} {n : Nat} (h : Kd.C d w A n xs) (s : Steps w w' := by with_reducible repeat (first | exact Steps.refl _ | apply Steps.alloc | apply Steps.drewN | apply Steps.drew)) : Kd.C d w' A n xs := Kd.C_below h s.bel
theorem sz (h : Kd.S d e w base ok v xs) (s : Steps w w' := by with_reducible repeat (first | exact Steps.refl _ | apply Steps.alloc | apply Steps.drewN | apply Steps.drew)) : Kd.S d e w' base ok v xs := Kd.S_below h s.bel
theorem kb {w2 : World} {g : Nat} {o : Obj} (h : w.heap[g]? = some o) (hb : Below w'.heap.size w' w2) (s : Steps w w' := by with_reducible repeat (first | exact Steps.refl _ | apply Steps.alloc | apply Steps.drewN | apply Steps.drew)) : w2.heap[g]? = some o := blk_below (blk_below h s.bel) hb
theorem kl {g : Nat} {o : Obj} (h : w.heap[g]? = some o) (s : Steps w w' := by with_reducible repeat (first | exact Steps.refl _ | apply Steps.alloc | apply Steps.drewN | apply Steps.drew)) : g < w'.heap.size := blk_lt (blk_below h s.bel)
theorem az {p : Prop} (h : p := by first | (with_reducible assumption) | assumption) : p := h
theorem bz {B : Nat} (h : Below B w w' := by repeat (first | (with_reducible first | exact HB.out | apply below_alloc | apply pw_below_drewN | apply below_drew1 | refine below_set ?_ (Aside0.out (by assumption))) | exact HB.out)) : Below B w w' := h
theorem dz {β : Type} {y z : β} (h : y = z := by (try simp only [List.map_toArray, List.map_cons, List.map_nil]); first | done | rfl | (simp only [List.length_drop, List.length_take]; rfl)) : y = z := h
end
section
variable {P : Program} {T E : TypeId}
theorem part_int (hE : P.underlying E = some (.int .i64)) (cs : Array Value) (j : Nat) (v : Value) (W : World) (h : cs[j]? = some v) : (part E cs j).run P W = .ok v W := by
 simp [part, isAgg, run_underlying hE, h]
theorem eq_int (hE : P.underlying E = some (.int .i64)) (d : Nat) (x y : Int) (W : World) : (Op.equalIn (d + 1) E (.int .i64 x) (.int .i64 y)).run P W = .ok (x == y) W := by
 simp [Op.equalIn, run_underlying hE]
theorem eqArr_2 (hT : P.underlying T = some (.array 2 E)) (hE : P.underlying E = some (.int .i64)) (hs : (P.info? E).map (·.size) = some 1) (d : Nat) (w : World) (x0 y0 x1 y1 : Int) :
  (Op.equalIn (d + 2) T (.agg #[.int .i64 x0, .int .i64 x1]) (.agg #[.int .i64 y0, .int .i64 y1])).run P w = .ok (x0 == y0 && (x1 == y1)) w := by
 obtain ⟨i, hi, hz⟩ := Option.map_eq_some_iff.1 hs
 have hc : P.cellsOf E = 1 := by simp [Program.cellsOf, hi, hz]
 rw [run_equalIn_array w (d + 1) _ _ hT hi, hc]
 have hr : List.range 2 = [0, 1] := rfl
 simp only [hr, Op.eqItems, Sem.run_bind, Nat.zero_mul, Nat.mul_one]
 rw [part_int hE _ 0 (.int .i64 x0) w rfl]
 simp only [Result.andThen_ok]
 rw [part_int hE _ 0 (.int .i64 y0) w rfl]
 simp only [Result.andThen_ok, eq_int hE]
 have a1 := part_int hE #[.int .i64 x0, .int .i64 x1] 1 (.int .i64 x1) w rfl
 have b1 := part_int hE #[.int .i64 y0, .int .i64 y1] 1 (.int .i64 y1) w rfl
 by_cases h0 : x0 = y0 <;> by_cases h1 : x1 = y1 <;> simp [h0, h1, a1, b1, eq_int hE] <;> simp_all [eq_int hE]
end
end Go.Proofs.YtekmiepdodaidaaDoor.X
end

section
namespace Go.Proofs.YtekmiepdodaidaaDoor.X
open Go.RowKit Go.Proofs.YtekmiepdodaidaaDoorW.PrintWords Go.Proofs.YtekmiepdodaidaaDoorW.PrintLast Go.Proofs.YtekmiepdodaidaaDoorW.PrintMore
attribute [local go_sem] max2_int min2_int max_two min_two max_three min_three max_four min_four   -- for this text's walks alone
set_option linter.unusedVariables false
set_option linter.unusedSimpArgs false



def errW : Option Int → Value
 | none => .nilIface
 | some c => .iface 0 (.int .i64 c)
theorem errW_none : errW none = .nilIface := rfl
theorem errW_some (c : Int) : errW (some c) = .iface 0 (.int .i64 c) := rfl

theorem info3 : (Tryd.prog.info? 3).map (fun i => (i.zero, i.size, i.bytes)) = some (some (.int .i64 0), 1, 8) := by kernel_rfl
theorem info22 : (Tryd.prog.info? 22).map (fun i => (i.zero, i.size, i.bytes)) = some (some (.slice none 0 0), 1, 24) := by kernel_rfl
theorem info53 : (Tryd.prog.info? 53).map (fun i => (i.zero, i.size, i.bytes)) = some (some (.agg #[(.int .i64 0), (.int .i64 0)]), 2, 16) := by kernel_rfl
theorem info57 : (Tryd.prog.info? 57).map (fun i => (i.zero, i.size, i.bytes)) = some (some (.agg #[(.int .i64 0), (.int .i64 0), (.int .i64 0), (.int .i64 0)]), 4, 32) := by kernel_rfl
def rd_L1 (xs : List (List Int)) (i : Int) : (List Int) := xs.getD i.toNat ([] : List Int)
theorem at_L1 {w : World} {A : Option Addr} {n : Nat} {xs : List (List Int)} (h : Kd.C (Kd.slice 3 (Kd.int .i64)) w A n xs) (i : Int) (h0 : 0 ≤ i) (h1 : i < n) : ∃ ad A0 c0, A = some ad ∧ w.cell? (ad.add i.toNat) = some (.slice A0 (rd_L1 xs i).length c0) ∧ (rd_L1 xs i).length ≤ c0 ∧ (Kd.int .i64).C w A0 (rd_L1 xs i).length (rd_L1 xs i) := by
 obtain ⟨ad, c, e, _, hK, hc0⟩ := Kd.C_get h ([] : List Int) i h0 h1
 have hc : ∀ j u, c[j]? = some u → w.cell? (ad.add (i.toNat * 1 + j)) = some u := hc0
 obtain ⟨A0, c0, rfl, l0, g0⟩ := hK
 exact ⟨ad, A0, c0, e, by have hq := hc 0 _ rfl; rwa [Nat.mul_one, Nat.add_zero] at hq, l0, g0⟩

structure S53 where
 f0 : Int
 f1 : Int
def z53 : S53 := ⟨(0 : Int), (0 : Int)⟩
def k53 : Kd S53 := Kd.iso (Kd.pair (Kd.int .i64) (Kd.int .i64)) (fun x : S53 => (x.f0, x.f1))
theorem k53_open {w : World} {x : S53} {cs : List Value} (h : k53.K w x cs) : cs = [.int .i64 x.f0, .int .i64 x.f1] := by
 obtain ⟨_, _, rfl, rfl, rfl⟩ := h
 exact rfl
theorem k53_mkM (w : World) (base : Nat) (ok : Nat → Prop) (x : S53)  : k53.M w base ok x [.int .i64 x.f0, .int .i64 x.f1] := ⟨[.int .i64 x.f0], [.int .i64 x.f1], rfl, rfl, rfl⟩
def rd_T53 (xs : List S53) (i : Int) : S53 := xs.getD i.toNat z53
theorem at_T53 {w : World} {A : Option Addr} {n : Nat} {xs : List S53} (h : Kd.C k53 w A n xs) (i : Int) (h0 : 0 ≤ i) (h1 : i < n) : ∃ ad , A = some ad ∧ w.cell? (ad.add (i.toNat * 2)) = some (.int .i64 (rd_T53 xs i).f0) ∧ w.cell? ⟨(ad.add (i.toNat * 2)).block, (ad.add (i.toNat * 2)).off + 1, none⟩ = some (.int .i64 (rd_T53 xs i).f1) := by
 obtain ⟨ad, c, e, _, hK, hc0⟩ := Kd.C_get h z53 i h0 h1
 have hc : ∀ j u, c[j]? = some u → w.cell? (ad.add (i.toNat * 2 + j)) = some u := hc0
 obtain rfl := k53_open hK
 exact ⟨ad, e, hc 0 _ rfl, by rw [← add_field _ _ 1 (by omega)]; exact hc 1 _ rfl⟩

structure S57 where
 f0 : Int
 f1 : Int
 f2 : Int
 f3 : Int
def z57 : S57 := ⟨(0 : Int), (0 : Int), (0 : Int), (0 : Int)⟩
def k57 : Kd S57 := Kd.iso (Kd.pair (Kd.int .i64) (Kd.pair (Kd.int .i64) (Kd.pair (Kd.int .i64) (Kd.int .i64)))) (fun x : S57 => (x.f0, x.f1, x.f2, x.f3))
theorem k57_open {w : World} {x : S57} {cs : List Value} (h : k57.K w x cs) : cs = [.int .i64 x.f0, .int .i64 x.f1, .int .i64 x.f2, .int .i64 x.f3] := by
 obtain ⟨_, _, rfl, rfl, ⟨_, _, rfl, rfl, ⟨_, _, rfl, rfl, rfl⟩⟩⟩ := h
 exact rfl
theorem k57_openM {w : World} {base : Nat} {ok : Nat → Prop} {x : S57} {cs : List Value} (h : k57.M w base ok x cs) : cs = [.int .i64 x.f0, .int .i64 x.f1, .int .i64 x.f2, .int .i64 x.f3] := by
 obtain ⟨_, _, rfl, rfl, ⟨_, _, rfl, rfl, ⟨_, _, rfl, rfl, rfl⟩⟩⟩ := h
 exact rfl
theorem k57_mkM (w : World) (base : Nat) (ok : Nat → Prop) (x : S57)  : k57.M w base ok x [.int .i64 x.f0, .int .i64 x.f1, .int .i64 x.f2, .int .i64 x.f3] := ⟨[.int .i64 x.f0], [.int .i64 x.f1, .int .i64 x.f2, .int .i64 x.f3], rfl, rfl, ⟨[.int .i64 x.f1], [.int .i64 x.f2, .int .i64 x.f3], rfl, rfl, ⟨[.int .i64 x.f2], [.int .i64 x.f3], rfl, rfl, rfl⟩⟩⟩
def rd_T57 (xs : List S57) (i : Int) : S57 := xs.getD i.toNat z57
theorem at_T57 {w : World} {A : Option Addr} {n : Nat} {xs : List S57} (h : Kd.C k57 w A n xs) (i : Int) (h0 : 0 ≤ i) (h1 : i < n) : ∃ ad , A = some ad ∧ w.cell? (ad.add (i.toNat * 4)) = some (.int .i64 (rd_T57 xs i).f0) ∧ w.cell? ⟨(ad.add (i.toNat * 4)).block, (ad.add (i.toNat * 4)).off + 1, none⟩ = some (.int .i64 (rd_T57 xs i).f1) ∧ w.cell? ⟨(ad.add (i.toNat * 4)).block, (ad.add (i.toNat * 4)).off + 2, none⟩ = some (.int .i64 (rd_T57 xs i).f2) ∧ w.cell? ⟨(ad.add (i.toNat * 4)).block, (ad.add (i.toNat * 4)).off + 3, none⟩ = some (.int .i64 (rd_T57 xs i).f3) := by
 obtain ⟨ad, c, e, _, hK, hc0⟩ := Kd.C_get h z57 i h0 h1
 have hc : ∀ j u, c[j]? = some u → w.cell? (ad.add (i.toNat * 4 + j)) = some u := hc0
 obtain rfl := k57_open hK
 exact ⟨ad, e, hc 0 _ rfl, by rw [← add_field _ _ 1 (by omega)]; exact hc 1 _ rfl, by rw [← add_field _ _ 2 (by omega)]; exact hc 2 _ rfl, by rw [← add_field _ _ 3 (by omega)]; exact hc 3 _ rfl⟩

end Go.Proofs.YtekmiepdodaidaaDoor.X
end

section
/- math/bits: OnesCount and TrailingZeros. -/
set_option linter.unusedVariables false
set_option linter.unusedSimpArgs false
namespace Go.Proofs.YtekmiepdodaidaaDoor.X
open Go.RowKit Go.Proofs.YtekmiepdodaidaaDoorW.PrintWords Go.Proofs.YtekmiepdodaidaaDoorW.PrintLast Go.Proofs.YtekmiepdodaidaaDoorW.PrintMore

def pc1 (s : Int) : Int := IntKind.u64.wrap (Go.bits .and .u64 (s / 2) 6148914691236517205 + Go.bits .and .u64 s 6148914691236517205)
def pc2 (s : Int) : Int := IntKind.u64.wrap (Go.bits .and .u64 (s / 4) 3689348814741910323 + Go.bits .and .u64 s 3689348814741910323)
def pc3 (s : Int) : Int := Go.bits .and .u64 (IntKind.u64.wrap (s / 16 + s)) 1085102592571150095
def pc4 (s : Int) : Int := IntKind.u64.wrap (s + s / 256)
def pc5 (s : Int) : Int := IntKind.u64.wrap (s + s / 65536)
def pc6 (s : Int) : Int := IntKind.u64.wrap (s + s / 4294967296)
def pc7 (s : Int) : Int := Go.bits .and .i64 (wrap64 s) 127
/-- How many faults a set has. -/
def pcount (s : Int) : Int := pc7 (pc6 (pc5 (pc4 (pc3 (pc2 (pc1 s))))))

set_option maxRecDepth 100000 in
theorem ones77 (s : Int) (w : World) : Calls Tryd.prog 77 #[.int .u64 s] w fun e w' => e = .returned (.int .i64 (pcount s)) ∧ w = w' := by
 go_enter Tryd.func77, Tryd.ntmps77
 go_wp2
 go_ret
 exact ⟨rfl, rfl⟩
theorem ones_n (s : Int) (hs : IntKind.u64.wrap s = s) (w : World) : Calls Tryd.prog 69 #[.int .u64 s] w fun e w' => e = .returned (.int .i64 (pcount s)) ∧ w = w' := by
 have hs' := hs
 go_enter Tryd.func69, Tryd.ntmps69
 go_wp2_with (go_at_call 77; refine (ones77 _ _).mono ?_; rintro e w' ⟨rfl, rfl⟩)
 go_ret
 exact ⟨rfl, rfl⟩
set_option maxRecDepth 100000 in
theorem tz79 (s : Int) (w : World) (k idx : Nat) (hx0 : (s == 0) = false) (key : IntKind.u64.wrap (bits BinOp.and IntKind.u64 s (IntKind.u64.wrap (-s)) * 285870213051353865) / 288230376151711744 = (idx : Int))
  (hi : idx < 64) (hk : k < 64) (hcell : w.cell? ⟨1, idx, none⟩ = some (.int .u8 k)) : Calls Tryd.prog 79 #[.int .u64 s] w fun e w' => e = .returned (.int .i64 k) ∧ w = w' := by
 go_enter Tryd.func79, Tryd.ntmps79
 go_wp2_with (simp only [key])
 go_ret
 exact ⟨rfl, rfl⟩
/-- The library's table lies in its variable. -/
def Tab (w : World) : Prop := TabAt 1 Lib.deBruijn64tab w ∧ 2 ≤ w.heap.size
theorem Tab.below {w W : World} (h : Tab w) (hb : Below w.heap.size w W) : Tab W :=
 ⟨fun j hj => pw_cell_below hb (h.1 j hj), Nat.le_trans h.2 hb.size⟩
theorem tz_n (x : Nat) (hx : x < 18446744073709551616) (h0 : x ≠ 0) (w : World) (hT : Tab w) : Calls Tryd.prog 70 #[.int .u64 x] w fun e w' => e = .returned (.int .i64 (Lib.ctz 64 x)) ∧ w = w' := by
 obtain ⟨hlow, hk⟩ := Lib.lowest_bit 64 x h0 hx
 obtain ⟨hi, htab⟩ := Lib.deBruijn64_at _ hk
 have hcell := hT.1 _ (by rw [show Lib.deBruijn64tab.length = 64 from by decide]; exact hi)
 rw [htab] at hcell
 have hK := Aside0.mk (tz64_key x _ hx h0 hlow)
 have hCell := Aside0.mk hcell
 have hI := Aside0.mk hi
 have hw : IntKind.u64.wrap (x : Int) = (x : Int) := by rw [IntKind.wrap_u64]; omega
 clear hcell hi htab hlow
 obtain ⟨k, hkk⟩ : ∃ k, k = Lib.ctz 64 x := ⟨_, rfl⟩
 rw [← hkk] at hK hCell hk hI ⊢
 go_enter Tryd.func70, Tryd.ntmps70
 go_wp2_with (go_at_call 79; refine (tz79 (x : Int) w k _ (by simp; omega) hK.out hI.out hk hCell.out).mono ?_; rintro e w' ⟨rfl, rfl⟩)
 go_ret
 exact ⟨by rw [hkk]; rfl, rfl⟩
end Go.Proofs.YtekmiepdodaidaaDoor.X
end

section
/- Layer 7, plain: sets of faults as numbers; the best test of a set. -/
set_option linter.unusedVariables false
namespace Go.Proofs.YtekmiepdodaidaaDoor.X
open Go.RowKit Go.Proofs.YtekmiepdodaidaaDoorW.PrintWords Go.Proofs.YtekmiepdodaidaaDoorW.PrintLast Go.Proofs.YtekmiepdodaidaaDoorW.PrintMore

def bAnd (s x : Int) : Int := Go.bits .and .u64 s x
def bSub (s x : Int) : Int := Go.bits .andNot .u64 s x
/-- Does a test divide a set? -/
def splitB (s x : Int) : Bool := !(bAnd s x == 0) && !(bSub s x == 0)
/-- A set of at most ten faults. -/
def SetB (s : Int) : Prop := 0 ≤ s ∧ s < 1024
/-- The first best test of those from number k on. -/
def pickB (c : Int → Int → Int) (s : Int) : Int → List Int → Int × Int → Int × Int
 | _, [], b => b
 | k, x :: xs, b => pickB c s (k + 1) xs (if splitB s x = true then (if b.1 < 0 ∨ c k x < b.2 then (k, c k x) else b) else b)
def cstB (chs : Int → Int × Int) (s : Int) : Int := if pcount s = 1 then 0 else (chs s).2
/-- The choice at a set, by the choices at smaller ones. -/
def chsStep (mf : Int → Int → Int → Int → Int) (ones : List Int) (chs : Int → Int × Int) (s : Int) : Int × Int :=
 pickB (fun k x => mf k s (cstB chs (bSub s x)) (cstB chs (bAnd s x))) s 0 ones (-1, 0)
def chsF (mf : Int → Int → Int → Int → Int) (ones : List Int) : Nat → Int → Int × Int
 | 0, _ => (-1, 0)
 | d + 1, s => chsStep mf ones (chsF mf ones d) s
def chs (mf : Int → Int → Int → Int → Int) (ones : List Int) (s : Int) : Int × Int := chsF mf ones (s.toNat + 1) s

theorem and_sub_nat : ∀ (n a b : Nat), a < 2 ^ n → b < 2 ^ n → (a &&& b) + (a &&& (2 ^ n - 1 - b)) = a
 | 0, a, b, ha, hb => by simp at ha hb; subst ha hb; rfl
 | n + 1, a, b, ha, hb => by
  have hp : 2 ^ (n + 1) = 2 * 2 ^ n := by rw [Nat.pow_succ]; omega
  have ih := and_sub_nat n (a / 2) (b / 2) (by omega) (by omega)
  have e1 : (a &&& b) / 2 = a / 2 &&& b / 2 := Nat.and_div_two
  have e2 : (a &&& (2 ^ (n + 1) - 1 - b)) / 2 = a / 2 &&& (2 ^ (n + 1) - 1 - b) / 2 := Nat.and_div_two
  have e3 : (2 ^ (n + 1) - 1 - b) / 2 = 2 ^ n - 1 - b / 2 := by omega
  rw [e3] at e2
  have m1 : (a &&& b) % 2 = 1 ↔ a % 2 = 1 ∧ b % 2 = 1 := Nat.and_mod_two_eq_one
  have m2 : (a &&& (2 ^ (n + 1) - 1 - b)) % 2 = 1 ↔ a % 2 = 1 ∧ (2 ^ (n + 1) - 1 - b) % 2 = 1 := Nat.and_mod_two_eq_one
  generalize a &&& b = p at *
  generalize a &&& (2 ^ (n + 1) - 1 - b) = q at *
  generalize a / 2 &&& b / 2 = p2 at *
  generalize a / 2 &&& (2 ^ n - 1 - b / 2) = q2 at *
  omega
theorem bAnd_nat {s x : Int} (hs : SetB s) (hx : SetB x) : bAnd s x = ((s.toNat &&& x.toNat : Nat) : Int) := by
 unfold SetB at hs hx; exact u64_and s x (by omega) (by omega) (by omega) (by omega)
theorem bSub_add {s x : Int} (hs : SetB s) (hx : SetB x) : bAnd s x + bSub s x = s := by
 rw [bAnd_nat hs hx]
 unfold SetB at hs hx
 unfold bSub
 rw [u64_andNot s x (by omega) (by omega) (by omega) (by omega)]
 have := and_sub_nat 64 s.toNat x.toNat (by omega) (by omega)
 simp at this
 omega
theorem bAnd_le {s x : Int} (hs : SetB s) (hx : SetB x) : 0 ≤ bAnd s x ∧ bAnd s x ≤ s := by
 rw [bAnd_nat hs hx]
 have := Nat.and_le_left (n := s.toNat) (m := x.toNat)
 unfold SetB at hs hx
 omega
/-- The two parts of a divided set are sets, smaller ones. -/
theorem split_parts {s x : Int} (hs : SetB s) (hx : SetB x) (h : splitB s x = true) : (1 ≤ bAnd s x ∧ bAnd s x < s) ∧ (1 ≤ bSub s x ∧ bSub s x < s) := by
 have h1 := bSub_add hs hx
 have h2 := bAnd_le hs hx
 unfold splitB at h
 simp at h
 omega
theorem pickB_congr {c c' : Int → Int → Int} {s : Int} : ∀ (l : List Int) (k : Int) (b : Int × Int), (∀ x ∈ l, splitB s x = true → ∀ k, c k x = c' k x) → pickB c s k l b = pickB c' s k l b
 | [], _, _, _ => rfl
 | x :: xs, k, b, h => by
  unfold pickB
  by_cases hx : splitB s x = true
  ·rw [if_pos hx, if_pos hx, h x (by simp) hx k]
   exact pickB_congr xs _ _ (fun y hy => h y (by simp [hy]))
  ·rw [if_neg hx, if_neg hx]
   exact pickB_congr xs _ _ (fun y hy => h y (by simp [hy]))
theorem chsF_stable (mf : Int → Int → Int → Int → Int) (ones : List Int) (ho : ∀ x ∈ ones, SetB x) : ∀ (d : Nat) (s : Int), SetB s → s.toNat < d → chsF mf ones d s = chsF mf ones (d + 1) s
 | 0, s, _, h => absurd h (Nat.not_lt_zero _)
 | d + 1, s, hs, h => by
  show chsStep mf ones (chsF mf ones d) s = chsStep mf ones (chsF mf ones (d + 1)) s
  unfold chsStep
  refine pickB_congr ones _ _ (fun x hx hsp k => ?_)
  obtain ⟨⟨a1, a2⟩, b1, b2⟩ := split_parts hs (ho x hx) hsp
  have hs' := hs
  unfold SetB at hs'
  unfold cstB
  rw [chsF_stable mf ones ho d (bSub s x) (by unfold SetB; omega) (by omega), chsF_stable mf ones ho d (bAnd s x) (by unfold SetB; omega) (by omega)]
theorem chsF_more (mf : Int → Int → Int → Int → Int) (ones : List Int) (ho : ∀ x ∈ ones, SetB x) (s : Int) (hs : SetB s) (d : Nat) (hd : s.toNat < d) : chsF mf ones d s = chs mf ones s := by
 unfold chs
 obtain ⟨e, rfl⟩ : ∃ e, d = s.toNat + 1 + e := ⟨d - (s.toNat + 1), by omega⟩
 clear hd
 induction e with
 | zero => rfl
 | succ e ih => rw [← ih]; exact (chsF_stable mf ones ho (s.toNat + 1 + e) s hs (by omega)).symm
theorem chs_eq (mf : Int → Int → Int → Int → Int) (ones : List Int) (ho : ∀ x ∈ ones, SetB x) (s : Int) (hs : SetB s) : chs mf ones s = chsStep mf ones (chs mf ones) s := by
 show chsStep mf ones (chsF mf ones s.toNat) s = _
 unfold chsStep
 refine pickB_congr ones _ _ (fun x hx hsp k => ?_)
 obtain ⟨⟨a1, a2⟩, b1, b2⟩ := split_parts hs (ho x hx) hsp
 have hs' := hs
 unfold SetB at hs'
 have k1 : (bSub s x).toNat < s.toNat := by omega
 have k2 : (bAnd s x).toNat < s.toNat := by omega
 unfold cstB
 rw [chsF_more mf ones ho (bSub s x) (by unfold SetB; omega) s.toNat k1, chsF_more mf ones ho (bAnd s x) (by unfold SetB; omega) s.toNat k2]
end Go.Proofs.YtekmiepdodaidaaDoor.X
end

section
/- Layer 7, plain: the plan of a choice of tests, as the list of its nodes. -/
set_option linter.unusedVariables false
namespace Go.Proofs.YtekmiepdodaidaaDoor.X
open Go.RowKit Go.Proofs.YtekmiepdodaidaaDoorW.PrintWords Go.Proofs.YtekmiepdodaidaaDoorW.PrintLast Go.Proofs.YtekmiepdodaidaaDoorW.PrintMore

def tzB (s : Int) : Int := (Lib.ctz 64 s.toNat : Nat)
/-- The nodes of the plan of s, the first of which stands at place p. -/
def treeF (tf : Int → Int) (ones : List Int) : Nat → Int → Nat → List S57
 | 0, _, _ => []
 | d + 1, s, p => if pcount s = 1 then [⟨-1, tzB s, 0, 0⟩] else
   let z := treeF tf ones d (bSub s (rd ones (tf s))) (p + 1)
   ⟨tf s, 0, ((p + 1 : Nat) : Int), ((p + 1 + z.length : Nat) : Int)⟩ :: (z ++ treeF tf ones d (bAnd s (rd ones (tf s))) (p + 1 + z.length))
def treeB (tf : Int → Int) (ones : List Int) (s : Int) (p : Nat) : List S57 := treeF tf ones (s.toNat + 1) s p
/-- The sets that a plan comes to: each is divided by its test, or is one fault. -/
structure Runs (tf : Int → Int) (ones : List Int) (R : Int → Prop) : Prop where
 set : ∀ s, R s → SetB s ∧ 1 ≤ s
 test : ∀ s, R s → pcount s ≠ 1 → 0 ≤ tf s ∧ tf s < ones.length ∧ SetB (rd ones (tf s)) ∧ splitB s (rd ones (tf s)) = true ∧ R (bSub s (rd ones (tf s))) ∧ R (bAnd s (rd ones (tf s)))
section
variable {tf : Int → Int} {ones : List Int} {R : Int → Prop} (H : Runs tf ones R)
include H
theorem treeF_stable : ∀ (d : Nat) (s : Int) (p : Nat), R s → s.toNat < d → treeF tf ones d s p = treeF tf ones (d + 1) s p
 | 0, s, p, _, h => absurd h (Nat.not_lt_zero _)
 | d + 1, s, p, hR, h => by
  have hs := H.set s hR
  unfold SetB at hs
  unfold treeF
  by_cases h1 : pcount s = 1
  ·rw [if_pos h1, if_pos h1]
  ·rw [if_neg h1, if_neg h1]
   obtain ⟨t0, t1, t2, t3, t4, t5⟩ := H.test s hR h1
   obtain ⟨⟨a1, a2⟩, b1, b2⟩ := split_parts (H.set s hR).1 t2 t3
   rw [treeF_stable d (bSub s (rd ones (tf s))) (p + 1) t4 (by omega)]
   dsimp only
   rw [treeF_stable d (bAnd s (rd ones (tf s))) _ t5 (by omega)]
theorem treeF_more (s : Int) (p : Nat) (hR : R s) (d : Nat) (hd : s.toNat < d) : treeF tf ones d s p = treeB tf ones s p := by
 unfold treeB
 obtain ⟨e, rfl⟩ : ∃ e, d = s.toNat + 1 + e := ⟨d - (s.toNat + 1), by omega⟩
 clear hd
 induction e with
 | zero => rfl
 | succ e ih => rw [← ih]; exact (treeF_stable H (s.toNat + 1 + e) s p hR (by omega)).symm
omit H in
theorem treeB_one (s : Int) (p : Nat) (h1 : pcount s = 1) : treeB tf ones s p = [⟨-1, tzB s, 0, 0⟩] := by
 unfold treeB treeF; rw [if_pos h1]
theorem treeB_two (s : Int) (p : Nat) (hR : R s) (h1 : pcount s ≠ 1) : treeB tf ones s p =
  ⟨tf s, 0, ((p + 1 : Nat) : Int), ((p + 1 + (treeB tf ones (bSub s (rd ones (tf s))) (p + 1)).length : Nat) : Int)⟩ :: (treeB tf ones (bSub s (rd ones (tf s))) (p + 1) ++ treeB tf ones (bAnd s (rd ones (tf s))) (p + 1 + (treeB tf ones (bSub s (rd ones (tf s))) (p + 1)).length)) := by
 have hs := H.set s hR
 unfold SetB at hs
 obtain ⟨t0, t1, t2, t3, t4, t5⟩ := H.test s hR h1
 obtain ⟨⟨a1, a2⟩, b1, b2⟩ := split_parts (H.set s hR).1 t2 t3
 have k1 : (bSub s (rd ones (tf s))).toNat < s.toNat := by omega
 have k2 : (bAnd s (rd ones (tf s))).toNat < s.toNat := by omega
 show treeF tf ones (s.toNat + 1) s p = _
 unfold treeF
 rw [if_neg h1]
 dsimp only
 rw [treeF_more H _ _ t4 s.toNat k1, treeF_more H _ _ t5 s.toNat k2]
theorem treeB_len (d : Nat) : ∀ (s : Int) (p : Nat), R s → s.toNat ≤ d → (treeB tf ones s p).length + 1 ≤ 2 * s.toNat := by
 induction d with
 | zero => intro s p hR h; have hs := (H.set s hR).2; omega
 | succ d ih =>
  intro s p hR h
  have hs := H.set s hR
  by_cases h1 : pcount s = 1
  ·rw [treeB_one s p h1]; simp only [List.length_cons, List.length_nil]; omega
  ·obtain ⟨t0, t1, t2, t3, t4, t5⟩ := H.test s hR h1
   obtain ⟨⟨a1, a2⟩, b1, b2⟩ := split_parts (H.set s hR).1 t2 t3
   have hadd := bSub_add (H.set s hR).1 t2
   have e1 := ih _ (p + 1) t4 (by omega)
   have e2 := ih _ (p + 1 + (treeB tf ones (bSub s (rd ones (tf s))) (p + 1)).length) t5 (by omega)
   rw [treeB_two H s p hR h1, List.length_cons, List.length_append]
   generalize (treeB tf ones (bAnd s (rd ones (tf s))) (p + 1 + (treeB tf ones (bSub s (rd ones (tf s))) (p + 1)).length)).length = m2 at *
   generalize (treeB tf ones (bSub s (rd ones (tf s))) (p + 1)).length = m1 at *
   generalize bSub s (rd ones (tf s)) = u1 at *
   generalize bAnd s (rd ones (tf s)) = u2 at *
   have hs2 := hs.2
   clear ih H hs t2 t3 t4 t5 h1
   omega
end
end Go.Proofs.YtekmiepdodaidaaDoor.X
end

section
namespace Go.Proofs.YtekmiepdodaidaaDoor.X
open Go.RowKit Go.Proofs.YtekmiepdodaidaaDoorW.PrintWords Go.Proofs.YtekmiepdodaidaaDoorW.PrintLast Go.Proofs.YtekmiepdodaidaaDoorW.PrintMore
attribute [local go_sem] max2_int min2_int max_two min_two max_three min_three max_four min_four   -- for this text's walks alone
set_option linter.unusedVariables false
set_option linter.unusedSimpArgs false

def tests_within.f (a0 : Int) (a1 : Int) (a2 : Int) : Option (Bool) := if a0 ≥ a1 then (some (decide (a0 ≤ a2))) else (some false)
set_option maxHeartbeats 8000000 in
set_option maxRecDepth 100000 in
theorem tests_within.calls (a0 : Int) (a1 : Int) (a2 : Int) (r : Bool) (w : World) (h : tests_within.f a0 a1 a2 = some r) :
  Calls Tryd.prog 47 #[.int .i64 a0, .int .i64 a1, .int .i64 a2] w fun e w' => e = .returned (.bool r) ∧ Drawn0 w w' := by
 have H : (if a0 ≥ a1 then (some (decide (a0 ≤ a2))) else (some false)) = some r := h
 clear h
 by_cases c4 : a0 ≥ a1
 ·rw [if_pos c4] at H
  have c4b0 : decide (a1 ≤ a0) = true := decide_eq_true c4
  clear c4
  obtain rfl := Option.some.inj H
  go_enter Tryd.func47, Tryd.ntmps47
  go_wp2
  go_ret
  exact ⟨by first | rfl | (simp; done) | (simp [*]; done), by repeat (first | exact Drawn0.refl _ | apply Drawn0.step)⟩
 ·rw [if_neg c4] at H
  have c4b0 : decide (a1 ≤ a0) = false := decide_eq_false c4
  clear c4
  obtain rfl := Option.some.inj H
  go_enter Tryd.func47, Tryd.ntmps47
  go_wp2
  go_ret
  exact ⟨by first | rfl | (simp; done) | (simp [*]; done), by repeat (first | exact Drawn0.refl _ | apply Drawn0.step)⟩

end Go.Proofs.YtekmiepdodaidaaDoor.X
end

section
/- slices.ContainsFunc and slices.IndexFunc at the closures of newTrial: is any number out of its bounds? -/
set_option linter.unusedVariables false
set_option linter.unusedSimpArgs false
namespace Go.Proofs.YtekmiepdodaidaaDoor.X
open Go.RowKit Go.Proofs.YtekmiepdodaidaaDoorW.PrintWords Go.Proofs.YtekmiepdodaidaaDoorW.PrintLast Go.Proofs.YtekmiepdodaidaaDoorW.PrintMore

def inB (lo hi d : Int) : Bool := decide (lo ≤ d) && decide (d ≤ hi)
def tests_newTrial_1.f (l : List Int) : Option Bool := some (!l.all (inB 1 1000))
def tests_newTrial_2.f (l : List Int) : Option Bool := some (!l.all (inB 1 100))
def tests_newTrial_3.f (l : List Int) : Option Bool := some (!l.all (inB 0 1))

theorem within_n (n lo hi : Int) (w : World) : Calls Tryd.prog 47 #[.int .i64 n, .int .i64 lo, .int .i64 hi] w fun e w' => e = .returned (.bool (inB lo hi n)) ∧ w = w' := by
 unfold inB
 by_cases h1 : lo ≤ n
 ·have c1 : decide (lo ≤ n) = true := decide_eq_true h1
  have HG := Aside0.mk (show (decide (lo ≤ n) && decide (n ≤ hi)) = decide (n ≤ hi) by rw [c1]; rfl)
  clear h1
  go_enter Tryd.func47, Tryd.ntmps47
  go_wp2
  go_ret
  exact ⟨by rw [HG.out]; rfl, rfl⟩
 ·have c1 : decide (lo ≤ n) = false := decide_eq_false h1
  have HG := Aside0.mk (show (decide (lo ≤ n) && decide (n ≤ hi)) = false by rw [c1]; rfl)
  clear h1
  go_enter Tryd.func47, Tryd.ntmps47
  go_wp2
  go_ret
  exact ⟨by rw [HG.out]; rfl, rfl⟩

def BadAt (f : Int → Bool) (d : Int) (e : Ending) : Prop := e = .returned (.bool (!f d))
theorem bad62 (d : Int) (w : World) : Calls Tryd.prog 62 #[.int .i64 d] w fun e w' => BadAt (inB 1 1000) d e ∧ w = w' := by
 go_enter Tryd.func62, Tryd.ntmps62
 go_wp2_with (go_at_call 47; refine (within_n _ _ _ _).mono ?_; rintro e w' ⟨rfl, rfl⟩)
 go_ret
 exact ⟨rfl, rfl⟩
theorem bad63 (d : Int) (w : World) : Calls Tryd.prog 63 #[.int .i64 d] w fun e w' => BadAt (inB 1 100) d e ∧ w = w' := by
 go_enter Tryd.func63, Tryd.ntmps63
 go_wp2_with (go_at_call 47; refine (within_n _ _ _ _).mono ?_; rintro e w' ⟨rfl, rfl⟩)
 go_ret
 exact ⟨rfl, rfl⟩
theorem bad64 (d : Int) (w : World) : Calls Tryd.prog 64 #[.int .i64 d] w fun e w' => BadAt (inB 0 1) d e ∧ w = w' := by
 go_enter Tryd.func64, Tryd.ntmps64
 go_wp2_with (go_at_call 47; refine (within_n _ _ _ _).mono ?_; rintro e w' ⟨rfl, rfl⟩)
 go_ret
 exact ⟨rfl, rfl⟩

/-- Where the first bad number stands. -/
def SomeIdx (f : Int → Bool) (l : List Int) (w : World) (e : Ending) (w' : World) : Prop := ∃ v : Int, e = .returned (.int .i64 v) ∧ w = w' ∧ (0 ≤ v ↔ l.all f = false)
set_option maxHeartbeats 2000000 in
set_option maxRecDepth 100000 in
theorem idx62 (f : Int → Bool) (hcl : ∀ d w, Calls Tryd.prog 62 #[.int .i64 d] w fun e w' => BadAt f d e ∧ w = w') (A : Option Addr) (c : Nat) (l : List Int) (w : World) (hr : Kd.C (Kd.int .i64) w A l.length l) :
  Calls Tryd.prog 73 #[.slice A l.length c, .func (.func 62) #[] #[]] w (SomeIdx f l w) := by
 have HR := Aside0.mk hr
 have HCL := Aside0.mk hcl
 have hm := Kd.C_max hr
 clear hr hcl
 go_enter Tryd.func73, Tryd.ntmps73
 go_wp2
 go_loopg [8] l.length (fun kq v8 w' => ∃ k : Nat, v8 = .int .i64 k ∧ w = w' ∧ Aside0 (kq + k = l.length) ∧ Aside0 (∀ j, j < k → f (rd l j) = true))
 case atStart => exact ⟨0, rfl, rfl, ⟨by omega⟩, ⟨by intro j hj; omega⟩⟩
 case round =>
  obtain ⟨k, rfl, rfl, HK, HOK⟩ := hrel
  by_cases hk : k < l.length
  ·obtain ⟨ad, e1, hx⟩ := Kd.at_int HR.out (k : Int) (by omega) (by omega)
   cases e1
   simp only [Int.toNat_natCast] at hx
   obtain ⟨x, hx'⟩ : ∃ x, rd l (k : Int) = x := ⟨_, rfl⟩
   rw [hx'] at hx
   have HX := Aside0.mk hx'
   clear hx'
   obtain ⟨b, hb⟩ : ∃ b, f x = b := ⟨_, rfl⟩
   have HBX := Aside0.mk hb
   clear hb
   cases b with
   | true =>
    go_wp2_with (go_at_call 62; refine (HCL.out x _).mono ?_; rintro e w' ⟨he, rfl⟩; unfold BadAt at he; rw [HBX.out] at he; subst he)
    go_roundg (gk - 1)
    case measure => have := HK.out; omega
    case rel => exact ⟨k + 1, by go_num, rfl, ⟨by have := HK.out; omega⟩, ⟨by intro j hj; by_cases e : j = k; (subst e; rw [HX.out]; exact HBX.out); exact HOK.out j (by omega)⟩⟩
   | false =>
    have HBAD := Aside0.mk (show l.all f = false by
     rw [List.all_eq_false]
     refine ⟨x, ?_, by rw [HBX.out]; decide⟩
     rw [← HX.out]; simp only [rd, Int.toNat_natCast, List.getD_eq_getElem?_getD, List.getElem?_eq_getElem hk, Option.getD_some]; exact List.getElem_mem hk)
    go_wp2_with (go_at_call 62; refine (HCL.out x _).mono ?_; rintro e w' ⟨he, rfl⟩; unfold BadAt at he; rw [HBX.out] at he; subst he)
    go_ret
    exact ⟨k, rfl, rfl, by simp [HBAD.out]⟩
  ·have hk' : k = l.length := by have := HK.out; omega
   have HALL := Aside0.mk (show l.all f = true by
    rw [List.all_eq_true]
    intro x hx
    obtain ⟨i, hi, rfl⟩ := List.getElem_of_mem hx
    have := HOK.out i (by omega)
    simpa [rd, List.getD_eq_getElem?_getD, List.getElem?_eq_getElem hi] using this)
   obtain rfl := hk'
   go_wp2
   go_ret
   exact ⟨-1, rfl, rfl, by simp [HALL.out]⟩

theorem contains62 (f : Int → Bool) (hcl : ∀ d w, Calls Tryd.prog 62 #[.int .i64 d] w fun e w' => BadAt f d e ∧ w = w') (A : Option Addr) (c : Nat) (l : List Int) (w : World) (hr : Kd.C (Kd.int .i64) w A l.length l) :
  Calls Tryd.prog 61 #[.slice A l.length c, .func (.func 62) #[] #[]] w fun e w' => e = .returned (.bool (!l.all f)) ∧ w = w' := by
 have HR := Aside0.mk hr
 have HCL := Aside0.mk hcl
 clear hr hcl
 obtain ⟨b, hb⟩ : ∃ b, l.all f = b := ⟨_, rfl⟩
 rw [hb]
 have HBB := Aside0.mk hb
 clear hb
 go_enter Tryd.func61, Tryd.ntmps61
 go_wp2_with fail
 refine (idx62 f HCL.out A c l _ HR.out).mono ?_
 rintro e w' ⟨v, rfl, rfl, hv⟩
 rw [HBB.out] at hv
 cases b with
 | true =>
  have h0 : decide (0 ≤ v) = false := decide_eq_false (fun h => by simpa using hv.1 h)
  clear hv
  go_wp2
  go_ret
  exact ⟨rfl, rfl⟩
 | false =>
  have h0 : decide (0 ≤ v) = true := decide_eq_true (hv.2 rfl)
  clear hv
  go_wp2
  go_ret
  exact ⟨rfl, rfl⟩

set_option maxHeartbeats 2000000 in
set_option maxRecDepth 100000 in
theorem idx63 (f : Int → Bool) (hcl : ∀ d w, Calls Tryd.prog 63 #[.int .i64 d] w fun e w' => BadAt f d e ∧ w = w') (A : Option Addr) (c : Nat) (l : List Int) (w : World) (hr : Kd.C (Kd.int .i64) w A l.length l) :
  Calls Tryd.prog 73 #[.slice A l.length c, .func (.func 63) #[] #[]] w (SomeIdx f l w) := by
 have HR := Aside0.mk hr
 have HCL := Aside0.mk hcl
 have hm := Kd.C_max hr
 clear hr hcl
 go_enter Tryd.func73, Tryd.ntmps73
 go_wp2
 go_loopg [8] l.length (fun kq v8 w' => ∃ k : Nat, v8 = .int .i64 k ∧ w = w' ∧ Aside0 (kq + k = l.length) ∧ Aside0 (∀ j, j < k → f (rd l j) = true))
 case atStart => exact ⟨0, rfl, rfl, ⟨by omega⟩, ⟨by intro j hj; omega⟩⟩
 case round =>
  obtain ⟨k, rfl, rfl, HK, HOK⟩ := hrel
  by_cases hk : k < l.length
  ·obtain ⟨ad, e1, hx⟩ := Kd.at_int HR.out (k : Int) (by omega) (by omega)
   cases e1
   simp only [Int.toNat_natCast] at hx
   obtain ⟨x, hx'⟩ : ∃ x, rd l (k : Int) = x := ⟨_, rfl⟩
   rw [hx'] at hx
   have HX := Aside0.mk hx'
   clear hx'
   obtain ⟨b, hb⟩ : ∃ b, f x = b := ⟨_, rfl⟩
   have HBX := Aside0.mk hb
   clear hb
   cases b with
   | true =>
    go_wp2_with (go_at_call 63; refine (HCL.out x _).mono ?_; rintro e w' ⟨he, rfl⟩; unfold BadAt at he; rw [HBX.out] at he; subst he)
    go_roundg (gk - 1)
    case measure => have := HK.out; omega
    case rel => exact ⟨k + 1, by go_num, rfl, ⟨by have := HK.out; omega⟩, ⟨by intro j hj; by_cases e : j = k; (subst e; rw [HX.out]; exact HBX.out); exact HOK.out j (by omega)⟩⟩
   | false =>
    have HBAD := Aside0.mk (show l.all f = false by
     rw [List.all_eq_false]
     refine ⟨x, ?_, by rw [HBX.out]; decide⟩
     rw [← HX.out]; simp only [rd, Int.toNat_natCast, List.getD_eq_getElem?_getD, List.getElem?_eq_getElem hk, Option.getD_some]; exact List.getElem_mem hk)
    go_wp2_with (go_at_call 63; refine (HCL.out x _).mono ?_; rintro e w' ⟨he, rfl⟩; unfold BadAt at he; rw [HBX.out] at he; subst he)
    go_ret
    exact ⟨k, rfl, rfl, by simp [HBAD.out]⟩
  ·have hk' : k = l.length := by have := HK.out; omega
   have HALL := Aside0.mk (show l.all f = true by
    rw [List.all_eq_true]
    intro x hx
    obtain ⟨i, hi, rfl⟩ := List.getElem_of_mem hx
    have := HOK.out i (by omega)
    simpa [rd, List.getD_eq_getElem?_getD, List.getElem?_eq_getElem hi] using this)
   obtain rfl := hk'
   go_wp2
   go_ret
   exact ⟨-1, rfl, rfl, by simp [HALL.out]⟩

theorem contains63 (f : Int → Bool) (hcl : ∀ d w, Calls Tryd.prog 63 #[.int .i64 d] w fun e w' => BadAt f d e ∧ w = w') (A : Option Addr) (c : Nat) (l : List Int) (w : World) (hr : Kd.C (Kd.int .i64) w A l.length l) :
  Calls Tryd.prog 61 #[.slice A l.length c, .func (.func 63) #[] #[]] w fun e w' => e = .returned (.bool (!l.all f)) ∧ w = w' := by
 have HR := Aside0.mk hr
 have HCL := Aside0.mk hcl
 clear hr hcl
 obtain ⟨b, hb⟩ : ∃ b, l.all f = b := ⟨_, rfl⟩
 rw [hb]
 have HBB := Aside0.mk hb
 clear hb
 go_enter Tryd.func61, Tryd.ntmps61
 go_wp2_with fail
 refine (idx63 f HCL.out A c l _ HR.out).mono ?_
 rintro e w' ⟨v, rfl, rfl, hv⟩
 rw [HBB.out] at hv
 cases b with
 | true =>
  have h0 : decide (0 ≤ v) = false := decide_eq_false (fun h => by simpa using hv.1 h)
  clear hv
  go_wp2
  go_ret
  exact ⟨rfl, rfl⟩
 | false =>
  have h0 : decide (0 ≤ v) = true := decide_eq_true (hv.2 rfl)
  clear hv
  go_wp2
  go_ret
  exact ⟨rfl, rfl⟩

set_option maxHeartbeats 2000000 in
set_option maxRecDepth 100000 in
theorem idx64 (f : Int → Bool) (hcl : ∀ d w, Calls Tryd.prog 64 #[.int .i64 d] w fun e w' => BadAt f d e ∧ w = w') (A : Option Addr) (c : Nat) (l : List Int) (w : World) (hr : Kd.C (Kd.int .i64) w A l.length l) :
  Calls Tryd.prog 73 #[.slice A l.length c, .func (.func 64) #[] #[]] w (SomeIdx f l w) := by
 have HR := Aside0.mk hr
 have HCL := Aside0.mk hcl
 have hm := Kd.C_max hr
 clear hr hcl
 go_enter Tryd.func73, Tryd.ntmps73
 go_wp2
 go_loopg [8] l.length (fun kq v8 w' => ∃ k : Nat, v8 = .int .i64 k ∧ w = w' ∧ Aside0 (kq + k = l.length) ∧ Aside0 (∀ j, j < k → f (rd l j) = true))
 case atStart => exact ⟨0, rfl, rfl, ⟨by omega⟩, ⟨by intro j hj; omega⟩⟩
 case round =>
  obtain ⟨k, rfl, rfl, HK, HOK⟩ := hrel
  by_cases hk : k < l.length
  ·obtain ⟨ad, e1, hx⟩ := Kd.at_int HR.out (k : Int) (by omega) (by omega)
   cases e1
   simp only [Int.toNat_natCast] at hx
   obtain ⟨x, hx'⟩ : ∃ x, rd l (k : Int) = x := ⟨_, rfl⟩
   rw [hx'] at hx
   have HX := Aside0.mk hx'
   clear hx'
   obtain ⟨b, hb⟩ : ∃ b, f x = b := ⟨_, rfl⟩
   have HBX := Aside0.mk hb
   clear hb
   cases b with
   | true =>
    go_wp2_with (go_at_call 64; refine (HCL.out x _).mono ?_; rintro e w' ⟨he, rfl⟩; unfold BadAt at he; rw [HBX.out] at he; subst he)
    go_roundg (gk - 1)
    case measure => have := HK.out; omega
    case rel => exact ⟨k + 1, by go_num, rfl, ⟨by have := HK.out; omega⟩, ⟨by intro j hj; by_cases e : j = k; (subst e; rw [HX.out]; exact HBX.out); exact HOK.out j (by omega)⟩⟩
   | false =>
    have HBAD := Aside0.mk (show l.all f = false by
     rw [List.all_eq_false]
     refine ⟨x, ?_, by rw [HBX.out]; decide⟩
     rw [← HX.out]; simp only [rd, Int.toNat_natCast, List.getD_eq_getElem?_getD, List.getElem?_eq_getElem hk, Option.getD_some]; exact List.getElem_mem hk)
    go_wp2_with (go_at_call 64; refine (HCL.out x _).mono ?_; rintro e w' ⟨he, rfl⟩; unfold BadAt at he; rw [HBX.out] at he; subst he)
    go_ret
    exact ⟨k, rfl, rfl, by simp [HBAD.out]⟩
  ·have hk' : k = l.length := by have := HK.out; omega
   have HALL := Aside0.mk (show l.all f = true by
    rw [List.all_eq_true]
    intro x hx
    obtain ⟨i, hi, rfl⟩ := List.getElem_of_mem hx
    have := HOK.out i (by omega)
    simpa [rd, List.getD_eq_getElem?_getD, List.getElem?_eq_getElem hi] using this)
   obtain rfl := hk'
   go_wp2
   go_ret
   exact ⟨-1, rfl, rfl, by simp [HALL.out]⟩

theorem contains64 (f : Int → Bool) (hcl : ∀ d w, Calls Tryd.prog 64 #[.int .i64 d] w fun e w' => BadAt f d e ∧ w = w') (A : Option Addr) (c : Nat) (l : List Int) (w : World) (hr : Kd.C (Kd.int .i64) w A l.length l) :
  Calls Tryd.prog 61 #[.slice A l.length c, .func (.func 64) #[] #[]] w fun e w' => e = .returned (.bool (!l.all f)) ∧ w = w' := by
 have HR := Aside0.mk hr
 have HCL := Aside0.mk hcl
 clear hr hcl
 obtain ⟨b, hb⟩ : ∃ b, l.all f = b := ⟨_, rfl⟩
 rw [hb]
 have HBB := Aside0.mk hb
 clear hb
 go_enter Tryd.func61, Tryd.ntmps61
 go_wp2_with fail
 refine (idx64 f HCL.out A c l _ HR.out).mono ?_
 rintro e w' ⟨v, rfl, rfl, hv⟩
 rw [HBB.out] at hv
 cases b with
 | true =>
  have h0 : decide (0 ≤ v) = false := decide_eq_false (fun h => by simpa using hv.1 h)
  clear hv
  go_wp2
  go_ret
  exact ⟨rfl, rfl⟩
 | false =>
  have h0 : decide (0 ≤ v) = true := decide_eq_true (hv.2 rfl)
  clear hv
  go_wp2
  go_ret
  exact ⟨rfl, rfl⟩

theorem tests_newTrial_1.calls (A : Option Addr) (c : Nat) (l : List Int) (r : Bool) (w : World) (hr : Kd.C (Kd.int .i64) w A l.length l) (hc : l.length ≤ c) (h : tests_newTrial_1.f l = some r) :
  Calls Tryd.prog 61 #[.slice A l.length c, .func (.func 62) #[] #[]] w fun e w' => e = .returned (.bool r) ∧ Drawn0 w w' := by
 obtain rfl := Option.some.inj h
 exact (contains62 _ bad62 A c l w hr).mono (by rintro e w' ⟨rfl, rfl⟩; exact ⟨rfl, 0, rfl⟩)
theorem tests_newTrial_2.calls (A : Option Addr) (c : Nat) (l : List Int) (r : Bool) (w : World) (hr : Kd.C (Kd.int .i64) w A l.length l) (hc : l.length ≤ c) (h : tests_newTrial_2.f l = some r) :
  Calls Tryd.prog 61 #[.slice A l.length c, .func (.func 63) #[] #[]] w fun e w' => e = .returned (.bool r) ∧ Drawn0 w w' := by
 obtain rfl := Option.some.inj h
 exact (contains63 _ bad63 A c l w hr).mono (by rintro e w' ⟨rfl, rfl⟩; exact ⟨rfl, 0, rfl⟩)
theorem tests_newTrial_3.calls (A : Option Addr) (c : Nat) (l : List Int) (r : Bool) (w : World) (hr : Kd.C (Kd.int .i64) w A l.length l) (hc : l.length ≤ c) (h : tests_newTrial_3.f l = some r) :
  Calls Tryd.prog 61 #[.slice A l.length c, .func (.func 64) #[] #[]] w fun e w' => e = .returned (.bool r) ∧ Drawn0 w w' := by
 obtain rfl := Option.some.inj h
 exact (contains64 _ bad64 A c l w hr).mono (by rintro e w' ⟨rfl, rfl⟩; exact ⟨rfl, 0, rfl⟩)
end Go.Proofs.YtekmiepdodaidaaDoor.X
end
