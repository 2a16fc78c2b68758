/- Texts behind ThreadOwn, part 19: contracts of the program's functions and the plain words for them. -/
import Derived.Test.YtagdbadljcongaaProg
import Derived.Below
import Derived.Deep.Draws
import Derived.Deep.AppendLies
import Derived.Maps.AppendAt
import Derived.OwnWalk
import Derived.Laws.BytesArg
import Derived.Laws.MakeOwn
import Derived.Laws.OwnMore
import Derived.Deep.OwnRows
import Derived.Tactics
import Derived.Lib.ConvBytes
import Derived.Laws.Slices
import Derived.WalkKit
import Derived.KernelRfl
import Derived.RowKit3
import Derived.Deep.LoopGhost
import Derived.Deep.QuietTactic
import Derived.BigQuiet
import Derived.WideLaws
import Derived.Deep.DeepCutAuto
import Derived.Deep.CutBlock
import Derived.Deep.RegionHeld3
import Derived.Laws.Rows
import Derived.Lib.AppendStr
import Derived.ArgAppend
import Derived.Laws.IdiomCopy
import Derived.OrdersHeld
import Derived.Laws.BitsLemmas
import Derived.RowKit
import Derived.Shelf.Slices.Clone
import Derived.Shelf.Slices.Cells
import Derived.IntWalk
import Derived.Test.YtagdbadljcongaaTpaa
import Derived.Test.YtagdbadljcongaaTpab
import Derived.Test.YtagdbadljcongaaTpac
import Derived.Test.YtagdbadljcongaaTpad
import Derived.Test.YtagdbadljcongaaTpae
import Derived.Test.YtagdbadljcongaaTpaf
import Derived.Test.YtagdbadljcongaaTpah
import Derived.Test.YtagdbadljcongaaTpaj
import Derived.Test.YtagdbadljcongaaTpak
import Derived.Test.YtagdbadljcongaaTpal
import Derived.Test.YtagdbadljcongaaTpam
import Derived.Test.YtagdbadljcongaaTpao
import Derived.Test.YtagdbadljcongaaTpap
import Derived.Test.YtagdbadljcongaaTpar
section
namespace Go.Proofs.Ytagdbadljcongaa.X
open Go.RowKit Go.Proofs.YtagdbadljcongaaW.PrintWords Go.Proofs.YtagdbadljcongaaW.PrintLast Go.Proofs.YtagdbadljcongaaW.PrintMore
attribute [local go_sem] max2_int min2_int max_two min_two max_three min_three max_four min_four   -- for this text's walks alone
set_option linter.unusedVariables false
set_option linter.unusedSimpArgs false



def errW : Option Int → Value
 | none => .nilIface
 | some c => .iface 0 (.int .i64 c)
theorem errW_none : errW none = .nilIface := rfl
theorem errW_some (c : Int) : errW (some c) = .iface 0 (.int .i64 c) := rfl

theorem info3 : (Try.prog.info? 3).map (fun i => (i.zero, i.size, i.bytes)) = some (some (.int .i64 0), 1, 8) := by kernel_rfl
theorem info9 : (Try.prog.info? 9).map (fun i => (i.zero, i.size, i.bytes)) = some (some (.string ⟨#[]⟩), 1, 16) := by kernel_rfl
structure S88 where
 f0 : Int
 f1 : Int
def z88 : S88 := ⟨(0 : Int), (0 : Int)⟩
def k88 : Kd S88 := Kd.iso (Kd.pair (Kd.int .i64) (Kd.int .i64)) (fun x : S88 => (x.f0, x.f1))
theorem k88_open {w : World} {x : S88} {cs : List Value} (h : k88.K w x cs) : cs = [.int .i64 x.f0, .int .i64 x.f1] := by
 obtain ⟨_, _, rfl, rfl, rfl⟩ := h
 exact rfl
theorem k88_mkM (w : World) (base : Nat) (ok : Nat → Prop) (x : S88)  : k88.M w base ok x [.int .i64 x.f0, .int .i64 x.f1] := ⟨[.int .i64 x.f0], [.int .i64 x.f1], rfl, rfl, rfl⟩
def rd_T88 (xs : List S88) (i : Int) : S88 := xs.getD i.toNat z88
theorem at_T88 {w : World} {A : Option Addr} {n : Nat} {xs : List S88} (h : Kd.C k88 w A n xs) (i : Int) (h0 : 0 ≤ i) (h1 : i < n) : ∃ ad , A = some ad ∧ w.cell? (ad.add (i.toNat * 2)) = some (.int .i64 (rd_T88 xs i).f0) ∧ w.cell? ⟨(ad.add (i.toNat * 2)).block, (ad.add (i.toNat * 2)).off + 1, none⟩ = some (.int .i64 (rd_T88 xs i).f1) := by
 obtain ⟨ad, c, e, _, hK, hc0⟩ := Kd.C_get h z88 i h0 h1
 have hc : ∀ j u, c[j]? = some u → w.cell? (ad.add (i.toNat * 2 + j)) = some u := hc0
 obtain rfl := k88_open hK
 exact ⟨ad, e, hc 0 _ rfl, by rw [← add_field _ _ 1 (by omega)]; exact hc 1 _ rfl⟩

structure S75 where
 f0 : Int
 f1 : Int
 f2 : Int
 f3 : Int
end Go.Proofs.Ytagdbadljcongaa.X
end

section
/- slices.Clone and slices.Compact at strings: the shelf's contracts, laid at this program by the kit's lay-shelf and lay-plain. -/
set_option linter.unusedVariables false
namespace Go.Proofs.Ytagdbadljcongaa.X
open Go Go.Proofs Go.Shelf Go.RowKit Go.Lib Go.Sort
def laysNm216_ren : Go.Shelf.Ren := ⟨fun | 16 => 59 | n => n, fun | 24 => 53 | 9 => 9 | 4 => 4 | n => n, fun | n => n⟩
theorem laysNm216 : Go.Proofs.Lays2.n16 Try.prog laysNm216_ren := {
  mixed := by kernel_rfl
  f16 := Try.func59.trans (congrArg some (by kernel_rfl))
  t4 := Try.underlying4
  a4 := Try.isAgg4
  z4 := Try.sizeOf4
  v4 := Try.zeroValue4
  t9 := Try.underlying9
  a9 := Try.isAgg9
  z9 := Try.sizeOf9
  v9 := Try.zeroValue9
  t24 := Try.underlying53
  a24 := Try.isAgg53
  z24 := Try.sizeOf53
  v24 := Try.zeroValue53
  i9 := by kernel_rfl }
def lays194_ren : Go.Shelf.Ren := ⟨fun | 194 => 62 | n => n, fun | 31 => 53 | 9 => 9 | 3 => 3 | 4 => 4 | 0 => 0 | n => n, fun | n => n⟩
theorem lays194 : Go.Proofs.Lays.n194 Try.prog lays194_ren := {
  mixed := by kernel_rfl
  f194 := Try.func62.trans (congrArg some (by kernel_rfl))
  t0 := Try.underlying0
  a0 := Try.isAgg0
  z0 := Try.sizeOf0
  v0 := Try.zeroValue0
  t3 := Try.underlying3
  a3 := Try.isAgg3
  z3 := Try.sizeOf3
  v3 := Try.zeroValue3
  t4 := Try.underlying4
  a4 := Try.isAgg4
  z4 := Try.sizeOf4
  v4 := Try.zeroValue4
  t9 := Try.underlying9
  a9 := Try.isAgg9
  z9 := Try.sizeOf9
  v9 := Try.zeroValue9
  t31 := Try.underlying53
  a31 := Try.isAgg53
  z31 := Try.sizeOf53
  v31 := Try.zeroValue53 }
theorem clone_sh (b off n c : Nat) (zs : List ByteArray) (w : World) (hz : n ≤ zs.length) (hbig : n * 16 ≤ 140737488355328) (hc : ∀ j, j < zs.length → w.cell? ⟨b, off + j, none⟩ = some (.string (zs.getD j ByteArray.empty))) :
    Calls Try.prog 59 #[.slice (some ⟨b, off, none⟩) n c] w fun e w' => ∃ v', e = .returned v' ∧ w'.ownsRow w.heap.size 9 1 v' n ((zs.take n).map (Value.string)) ∧ v' ≠ .slice none 0 0 ∧ Below w.heap.size w w' := Any.slices_Clone_string laysNm216 b off n c zs w hz hbig hc
theorem clone_nil (n c : Nat) (w : World) : Calls Try.prog 59 #[.slice none n c] w fun e w' => e = .returned (.slice none 0 0) ∧ w' = w := Any.slices_Clone_string_nil laysNm216 n c w
theorem clone_zero (a : Addr) (c : Nat) (w : World) : Calls Try.prog 59 #[.slice (some a) 0 c] w fun e w' => ∃ v', e = .returned v' ∧ w'.ownsRow w.heap.size 9 1 v' 0 [] ∧ v' ≠ .slice none 0 0 ∧ Below w.heap.size w w' := Any.slices_Clone_string_zero laysNm216 a c w
theorem compact_sh (b off n c : Nat) (Sx : Nat → ByteArray) (w : World) (hbig : n ≤ 9223372036854775807) (hcap : n ≤ c) (hc : ∀ i, i < n → w.cell? ⟨b, off + i, none⟩ = some (.string (Sx i))) (hf : ∀ j, j < n → w.frozen? ⟨b, off + j, none⟩ = false) :
    Calls Try.prog 62 #[.slice (some ⟨b, off, none⟩) n c] w fun e w' => e = .returned (.slice (some ⟨b, off, none⟩) (Lib.compact (Lib.strsOf Sx n)).length c) ∧ ∃ q, w' = (w.drewN q).setCells b off ((Lib.compact (Lib.strsOf Sx n) ++ List.replicate (n - (Lib.compact (Lib.strsOf Sx n)).length) []).map encStr) := Any.slices_Compact_string_cells lays194 b off n c Sx w hbig hcap hc hf
theorem compact_nil (a : Option Addr) (cap : Nat) (w : World) : Calls Try.prog 62 #[.slice a 0 cap] w fun e w' => e = .returned (.slice a 0 cap) ∧ w' = w := Any.slices_Compact_string_empty lays194 a cap w
end Go.Proofs.Ytagdbadljcongaa.X
end

section
namespace Go.Proofs.Ytagdbadljcongaa.X
open Go.RowKit Go.Proofs.YtagdbadljcongaaW.PrintWords Go.Proofs.YtagdbadljcongaaW.PrintLast Go.Proofs.YtagdbadljcongaaW.PrintMore
attribute [local go_sem] max2_int min2_int max_two min_two max_three min_three max_four min_four   -- for this text's walks alone
set_option linter.unusedVariables false
set_option linter.unusedSimpArgs false

def cmp_Or_int.l0 : Nat → Int → List Int → Int → Int → Option (Int)
 | 0, _, _, _, _ => none
 | k + 1, x3, x6, x7, x8 => if x8 < x7 then (if 0 ≤ x8 then (if x8 < (x6.length : Int) then (if (rd x6 x8) = x3 then (cmp_Or_int.l0 k x3 x6 x7 (wrap64 (x8 + 1))) else (some (rd x6 x8))) else (none)) else (none)) else (some x3)
def cmp_Or_int.f (k : Nat) (l0 : List Int) : Option (Int) := cmp_Or_int.l0 k 0 l0 (l0.length : Int) 0
set_option maxHeartbeats 8000000 in
set_option maxRecDepth 100000 in
theorem cmp_Or_int.calls (k : Nat) (A0 : Option Addr) (c0 : Nat) (l0 : List Int) (r : Int) (w : World) (hr0 : Kd.C (Kd.int .i64) w A0 l0.length l0) (hc0 : l0.length ≤ c0) (h : cmp_Or_int.f k l0 = some r) :
  Calls Try.prog 74 #[.slice A0 l0.length c0] w fun e w' => e = .returned (.int .i64 r) ∧ Drawn0 w w' := by
 have HR0 := Aside0.mk hr0
 have HC0 := Aside0.mk hc0
 clear hr0 hc0
 have H : (cmp_Or_int.l0 k 0 l0 (l0.length : Int) 0) = some r := h
 clear h
 have H' := Aside0.mk H
 clear H
 go_enter Try.func74, Try.ntmps74
 go_wp2
 go_loopg [8] k (fun kq v8 w' => ∃ (x8_1 : Int), v8 = .int .i64 x8_1 ∧ Aside0 (cmp_Or_int.l0 kq 0 l0 (l0.length : Int) x8_1 = some r) ∧ Aside0 (kq ≤ k) ∧ Drawn0 w w')
 case atStart => exact ⟨(0), (by first | rfl | (simp; done) | (simp [*]; done)), H', ⟨Nat.le_refl _⟩, by repeat (first | exact Drawn0.refl _ | apply Drawn0.step)⟩
 case round =>
  clear H'
  obtain ⟨x8_1, rfl, HA, HK1, ⟨m1, rfl⟩⟩ := hrel
  cases gk with
  | zero => exact absurd HA.out (by simp [cmp_Or_int.l0])
  | succ k1 =>
   have H := HA.out
   clear HA
   simp only [cmp_Or_int.l0] at H
   by_cases c2 : x8_1 < (l0.length : Int)
   ·rw [if_pos c2] at H
    have c2b0 : decide (x8_1 < (l0.length : Int)) = true := decide_eq_true c2
    clear c2
    by_cases c3 : 0 ≤ x8_1
    ·rw [if_pos c3] at H
     have c3b0 : decide (0 ≤ x8_1) = true := decide_eq_true c3
     clear c3
     by_cases c4 : x8_1 < (l0.length : Int)
     ·rw [if_pos c4] at H
      have c4b0 : decide (x8_1 < (l0.length : Int)) = true := decide_eq_true c4
      clear c4
      by_cases c5 : (rd l0 x8_1) = 0
      ·rw [if_pos c5] at H
       have c5b0 : ((rd l0 x8_1) == 0) = true := beq_iff_eq.mpr c5
       have c5b1 : ((rd l0 x8_1) != 0) = false := bne_eq_false_iff_eq.mpr c5
       clear c5
       have H' := Aside0.mk H
       clear H
       have p227 : 0 ≤ (x8_1 : Int) := of_decide_eq_true az
       have q227 : x8_1 < (l0.length : Int) := of_decide_eq_true az
       obtain ⟨ad227, e227, hx227_0⟩ := Kd.at_int HR0.out x8_1 p227 q227
       cases e227
       replace p227 := eq_true p227
       replace q227 := eq_true q227
       go_wp2
       go_roundg k1
       case measure => have := HK1.out; omega
       case rel => exact ⟨(wrap64 (x8_1 + 1)), (by first | rfl | (simp; done) | (simp [*]; done)), H', ⟨by have := HK1.out; omega⟩, by repeat (first | exact Drawn0.refl _ | apply Drawn0.step)⟩
      ·rw [if_neg c5] at H
       have c5b0 : ((rd l0 x8_1) == 0) = false := beq_eq_false_iff_ne.mpr c5
       have c5b1 : ((rd l0 x8_1) != 0) = true := bne_iff_ne.mpr c5
       obtain rfl := Option.some.inj H
       have p227 : 0 ≤ (x8_1 : Int) := of_decide_eq_true az
       have q227 : x8_1 < (l0.length : Int) := of_decide_eq_true az
       obtain ⟨ad227, e227, hx227_0⟩ := Kd.at_int HR0.out x8_1 p227 q227
       cases e227
       replace p227 := eq_true p227
       replace q227 := eq_true q227
       go_wp2
       go_ret
       exact ⟨by first | rfl | (simp; done) | (simp [*]; done), by repeat (first | exact Drawn0.refl _ | apply Drawn0.step)⟩
     ·rw [if_neg c4] at H
      exact absurd H (by simp)
    ·rw [if_neg c3] at H
     exact absurd H (by simp)
   ·rw [if_neg c2] at H
    have c2b0 : decide (x8_1 < (l0.length : Int)) = false := decide_eq_false c2
    clear c2
    obtain rfl := Option.some.inj H
    go_wp2
    go_ret
    exact ⟨by first | rfl | (simp; done) | (simp [*]; done), by repeat (first | exact Drawn0.refl _ | apply Drawn0.step)⟩

end Go.Proofs.Ytagdbadljcongaa.X
end

section
namespace Go.Proofs.Ytagdbadljcongaa.X
open Go.RowKit Go.Proofs.YtagdbadljcongaaW.PrintWords Go.Proofs.YtagdbadljcongaaW.PrintLast Go.Proofs.YtagdbadljcongaaW.PrintMore
attribute [local go_sem] max2_int min2_int max_two min_two max_three min_three max_four min_four   -- for this text's walks alone
set_option linter.unusedVariables false
set_option linter.unusedSimpArgs false

def cmp_isNaN_int.f (a0 : Int) : Option (Bool) := some (a0 != a0)
set_option maxHeartbeats 8000000 in
set_option maxRecDepth 100000 in
theorem cmp_isNaN_int.calls (a0 : Int) (r : Bool) (w : World) (h : cmp_isNaN_int.f a0 = some r) :
  Calls Try.prog 90 #[.int .i64 a0] w fun e w' => e = .returned (.bool r) ∧ Drawn0 w w' := by
 have H : (some (a0 != a0)) = some r := h
 clear h
 obtain rfl := Option.some.inj H
 go_enter Try.func90, Try.ntmps90
 go_wp2
 go_ret
 exact ⟨by first | rfl | (simp; done) | (simp [*]; done), by repeat (first | exact Drawn0.refl _ | apply Drawn0.step)⟩

end Go.Proofs.Ytagdbadljcongaa.X
end

section
namespace Go.Proofs.Ytagdbadljcongaa.X
open Go.RowKit Go.Proofs.YtagdbadljcongaaW.PrintWords Go.Proofs.YtagdbadljcongaaW.PrintLast Go.Proofs.YtagdbadljcongaaW.PrintMore
attribute [local go_sem] max2_int min2_int max_two min_two max_three min_three max_four min_four   -- for this text's walks alone
set_option linter.unusedVariables false
set_option linter.unusedSimpArgs false

def cmp_Compare_int.f (a0 : Int) (a1 : Int) : Option (Int) := (cmp_isNaN_int.f a0).bind fun t228 => ((cmp_isNaN_int.f a1).bind fun t229 => (if t228 = true then (if t229 = true then (some 0) else (some (-1))) else (if t229 = true then (some 1) else (if a0 < a1 then (some (-1)) else (if a0 > a1 then (some 1) else (some 0))))))
set_option maxHeartbeats 8000000 in
set_option maxRecDepth 100000 in
theorem cmp_Compare_int.calls (a0 : Int) (a1 : Int) (r : Int) (w : World) (h : cmp_Compare_int.f a0 a1 = some r) :
  Calls Try.prog 75 #[.int .i64 a0, .int .i64 a1] w fun e w' => e = .returned (.int .i64 r) ∧ Drawn0 w w' := by
 have H : ((cmp_isNaN_int.f a0).bind fun t228 => ((cmp_isNaN_int.f a1).bind fun t229 => (if t228 = true then (if t229 = true then (some 0) else (some (-1))) else (if t229 = true then (some 1) else (if a0 < a1 then (some (-1)) else (if a0 > a1 then (some 1) else (some 0))))))) = some r := h
 clear h
 replace H := Option.bind_eq_some_iff.mp H
 obtain ⟨t228, A30, H⟩ := H
 replace H : ((cmp_isNaN_int.f a1).bind fun t229 => (if t228 = true then (if t229 = true then (some 0) else (some (-1))) else (if t229 = true then (some 1) else (if a0 < a1 then (some (-1)) else (if a0 > a1 then (some 1) else (some 0)))))) = some r := H
 have A3 := Aside0.mk A30
 clear A30
 replace H := Option.bind_eq_some_iff.mp H
 obtain ⟨t229, A40, H⟩ := H
 replace H : (if t228 = true then (if t229 = true then (some 0) else (some (-1))) else (if t229 = true then (some 1) else (if a0 < a1 then (some (-1)) else (if a0 > a1 then (some 1) else (some 0))))) = some r := H
 have A4 := Aside0.mk A40
 clear A40
 by_cases c5 : t228 = true
 ·subst c5
  have H1 : (if t229 = true then (some 0) else (some (-1))) = some r := by rw [if_pos rfl] at H; exact H
  clear H
  have H := H1
  clear H1
  go_enter Try.func75, Try.ntmps75
  go_wp2_with (first | ((with_reducible refine gate_callee (f := 90) rfl ?_); refine goesL_ (some 8) rfl rfl Try.func90 (by kernel_rfl) rfl #[.int .i64 a0] rfl dz ?_; (with_reducible refine (cmp_isNaN_int.calls a0 true _ A3.out).mono ?_); rintro e w' ⟨rfl, ⟨nd, rfl⟩⟩; refine ⟨_, rfl, ?_⟩; refine hold_ ?_; intro P_ hP_))
  refine hP_.out ?_
  clear hP_ P_
  by_cases c6 : t229 = true
  ·subst c6
   have H1 : (some 0) = some r := by rw [if_pos rfl] at H; exact H
   clear H
   have H := H1
   clear H1
   obtain rfl := Option.some.inj H
   go_wp2_with (first | ((with_reducible refine gate_callee (f := 90) rfl ?_); refine goesL_ (some 10) rfl rfl Try.func90 (by kernel_rfl) rfl #[.int .i64 a1] rfl dz ?_; (with_reducible refine (cmp_isNaN_int.calls a1 true _ A4.out).mono ?_); rintro e w' ⟨rfl, ⟨nd, rfl⟩⟩; refine ⟨_, rfl, ?_⟩))
   go_ret
   exact ⟨by first | rfl | (simp; done) | (simp [*]; done), by repeat (first | exact Drawn0.refl _ | apply Drawn0.step)⟩
  ·replace c6 := Bool.eq_false_iff.mpr c6
   subst c6
   have H1 : (some (-1)) = some r := by rw [if_neg (show ¬ (false = true) by decide)] at H; exact H
   clear H
   have H := H1
   clear H1
   obtain rfl := Option.some.inj H
   go_wp2_with (first | ((with_reducible refine gate_callee (f := 90) rfl ?_); refine goesL_ (some 10) rfl rfl Try.func90 (by kernel_rfl) rfl #[.int .i64 a1] rfl dz ?_; (with_reducible refine (cmp_isNaN_int.calls a1 false _ A4.out).mono ?_); rintro e w' ⟨rfl, ⟨nd, rfl⟩⟩; refine ⟨_, rfl, ?_⟩))
   go_ret
   exact ⟨by first | rfl | (simp; done) | (simp [*]; done), by repeat (first | exact Drawn0.refl _ | apply Drawn0.step)⟩
 ·replace c5 := Bool.eq_false_iff.mpr c5
  subst c5
  have H1 : (if t229 = true then (some 1) else (if a0 < a1 then (some (-1)) else (if a0 > a1 then (some 1) else (some 0)))) = some r := by rw [if_neg (show ¬ (false = true) by decide)] at H; exact H
  clear H
  have H := H1
  clear H1
  go_enter Try.func75, Try.ntmps75
  go_wp2_with (first | ((with_reducible refine gate_callee (f := 90) rfl ?_); refine goesL_ (some 8) rfl rfl Try.func90 (by kernel_rfl) rfl #[.int .i64 a0] rfl dz ?_; (with_reducible refine (cmp_isNaN_int.calls a0 false _ A3.out).mono ?_); rintro e w' ⟨rfl, ⟨nd, rfl⟩⟩; refine ⟨_, rfl, ?_⟩; refine hold_ ?_; intro P_ hP_))
  refine hP_.out ?_
  clear hP_ P_
  by_cases c7 : t229 = true
  ·subst c7
   have H1 : (some 1) = some r := by rw [if_pos rfl] at H; exact H
   clear H
   have H := H1
   clear H1
   obtain rfl := Option.some.inj H
   go_wp2_with (first | ((with_reducible refine gate_callee (f := 90) rfl ?_); refine goesL_ (some 10) rfl rfl Try.func90 (by kernel_rfl) rfl #[.int .i64 a1] rfl dz ?_; (with_reducible refine (cmp_isNaN_int.calls a1 true _ A4.out).mono ?_); rintro e w' ⟨rfl, ⟨nd, rfl⟩⟩; refine ⟨_, rfl, ?_⟩))
   go_ret
   exact ⟨by first | rfl | (simp; done) | (simp [*]; done), by repeat (first | exact Drawn0.refl _ | apply Drawn0.step)⟩
  ·replace c7 := Bool.eq_false_iff.mpr c7
   subst c7
   have H1 : (if a0 < a1 then (some (-1)) else (if a0 > a1 then (some 1) else (some 0))) = some r := by rw [if_neg (show ¬ (false = true) by decide)] at H; exact H
   clear H
   have H := H1
   clear H1
   go_wp2_with (first | ((with_reducible refine gate_callee (f := 90) rfl ?_); refine goesL_ (some 10) rfl rfl Try.func90 (by kernel_rfl) rfl #[.int .i64 a1] rfl dz ?_; (with_reducible refine (cmp_isNaN_int.calls a1 false _ A4.out).mono ?_); rintro e w' ⟨rfl, ⟨nd, rfl⟩⟩; refine ⟨_, rfl, ?_⟩; refine hold_ ?_; intro P_ hP_))
   refine hP_.out ?_
   clear hP_ P_
   by_cases c8 : a0 < a1
   ·rw [if_pos c8] at H
    have c8b0 : decide (a0 < a1) = true := decide_eq_true c8
    clear c8
    obtain rfl := Option.some.inj H
    go_wp2_with fail
    go_ret
    exact ⟨by first | rfl | (simp; done) | (simp [*]; done), by repeat (first | exact Drawn0.refl _ | apply Drawn0.step)⟩
   ·rw [if_neg c8] at H
    have c8b0 : decide (a0 < a1) = false := decide_eq_false c8
    clear c8
    by_cases c9 : a0 > a1
    ·rw [if_pos c9] at H
     have c9b0 : decide (a1 < a0) = true := decide_eq_true c9
     clear c9
     obtain rfl := Option.some.inj H
     go_wp2_with fail
     go_ret
     exact ⟨by first | rfl | (simp; done) | (simp [*]; done), by repeat (first | exact Drawn0.refl _ | apply Drawn0.step)⟩
    ·rw [if_neg c9] at H
     have c9b0 : decide (a1 < a0) = false := decide_eq_false c9
     clear c9
     obtain rfl := Option.some.inj H
     go_wp2_with fail
     go_ret
     exact ⟨by first | rfl | (simp; done) | (simp [*]; done), by repeat (first | exact Drawn0.refl _ | apply Drawn0.step)⟩

end Go.Proofs.Ytagdbadljcongaa.X
end

section
namespace Go.Proofs.Ytagdbadljcongaa.X
open Go.RowKit Go.Proofs.YtagdbadljcongaaW.PrintWords Go.Proofs.YtagdbadljcongaaW.PrintLast Go.Proofs.YtagdbadljcongaaW.PrintMore
attribute [local go_sem] max2_int min2_int max_two min_two max_three min_three max_four min_four   -- for this text's walks alone
set_option linter.unusedVariables false
set_option linter.unusedSimpArgs false

def cmp_isNaN_string.f (a0 : ByteArray) : Option (Bool) := some (a0.toList != a0.toList)
set_option maxHeartbeats 8000000 in
set_option maxRecDepth 100000 in
theorem cmp_isNaN_string.calls (a0 : ByteArray) (r : Bool) (w : World) (h : cmp_isNaN_string.f a0 = some r) :
  Calls Try.prog 91 #[.string a0] w fun e w' => e = .returned (.bool r) ∧ Drawn0 w w' := by
 have H : (some (a0.toList != a0.toList)) = some r := h
 clear h
 obtain rfl := Option.some.inj H
 go_enter Try.func91, Try.ntmps91
 go_wp2
 go_ret
 exact ⟨by first | rfl | (simp; done) | (simp [*]; done), by repeat (first | exact Drawn0.refl _ | apply Drawn0.step)⟩

end Go.Proofs.Ytagdbadljcongaa.X
end

section
namespace Go.Proofs.Ytagdbadljcongaa.X
open Go.RowKit Go.Proofs.YtagdbadljcongaaW.PrintWords Go.Proofs.YtagdbadljcongaaW.PrintLast Go.Proofs.YtagdbadljcongaaW.PrintMore
attribute [local go_sem] max2_int min2_int max_two min_two max_three min_three max_four min_four   -- for this text's walks alone
set_option linter.unusedVariables false
set_option linter.unusedSimpArgs false

def tickingref03_Letters.l0 : Nat → ByteArray → Int → Int → Option (Bool)
 | 0, _, _, _ => none
 | k + 1, x0, x1, x5 => if x5 < (x0.size : Int) then (if 0 ≤ x5 then (if (bt x0 x5) < 97 then (some false) else (if (((bt x0 x5) - 97) % 256) ≥ x1 then (some false) else (tickingref03_Letters.l0 k x0 x1 (wrap64 (x5 + 1))))) else (none)) else (some true)
end Go.Proofs.Ytagdbadljcongaa.X
end

section
namespace Go.Proofs.Ytagdbadljcongaa.X
open Go.RowKit Go.Proofs.YtagdbadljcongaaW.PrintWords Go.Proofs.YtagdbadljcongaaW.PrintLast Go.Proofs.YtagdbadljcongaaW.PrintMore
attribute [local go_sem] max2_int min2_int max_two min_two max_three min_three max_four min_four   -- for this text's walks alone
set_option linter.unusedVariables false
set_option linter.unusedSimpArgs false

def tickingref03_Next.l0 : Nat → ByteArray → Int → Int → Option (Int)
 | 0, _, _, _ => none
 | k + 1, x0, x2, x7 => if x7 < (x0.size : Int) then (if 0 ≤ x7 then (if (bt x0 x7) = x2 then (some (wrap64 (x7 + 1))) else (tickingref03_Next.l0 k x0 x2 (wrap64 (x7 + 1)))) else (none)) else (some (-1))
def tickingref03_Next.f (k : Nat) (a0 : ByteArray) (a1 : Int) (a2 : Int) : Option (Int) := tickingref03_Next.l0 k a0 a2 a1
set_option maxHeartbeats 8000000 in
set_option maxRecDepth 100000 in
theorem tickingref03_Next.calls (k : Nat) (a0 : ByteArray) (a1 : Int) (a2 : Int) (r : Int) (w : World) (h : tickingref03_Next.f k a0 a1 a2 = some r) :
  Calls Try.prog 55 #[.string a0, .int .i64 a1, .int .u8 a2] w fun e w' => e = .returned (.int .i64 r) ∧ Drawn0 w w' := by
 have H : (tickingref03_Next.l0 k a0 a2 a1) = some r := h
 clear h
 have H' := Aside0.mk H
 clear H
 go_enter Try.func55, Try.ntmps55
 go_wp2
 go_loopg [7] k (fun kq v7 w' => ∃ (x7_1 : Int), v7 = .int .i64 x7_1 ∧ Aside0 (tickingref03_Next.l0 kq a0 a2 x7_1 = some r) ∧ Aside0 (kq ≤ k) ∧ Drawn0 w w')
 case atStart => exact ⟨(a1), (by first | rfl | (simp; done) | (simp [*]; done)), H', ⟨Nat.le_refl _⟩, by repeat (first | exact Drawn0.refl _ | apply Drawn0.step)⟩
 case round =>
  clear H'
  try clear p2
  obtain ⟨x7_1, rfl, HA, HK1, ⟨m1, rfl⟩⟩ := hrel
  cases gk with
  | zero => exact absurd HA.out (by simp [tickingref03_Next.l0])
  | succ k1 =>
   have H := HA.out
   clear HA
   simp only [tickingref03_Next.l0] at H
   by_cases c4 : x7_1 < (a0.size : Int)
   ·rw [if_pos c4] at H
    have c4b0 : decide (x7_1 < (a0.size : Int)) = true := decide_eq_true c4
    clear c4
    by_cases c5 : 0 ≤ x7_1
    ·rw [if_pos c5] at H
     have c5b0 : decide (0 ≤ x7_1) = true := decide_eq_true c5
     clear c5
     by_cases c7 : (bt a0 x7_1) = a2
     ·rw [if_pos c7] at H
      have c7b0 : ((bt a0 x7_1) == a2) = true := beq_iff_eq.mpr c7
      have c7b1 : ((bt a0 x7_1) != a2) = false := bne_eq_false_iff_eq.mpr c7
      clear c7
      obtain rfl := Option.some.inj H
      have p6 : 0 ≤ (x7_1 : Int) := of_decide_eq_true az
      have q6 : x7_1 < (a0.size : Int) := of_decide_eq_true az
      have hx6 := bt_at a0 x7_1
      replace p6 := eq_true p6
      replace q6 := eq_true q6
      go_wp2
      go_ret
      exact ⟨by first | rfl | (simp; done) | (simp [*]; done), by repeat (first | exact Drawn0.refl _ | apply Drawn0.step)⟩
     ·rw [if_neg c7] at H
      have c7b0 : ((bt a0 x7_1) == a2) = false := beq_eq_false_iff_ne.mpr c7
      have c7b1 : ((bt a0 x7_1) != a2) = true := bne_iff_ne.mpr c7
      have H' := Aside0.mk H
      clear H
      have p6 : 0 ≤ (x7_1 : Int) := of_decide_eq_true az
      have q6 : x7_1 < (a0.size : Int) := of_decide_eq_true az
      have hx6 := bt_at a0 x7_1
      replace p6 := eq_true p6
      replace q6 := eq_true q6
      go_wp2
      go_roundg k1
      case measure => have := HK1.out; omega
      case rel => exact ⟨(wrap64 (x7_1 + 1)), (by first | rfl | (simp; done) | (simp [*]; done)), H', ⟨by have := HK1.out; omega⟩, by repeat (first | exact Drawn0.refl _ | apply Drawn0.step)⟩
    ·rw [if_neg c5] at H
     exact absurd H (by simp)
   ·rw [if_neg c4] at H
    have c4b0 : decide (x7_1 < (a0.size : Int)) = false := decide_eq_false c4
    clear c4
    obtain rfl := Option.some.inj H
    go_wp2
    go_ret
    exact ⟨by first | rfl | (simp; done) | (simp [*]; done), by repeat (first | exact Drawn0.refl _ | apply Drawn0.step)⟩

end Go.Proofs.Ytagdbadljcongaa.X
end

section
namespace Go.Proofs.Ytagdbadljcongaa.X
open Go.RowKit Go.Proofs.YtagdbadljcongaaW.PrintWords Go.Proofs.YtagdbadljcongaaW.PrintLast Go.Proofs.YtagdbadljcongaaW.PrintMore
attribute [local go_sem] max2_int min2_int max_two min_two max_three min_three max_four min_four   -- for this text's walks alone
set_option linter.unusedVariables false
set_option linter.unusedSimpArgs false

def tickingref03_Within.l0 : Nat → ByteArray → ByteArray → List Int → Int → Int → Option (List Int × Bool)
 | 0, _, _, _, _, _ => none
 | k + 1, x0, x1, x6, x7, x8 => if x8 < (x0.size : Int) then (if 0 ≤ x8 then ((tickingref03_Next.f k x1 x7 (bt x0 x8)).bind fun t153 => (if t153 < 0 then (some (([] : List Int), false)) else (if x6.length < 17592186044416 then (tickingref03_Within.l0 k x0 x1 (x6 ++ [wrap64 (t153 - 1)]) t153 (wrap64 (x8 + 1))) else (none)))) else (none)) else (some (x6, true))
def tickingref03_Within.f (k : Nat) (a0 : ByteArray) (a1 : ByteArray) : Option (List Int × Bool) := tickingref03_Within.l0 k a0 a1 ([] : List Int) 0 0
set_option maxHeartbeats 8000000 in
set_option maxRecDepth 100000 in
theorem tickingref03_Within.calls (k : Nat) (a0 : ByteArray) (a1 : ByteArray) (r1 : List Int) (r2 : Bool) (w : World) (h : tickingref03_Within.f k a0 a1 = some (r1, r2)) :
  Calls Try.prog 34 #[.string a0, .string a1] w fun e w' => ∃ v0_ : Value, e = .returned (.tuple #[v0_, .bool r2]) ∧ Kd.R (Kd.int .i64) 3 w' w.heap.size (fun _ => True) v0_ r1 ∧ Below w.heap.size w w' := by
 have HB := Aside0.mk (Below.refl w.heap.size w)
 have H : (tickingref03_Within.l0 k a0 a1 ([] : List Int) 0 0) = some (r1, r2) := h
 clear h
 have H' := Aside0.mk H
 clear H
 go_enter Try.func34, Try.ntmps34
 go_wp2
 go_loopg [6, 7, 8] k (fun kq v6 v7 v8 w' => ∃ (x6_1 : List Int) (x7_1 : Int) (x8_1 : Int), v7 = .int .i64 x7_1 ∧ v8 = .int .i64 x8_1 ∧ Aside0 (tickingref03_Within.l0 kq a0 a1 x6_1 x7_1 x8_1 = some (r1, r2)) ∧ Aside0 (kq ≤ k) ∧ Aside0 (Kd.R (Kd.int .i64) 3 w' w.heap.size (fun _ => True) v6 x6_1) ∧ Aside0 (Below w.heap.size w w'))
 case atStart => exact ⟨(([] : List Int)), (0), (0), (by first | rfl | (simp; done) | (simp [*]; done)), (by first | rfl | (simp; done) | (simp [*]; done)), H', ⟨Nat.le_refl _⟩, ⟨by first | exact Kd.R_nil _ _ _ _ _ | exact Kd.N_nil _ _ _ _ _ | exact Kd.V_nil _ _ _ _ _ | exact Kd.Q_nil _ _ _ _ _ | exact Kd.S_nil _ _ _ _ _⟩, ⟨by repeat (first | (with_reducible first | exact HB.out | apply below_alloc | apply pw_below_drewN | apply below_drew1) | exact HB.out)⟩⟩
 case round =>
  clear H'
  try clear p2
  obtain ⟨x6_1, x7_1, x8_1, rfl, rfl, HA, HK1, HO_6, HB⟩ := hrel
  cases gk with
  | zero => exact absurd HA.out (by simp [tickingref03_Within.l0])
  | succ k1 =>
   have H := HA.out
   clear HA
   simp only [tickingref03_Within.l0] at H
   by_cases c3 : x8_1 < (a0.size : Int)
   ·rw [if_pos c3] at H
    have c3b0 : decide (x8_1 < (a0.size : Int)) = true := decide_eq_true c3
    clear c3
    by_cases c4 : 0 ≤ x8_1
    ·rw [if_pos c4] at H
     have c4b0 : decide (0 ≤ x8_1) = true := decide_eq_true c4
     clear c4
     replace H := Option.bind_eq_some_iff.mp H
     obtain ⟨t153, A60, H⟩ := H
     replace H : (if t153 < 0 then (some (([] : List Int), false)) else (if x6_1.length < 17592186044416 then (tickingref03_Within.l0 k1 a0 a1 (x6_1 ++ [wrap64 (t153 - 1)]) t153 (wrap64 (x8_1 + 1))) else (none))) = some (r1, r2) := H
     have A6 := Aside0.mk A60
     clear A60
     by_cases c7 : t153 < 0
     ·rw [if_pos c7] at H
      have c7b0 : decide (t153 < 0) = true := decide_eq_true c7
      clear c7
      simp only [Option.some.injEq, Prod.mk.injEq] at H
      obtain ⟨rfl, rfl⟩ := H
      have p5 : 0 ≤ (x8_1 : Int) := of_decide_eq_true az
      have q5 : x8_1 < (a0.size : Int) := of_decide_eq_true az
      have hx5 := bt_at a0 x8_1
      replace p5 := eq_true p5
      replace q5 := eq_true q5
      go_wp2_with (first | ((with_reducible refine gate_callee (f := 55) rfl ?_); refine goesL_ (some 20) rfl rfl Try.func55 (by kernel_rfl) rfl #[.string a1, .int .i64 x7_1, .int .u8 (bt a0 x8_1)] rfl dz ?_; (with_reducible refine (tickingref03_Next.calls k1 a1 x7_1 (bt a0 x8_1) t153 _ A6.out).mono ?_); rintro e w' ⟨rfl, ⟨nd, rfl⟩⟩; refine ⟨_, rfl, ?_⟩))
      go_ret2
      exact ⟨_, by first | rfl | (simp [errW_none, errW_some] <;> rfl) | (simp [*, errW_none, errW_some] <;> rfl), by first | exact Kd.R_nil _ _ _ _ _ | exact Kd.N_nil _ _ _ _ _ | exact Kd.V_nil _ _ _ _ _ | exact Kd.Q_nil _ _ _ _ _ | exact Kd.S_nil _ _ _ _ _, by repeat (first | (with_reducible first | exact HB.out | apply below_alloc | apply pw_below_drewN | apply below_drew1) | exact HB.out)⟩
     ·rw [if_neg c7] at H
      have c7b0 : decide (t153 < 0) = false := decide_eq_false c7
      clear c7
      by_cases c8 : x6_1.length < 17592186044416
      ·rw [if_pos c8] at H
       have LMc8 := Aside0.mk c8
       clear c8
       obtain ⟨y154, hy154⟩ : ∃ y_ : List Int, y_ = (x6_1 ++ [wrap64 (t153 - 1)]) := ⟨_, rfl⟩
       replace H : (tickingref03_Within.l0 k1 a0 a1 y154 t153 (wrap64 (x8_1 + 1))) = some (r1, r2) := by first | (rw [hy154]; with_reducible exact H) | (have H2_ := (Option.bind_some _ _).symm.trans H; rw [hy154]; with_reducible exact H2_) | (have H2_ := (Option.bind_some _ _).symm.trans H; with_reducible exact H2_) | with_reducible exact H | (rw [hy154]; exact H) | exact H
       have Ny154 := Aside0.mk hy154
       clear hy154
       have H' := Aside0.mk H
       clear H
       have p5 : 0 ≤ (x8_1 : Int) := of_decide_eq_true az
       have q5 : x8_1 < (a0.size : Int) := of_decide_eq_true az
       have hx5 := bt_at a0 x8_1
       replace p5 := eq_true p5
       replace q5 := eq_true q5
       go_wp2_with (first | ((with_reducible refine gate_callee (f := 55) rfl ?_); refine goesL_ (some 20) rfl rfl Try.func55 (by kernel_rfl) rfl #[.string a1, .int .i64 x7_1, .int .u8 (bt a0 x8_1)] rfl dz ?_; (with_reducible refine (tickingref03_Next.calls k1 a1 x7_1 (bt a0 x8_1) t153 _ A6.out).mono ?_); rintro e w' ⟨rfl, ⟨nd, rfl⟩⟩; refine ⟨_, rfl, ?_⟩) | ((with_reducible refine gate_builtin (b := .append) (xs := #[.tmp 23, .tmp 26]) rfl ?_); at_builtin; refine Kd.R_append (Kd.int .i64) (w0 := w) w.heap.size rfl (.tmp 23) (.tmp 26) 23 3 (.int .i64 0) 8 rfl Try.underlying23 info3 rfl (by decide) (by omega) u6 x6_1 (wrap64 (t153 - 1)) [.int .i64 (wrap64 (t153 - 1))] (fun _ => True) (fun _ => False) rfl rfl ?aP (fun _ hk => hk.elim) ?aF ?aO ?aB ?aS ?aL ?_; (case aP => exact rfl); (case aB => exact bz); (case aF => exact (fun _ _ => trivial)); (case aO => exact (rz HO_6.out)); (case aS => exact (below_size bz)); (case aL => have := LMc8.out; omega); intro v155 w9 ho hb hg hat; rw [← Ny154.out] at ho; have n0_ := Aside0.mk (hb); have n1_ := Aside0.mk (ho); clear HB; clear HO_6; have HB := n0_; have HO156 := n1_; clear n0_ n1_; clear ho hb hg hat))
       go_roundg k1
       case measure => have := HK1.out; omega
       case rel => exact ⟨(y154), (t153), (wrap64 (x8_1 + 1)), (by first | rfl | (simp; done) | (simp [*]; done)), (by first | rfl | (simp; done) | (simp [*]; done)), H', ⟨by have := HK1.out; omega⟩, ⟨by (with_reducible repeat (first | apply Kd.R_alloc | apply Kd.R_drewN | apply Kd.R_drew)); exact HO156.out⟩, ⟨by repeat (first | (with_reducible first | exact HB.out | apply below_alloc | apply pw_below_drewN | apply below_drew1) | exact HB.out)⟩⟩
      ·rw [if_neg c8] at H
       exact absurd H (by simp)
    ·rw [if_neg c4] at H
     exact absurd H (by simp)
   ·rw [if_neg c3] at H
    have c3b0 : decide (x8_1 < (a0.size : Int)) = false := decide_eq_false c3
    clear c3
    simp only [Option.some.injEq, Prod.mk.injEq] at H
    obtain ⟨rfl, rfl⟩ := H
    go_wp2
    go_ret2
    exact ⟨_, by first | rfl | (simp [errW_none, errW_some] <;> rfl) | (simp [*, errW_none, errW_some] <;> rfl), by (with_reducible repeat (first | apply Kd.R_alloc | apply Kd.R_drewN | apply Kd.R_drew)); exact HO_6.out, by repeat (first | (with_reducible first | exact HB.out | apply below_alloc | apply pw_below_drewN | apply below_drew1) | exact HB.out)⟩

end Go.Proofs.Ytagdbadljcongaa.X
end

section
/- What the reference computes: Letters, Word, Next, Within. -/
set_option linter.unusedVariables false
set_option linter.unusedSimpArgs false
namespace Go.Proofs.Ytagdbadljcongaa.X
open Go Go.RowKit Go.Proofs.YtagdbadljcongaaW.PrintWords Go.Proofs.YtagdbadljcongaaW.PrintLast Go.Proofs.YtagdbadljcongaaW.PrintMore
theorem bt_bl2 (s : ByteArray) (i : Nat) (h : i < s.size) : bt s (i : Int) = ((bl s)[i]'(by rw [bl_length]; exact h) : Nat) := by
  rw [bl_get s i h, ← bt_at s (i : Int) (by simpa using h)]
  simp
theorem wr1 {i : Nat} (h : i ≤ 1000000000) : wrap64 ((i : Int) + 1) = ((i + 1 : Nat) : Int) := by rw [IntWalk.wrap64_in _ (by omega)]; omega
theorem byte_lt (s : ByteArray) (i : Nat) (h : i < s.size) : (bl s)[i]'(by rw [bl_length]; exact h) < 256 := by
  rw [bl_get s i h]
  exact (s[i]'h).toNat_lt
theorem letters_ev (s : ByteArray) (hs : s.size ≤ 1000000) : ∀ d i k, i + d = s.size → d < k → tickingref03_Letters.l0 k s 4 (i : Int) = some (((bl s).drop i).all ltrB)
  | 0, i, 0, h, hk => absurd hk (by omega)
  | 0, i, k + 1, h, hk => by
    unfold tickingref03_Letters.l0
    rw [if_neg (by omega), List.drop_eq_nil_of_le (by rw [bl_length]; omega)]
    rfl
  | d + 1, i, 0, h, hk => absurd hk (by omega)
  | d + 1, i, k + 1, h, hk => by
    have hi : i < s.size := by omega
    have hb := byte_lt s i hi
    unfold tickingref03_Letters.l0
    rw [if_pos (by omega), if_pos (by omega), bt_bl2 s i hi, List.drop_eq_getElem_cons (by rw [bl_length]; exact hi), List.all_cons]
    generalize (bl s)[i]'(by rw [bl_length]; exact hi) = b at hb
    by_cases h1 : b < 97
    · rw [if_pos (by omega)]
      have : ltrB b = false := by unfold ltrB; exact decide_eq_false (by omega)
      rw [this]; rfl
    · rw [if_neg (by omega)]
      by_cases h2 : 101 ≤ b
      · rw [if_pos (by omega)]
        have : ltrB b = false := by unfold ltrB; exact decide_eq_false (by omega)
        rw [this]; rfl
      · rw [if_neg (by omega), wr1 (by omega), letters_ev s hs d (i + 1) k (by omega) (by omega)]
        have : ltrB b = true := by unfold ltrB; exact decide_eq_true (by omega)
        rw [this]; rfl
/-- Next's answer. -/
def nxI (l : List Nat) (i c : Nat) : Int := if nx l i c < l.length then ((nx l i c + 1 : Nat) : Int) else -1
theorem next_ev (s : ByteArray) (hs : s.size ≤ 1000000) (c : Nat) : ∀ d i k, i + d = s.size → d < k → tickingref03_Next.l0 k s (c : Int) (i : Int) = some (nxI (bl s) i c)
  | 0, i, 0, h, hk => absurd hk (by omega)
  | 0, i, k + 1, h, hk => by
    unfold tickingref03_Next.l0 nxI
    obtain rfl : i = s.size := by omega
    rw [if_neg (by omega), if_neg (by rw [← bl_length, nx_end]; omega)]
  | d + 1, i, 0, h, hk => absurd hk (by omega)
  | d + 1, i, k + 1, h, hk => by
    have hi : i < s.size := by omega
    unfold tickingref03_Next.l0
    rw [if_pos (by omega), if_pos (by omega), bt_bl2 s i hi]
    have hi2 : i < (bl s).length := by rw [bl_length]; exact hi
    by_cases h1 : (bl s)[i] = c
    · rw [if_pos (by rw [h1]), wr1 (by omega)]
      unfold nxI
      rw [nx_same hi2 h1, if_pos hi2]
    · rw [if_neg (by omega), wr1 (by omega), next_ev s hs c d (i + 1) k (by omega) (by omega)]
      unfold nxI
      rw [nx_next hi2 h1]
theorem next_f (s : ByteArray) (hs : s.size ≤ 1000000) (c i k : Nat) (hi : i ≤ s.size) (hk : s.size < k) : tickingref03_Next.f k s (i : Int) (c : Int) = some (nxI (bl s) i c) :=
  next_ev s hs c (s.size - i) i k (by omega) (by omega)
/-- Within's answer. -/
def wthI (l u : List Nat) (i : Nat) (pre : List Int) : List Int × Bool := match wth l i u with
  | some xs => (pre ++ xs.map fun (n : Nat) => (n : Int), true)
  | none => ([], false)
theorem within_ev (u s : ByteArray) (hu : u.size ≤ 1000000) (hs : s.size ≤ 1000000) : ∀ d j k i pre, j + d = u.size → i ≤ s.size → pre.length ≤ j → d + s.size + 1 < k → tickingref03_Within.l0 k u s pre (i : Int) (j : Int) = some (wthI (bl s) ((bl u).drop j) i pre)
  | 0, j, 0, i, pre, h, hi, hp, hk => absurd hk (by omega)
  | 0, j, k + 1, i, pre, h, hi, hp, hk => by
    unfold tickingref03_Within.l0
    rw [if_neg (by omega), List.drop_eq_nil_of_le (by rw [bl_length]; omega)]
    simp [wthI, wth]
  | d + 1, j, 0, i, pre, h, hi, hp, hk => absurd hk (by omega)
  | d + 1, j, k + 1, i, pre, h, hi, hp, hk => by
    have hj : j < u.size := by omega
    unfold tickingref03_Within.l0
    rw [if_pos (by omega), if_pos (by omega), bt_bl2 u j hj, next_f s hs _ i k hi (by omega), List.drop_eq_getElem_cons (by rw [bl_length]; exact hj)]
    generalize (bl u)[j]'(by rw [bl_length]; exact hj) = c
    show (if nxI (bl s) i c < 0 then some (([] : List Int), false) else if pre.length < 17592186044416 then tickingref03_Within.l0 k u s (pre ++ [wrap64 (nxI (bl s) i c - 1)]) (nxI (bl s) i c) (wrap64 ((j : Int) + 1)) else none) = _
    have hq := nx_le (bl s) i c (by rw [bl_length]; exact hi)
    rw [bl_length] at hq
    unfold wthI wth
    by_cases h1 : nx (bl s) i c < (bl s).length
    · have e : nxI (bl s) i c = ((nx (bl s) i c + 1 : Nat) : Int) := by unfold nxI; rw [if_pos h1]
      rw [bl_length] at h1
      rw [e, if_neg (by omega), if_pos (by omega), wr1 (by omega)]
      rw [show wrap64 (((nx (bl s) i c + 1 : Nat) : Int) - 1) = (nx (bl s) i c : Int) by rw [IntWalk.wrap64_in _ (by omega)]; omega]
      rw [within_ev u s hu hs d (j + 1) k (nx (bl s) i c + 1) _ (by omega) (by omega) (by simp; omega) (by omega), if_pos (by rw [bl_length]; exact h1)]
      unfold wthI
      cases wth (bl s) (nx (bl s) i c + 1) ((bl u).drop (j + 1)) <;> simp
    · have e : nxI (bl s) i c = -1 := by unfold nxI; rw [if_neg h1]
      rw [e, if_pos (by omega), if_neg h1]
end Go.Proofs.Ytagdbadljcongaa.X
end

section
/- The subsequence with a given rank. -/
set_option linter.unusedVariables false
set_option linter.unusedSimpArgs false
namespace Go.Proofs.Ytagdbadljcongaa.X
open Go.RowKit Go.Proofs.YtagdbadljcongaaW.PrintWords
/-- The letter that is chosen at a rank behind what has come so far. -/
def pickC (l : List Nat) (k : Nat) : Nat := if k < less l 1 then 0 else if k < less l 2 then 1 else if k < less l 3 then 2 else 3
/-- The subsequence of l that has k ones before it. -/
def itemF : Nat → List Nat → Nat → List Nat
  | 0, _, _ => []
  | f + 1, l, k => if k = 0 then [] else (97 + pickC l (k - 1)) :: itemF f (l.drop (nxl l (97 + pickC l (k - 1)) + 1)) (k - 1 - less l (pickC l (k - 1)))
def itemL (l : List Nat) (k : Nat) : List Nat := itemF (l.length + 1) l k
theorem less_succ (l : List Nat) (j : Nat) : less l (j + 1) = less l j + term l (97 + j) := rfl
theorem less_mono (l : List Nat) {i j : Nat} (h : i ≤ j) : less l i ≤ less l j := by
  have := psum_mono l h
  rw [psum_less, psum_less] at this; omega
theorem cs_less (l : List Nat) : cs l = 1 + less l 4 := by rw [cs_eq, psum_less]
/-- What picks the letter. -/
theorem pick_is {l : List Nat} {k c : Nat} (hc : c < 4) (h1 : less l c ≤ k) (h2 : k < less l (c + 1)) : pickC l k = c := by
  unfold pickC
  have h01 := less_mono l (show 0 ≤ 1 by omega)
  have h12 := less_mono l (show 1 ≤ 2 by omega)
  have h23 := less_mono l (show 2 ≤ 3 by omega)
  have hcc : c = 0 ∨ c = 1 ∨ c = 2 ∨ c = 3 := by omega
  rcases hcc with rfl | rfl | rfl | rfl
  · rw [if_pos h2]
  · rw [if_neg (by omega), if_pos h2]
  · rw [if_neg (by omega), if_neg (by omega), if_pos h2]
  · rw [if_neg (by omega), if_neg (by omega), if_neg (by omega)]
theorem pick_ok {l : List Nat} {k : Nat} (h : k + 1 < cs l) : pickC l k < 4 ∧ less l (pickC l k) ≤ k ∧ k < less l (pickC l k + 1) := by
  rw [cs_less] at h
  unfold pickC
  split
  · exact ⟨by omega, Nat.zero_le _, by assumption⟩
  · split
    · exact ⟨by omega, by omega, by assumption⟩
    · split
      · exact ⟨by omega, by omega, by assumption⟩
      · exact ⟨by omega, by omega, by show k < less l 4; omega⟩
theorem itemF_enough : ∀ (f : Nat) (l : List Nat) (k : Nat), l.length < f → k < cs l → itemF f l k = itemF (l.length + 1) l k
  | 0, l, k, h, _ => by omega
  | f + 1, l, k, h, hk => by
    show (if k = 0 then [] else _) = (if k = 0 then [] else _)
    by_cases e : k = 0
    · rw [if_pos e, if_pos e]
    · rw [if_neg e, if_neg e]
      obtain ⟨p1, p2, p3⟩ := pick_ok (l := l) (k := k - 1) (by omega)
      generalize pickC l (k - 1) = c at p1 p2 p3 ⊢
      rw [less_succ] at p3
      have hq : nxl l (97 + c) < l.length := by
        rcases Nat.lt_or_ge (nxl l (97 + c)) l.length with hq | hq
        · exact hq
        · unfold term at p3; rw [if_neg (by omega)] at p3; omega
      have hr : k - 1 - less l c < cs (l.drop (nxl l (97 + c) + 1)) := by
        unfold term at p3; rw [if_pos hq] at p3; omega
      have hl : (l.drop (nxl l (97 + c) + 1)).length < l.length := by rw [List.length_drop]; omega
      rw [itemF_enough f _ _ (by omega) hr, itemF_enough l.length _ _ hl hr]
theorem itemL_step {l : List Nat} {k c : Nat} (hc : c < 4) (h1 : less l c ≤ k) (h2 : k < less l (c + 1)) (hk : k + 1 < cs l) :
    itemL l (k + 1) = (97 + c) :: itemL (l.drop (nxl l (97 + c) + 1)) (k - less l c) := by
  have hp := pick_is hc h1 h2
  unfold itemL
  show (if k + 1 = 0 then [] else (97 + pickC l (k + 1 - 1)) :: itemF l.length (l.drop (nxl l (97 + pickC l (k + 1 - 1)) + 1)) (k + 1 - 1 - less l (pickC l (k + 1 - 1)))) = _
  rw [if_neg (by omega), Nat.add_sub_cancel, hp]
  rw [less_succ] at h2
  have hq : nxl l (97 + c) < l.length := by
    rcases Nat.lt_or_ge (nxl l (97 + c)) l.length with hq | hq
    · exact hq
    · unfold term at h2; rw [if_neg (by omega)] at h2; omega
  have hr : k - less l c < cs (l.drop (nxl l (97 + c) + 1)) := by
    unfold term at h2; rw [if_pos hq] at h2; omega
  rw [itemF_enough l.length _ _ (by rw [List.length_drop]; omega) hr]
/-- The same at a place of a word. -/
theorem itemL_at {l : List Nat} {i k c q : Nat} (hi : i ≤ l.length) (hq : nx l i (97 + c) = q) (hc : c < 4) (h1 : less (l.drop i) c ≤ k) (h2 : k < less (l.drop i) (c + 1)) (hk : k + 1 < cs (l.drop i)) :
    itemL (l.drop i) (k + 1) = (97 + c) :: itemL (l.drop (q + 1)) (k - less (l.drop i) c) := by
  rw [itemL_step hc h1 h2 hk, List.drop_drop, ← hq]
  unfold nx
  rw [Nat.add_assoc]
end Go.Proofs.Ytagdbadljcongaa.X
end

section
/- What the reference computes: Counts, Index. -/
set_option linter.unusedVariables false
set_option linter.unusedSimpArgs false
namespace Go.Proofs.Ytagdbadljcongaa.X
open Go Go.RowKit Go.Proofs.YtagdbadljcongaaW.PrintWords Go.Proofs.YtagdbadljcongaaW.PrintLast Go.Proofs.YtagdbadljcongaaW.PrintMore
/-- The counts are right from place m on. -/
structure CtL (s : ByteArray) (m : Nat) (L : List Int) : Prop where
  len : L.length = s.size + 1
  at_ : ∀ j : Nat, m ≤ j → j ≤ s.size → rd L (j : Int) = (cs ((bl s).drop j) : Int)
end Go.Proofs.Ytagdbadljcongaa.X
end

section
namespace Go.Proofs.Ytagdbadljcongaa.X
open Go.RowKit Go.Proofs.YtagdbadljcongaaW.PrintWords Go.Proofs.YtagdbadljcongaaW.PrintLast Go.Proofs.YtagdbadljcongaaW.PrintMore
attribute [local go_sem] max2_int min2_int max_two min_two max_three min_three max_four min_four   -- for this text's walks alone
set_option linter.unusedVariables false
set_option linter.unusedSimpArgs false

def thread_within.f (a0 : Int) (a1 : Int) (a2 : Int) : Option (Bool) := if a0 ≥ a1 then (some (decide (a0 ≤ a2))) else (some false)
set_option maxHeartbeats 8000000 in
set_option maxRecDepth 100000 in
theorem thread_within.calls (a0 : Int) (a1 : Int) (a2 : Int) (r : Bool) (w : World) (h : thread_within.f a0 a1 a2 = some r) :
  Calls Try.prog 49 #[.int .i64 a0, .int .i64 a1, .int .i64 a2] w fun e w' => e = .returned (.bool r) ∧ Drawn0 w w' := by
 have H : (if a0 ≥ a1 then (some (decide (a0 ≤ a2))) else (some false)) = some r := h
 clear h
 by_cases c4 : a0 ≥ a1
 ·rw [if_pos c4] at H
  have c4b0 : decide (a1 ≤ a0) = true := decide_eq_true c4
  clear c4
  obtain rfl := Option.some.inj H
  go_enter Try.func49, Try.ntmps49
  go_wp2
  go_ret
  exact ⟨by first | rfl | (simp; done) | (simp [*]; done), by repeat (first | exact Drawn0.refl _ | apply Drawn0.step)⟩
 ·rw [if_neg c4] at H
  have c4b0 : decide (a1 ≤ a0) = false := decide_eq_false c4
  clear c4
  obtain rfl := Option.some.inj H
  go_enter Try.func49, Try.ntmps49
  go_wp2
  go_ret
  exact ⟨by first | rfl | (simp; done) | (simp [*]; done), by repeat (first | exact Drawn0.refl _ | apply Drawn0.step)⟩

end Go.Proofs.Ytagdbadljcongaa.X
end

section
/- thread.newWord and after: a word's block: its text, and where the next letters are. -/
set_option linter.unusedVariables false
set_option linter.unusedSimpArgs false
namespace Go.Proofs.Ytagdbadljcongaa.X
open Go.RowKit Go.Proofs.YtagdbadljcongaaW.PrintWords Go.Proofs.YtagdbadljcongaaW.PrintLast Go.Proofs.YtagdbadljcongaaW.PrintMore
/-- A word's cells. -/
def wcells (s : ByteArray) (f : Nat → Int) : Array Value := (Value.string s :: (List.range 244).map fun j => Value.int .i64 (f j)).toArray
/-- Block b of w holds the word s. -/
structure WordAt (w : World) (b : Nat) (s : ByteArray) : Prop where
  ex : ∃ f, w.heap[b]? = some (.cells (wcells s f) 78 (0, 0)) ∧ ∀ i c, i ≤ s.size → c < 4 → f (i * 4 + c) = (nx (bl s) i (97 + c) : Int)
theorem wcells_at (s : ByteArray) (f : Nat → Int) (j : Nat) (h : j < 244) : (wcells s f)[1 + j]? = some (.int .i64 (f j)) := by
  simp [wcells, Nat.add_comm 1 j, h]
theorem WordAt.below {w w' : World} {b : Nat} {s : ByteArray} (h : WordAt w b s) (hb : Below w.heap.size w w') : WordAt w' b s := by
  obtain ⟨f, h1, h2⟩ := h.ex
  exact ⟨⟨f, blk_below h1 hb, h2⟩⟩
theorem WordAt.text {w : World} {b : Nat} {s : ByteArray} (h : WordAt w b s) : w.cell? ⟨b, 0, none⟩ = some (.string s) := by
  obtain ⟨f, h1, h2⟩ := h.ex
  exact (blk_cell h1 0).trans rfl
theorem WordAt.cell {w : World} {b : Nat} {s : ByteArray} (h : WordAt w b s) (hs : s.size ≤ 60) {i c : Nat} (hi : i ≤ s.size) (hc : c < 4) : w.cell? ⟨b, 1 + i * 4 + c, none⟩ = some (.int .i64 (nx (bl s) i (97 + c) : Int)) := by
  obtain ⟨f, h1, h2⟩ := h.ex
  rw [← h2 i c hi hc, blk_cell h1, Nat.add_assoc]
  exact wcells_at s f _ (by omega)
set_option maxHeartbeats 2000000 in
set_option maxRecDepth 100000 in
theorem after_any (w : World) (b : Nat) (s : ByteArray) (hw : WordAt w b s) (hs : s.size ≤ 60) (i c : Nat) (hi : i ≤ s.size) (hc : c < 4) :
    Calls Try.prog 57 #[.pointer (some ⟨b, 0, none⟩), .int .i64 i, .int .i64 c] w fun e w' => e = .returned (.tuple #[.int .i64 (nx (bl s) i (97 + c) + 1 : Int), .bool (decide (nx (bl s) i (97 + c) < s.size))]) ∧ Drawn0 w w' := by
  have h1 := hw.text
  have h2 := hw.cell hs hi hc
  have h3 := nx_le (bl s) i (97 + c) (by rw [bl_length]; exact hi)
  rw [bl_length] at h3
  generalize nx (bl s) i (97 + c) = q at h2 h3 ⊢
  have a1 : (0 : Int) ≤ (i : Int) := by omega
  have a2 : (i : Int) < 61 := by omega
  have a3 : (0 : Int) ≤ (c : Int) := by omega
  have a4 : (c : Int) < 4 := by omega
  have a5 : (q : Int) ≤ 60 := by omega
  have a6 : (s.size : Int) ≤ 60 := by omega
  clear hw hs hi hc h3
  go_enter Try.func57, Try.ntmps57
  go_wp2
  go_quiet (fail)
  go_wp2
  go_ret2
  exact ⟨rfl, ⟨⟨_, rfl⟩⟩⟩
theorem build78 (s : ByteArray) (W : World) : (Instr.build 78 #[(0, .string s)]).run Try.prog W = .ok (.agg (wcells s fun _ => 0)) W := by kernel_rfl
theorem box78 (s : ByteArray) (W : World) : (Instr.box 78 (.agg (wcells s fun _ => 0))).run Try.prog W = .ok (.pointer (some ⟨W.heap.size, 0, none⟩)) (W.alloc (.cells (wcells s fun _ => 0) 78)) := by kernel_rfl
def upd (f : Nat → Int) (j : Nat) (v : Int) : Nat → Int := fun k => if k = j then v else f k
theorem wcells_set (s : ByteArray) (f : Nat → Int) (j : Nat) (v : Int) (h : j < 244) : (wcells s f).setIfInBounds (1 + j) (.int .i64 v) = wcells s (upd f j v) := by
  apply Array.ext_getElem?
  intro i
  rw [Array.getElem?_setIfInBounds]
  have hsz : (wcells s f).size = 245 := by simp [wcells]
  by_cases e : 1 + j = i
  · subst e
    rw [if_pos rfl, if_pos (by omega), wcells_at s _ j h]
    simp [upd]
  · rw [if_neg e]
    rcases i with _ | i
    · simp [wcells]
    · by_cases hi : i < 244
      · rw [Nat.add_comm i 1, wcells_at s f i hi, wcells_at s _ i hi]
        simp [upd, show i ≠ j by omega]
      · simp [wcells, hi]
/-- The world behind a store into the table. -/
theorem wset {w : World} {b : Nat} {s : ByteArray} {f : Nat → Int} (h : w.heap[b]? = some (.cells (wcells s f) 78 (0, 0))) (j : Nat) (v : Int) (hj : j < 244) :
    (w.setCell ⟨b, 1 + j, none⟩ (.int .i64 v)).heap[b]? = some (.cells (wcells s (upd f j v)) 78 (0, 0)) := by
  rw [← wcells_set s f j v hj]; exact blk_set h (1 + j) (.int .i64 v)
def NWPost (s : ByteArray) (w : World) (e : Ending) (w' : World) : Prop :=
  if isW (bl s) = true then e = .returned (.tuple #[.pointer (some ⟨w.heap.size, 0, none⟩), .bool true]) ∧ WordAt w' w.heap.size s ∧ Below w.heap.size w w'
  else e = .returned (.tuple #[.pointer none, .bool false]) ∧ Below w.heap.size w w'
set_option maxHeartbeats 2000000 in
set_option maxRecDepth 100000 in
theorem newWord_big (s : ByteArray) (w : World) (h : 60 < s.size) : Calls Try.prog 48 #[.string s] w (NWPost s w) := by
  have hf : isW (bl s) = false := by simp [isW, bl_length]; omega
  have h1 : ((60 : Int) < (s.size : Int)) = True := eq_true (by omega)
  have HF := Aside0.mk (show NWPost s w (.returned (.tuple #[.pointer none, .bool false])) w by unfold NWPost; rw [hf]; exact ⟨rfl, Below.refl _ _⟩)
  clear hf h
  go_enter Try.func48, Try.ntmps48
  go_wp2
  go_ret2
  exact HF.out
/-- The table is filled from row i on; in row i the first k letters' places are the length. -/
def Rows0 (s : ByteArray) (w : World) (k : Nat) (wr : World) : Prop :=
  ∃ f, wr.heap[w.heap.size]? = some (.cells (wcells s f) 78 (0, 0)) ∧ (∀ c, c < k → f (s.size * 4 + c) = (s.size : Int)) ∧ Below w.heap.size w wr
def Rows1 (s : ByteArray) (w : World) (i : Nat) (wr : World) : Prop :=
  ∃ f, wr.heap[w.heap.size]? = some (.cells (wcells s f) 78 (0, 0)) ∧ (∀ j c, i ≤ j → j ≤ s.size → c < 4 → f (j * 4 + c) = (nx (bl s) j (97 + c) : Int)) ∧ Below w.heap.size w wr ∧ ∀ j, i ≤ j → ∀ h : j < (bl s).length, ltrB ((bl s)[j]) = true
theorem Rows0.start (s : ByteArray) (w : World) : Rows0 s w 0 (w.alloc (.cells (wcells s fun _ => 0) 78)) :=
  ⟨_, blk_new w _, fun c h => by omega, below_alloc (Below.refl _ _) _⟩
theorem Rows0.cell {s : ByteArray} {w wr : World} {k : Nat} (h : Rows0 s w k wr) (hs : s.size ≤ 60) (hk : k < 4) : ∃ v, wr.cell? ⟨w.heap.size, 1 + s.size * 4 + k, none⟩ = some (.int .i64 v) ∧ wr.frozen? ⟨w.heap.size, 1 + s.size * 4 + k, none⟩ = false := by
  obtain ⟨f, h1, _⟩ := h
  exact ⟨_, (blk_cell h1 _).trans (by rw [Nat.add_assoc]; exact wcells_at s f _ (by omega)), blk_frozen h1 _⟩
theorem Rows0.step {s : ByteArray} {w wr : World} {k : Nat} (h : Rows0 s w k wr) (hs : s.size ≤ 60) (hk : k < 4) : Rows0 s w (k + 1) (wr.setCell ⟨w.heap.size, 1 + s.size * 4 + k, none⟩ (.int .i64 s.size)) := by
  obtain ⟨f, h1, h2, h3⟩ := h
  refine ⟨_, by rw [Nat.add_assoc]; exact wset h1 (s.size * 4 + k) _ (by omega), fun c hc => ?_, h3.setCell (Nat.le_refl _) _⟩
  unfold upd
  by_cases e : c = k
  · subst e; rw [if_pos rfl]
  · rw [if_neg (by omega)]; exact h2 c (by omega)
theorem Rows0.done {s : ByteArray} {w wr : World} (h : Rows0 s w 4 wr) : Rows1 s w s.size wr := by
  obtain ⟨f, h1, h2, h3⟩ := h
  refine ⟨f, h1, fun j c h4 h5 hc => ?_, h3, fun j h4 h5 => by rw [bl_length] at h5; omega⟩
  obtain rfl : j = s.size := by omega
  rw [h2 c hc, ← bl_length, nx_end]
theorem Rows1.cell {s : ByteArray} {w wr : World} {i : Nat} (h : Rows1 s w i wr) (hs : s.size ≤ 60) {j c : Nat} (hi : i ≤ j) (hj : j ≤ s.size) (hc : c < 4) :
    wr.cell? ⟨w.heap.size, 1 + j * 4 + c, none⟩ = some (.int .i64 (nx (bl s) j (97 + c) : Int)) := by
  obtain ⟨f, h1, h2, _⟩ := h
  rw [← h2 j c hi hj hc]
  exact (blk_cell h1 _).trans (by rw [Nat.add_assoc]; exact wcells_at s f _ (by omega))
theorem Rows1.there {s : ByteArray} {w wr : World} {i : Nat} (h : Rows1 s w i wr) {j : Nat} (hj : j < 244) :
    ∃ v, wr.cell? ⟨w.heap.size, 1 + j, none⟩ = some (.int .i64 v) ∧ wr.frozen? ⟨w.heap.size, 1 + j, none⟩ = false := by
  obtain ⟨f, h1, h2, _⟩ := h
  exact ⟨_, (blk_cell h1 _).trans (wcells_at s f _ hj), blk_frozen h1 _⟩
/-- Row m + 1, as it is read; row m, as it may be written. -/
theorem Rows1.quad {s : ByteArray} {w wr : World} {m : Nat} (h : Rows1 s w (m + 1) wr) (hs : s.size ≤ 60) (hm : m < s.size) : ∃ q0 q1 q2 q3 v0 v1 v2 v3 : Int,
    (wr.cell? ⟨w.heap.size, 1 + (m + 1) * 4, none⟩ = some (.int .i64 q0) ∧ wr.cell? ⟨w.heap.size, 1 + (m + 1) * 4 + 1, none⟩ = some (.int .i64 q1) ∧ wr.cell? ⟨w.heap.size, 1 + (m + 1) * 4 + 2, none⟩ = some (.int .i64 q2) ∧ wr.cell? ⟨w.heap.size, 1 + (m + 1) * 4 + 3, none⟩ = some (.int .i64 q3)) ∧
    (wr.cell? ⟨w.heap.size, 1 + m * 4, none⟩ = some (.int .i64 v0) ∧ wr.frozen? ⟨w.heap.size, 1 + m * 4, none⟩ = false) ∧ (wr.cell? ⟨w.heap.size, 1 + m * 4 + 1, none⟩ = some (.int .i64 v1) ∧ wr.frozen? ⟨w.heap.size, 1 + m * 4 + 1, none⟩ = false) ∧ (wr.cell? ⟨w.heap.size, 1 + m * 4 + 2, none⟩ = some (.int .i64 v2) ∧ wr.frozen? ⟨w.heap.size, 1 + m * 4 + 2, none⟩ = false) ∧ (wr.cell? ⟨w.heap.size, 1 + m * 4 + 3, none⟩ = some (.int .i64 v3) ∧ wr.frozen? ⟨w.heap.size, 1 + m * 4 + 3, none⟩ = false) ∧
    Aside0 (q0 = (nx (bl s) (m + 1) (97 + 0) : Int) ∧ q1 = (nx (bl s) (m + 1) (97 + 1) : Int) ∧ q2 = (nx (bl s) (m + 1) (97 + 2) : Int) ∧ q3 = (nx (bl s) (m + 1) (97 + 3) : Int)) := by
  obtain ⟨v0, t0, f0⟩ := h.there (j := m * 4) (by omega)
  obtain ⟨v1, t1, f1⟩ := h.there (j := m * 4 + 1) (by omega)
  obtain ⟨v2, t2, f2⟩ := h.there (j := m * 4 + 2) (by omega)
  obtain ⟨v3, t3, f3⟩ := h.there (j := m * 4 + 3) (by omega)
  exact ⟨_, _, _, _, v0, v1, v2, v3, ⟨h.cell hs (c := 0) (Nat.le_refl _) hm (by omega), h.cell hs (c := 1) (Nat.le_refl _) hm (by omega), h.cell hs (c := 2) (Nat.le_refl _) hm (by omega), h.cell hs (c := 3) (Nat.le_refl _) hm (by omega)⟩, ⟨t0, f0⟩, ⟨t1, f1⟩, ⟨t2, f2⟩, ⟨t3, f3⟩, ⟨rfl, rfl, rfl, rfl⟩⟩
theorem Rows1.below {s : ByteArray} {w wr w' : World} {i : Nat} (h : Rows1 s w i wr) (hb : Below wr.heap.size wr w') : Rows1 s w i w' := by
  obtain ⟨f, h1, h2, h3, h4⟩ := h
  exact ⟨f, blk_below h1 hb, h2, below_step h3 hb, h4⟩
/-- Row m holds what row m + 1 holds. -/
def RowsC (s : ByteArray) (w : World) (m : Nat) (wr : World) : Prop :=
  ∃ f, wr.heap[w.heap.size]? = some (.cells (wcells s f) 78 (0, 0)) ∧ (∀ c, c < 4 → f (m * 4 + c) = (nx (bl s) (m + 1) (97 + c) : Int)) ∧ (∀ j c, m + 1 ≤ j → j ≤ s.size → c < 4 → f (j * 4 + c) = (nx (bl s) j (97 + c) : Int)) ∧ Below w.heap.size w wr ∧ ∀ j, m + 1 ≤ j → ∀ h : j < (bl s).length, ltrB ((bl s)[j]) = true
theorem Rows1.copied {s : ByteArray} {w wr : World} {m : Nat} {q0 q1 q2 q3 : Int} (h : Rows1 s w (m + 1) wr) (hs : s.size ≤ 60) (hm : m < s.size)
    (hq : q0 = (nx (bl s) (m + 1) (97 + 0) : Int) ∧ q1 = (nx (bl s) (m + 1) (97 + 1) : Int) ∧ q2 = (nx (bl s) (m + 1) (97 + 2) : Int) ∧ q3 = (nx (bl s) (m + 1) (97 + 3) : Int)) :
    RowsC s w m ((((wr.setCell ⟨w.heap.size, 1 + m * 4, none⟩ (.int .i64 q0)).setCell ⟨w.heap.size, 1 + m * 4 + 1, none⟩ (.int .i64 q1)).setCell ⟨w.heap.size, 1 + m * 4 + 2, none⟩ (.int .i64 q2)).setCell ⟨w.heap.size, 1 + m * 4 + 3, none⟩ (.int .i64 q3)).drew := by
  obtain ⟨f, h1, h2, h3, h4⟩ := h
  obtain ⟨e0, e1, e2, e3⟩ := hq
  have g0 := wset h1 (m * 4) q0 (by omega)
  have g1 := wset g0 (m * 4 + 1) q1 (by omega)
  have g2 := wset g1 (m * 4 + 2) q2 (by omega)
  have g3 := wset g2 (m * 4 + 3) q3 (by omega)
  simp only [← Nat.add_assoc] at g3
  refine ⟨_, g3, fun c hc => ?_, fun j c hj hj2 hc => ?_, below_drew ((((h3.setCell (Nat.le_refl _) _).setCell (Nat.le_refl _) _).setCell (Nat.le_refl _) _).setCell (Nat.le_refl _) _), h4⟩
  · have hc' : c = 0 ∨ c = 1 ∨ c = 2 ∨ c = 3 := by omega
    unfold upd
    rcases hc' with rfl | rfl | rfl | rfl
    · rw [if_neg (by omega), if_neg (by omega), if_neg (by omega), if_pos (by omega), e0]
    · rw [if_neg (by omega), if_neg (by omega), if_pos (by omega), e1]
    · rw [if_neg (by omega), if_pos (by omega), e2]
    · rw [if_pos (by omega), e3]
  · unfold upd
    rw [if_neg (by omega), if_neg (by omega), if_neg (by omega), if_neg (by omega), h2 j c hj hj2 hc]
theorem RowsC.there {s : ByteArray} {w wr : World} {m : Nat} (h : RowsC s w m wr) {j : Nat} (hj : j < 244) :
    ∃ v, wr.cell? ⟨w.heap.size, 1 + j, none⟩ = some (.int .i64 v) ∧ wr.frozen? ⟨w.heap.size, 1 + j, none⟩ = false := by
  obtain ⟨f, h1, h2, _⟩ := h
  exact ⟨_, (blk_cell h1 _).trans (wcells_at s f _ hj), blk_frozen h1 _⟩
theorem RowsC.put {s : ByteArray} {w wr : World} {m c : Nat} (h : RowsC s w m wr) (hs : s.size ≤ 60) (hm : m < s.size) (hc : c < 4) (hl : (s[m]'hm).toNat = 97 + c) : Rows1 s w m (wr.setCell ⟨w.heap.size, 1 + m * 4 + c, none⟩ (.int .i64 m)) := by
  obtain ⟨f, h1, h2, h3, h4, h5⟩ := h
  have hml : m < (bl s).length := by rw [bl_length]; exact hm
  have hl' : (bl s)[m]'hml = 97 + c := by rw [bl_get s m hm]; exact hl
  refine ⟨_, by rw [Nat.add_assoc]; exact wset h1 (m * 4 + c) _ (by omega), fun j d hj hj2 hd => ?_, h4.setCell (Nat.le_refl _) _, fun j hj hj2 => ?_⟩
  · unfold upd
    by_cases e : j = m
    · subst e
      by_cases e2 : d = c
      · subst e2
        rw [if_pos rfl, nx_same hml hl']
      · rw [if_neg (by omega), h2 d hd, nx_next hml (by rw [hl']; omega)]
    · rw [if_neg (by omega), h3 j d (by omega) hj2 hd]
  · by_cases e : j = m
    · subst e
      rw [hl']; simp [ltrB]; omega
    · exact h5 j (by omega) hj2
theorem within_y (a b c : Int) (W : World) (h1 : b ≤ a) (h2 : a ≤ c) : Calls Try.prog 49 #[.int .i64 a, .int .i64 b, .int .i64 c] W fun e w' => e = .returned (.bool true) ∧ Drawn0 W w' :=
  thread_within.calls a b c true W (by unfold thread_within.f; rw [if_pos h1, decide_eq_true h2])
theorem within_n (a b c : Int) (W : World) (h : ¬ (b ≤ a ∧ a ≤ c)) : Calls Try.prog 49 #[.int .i64 a, .int .i64 b, .int .i64 c] W fun e w' => e = .returned (.bool false) ∧ Drawn0 W w' :=
  thread_within.calls a b c false W (by
    unfold thread_within.f
    by_cases h1 : a ≥ b
    · rw [if_pos h1, decide_eq_false (fun h2 => h ⟨h1, h2⟩)]
    · rw [if_neg h1])
set_option maxHeartbeats 2000000 in
set_option maxRecDepth 100000 in
theorem newWord_any (s : ByteArray) (w : World) (h : s.size ≤ 60) : Calls Try.prog 48 #[.string s] w (NWPost s w) := by
  have h1 : ((60 : Int) < (s.size : Int)) = False := eq_false (by omega)
  have b1 := build78 s
  have b2 := box78 s
  have a1 : (0 : Int) ≤ (s.size : Int) := by omega
  have a2 : (s.size : Int) < 61 := by omega
  have HS := Aside0.mk h
  clear h
  go_enter Try.func48, Try.ntmps48
  go_wp2
  clear b1 b2
  go_loopw [14] (fun v14 wr => ∃ k : Nat, v14 = .int .i64 k ∧ k ≤ 4 ∧ Aside0 (Rows0 s w k wr)) (fun v14 _ => 4 - (intOf v14).toNat)
  case atStart => exact ⟨0, rfl, by omega, ⟨Rows0.start s w⟩⟩
  case round =>
    obtain ⟨k, rfl, hk, HR⟩ := hrel
    by_cases hlt : k < 4
    · obtain ⟨v, c1, c2⟩ := HR.out.cell HS.out hlt
      have a3 : (k : Int) < 4 := by omega
      clear hlt
      go_wp2
      go_roundw
      case rel => exact ⟨k + 1, by go_num, by omega, ⟨HR.out.step HS.out (by omega)⟩⟩
      case measure => simp [intOf]; omega
    · have HR1 := Aside0.mk (show Rows1 s w s.size wr by have e : k = 4 := by omega
                                                         subst e; exact HR.out.done)
      have hge : ¬ ((k : Int) < 4) := by omega
      clear HR hlt hk
      go_wp2
      clear a1 a2 h1 hge
      go_loopw [6] (fun v6 wr => ∃ i : Int, v6 = .int .i64 i ∧ -1 ≤ i ∧ i < (s.size : Int) ∧ Aside0 (Rows1 s w (i + 1).toNat wr)) (fun v6 _ => (intOf v6 + 1).toNat)
      case atStart => exact ⟨(s.size : Int) - 1, rfl, by omega, by omega, ⟨by rw [show ((s.size : Int) - 1 + 1).toNat = s.size by omega]; exact HR1.out⟩⟩
      case round =>
        obtain ⟨i, rfl, hi1, hi2, HR⟩ := hrel
        clear HR1
        by_cases hp : 0 ≤ i
        · obtain ⟨m, rfl⟩ := Int.eq_ofNat_of_zero_le hp
          clear hp hi1
          have hm : m < s.size := by omega
          have HR := Aside0.mk (show Rows1 s w (m + 1) wr by have := HR.out; rwa [show ((m : Int) + 1).toNat = m + 1 by omega] at this)
          by_cases hg : ltrB ((bl s)[m]'(by rw [bl_length]; exact hm)) = true
          · obtain ⟨c, hc, hc4⟩ : ∃ c : Nat, (s[m]'hm).toNat = 97 + c ∧ c < 4 := by
              rw [← bl_get s m hm]; simp [ltrB] at hg; exact ⟨(bl s)[m]'(by rw [bl_length]; exact hm) - 97, by omega, by omega⟩
            have hx : ∀ h : m < s.size, ((s[m]'h).toNat : Int) = 97 + (c : Int) := fun _ => by rw [hc]; simp
            have c1 : (97 : Int) + (c : Int) - 97 = (c : Int) := by omega
            have c2 : (c : Int) < 4 := by omega
            have c3 : (m : Int) < 61 := by have := HS.out; omega
            have c4 : (m : Int) + 1 < 61 := by have := HS.out; omega
            have c5 : (0 : Int) ≤ (m : Int) + 1 := by omega
            have c6 : (0 : Int) ≤ (m : Int) := by omega
            have c7 : IntKind.i64.wrap ((m : Int) + 1) = (m : Int) + 1 := IntWalk.i64_in _ (by have := HS.out; omega)
            have c8 : ((m : Int) + 1).toNat = m + 1 := by omega
            have HC := Aside0.mk hc
            have HG := Aside0.mk hg
            clear hc hg hc4
            go_upto_region 15 with (go_at_call 49; (with_reducible refine (within_y _ _ _ _ (by omega) (by omega)).mono ?_); rintro e w1 ⟨rfl, HD⟩; have HR2 := Aside0.mk (HR.out.below HD.below); obtain ⟨q0, q1, q2, q3, v0, v1, v2, v3, ⟨r0, r1, r2, r3⟩, ⟨t0, f0⟩, ⟨t1, f1⟩, ⟨t2, f2⟩, ⟨t3, f3⟩, HQ⟩ := HR2.out.quad HS.out hm; clear HD)
            refine start_ (n := 13) (S := fun w' => w'.cell? ⟨w.heap.size, 1 + (m + 1) * 4, none⟩ = some (.int .i64 q0) ∧ w'.cell? ⟨w.heap.size, 1 + (m + 1) * 4 + 1, none⟩ = some (.int .i64 q1) ∧ w'.cell? ⟨w.heap.size, 1 + (m + 1) * 4 + 2, none⟩ = some (.int .i64 q2) ∧ w'.cell? ⟨w.heap.size, 1 + (m + 1) * 4 + 3, none⟩ = some (.int .i64 q3)) (ds := [12]) #[false, false, false, false, false, false, false, false, false, false, false, false, false] (by kernel_rfl) rfl rfl ⟨r0, r1, r2, r3⟩ (fun hHeld => ?_)
            refine pure_ (i := 0) (N := (some 43)) (v := ?_) (a' := ?_) #[true, false, false, false, false, false, false, false, false, false, false, false, false] rfl rfl (by kernel_rfl) (fun _ _ _ h => h) (Or.inl ⟨by rfl, ?_⟩) ?_ ?_
            rotate_left
            · intro w'
              go_simp
              with_reducible rfl
            rotate_left
            · simp only [Act.put, List.setIfInBounds_toArray, List.set_cons_zero, List.set_cons_succ, i64_w, i32_w]
              rfl
            refine pure_ (i := 1) (N := (some 44)) (v := ?_) (a' := ?_) #[true, true, false, false, false, false, false, false, false, false, false, false, false] rfl rfl (by kernel_rfl) (fun _ _ _ h => h) (Or.inl ⟨by rfl, ?_⟩) ?_ ?_
            rotate_left
            · intro w'
              go_simp
              with_reducible rfl
            rotate_left
            · simp only [Act.put, List.setIfInBounds_toArray, List.set_cons_zero, List.set_cons_succ, i64_w, i32_w]
              rfl
            refine pure_ (i := 2) (N := (some 45)) (v := ?_) (a' := ?_) #[true, true, true, false, false, false, false, false, false, false, false, false, false] rfl rfl (by kernel_rfl) (fun _ _ _ h => h) (Or.inl ⟨by rfl, ?_⟩) ?_ ?_
            rotate_left
            · intro w'
              go_simp
              with_reducible rfl
            rotate_left
            · simp only [Act.put, List.setIfInBounds_toArray, List.set_cons_zero, List.set_cons_succ, i64_w, i32_w]
              rfl
            refine pure_ (i := 3) (N := (some 46)) (v := ?_) (a' := ?_) #[true, true, true, true, false, false, false, false, false, false, false, false, false] rfl rfl (by kernel_rfl) (fun _ _ _ h => h) (Or.inl ⟨by rfl, ?_⟩) ?_ ?_
            rotate_left
            · intro w'
              go_simp
              with_reducible rfl
            rotate_left
            · simp only [Act.put, List.setIfInBounds_toArray, List.set_cons_zero, List.set_cons_succ, i64_w, i32_w]
              rfl
            refine pure_ (i := 4) (N := (some 47)) (v := ?_) (a' := ?_) #[true, true, true, true, true, false, false, false, false, false, false, false, false] rfl rfl (by kernel_rfl) (fun _ _ _ h => h) (Or.inl ⟨by rfl, ?_⟩) ?_ ?_
            rotate_left
            · intro w'
              go_simp
              with_reducible rfl
            rotate_left
            · simp only [Act.put, List.setIfInBounds_toArray, List.set_cons_zero, List.set_cons_succ, i64_w, i32_w]
              rfl
            refine pure_ (i := 5) (N := (some 48)) (v := ?_) (a' := ?_) #[true, true, true, true, true, true, false, false, false, false, false, false, false] rfl rfl (by kernel_rfl) (fun _ _ _ h => h) (Or.inl ⟨by rfl, ?_⟩) ?_ ?_
            rotate_left
            · intro w'
              go_simp
              with_reducible rfl
            rotate_left
            · simp only [Act.put, List.setIfInBounds_toArray, List.set_cons_zero, List.set_cons_succ, i64_w, i32_w]
              rfl
            refine pure_ (i := 6) (N := (some 49)) (v := ?_) (a' := ?_) #[true, true, true, true, true, true, true, false, false, false, false, false, false] rfl rfl (by kernel_rfl) (fun _ _ _ h => h) (Or.inl ⟨by rfl, ?_⟩) ?_ ?_
            rotate_left
            · intro w'
              go_simp
              with_reducible rfl
            rotate_left
            · simp only [Act.put, List.setIfInBounds_toArray, List.set_cons_zero, List.set_cons_succ, i64_w, i32_w]
              rfl
            refine pure_ (i := 7) (N := (some 50)) (v := ?_) (a' := ?_) #[true, true, true, true, true, true, true, true, false, false, false, false, false] rfl rfl (by kernel_rfl) (fun _ _ _ h => h) (Or.inl ⟨by rfl, ?_⟩) ?_ ?_
            rotate_left
            · intro w'
              go_simp
              with_reducible rfl
            rotate_left
            · simp only [Act.put, List.setIfInBounds_toArray, List.set_cons_zero, List.set_cons_succ, i64_w, i32_w]
              rfl
            refine take_ (i := 8) (N := (some 51)) (v := ?_) (a' := ?_) #[true, true, true, true, true, true, true, true, true, false, false, false, false] rfl rfl (by kernel_rfl) (fun _ _ _ h => h) (Or.inl ⟨by rfl, ?_⟩) hHeld ?_ ?_
            rotate_left
            · rintro w' ⟨s0, s1, s2, s3⟩
              go_simp
              with_reducible rfl
            rotate_left
            · simp only [Act.put, List.setIfInBounds_toArray, List.set_cons_zero, List.set_cons_succ, i64_w, i32_w]
              rfl
            refine pure_ (i := 9) (N := (some 52)) (v := ?_) (a' := ?_) #[true, true, true, true, true, true, true, true, true, true, false, false, false] rfl rfl (by kernel_rfl) (fun _ _ _ h => h) (Or.inl ⟨by rfl, ?_⟩) ?_ ?_
            rotate_left
            · intro w'
              go_simp
              with_reducible rfl
            rotate_left
            · simp only [Act.put, List.setIfInBounds_toArray, List.set_cons_zero, List.set_cons_succ, i64_w, i32_w]
              rfl
            refine pure_ (i := 10) (N := (some 53)) (v := ?_) (a' := ?_) #[true, true, true, true, true, true, true, true, true, true, true, false, false] rfl rfl (by kernel_rfl) (fun _ _ _ h => h) (Or.inl ⟨by rfl, ?_⟩) ?_ ?_
            rotate_left
            · intro w'
              go_simp
              with_reducible rfl
            rotate_left
            · simp only [Act.put, List.setIfInBounds_toArray, List.set_cons_zero, List.set_cons_succ, i64_w, i32_w]
              rfl
            refine pure_ (i := 11) (N := (some 54)) (v := ?_) (a' := ?_) #[true, true, true, true, true, true, true, true, true, true, true, true, false] rfl rfl (by kernel_rfl) (fun _ _ _ h => h) (Or.inl ⟨by rfl, ?_⟩) ?_ ?_
            rotate_left
            · intro w'
              go_simp
              with_reducible rfl
            rotate_left
            · simp only [Act.put, List.setIfInBounds_toArray, List.set_cons_zero, List.set_cons_succ, i64_w, i32_w]
              rfl
            refine last_ (i := 12) (N := none) #[true, true, true, true, true, true, true, true, true, true, true, true, true] rfl rfl (by kernel_rfl) (by decide) (fun K hK => ?_)
            refine skip_ (w1 := ?_) (by rfl) rfl ?_ ?_
            rotate_left
            · go_simp
              rfl
            refine hK.out _ _ ?_
            clear hK K
            refine done_ (by kernel_rfl) ?_
            have HRC := Aside0.mk (HR2.out.copied HS.out hm HQ.out)
            obtain ⟨w2, hw2⟩ : ∃ w2, w2 = ((((w1.setCell ⟨w.heap.size, 1 + m * 4, none⟩ (.int .i64 q0)).setCell ⟨w.heap.size, 1 + m * 4 + 1, none⟩ (.int .i64 q1)).setCell ⟨w.heap.size, 1 + m * 4 + 2, none⟩ (.int .i64 q2)).setCell ⟨w.heap.size, 1 + m * 4 + 3, none⟩ (.int .i64 q3)).drew := ⟨_, rfl⟩
            rw [← hw2]
            replace HRC := Aside0.mk (show RowsC s w m w2 by rw [hw2]; exact HRC.out)
            clear hw2 r0 r1 r2 r3 t0 f0 t1 f1 t2 f2 t3 f3 HQ
            obtain ⟨v, t0, f0⟩ := HRC.out.there (j := m * 4 + c) (by omega)
            rw [← Nat.add_assoc] at t0 f0
            go_wp2
            go_roundw
            case rel => exact ⟨(m : Int) - 1, rfl, by omega, by omega, ⟨by rw [show ((m : Int) - 1 + 1).toNat = m by omega]; exact HRC.out.put HS.out hm (by omega) HC.out⟩⟩
            case measure => simp [intOf]
          · have HF := Aside0.mk (show isW (bl s) = false by
              rw [Bool.eq_false_iff]; intro he
              refine hg ?_
              unfold isW at he
              rw [Bool.and_eq_true, List.all_eq_true] at he
              exact he.2 _ (List.getElem_mem _))
            obtain ⟨b, hb⟩ : ∃ b : Nat, (s[m]'hm).toNat = b := ⟨_, rfl⟩
            have hx : ∀ h : m < s.size, ((s[m]'h).toNat : Int) = (b : Int) := fun _ => by rw [hb]
            have hb256 : (b : Int) < 256 := by have := (s[m]'hm).toNat_lt; omega
            have HB := Aside0.mk (show ¬ ((0 : Int) ≤ (b : Int) - 97 ∧ (b : Int) - 97 ≤ 3) by
              intro h
              refine hg ?_
              rw [bl_get s m hm, hb]; simp [ltrB]; omega)
            clear hg hb
            go_wp2_with (go_at_call 49; (with_reducible refine (within_n _ _ _ _ HB.out).mono ?_); rintro e w1 ⟨rfl, HD⟩; have HD' := Aside0.mk HD; clear HD)
            go_ret2
            unfold NWPost
            rw [HF.out]
            obtain ⟨f, h1, h2, h3, h4⟩ := HR.out
            exact ⟨rfl, below_step h3 HD'.out.below⟩
        · obtain rfl : i = -1 := by omega
          clear hp hi1 hi2
          go_wp2
          go_ret2
          obtain ⟨f, h1, h2, h3, h4⟩ := HR.out
          have HT : isW (bl s) = true := by
            rw [isW_iff, bl_length]
            refine ⟨HS.out, fun b hb => ?_⟩
            obtain ⟨j, hj, rfl⟩ := List.getElem_of_mem hb
            have := h4 j (by omega) hj
            simpa [ltrB] using this
          unfold NWPost
          rw [if_pos HT]
          exact ⟨rfl, ⟨⟨f, h1, fun j c hj hc => h2 j c (by omega) hj hc⟩⟩, h3⟩
theorem newWord_post (s : ByteArray) (w : World) : Calls Try.prog 48 #[.string s] w (NWPost s w) := by
  by_cases h : s.size ≤ 60
  · exact newWord_any s w h
  · exact newWord_big s w (by omega)
theorem newWord_yes (s : ByteArray) (w : World) (h : isW (bl s) = true) : Calls Try.prog 48 #[.string s] w fun e w' => e = .returned (.tuple #[.pointer (some ⟨w.heap.size, 0, none⟩), .bool true]) ∧ WordAt w' w.heap.size s ∧ Below w.heap.size w w' :=
  (newWord_post s w).mono fun e w' hp => by unfold NWPost at hp; rw [if_pos h] at hp; exact hp
theorem newWord_no (s : ByteArray) (w : World) (h : isW (bl s) = false) : Calls Try.prog 48 #[.string s] w fun e w' => e = .returned (.tuple #[.pointer none, .bool false]) ∧ Below w.heap.size w w' :=
  (newWord_post s w).mono fun e w' hp => by unfold NWPost at hp; rw [if_neg (by rw [h]; decide)] at hp; exact hp
theorem newWord_b (s : ByteArray) (r : Bool) (w : World) (h : isW (bl s) = r) : Calls Try.prog 48 #[.string s] w fun e w' => ∃ p, e = .returned (.tuple #[.pointer p, .bool r]) ∧ Below w.heap.size w w' := by
  cases r with
  | true => exact (newWord_yes s w h).mono fun e w' ⟨h1, _, h2⟩ => ⟨_, h1, h2⟩
  | false => exact (newWord_no s w h).mono fun e w' ⟨h1, h2⟩ => ⟨_, h1, h2⟩
end Go.Proofs.Ytagdbadljcongaa.X
end
