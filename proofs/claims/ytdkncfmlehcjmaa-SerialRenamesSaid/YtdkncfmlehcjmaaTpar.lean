/- Texts behind SerialRenames, part 18: contracts of the program's functions and the plain words for them. -/
import Derived.ChangeKeysEq
import Derived.Test.YtdkncfmlehcjmaaProg
import Derived.Below
import Derived.Deep.Draws
import Derived.Deep.AppendLies
import Derived.Maps.AppendAt
import Derived.OwnWalk
import Derived.Laws.BytesArg
import Derived.Laws.MakeOwn
import Derived.Laws.OwnMore
import Derived.Deep.OwnRows
import Derived.Tactics
import Derived.Lib.ConvBytes
import Derived.Laws.Slices
import Derived.WalkKit
import Derived.KernelRfl
import Derived.RowKit3
import Derived.Deep.LoopGhost
import Derived.Deep.QuietTactic
import Derived.BigQuiet
import Derived.WideLaws
import Derived.Deep.DeepCutAuto
import Derived.Deep.CutBlock
import Derived.Deep.RegionHeld3
import Derived.Laws.Rows
import Derived.Lib.AppendStr
import Derived.ArgAppend
import Derived.Laws.IdiomCopy
import Derived.OrdersHeld
import Derived.Laws.BitsLemmas
import Derived.RowKit
import Derived.Maps.OwnSet
import Derived.DeepKeys4
import Derived.Test.YtdkncfmlehcjmaaTpaa
import Derived.Test.YtdkncfmlehcjmaaTpab
import Derived.Test.YtdkncfmlehcjmaaTpac
import Derived.Test.YtdkncfmlehcjmaaTpae
import Derived.Test.YtdkncfmlehcjmaaTpag
import Derived.Test.YtdkncfmlehcjmaaTpah
import Derived.Test.YtdkncfmlehcjmaaTpai
import Derived.Test.YtdkncfmlehcjmaaTpaj
import Derived.Test.YtdkncfmlehcjmaaTpal
import Derived.Test.YtdkncfmlehcjmaaTpam
import Derived.Test.YtdkncfmlehcjmaaTpao
import Derived.Test.YtdkncfmlehcjmaaTpap
import Derived.Test.YtdkncfmlehcjmaaTpaq
section
/- Small laws of this session: '==' of a [2]int and of a [3]int, as one Bool. -/
set_option linter.unusedVariables false
set_option linter.unusedSimpArgs false
namespace Go.Proofs.Ytdkncfmlehcjmaa.X
open Go.RowKit
section
variable {P : Program} {T E : TypeId}
theorem part_int (hE : P.underlying E = some (.int .i64)) (cs : Array Value) (j : Nat) (v : Value) (W : World) (h : cs[j]? = some v) : (part E cs j).run P W = .ok v W := by
  simp [part, isAgg, run_underlying hE, h]
theorem eq_int (hE : P.underlying E = some (.int .i64)) (d : Nat) (x y : Int) (W : World) : (Op.equalIn (d + 1) E (.int .i64 x) (.int .i64 y)).run P W = .ok (x == y) W := by
  simp [Op.equalIn, run_underlying hE]
theorem eqArr_3 (hT : P.underlying T = some (.array 3 E)) (hE : P.underlying E = some (.int .i64)) (hs : (P.info? E).map (·.size) = some 1) (d : Nat) (w : World) (x0 y0 x1 y1 x2 y2 : Int) :
    (Op.equalIn (d + 2) T (.agg #[.int .i64 x0, .int .i64 x1, .int .i64 x2]) (.agg #[.int .i64 y0, .int .i64 y1, .int .i64 y2])).run P w = .ok (x0 == y0 && (x1 == y1 && (x2 == y2))) w := by
  obtain ⟨i, hi, hz⟩ := Option.map_eq_some_iff.1 hs
  have hc : P.cellsOf E = 1 := by simp [Program.cellsOf, hi, hz]
  rw [run_equalIn_array w (d + 1) _ _ hT hi, hc]
  have hr : List.range 3 = [0, 1, 2] := rfl
  simp only [hr, Op.eqItems, Sem.run_bind, Nat.zero_mul, Nat.mul_one]
  rw [part_int hE _ 0 (.int .i64 x0) w rfl]
  simp only [Result.andThen_ok]
  rw [part_int hE _ 0 (.int .i64 y0) w rfl]
  simp only [Result.andThen_ok, eq_int hE]
  have a1 := part_int hE #[.int .i64 x0, .int .i64 x1, .int .i64 x2] 1 (.int .i64 x1) w rfl
  have b1 := part_int hE #[.int .i64 y0, .int .i64 y1, .int .i64 y2] 1 (.int .i64 y1) w rfl
  have a2 := part_int hE #[.int .i64 x0, .int .i64 x1, .int .i64 x2] 2 (.int .i64 x2) w rfl
  have b2 := part_int hE #[.int .i64 y0, .int .i64 y1, .int .i64 y2] 2 (.int .i64 y2) w rfl
  by_cases h0 : x0 = y0 <;> by_cases h1 : x1 = y1 <;> by_cases h2 : x2 = y2 <;> simp [h0, h1, h2, a1, b1, a2, b2, eq_int hE] <;> simp_all [eq_int hE]
end
end Go.Proofs.Ytdkncfmlehcjmaa.X
end

section
namespace Go.Proofs.Ytdkncfmlehcjmaa.X
open Go.RowKit Go.Proofs.YtdkncfmlehcjmaaW.PrintWords Go.Proofs.YtdkncfmlehcjmaaW.PrintLast Go.Proofs.YtdkncfmlehcjmaaW.PrintMore
attribute [local go_sem] max2_int min2_int max_two min_two max_three min_three max_four min_four   -- for this text's walks alone
set_option linter.unusedVariables false
set_option linter.unusedSimpArgs false



def errW : Option Int → Value
 | none => .nilIface
 | some c => .iface 0 (.int .i64 c)
theorem errW_none : errW none = .nilIface := rfl
theorem errW_some (c : Int) : errW (some c) = .iface 0 (.int .i64 c) := rfl

theorem info3 : (Try.prog.info? 3).map (fun i => (i.zero, i.size, i.bytes)) = some (some (.int .i64 0), 1, 8) := by kernel_rfl
theorem info23 : (Try.prog.info? 23).map (fun i => (i.zero, i.size, i.bytes)) = some (some (.slice none 0 0), 1, 24) := by kernel_rfl
def rd_L1 (xs : List (List Int)) (i : Int) : (List Int) := xs.getD i.toNat ([] : List Int)
theorem at_L1 {w : World} {A : Option Addr} {n : Nat} {xs : List (List Int)} (h : Kd.C (Kd.slice 3 (Kd.int .i64)) w A n xs) (i : Int) (h0 : 0 ≤ i) (h1 : i < n) : ∃ ad A0 c0, A = some ad ∧ w.cell? (ad.add i.toNat) = some (.slice A0 (rd_L1 xs i).length c0) ∧ (rd_L1 xs i).length ≤ c0 ∧ (Kd.int .i64).C w A0 (rd_L1 xs i).length (rd_L1 xs i) := by
 obtain ⟨ad, c, e, _, hK, hc0⟩ := Kd.C_get h ([] : List Int) i h0 h1
 have hc : ∀ j u, c[j]? = some u → w.cell? (ad.add (i.toNat * 1 + j)) = some u := hc0
 obtain ⟨A0, c0, rfl, l0, g0⟩ := hK
 exact ⟨ad, A0, c0, e, by have hq := hc 0 _ rfl; rwa [Nat.mul_one, Nat.add_zero] at hq, l0, g0⟩

end Go.Proofs.Ytdkncfmlehcjmaa.X
end

section
namespace Go.Proofs.Ytdkncfmlehcjmaa.X
open Go.RowKit Go.Proofs.YtdkncfmlehcjmaaW.PrintWords Go.Proofs.YtdkncfmlehcjmaaW.PrintLast Go.Proofs.YtdkncfmlehcjmaaW.PrintMore
attribute [local go_sem] max2_int min2_int max_two min_two max_three min_three max_four min_four   -- for this text's walks alone
set_option linter.unusedVariables false
set_option linter.unusedSimpArgs false

def tickinglaw11_mod.f (a0 : Int) (a1 : Int) : Option (Int) := if (IntKind.u64.wrap (a1)) = 0 then (none) else (some (wrap64 (Int.tmod (IntKind.u64.wrap (a0)) (IntKind.u64.wrap (a1)))))
set_option maxHeartbeats 8000000 in
set_option maxRecDepth 100000 in
theorem tickinglaw11_mod.calls (a0 : Int) (a1 : Int) (r : Int) (w : World) (h : tickinglaw11_mod.f a0 a1 = some r) :
  Calls Try.prog 19 #[.int .i64 a0, .int .i64 a1] w fun e w' => e = .returned (.int .i64 r) ∧ Drawn0 w w' := by
 have H : (if (IntKind.u64.wrap (a1)) = 0 then (none) else (some (wrap64 (Int.tmod (IntKind.u64.wrap (a0)) (IntKind.u64.wrap (a1)))))) = some r := h
 clear h
 by_cases c3 : (IntKind.u64.wrap (a1)) = 0
 ·rw [if_pos c3] at H
  exact absurd H (by simp)
 ·rw [if_neg c3] at H
  have c3b0 : ((IntKind.u64.wrap (a1)) == 0) = false := beq_eq_false_iff_ne.mpr c3
  have c3b1 : ((IntKind.u64.wrap (a1)) != 0) = true := bne_iff_ne.mpr c3
  obtain rfl := Option.some.inj H
  go_enter Try.func19, Try.ntmps19
  go_wp2
  go_ret
  exact ⟨by first | rfl | (simp; done) | (simp [*]; done), by repeat (first | exact Drawn0.refl _ | apply Drawn0.step)⟩

end Go.Proofs.Ytdkncfmlehcjmaa.X
end

section
/- serial.isNumber, by hand: are digits at most so many, and each from 0 to n - 1; with slices.ContainsFunc and slices.IndexFunc at its closure. -/
set_option linter.unusedVariables false
set_option linter.unusedSimpArgs false
namespace Go.Proofs.Ytdkncfmlehcjmaa.X
open Go.RowKit Go.Proofs.YtdkncfmlehcjmaaW.PrintWords Go.Proofs.YtdkncfmlehcjmaaW.PrintLast Go.Proofs.YtdkncfmlehcjmaaW.PrintMore

def digOk (n d : Int) : Bool := decide (0 ≤ d) && decide (d ≤ wrap64 (n - 1))
def isNum (l : List Int) (n most : Int) : Bool := decide ((l.length : Int) ≤ most) && l.all (digOk n)
def serial_isNumber.f (l0 : List Int) (a1 a2 : Int) : Option Bool := some (isNum l0 a1 a2)

theorem within_n (n lo hi : Int) (w : World) : Calls Try.prog 56 #[.int .i64 n, .int .i64 lo, .int .i64 hi] w fun e w' => e = .returned (.bool (decide (lo ≤ n) && decide (n ≤ hi))) ∧ w = w' := by
  by_cases h1 : lo ≤ n
  · have c1 : decide (lo ≤ n) = true := decide_eq_true h1
    have HG := Aside0.mk (show (decide (lo ≤ n) && decide (n ≤ hi)) = decide (n ≤ hi) by rw [c1]; rfl)
    clear h1
    go_enter Try.func56, Try.ntmps56
    go_wp2
    go_ret
    exact ⟨by rw [HG.out]; rfl, rfl⟩
  · have c1 : decide (lo ≤ n) = false := decide_eq_false h1
    have HG := Aside0.mk (show (decide (lo ≤ n) && decide (n ≤ hi)) = false by rw [c1]; rfl)
    clear h1
    go_enter Try.func56, Try.ntmps56
    go_wp2
    go_ret
    exact ⟨by rw [HG.out]; rfl, rfl⟩

theorem bad_any (n d : Int) (B : Nat) (w : World) (hc : w.cell? ⟨B, 0, none⟩ = some (.int .i64 n)) : Calls Try.prog 73 #[.int .i64 d, .pointer (some ⟨B, 0, none⟩)] w fun e w' => e = .returned (.bool (!digOk n d)) ∧ w = w' := by
  go_enter Try.func73, Try.ntmps73
  go_wp2_with (go_at_call 56; refine (within_n _ _ _ _).mono ?_; rintro e w' ⟨rfl, rfl⟩)
  go_ret
  exact ⟨congrArg (fun b => Ending.returned (.bool b)) (by unfold digOk; rw [Bool.not_and]), rfl⟩

/-- Where the first bad digit stands. -/
def SomeIdx (l : List Int) (n : Int) (w : World) (e : Ending) (w' : World) : Prop := ∃ v : Int, e = .returned (.int .i64 v) ∧ w = w' ∧ (0 ≤ v ↔ l.all (digOk n) = false)
set_option maxHeartbeats 2000000 in
set_option maxRecDepth 100000 in
theorem idx_any (A : Option Addr) (c : Nat) (l : List Int) (n : Int) (B : Nat) (w : World) (hr : Kd.C (Kd.int .i64) w A l.length l) (hc : w.cell? ⟨B, 0, none⟩ = some (.int .i64 n)) :
    Calls Try.prog 84 #[.slice A l.length c, .func (.func 73) #[] #[.pointer (some ⟨B, 0, none⟩)]] w (SomeIdx l n w) := by
  have HR := Aside0.mk hr
  have HC := Aside0.mk hc
  have hm := Kd.C_max hr
  clear hr hc
  go_enter Try.func84, Try.ntmps84
  go_wp2
  go_loopg [8] l.length (fun kq v8 w' => ∃ k : Nat, v8 = .int .i64 k ∧ w = w' ∧ Aside0 (kq + k = l.length) ∧ Aside0 (∀ j, j < k → digOk n (rd l j) = true))
  case atStart => exact ⟨0, rfl, rfl, ⟨by omega⟩, ⟨by intro j hj; omega⟩⟩
  case round =>
    obtain ⟨k, rfl, rfl, HK, HOK⟩ := hrel
    by_cases hk : k < l.length
    · obtain ⟨ad, e1, hx⟩ := Kd.at_int HR.out (k : Int) (by omega) (by omega)
      cases e1
      simp only [Int.toNat_natCast] at hx
      obtain ⟨x, hx'⟩ : ∃ x, rd l (k : Int) = x := ⟨_, rfl⟩
      rw [hx'] at hx
      have HX := Aside0.mk hx'
      clear hx'
      by_cases hb : digOk n x = true
      · go_wp2_with (go_at_call 73; refine (bad_any n _ B _ HC.out).mono ?_; rintro e w' ⟨rfl, rfl⟩)
        go_roundg (gk - 1)
        case measure => have := HK.out; omega
        case rel => exact ⟨k + 1, by go_num, rfl, ⟨by have := HK.out; omega⟩, ⟨by intro j hj; by_cases e : j = k; (subst e; rw [HX.out]; exact hb); exact HOK.out j (by omega)⟩⟩
      · have hb' : digOk n x = false := by simpa using hb
        have HBAD := Aside0.mk (show l.all (digOk n) = false by
          rw [List.all_eq_false]
          refine ⟨x, ?_, hb⟩
          rw [← HX.out]; simp only [rd, Int.toNat_natCast, List.getD_eq_getElem?_getD, List.getElem?_eq_getElem hk, Option.getD_some]; exact List.getElem_mem hk)
        clear hb
        go_wp2_with (go_at_call 73; refine (bad_any n _ B _ HC.out).mono ?_; rintro e w' ⟨rfl, rfl⟩)
        go_ret
        exact ⟨k, rfl, rfl, by simp [HBAD.out]⟩
    · have hk' : k = l.length := by have := HK.out; omega
      have HALL := Aside0.mk (show l.all (digOk n) = true by
        rw [List.all_eq_true]
        intro x hx
        obtain ⟨i, hi, rfl⟩ := List.getElem_of_mem hx
        have := HOK.out i (by omega)
        simpa [rd, List.getD_eq_getElem?_getD, List.getElem?_eq_getElem hi] using this)
      obtain rfl := hk'
      go_wp2
      go_ret
      exact ⟨-1, rfl, rfl, by simp [HALL.out]⟩

theorem contains_any (A : Option Addr) (c : Nat) (l : List Int) (n : Int) (B : Nat) (w : World) (hr : Kd.C (Kd.int .i64) w A l.length l) (hc : w.cell? ⟨B, 0, none⟩ = some (.int .i64 n)) :
    Calls Try.prog 72 #[.slice A l.length c, .func (.func 73) #[] #[.pointer (some ⟨B, 0, none⟩)]] w fun e w' => e = .returned (.bool (!l.all (digOk n))) ∧ w = w' := by
  have HR := Aside0.mk hr
  have HC := Aside0.mk hc
  clear hr hc
  obtain ⟨b, hb⟩ : ∃ b, l.all (digOk n) = b := ⟨_, rfl⟩
  rw [hb]
  have HBB := Aside0.mk hb
  clear hb
  go_enter Try.func72, Try.ntmps72
  go_wp2_with fail
  refine (idx_any A c l n B _ HR.out HC.out).mono ?_
  rintro e w' ⟨v, rfl, rfl, hv⟩
  rw [HBB.out] at hv
  cases b with
  | true =>
    have h0 : decide (0 ≤ v) = false := decide_eq_false (fun h => by simpa using hv.1 h)
    clear hv
    go_wp2
    go_ret
    exact ⟨rfl, rfl⟩
  | false =>
    have h0 : decide (0 ≤ v) = true := decide_eq_true (hv.2 rfl)
    clear hv
    go_wp2
    go_ret
    exact ⟨rfl, rfl⟩

set_option maxHeartbeats 1000000 in
set_option maxRecDepth 100000 in
theorem serial_isNumber.calls (A0 : Option Addr) (c0 : Nat) (l0 : List Int) (a1 a2 : Int) (r : Bool) (w : World) (hr0 : Kd.C (Kd.int .i64) w A0 l0.length l0) (hc0 : l0.length ≤ c0) (h : serial_isNumber.f l0 a1 a2 = some r) :
    Calls Try.prog 54 #[.slice A0 l0.length c0, .int .i64 a1, .int .i64 a2] w fun e w' => e = .returned (.bool r) ∧ Below w.heap.size w w' := by
  obtain rfl := Option.some.inj h
  have HR := Aside0.mk (Kd.C_alloc hr0 (.cells #[.int .i64 a1] 3))
  have HBL : Aside0 (Below w.heap.size w (w.alloc (.cells #[.int .i64 a1] 3))) := ⟨(Below.refl _ _).alloc (Nat.le_refl _) _⟩
  clear hr0 hc0
  by_cases hm : (l0.length : Int) ≤ a2
  · have c1 : decide ((l0.length : Int) ≤ a2) = true := decide_eq_true hm
    have HE := Aside0.mk (show isNum l0 a1 a2 = l0.all (digOk a1) by unfold isNum; rw [c1]; rfl)
    rw [HE.out]
    clear hm h
    go_enter Try.func54, Try.ntmps54
    go_wp2_with fail
    refine (contains_any A0 c0 l0 a1 w.heap.size _ HR.out (by simp)).mono ?_
    rintro e w' ⟨rfl, rfl⟩
    go_wp2
    go_ret
    exact ⟨congrArg (fun b => Ending.returned (.bool b)) (by simp), HBL.out⟩
  · have c1 : decide ((l0.length : Int) ≤ a2) = false := decide_eq_false hm
    have HE := Aside0.mk (show isNum l0 a1 a2 = false by unfold isNum; rw [c1]; rfl)
    clear hm h
    go_enter Try.func54, Try.ntmps54
    go_wp2
    go_ret
    exact ⟨by rw [HE.out]; rfl, HBL.out⟩
end Go.Proofs.Ytdkncfmlehcjmaa.X
end

section
/- serial.isTable, by hand: whatever the lists, the call tells whether they are a table ('isTab'), and nothing that was there has turned. -/
set_option linter.unusedVariables false
set_option linter.unusedSimpArgs false
namespace Go.Proofs.Ytdkncfmlehcjmaa.X
open Go.RowKit Go.Proofs.YtdkncfmlehcjmaaW.PrintWords Go.Proofs.YtdkncfmlehcjmaaW.PrintLast Go.Proofs.YtdkncfmlehcjmaaW.PrintMore
open Go.Maps (Keyed)

/-- The number at position b of list a. -/
def rd2 (t : List (List Int)) (a b : Nat) : Int := rd (rd_L1 t a) b
/-- What has gone into the set of rows, when a lists and b numbers of the next one are done. -/
def seenR (t : List (List Int)) (a b : Nat) : List (Int × Int) :=
  ((List.range a).flatMap fun (i : Nat) => (List.range t.length).map fun (j : Nat) => (Int.ofNat i, rd2 t i j)) ++ (List.range b).map fun (j : Nat) => (Int.ofNat a, rd2 t a j)
def seenC (t : List (List Int)) (a b : Nat) : List (Int × Int) :=
  ((List.range a).flatMap fun (i : Nat) => (List.range t.length).map fun (j : Nat) => (Int.ofNat j, rd2 t i j)) ++ (List.range b).map fun (j : Nat) => (Int.ofNat j, rd2 t a j)
/-- A list of its row is as long as the table, its numbers from 0 to n - 1. -/
def rowOk (t : List (List Int)) (a : Nat) : Prop := (rd_L1 t a).length = t.length ∧ ∀ b, b < t.length → 0 ≤ rd2 t a b ∧ rd2 t a b ≤ (t.length : Int) - 1
instance (t : List (List Int)) (a : Nat) : Decidable (rowOk t a) := by unfold rowOk; infer_instance
def TabOk (t : List (List Int)) : Prop := 2 ≤ t.length ∧ t.length ≤ 12 ∧ (∀ a, a < t.length → rowOk t a) ∧ (seenR t t.length 0).Nodup ∧ (seenC t t.length 0).Nodup
instance (t : List (List Int)) : Decidable (TabOk t) := by unfold TabOk; infer_instance
def isTab (t : List (List Int)) : Bool := decide (TabOk t)
def serial_isTable.f (l0 : List (List Int)) : Option Bool := some (isTab l0)

theorem seenR_b (t : List (List Int)) (a b : Nat) : seenR t a (b + 1) = seenR t a b ++ [(Int.ofNat a, rd2 t a b)] := by
  simp [seenR, List.range_succ]
theorem seenR_a (t : List (List Int)) (a : Nat) : seenR t (a + 1) 0 = seenR t a t.length := by
  simp [seenR, List.range_succ (n := a)]
theorem seenC_b (t : List (List Int)) (a b : Nat) : seenC t a (b + 1) = seenC t a b ++ [(Int.ofNat b, rd2 t a b)] := by
  simp [seenC, List.range_succ]
theorem seenC_a (t : List (List Int)) (a : Nat) : seenC t (a + 1) 0 = seenC t a t.length := by
  simp [seenC, List.range_succ (n := a)]
theorem seenR_len (t : List (List Int)) (a b : Nat) : (seenR t a b).length = a * t.length + b := by
  induction a with
  | zero => simp [seenR]
  | succ a ih =>
    have : seenR t (a + 1) b = (seenR t a t.length) ++ (List.range b).map fun (j : Nat) => (Int.ofNat (a + 1), rd2 t (a + 1) j) := by
      rw [← seenR_a]; simp [seenR]
    have h2 : (seenR t a t.length).length = a * t.length + t.length := by
      simp only [seenR, List.length_append, List.length_map, List.length_range] at ih ⊢; omega
    rw [this, List.length_append, h2, Nat.add_mul]; simp
theorem seenC_len (t : List (List Int)) (a b : Nat) : (seenC t a b).length = a * t.length + b := by
  induction a with
  | zero => simp [seenC]
  | succ a ih =>
    have : seenC t (a + 1) b = (seenC t a t.length) ++ (List.range b).map fun (j : Nat) => (Int.ofNat j, rd2 t (a + 1) j) := by
      rw [← seenC_a]; simp [seenC]
    have h2 : (seenC t a t.length).length = a * t.length + t.length := by
      simp only [seenC, List.length_append, List.length_map, List.length_range] at ih ⊢; omega
    rw [this, List.length_append, h2, Nat.add_mul]; simp

theorem laidOut : laidOutB Try.prog = true := by kernel_rfl
set_option maxRecDepth 100000 in
theorem row55 : (55 : TypeId) < Try.prog.types.size := of_decide_eq_true (by kernel_rfl)
theorem wide55 : (match Try.prog.underlying 55 with | some (.array _ _) | some (.struct _) => true | _ => false) = true := by rw [Try.underlying55]
set_option maxRecDepth 100000 in
theorem law55 : Keyed Try.prog 55 := Keyed.of_law (deep_law_laid laidOut (m := 2) (by omega) row55 (by kernel_rfl) wide55)
theorem cells55 : Try.prog.cellsOf 55 = 2 := by kernel_rfl
theorem cells3 : Try.prog.cellsOf 3 = 1 := by kernel_rfl
theorem key55 : Try.prog.keyType 55 = true := by kernel_rfl
/-- What the pair (a, c) reads as. -/
def pk (p : Int × Int) : Lit := .string (keyBytes [.int .i64 p.1, .int .i64 p.2])
theorem keyOf_pair {a c : Int} (ha : (Lit.int .i64 a).wf = true) (hc : (Lit.int .i64 c).wf = true) : keyOf Try.prog 55 (.agg #[.int .i64 a, .int .i64 c]) = some (pk (a, c)) := by
  have hf : (Value.agg #[.int .i64 a, .int .i64 c]).formed Try.prog 55 = true := by simp [Value.formed, Try.underlying55, cells55]
  have hk1 : ∀ d x, (Lit.int .i64 x).wf = true → Try.prog.keyLits (d + 1) 3 [.int .i64 x] = some [.int .i64 x] := by
    intro d x hx; simp [Program.keyLits, Try.underlying3, hx]
  have hk : ∀ d, Try.prog.keyLits (d + 2) 55 [.int .i64 a, .int .i64 c] = some [.int .i64 a, .int .i64 c] := by
    intro d
    have e0 := hk1 d a ha
    have e1 := hk1 d c hc
    have hr : List.range 2 = [0, 1] := rfl
    unfold Program.keyLits
    rw [Try.underlying55]
    simp [cells55, cells3, hr, e0, e1]
  obtain ⟨m, hm⟩ : ∃ m, Try.prog.types.size + 1 = m + 2 := ⟨Try.prog.types.size - 1, by have h55 : 55 < Try.prog.types.size := row55; omega⟩
  simp only [keyOf, Try.underlying55, key55, hf, Bool.and_self, if_true, hm, Value.cells, hk, Option.map_some, pk]
theorem pk_key (p : Int × Int) : WideAt.IsKeyLit (pk p) := trivial
theorem pk_inj {p q : Int × Int} (hp : (Lit.int .i64 p.1).wf = true ∧ (Lit.int .i64 p.2).wf = true) (hq : (Lit.int .i64 q.1).wf = true ∧ (Lit.int .i64 q.2).wf = true) (h : pk p = pk q) : p = q := by
  have h1 := keyOf_pair hp.1 hp.2
  have h2 := keyOf_pair hq.1 hq.2
  have h3 := law55.inj h1 (by rw [h]; exact h2)
  simp at h3
  exact Prod.ext h3.1 h3.2
theorem sameKey_pk {p q : Int × Int} (hp : (Lit.int .i64 p.1).wf = true ∧ (Lit.int .i64 p.2).wf = true) (hq : (Lit.int .i64 q.1).wf = true ∧ (Lit.int .i64 q.2).wf = true) : (pk p).sameKey (pk q) = decide (p = q) := by
  by_cases h : p = q
  · subst h; simp [pk, Lit.sameKey]
  · have hne : pk p ≠ pk q := fun e => h (pk_inj hp hq e)
    rw [Maps.sameKey_ne hne]; simp [h]
def WfP (p : Int × Int) : Prop := (Lit.int .i64 p.1).wf = true ∧ (Lit.int .i64 p.2).wf = true
theorem any_pk {p : Int × Int} (hp : WfP p) : ∀ (xs : List (Int × Int)), (∀ q ∈ xs, WfP q) → (xs.map pk).any (fun y => y.sameKey (pk p)) = decide (p ∈ xs)
  | [], _ => by simp
  | q :: xs, h => by
    have hq := h q (by simp)
    rw [List.map_cons, List.any_cons, any_pk hp xs (fun r hr => h r (by simp [hr])), sameKey_pk hq hp]
    by_cases e : q = p
    · subst e; simp
    · have : ¬ p = q := fun h => e h.symm
      simp [e, this]
/-- How many different ones there are: as many as there are pairs, just if none comes twice. -/
theorem addKey_len (xs : List (Int × Int)) (h : ∀ q ∈ xs, WfP q) : (((xs.map pk).foldl Maps.addKey []).length = xs.length) ↔ xs.Nodup := by
  have gen : ∀ (ys zs : List (Int × Int)), (∀ q ∈ ys, WfP q) → (∀ q ∈ zs, WfP q) → zs.Nodup →
      ((ys.map pk).foldl Maps.addKey (zs.map pk)).length ≤ zs.length + ys.length ∧ (((ys.map pk).foldl Maps.addKey (zs.map pk)).length = zs.length + ys.length ↔ (zs ++ ys).Nodup) := by
    intro ys
    induction ys with
    | nil => intro zs _ _ hz; simp [hz]
    | cons p ys ih =>
      intro zs hys hzs hz
      have hp := hys p (by simp)
      have hys' : ∀ q ∈ ys, WfP q := fun q hq => hys q (by simp [hq])
      simp only [List.map_cons, List.foldl_cons]
      have hadd : Maps.addKey (zs.map pk) (pk p) = if p ∈ zs then zs.map pk else (zs ++ [p]).map pk := by
        unfold Maps.addKey
        rw [any_pk hp zs hzs]
        by_cases hm : p ∈ zs <;> simp [hm]
      rw [hadd]
      by_cases hm : p ∈ zs
      · rw [if_pos hm]
        obtain ⟨i1, i2⟩ := ih zs hys' hzs hz
        refine ⟨by simp; omega, ?_⟩
        constructor
        · intro e; simp at e; omega
        · intro e
          rw [List.nodup_append] at e
          exact absurd rfl (e.2.2 p hm p (by simp))
      · rw [if_neg hm]
        have hz' : (zs ++ [p]).Nodup := by
          rw [List.nodup_append]; exact ⟨hz, by simp, by intro a ha b hb; simp at hb; subst hb; intro e; subst e; exact hm ha⟩
        obtain ⟨i1, i2⟩ := ih (zs ++ [p]) hys' (by intro q hq; simp at hq; rcases hq with hq | rfl; exact hzs q hq; exact hp) hz'
        simp only [List.length_append, List.length_cons, List.length_nil, Nat.zero_add, List.append_assoc, List.cons_append, List.nil_append] at i1 i2 ⊢
        refine ⟨by omega, ?_⟩
        rw [← i2]; constructor <;> intro e <;> omega
  have := (gen xs [] h (by simp) (by simp)).2
  simpa using this


theorem within_t (n lo hi : Int) (w : World) (h1 : lo ≤ n) (h2 : n ≤ hi) : Calls Try.prog 56 #[.int .i64 n, .int .i64 lo, .int .i64 hi] w fun e w' => e = .returned (.bool true) ∧ w = w' := by
  have c1 : decide (lo ≤ n) = true := decide_eq_true h1
  have c2 : decide (n ≤ hi) = true := decide_eq_true h2
  clear h1 h2
  go_enter Try.func56, Try.ntmps56
  go_wp2
  go_ret
  exact ⟨rfl, rfl⟩
theorem within_f (n lo hi : Int) (w : World) (h : ¬ (lo ≤ n ∧ n ≤ hi)) : Calls Try.prog 56 #[.int .i64 n, .int .i64 lo, .int .i64 hi] w fun e w' => e = .returned (.bool false) ∧ w = w' := by
  by_cases h1 : lo ≤ n
  · have c1 : decide (lo ≤ n) = true := decide_eq_true h1
    have c2 : decide (n ≤ hi) = false := decide_eq_false (fun h2 => h ⟨h1, h2⟩)
    clear h1 h
    go_enter Try.func56, Try.ntmps56
    go_wp2
    go_ret
    exact ⟨rfl, rfl⟩
  · have c1 : decide (lo ≤ n) = false := decide_eq_false h1
    clear h1 h
    go_enter Try.func56, Try.ntmps56
    go_wp2
    go_ret
    exact ⟨rfl, rfl⟩

/-- What holds of the two sets when so many lists and numbers are done. -/
structure Sets (t : List (List Int)) (w : World) (wr : World) (a b : Nat) : Prop where mk ::
  rows : wr.ownsMap Try.prog 55 (plainElem (H := Unit) Try.prog 4) w.heap.size (a * t.length + b) (Maps.setOf (.lit (.bool true)) ((seenR t a b).map pk))
  cols : wr.ownsMap Try.prog 55 (plainElem (H := Unit) Try.prog 4) (w.heap.size + 1) (a * t.length + b) (Maps.setOf (.lit (.bool true)) ((seenC t a b).map pk))
  below : Below w.heap.size w wr
  two : w.heap.size + 2 ≤ wr.heap.size

theorem wfP_R (t : List (List Int)) (n a b : Nat) (hn : t.length ≤ 12) (ha : a ≤ t.length) (hok : ∀ i, i < a → rowOk t i) (hb : ∀ j, j < b → 0 ≤ rd2 t a j ∧ rd2 t a j ≤ (t.length : Int) - 1) : ∀ q ∈ seenR t a b, WfP q := by
  intro q hq
  simp only [seenR, List.mem_append, List.mem_flatMap, List.mem_map, List.mem_range] at hq
  rcases hq with ⟨i, hi, j, hj, rfl⟩ | ⟨j, hj, rfl⟩
  · have := (hok i hi).2 j hj
    exact ⟨WalkArith.wf_i64 (by simp; omega), WalkArith.wf_i64 (by simp; omega)⟩
  · have := hb j hj
    exact ⟨WalkArith.wf_i64 (by simp; omega), WalkArith.wf_i64 (by simp; omega)⟩
theorem wfP_C (t : List (List Int)) (n a b : Nat) (hn : t.length ≤ 12) (ha : a ≤ t.length) (hbn : b ≤ t.length) (hok : ∀ i, i < a → rowOk t i) (hb : ∀ j, j < b → 0 ≤ rd2 t a j ∧ rd2 t a j ≤ (t.length : Int) - 1) : ∀ q ∈ seenC t a b, WfP q := by
  intro q hq
  simp only [seenC, List.mem_append, List.mem_flatMap, List.mem_map, List.mem_range] at hq
  rcases hq with ⟨i, hi, j, hj, rfl⟩ | ⟨j, hj, rfl⟩
  · have := (hok i hi).2 j hj
    exact ⟨WalkArith.wf_i64 (by simp; omega), WalkArith.wf_i64 (by simp; omega)⟩
  · have := hb j hj
    exact ⟨WalkArith.wf_i64 (by simp; omega), WalkArith.wf_i64 (by simp; omega)⟩
theorem sets_size (xs : List (Int × Int)) : Maps.size (Maps.setOf (H := Unit) (.lit (.bool true)) (xs.map pk)) = ((xs.map pk).foldl Maps.addKey []).length :=
  Maps.size_setOf _ _ (by intro x hx; simp only [List.mem_map] at hx; obtain ⟨p, _, rfl⟩ := hx; exact pk_key p)

/-- The rows' lengths and numbers. -/
theorem isTab_no (t : List (List Int)) (a : Nat) (ha : a < t.length) (h : ¬ rowOk t a) : isTab t = false := by
  unfold isTab; exact decide_eq_false (fun ⟨_, _, h3, _⟩ => h (h3 a ha))
theorem isTab_end (t : List (List Int)) (h1 : 2 ≤ t.length) (h2 : t.length ≤ 12) (hok : ∀ i, i < t.length → rowOk t i) (n m : Nat)
    (hn : n = Maps.size (Maps.setOf (H := Unit) (.lit (.bool true)) ((seenR t t.length 0).map pk))) (hm : m = Maps.size (Maps.setOf (H := Unit) (.lit (.bool true)) ((seenC t t.length 0).map pk))) :
    isTab t = (decide (n = t.length * t.length) && decide (m = t.length * t.length)) := by
  have eR := addKey_len _ (wfP_R t 0 t.length 0 h2 (Nat.le_refl _) hok (by intro j hj; omega))
  have eC := addKey_len _ (wfP_C t 0 t.length 0 h2 (Nat.le_refl _) (by omega) hok (by intro j hj; omega))
  rw [seenR_len, Nat.add_zero] at eR
  rw [seenC_len, Nat.add_zero] at eC
  rw [hn, hm, sets_size, sets_size]
  have : ∀ p q : Prop, [Decidable p] → [Decidable q] → (p ↔ q) → decide p = decide q := by intro p q _ _ h; simp [h]
  rw [this _ _ eR, this _ _ eC]
  unfold isTab TabOk
  simp [h1, h2]
  intro _ _
  exact hok

theorem Sets.step {t : List (List Int)} {w wr w1 w2 : World} {a b : Nat} {x : Int} (h : Sets t w wr a b)
    (r1 : w1.ownsMap Try.prog 55 (plainElem (H := Unit) Try.prog 4) w.heap.size (a * t.length + b + 1) ((Maps.setOf (.lit (.bool true)) ((seenR t a b).map pk)).put (pk (a, x)) (.lit (.bool true)))) (g1 : wr.grownBy w1 (some w.heap.size))
    (r2 : w2.ownsMap Try.prog 55 (plainElem (H := Unit) Try.prog 4) (w.heap.size + 1) (a * t.length + b + 1) ((Maps.setOf (.lit (.bool true)) ((seenC t a b).map pk)).put (pk (b, x)) (.lit (.bool true)))) (g2 : w1.grownBy w2 (some (w.heap.size + 1)))
    (hx : rd2 t a b = x) : Sets t w w2 a (b + 1) := by
  refine ⟨?_, ?_, ?_, ?_⟩
  · rw [seenR_b, List.map_append, List.map_cons, List.map_nil, Maps.setOf_snoc, hx, ← Nat.add_assoc]
    exact r1.kept g2 (by simp)
  · rw [seenC_b, List.map_append, List.map_cons, List.map_nil, Maps.setOf_snoc, hx, ← Nat.add_assoc]
    exact r2
  · exact (h.below.grown g1 h.below.size (fun k e => by cases e; exact Nat.le_refl _)).grown g2 (Nat.le_trans h.below.size g1.size) (fun k e => by cases e; omega)
  · exact Nat.le_trans h.two (Nat.le_trans g1.size g2.size)
theorem Sets.row {t : List (List Int)} {w wr : World} {a : Nat} (h : Sets t w wr a t.length) : Sets t w wr (a + 1) 0 := by
  refine ⟨?_, ?_, h.below, h.two⟩
  · rw [seenR_a, show (a + 1) * t.length + 0 = a * t.length + t.length by rw [Nat.add_mul]; simp]; exact h.rows
  · rw [seenC_a, show (a + 1) * t.length + 0 = a * t.length + t.length by rw [Nat.add_mul]; simp]; exact h.cols

set_option maxHeartbeats 4000000 in
set_option maxRecDepth 100000 in
theorem isTable_in (A0 : Option Addr) (c0 : Nat) (l0 : List (List Int)) (w : World) (hr0 : Kd.C (Kd.slice 3 (Kd.int .i64)) w A0 l0.length l0) (h1 : 2 ≤ l0.length) (h2 : l0.length ≤ 12) :
    Calls Try.prog 53 #[.slice A0 l0.length c0] w fun e w' => e = .returned (.bool (isTab l0)) ∧ Below w.heap.size w w' := by
  have HR0 := Aside0.mk hr0
  clear hr0
  have hmm := @run_makeMap Try.prog
  obtain ⟨n, hn⟩ : ∃ n, n = l0.length := ⟨_, rfl⟩
  go_enter Try.func53, Try.ntmps53
  go_wp2_with (go_at_call 56; refine (within_t _ _ _ _ (by omega) (by omega)).mono ?_; rintro e w' ⟨rfl, rfl⟩)
  go_loopg [19] n (fun kq v19 w' => ∃ a : Nat, v19 = .int .i64 a ∧ Aside0 (kq + a = l0.length) ∧ Aside0 (∀ i, i < a → rowOk l0 i) ∧ Aside0 (Sets l0 w w' a 0))
  case atStart => exact ⟨0, rfl, ⟨by omega⟩, ⟨by intro i hi; omega⟩, ⟨⟨by simpa [seenR, Maps.setOf] using (World.ownsMap_made _ _ _ _).alloc _, by simpa [seenC, Maps.setOf] using World.ownsMap_made (w.alloc (.map #[] 0)) _ _ _, by simpa using ((Below.refl _ _).alloc (Nat.le_refl _) _).alloc (by simp) _, by simp⟩⟩⟩
  case round =>
    obtain ⟨a, rfl, HK, HOK, HS⟩ := hrel
    obtain ⟨k1, rfl⟩ : ∃ k1, k1 = gk := ⟨_, rfl⟩
    by_cases ha : a < l0.length
    · obtain ⟨ad, A1, c1, rfl, hx0, hl1, hi1⟩ := at_L1 HR0.out (a : Int) (by omega) (by omega)
      have HC1 := Aside0.mk hi1
      have hx1 := pw_cell_below HS.out.below hx0
      clear hx0 hi1 hl1
      simp only [Int.toNat_natCast] at hx1
      by_cases hrow : (rd_L1 l0 a).length = l0.length
      · have HROW := Aside0.mk hrow
        clear hrow
        obtain ⟨m, hm⟩ : ∃ m, (rd_L1 l0 a).length = m := ⟨_, rfl⟩
        rw [hm] at HC1 HROW hx1
        have HM := Aside0.mk hm
        clear hm
        obtain rfl : m = l0.length := HROW.out
        clear HROW
        go_wp2
        go_loopg [30] l0.length (fun kq v30 w' => ∃ b : Nat, v30 = .int .i64 b ∧ Aside0 (kq + b = l0.length) ∧ Aside0 (∀ j, j < b → 0 ≤ rd2 l0 a j ∧ rd2 l0 a j ≤ (l0.length : Int) - 1) ∧ Aside0 (Sets l0 w w' a b))
        case atStart => exact ⟨0, rfl, ⟨by omega⟩, ⟨by intro j hj; omega⟩, HS⟩
        case round =>
          clear HS hx1
          obtain ⟨b, rfl, HK2, HOK2, HS⟩ := hrel
          by_cases hb : b < l0.length
          · obtain ⟨ad2, e2, hx2⟩ := Kd.at_int (Kd.C_below HC1.out HS.out.below) (b : Int) (by omega) (by omega)
            cases e2
            simp only [Int.toNat_natCast] at hx2
            obtain ⟨x, hx⟩ : ∃ x, rd2 l0 a b = x := ⟨_, rfl⟩
            rw [show rd (rd_L1 l0 (a : Int)) (b : Int) = x from hx] at hx2
            have HX := Aside0.mk hx
            clear hx
            by_cases hok : 0 ≤ x ∧ x ≤ (l0.length : Int) - 1
            · obtain ⟨hok1, hok2⟩ := hok
              have wa : (Lit.int .i64 (a : Int)).wf = true := WalkArith.wf_i64 (by omega)
              have wb : (Lit.int .i64 (b : Int)).wf = true := WalkArith.wf_i64 (by omega)
              have wx : (Lit.int .i64 x).wf = true := WalkArith.wf_i64 (by omega)
              have KA := Aside0.mk (keyOf_pair wa wx)
              have KB := Aside0.mk (keyOf_pair wb wx)
              clear wa wb wx
              have HN : Aside0 (a * l0.length + b < maxLen) := ⟨by have := Nat.mul_le_mul_right l0.length (Nat.le_of_lt ha); have h144 : l0.length * l0.length ≤ 12 * 12 := Nat.mul_le_mul h2 h2; unfold maxLen; omega⟩
              go_wp2_with (first | (go_at_call 56; refine (within_t _ _ _ _ (by omega) (by omega)).mono ?_; rintro e w' ⟨rfl, rfl⟩) | (at_mapUpdate; refine wpList_mapUpdate_own _ rfl (.tmp 44) (.tmp 47) (.const (.bool true)) 99 rfl 55 4 law55 Try.underlying99 _ (w.heap.size + 1) _ _ rfl (HS.out.cols.kept hg1.out (by simp)) HN.out _ _ _ rfl rfl KB.out _ [] (plainElem_bool Try.underlying4 true) ?_; intro w2 hown2_ hg2_; have hown2 := Aside0.mk hown2_; have hg2 := Aside0.mk hg2_; clear hown2_ hg2_) | (at_mapUpdate; refine wpList_mapUpdate_own _ rfl (.tmp 40) (.tmp 43) (.const (.bool true)) 99 rfl 55 4 law55 Try.underlying99 _ w.heap.size _ _ rfl HS.out.rows HN.out _ _ _ rfl rfl KA.out _ [] (plainElem_bool Try.underlying4 true) ?_; intro w1 hown1_ hg1_; have hown1 := Aside0.mk hown1_; have hg1 := Aside0.mk hg1_; clear hown1_ hg1_))
              go_roundg (gk - 1)
              case measure => have := HK2.out; omega
              case rel => exact ⟨b + 1, by go_num, ⟨by have := HK2.out; omega⟩, ⟨by intro j hj; by_cases e : j = b; (subst e; rw [HX.out]; exact ⟨hok1, hok2⟩); exact HOK2.out j (by omega)⟩, ⟨HS.out.step hown1.out hg1.out hown2.out hg2.out HX.out⟩⟩
            · have hfin : isTab l0 = false := isTab_no l0 a ha (fun h => hok (by rw [← HX.out]; exact h.2 b hb))
              have HF := Aside0.mk hfin
              have HB := Aside0.mk HS.out.below
              clear hfin HS
              have HNO := Aside0.mk hok
              clear hok
              go_wp2_with (first | (go_at_call 56; refine (within_f _ _ _ _ HNO.out).mono ?_; rintro e w' ⟨rfl, rfl⟩))
              go_ret
              exact ⟨by rw [HF.out]; rfl, HB.out⟩
          · obtain rfl : b = l0.length := by have := HK2.out; omega
            go_wp2
            go_roundg (k1 - 1)
            case measure => have := HK.out; omega
            case rel => exact ⟨a + 1, by go_num, ⟨by have := HK.out; omega⟩, ⟨by intro j hj; by_cases e : j = a; (subst e; exact ⟨HM.out, HOK2.out⟩); exact HOK.out j (by omega)⟩, ⟨HS.out.row⟩⟩
      · have hfin : isTab l0 = false := isTab_no l0 a ha (fun h => hrow h.1)
        have HF := Aside0.mk hfin
        have HB := Aside0.mk HS.out.below
        clear hfin HS
        have e1 : ((((rd_L1 l0 (a : Int)).length : Nat) : Int) != (l0.length : Int)) = true := by rw [bne_iff_ne]; intro e; exact hrow (Int.ofNat.inj e)
        have e1b : ((rd_L1 l0 (a : Int)).length == l0.length) = false := by rw [beq_eq_false_iff_ne]; exact hrow
        have HNO := Aside0.mk hrow
        clear hrow
        go_wp2
        go_ret
        exact ⟨by rw [HF.out]; rfl, HB.out⟩
    · obtain rfl : a = l0.length := by have := HK.out; omega
      have hL1 := fun ty => HS.out.rows.len Try.underlying99 ty
      have hL2 := fun ty => HS.out.cols.len Try.underlying99 ty
      obtain ⟨p, hp⟩ : ∃ p, p = Maps.size (Maps.setOf (H := Unit) (.lit (.bool true)) ((seenR l0 l0.length 0).map pk)) := ⟨_, rfl⟩
      obtain ⟨q, hq⟩ : ∃ q, q = Maps.size (Maps.setOf (H := Unit) (.lit (.bool true)) ((seenC l0 l0.length 0).map pk)) := ⟨_, rfl⟩
      rw [← hp] at hL1
      rw [← hq] at hL2
      have HF := Aside0.mk (isTab_end l0 h1 h2 HOK.out p q hp hq)
      have HB := Aside0.mk HS.out.below
      clear hp hq HS
      have hw : wrap64 ((l0.length : Int) * (l0.length : Int)) = ((l0.length * l0.length : Nat) : Int) := by
        have h144 : l0.length * l0.length ≤ 12 * 12 := Nat.mul_le_mul h2 h2
        rw [← Int.natCast_mul]
        unfold wrap64
        omega
      by_cases cp : p = l0.length * l0.length
      · have f1 : ((p : Int) == wrap64 ((l0.length : Int) * (l0.length : Int))) = true := by rw [hw, cp]; simp
        by_cases cq : q = l0.length * l0.length
        · have f2 : ((q : Int) == wrap64 ((l0.length : Int) * (l0.length : Int))) = true := by rw [hw, cq]; simp
          have HE := Aside0.mk (show isTab l0 = true by rw [HF.out]; simp [cp, cq])
          clear HF cp cq hw
          go_wp2
          go_ret
          exact ⟨by rw [HE.out]; rfl, HB.out⟩
        · have f2 : ((q : Int) == wrap64 ((l0.length : Int) * (l0.length : Int))) = false := by rw [hw, beq_eq_false_iff_ne]; intro e; exact cq (Int.ofNat.inj e)
          have HE := Aside0.mk (show isTab l0 = false by rw [HF.out]; simp [cq])
          clear HF cp cq hw
          go_wp2
          go_ret
          exact ⟨by rw [HE.out]; rfl, HB.out⟩
      · have f1 : ((p : Int) == wrap64 ((l0.length : Int) * (l0.length : Int))) = false := by rw [hw, beq_eq_false_iff_ne]; intro e; exact cp (Int.ofNat.inj e)
        have HE := Aside0.mk (show isTab l0 = false by rw [HF.out]; simp [cp])
        clear HF cp hw
        go_wp2
        go_ret
        exact ⟨by rw [HE.out]; rfl, HB.out⟩

set_option maxHeartbeats 1000000 in
set_option maxRecDepth 100000 in
theorem isTable_out (A0 : Option Addr) (c0 : Nat) (l0 : List (List Int)) (w : World) (hn : l0.length ≤ 9223372036854775807) (h : ¬ (2 ≤ l0.length ∧ l0.length ≤ 12)) :
    Calls Try.prog 53 #[.slice A0 l0.length c0] w fun e w' => e = .returned (.bool (isTab l0)) ∧ Below w.heap.size w w' := by
  have hfin : isTab l0 = false := decide_eq_false (fun h' => h ⟨h'.1, h'.2.1⟩)
  have HF := Aside0.mk hfin
  have HNO := Aside0.mk (show ¬ ((2 : Int) ≤ (l0.length : Int) ∧ (l0.length : Int) ≤ 12) from fun h' => h ⟨by omega, by omega⟩)
  clear hfin h
  go_enter Try.func53, Try.ntmps53
  go_wp2_with (go_at_call 56; refine (within_f _ _ _ _ HNO.out).mono ?_; rintro e w' ⟨rfl, rfl⟩)
  go_ret
  exact ⟨by rw [HF.out]; rfl, Below.refl _ _⟩

theorem serial_isTable.calls (A0 : Option Addr) (c0 : Nat) (l0 : List (List Int)) (r : Bool) (w : World) (hr0 : Kd.C (Kd.slice 3 (Kd.int .i64)) w A0 l0.length l0) (hc0 : l0.length ≤ c0) (h : serial_isTable.f l0 = some r) :
    Calls Try.prog 53 #[.slice A0 l0.length c0] w fun e w' => e = .returned (.bool r) ∧ Below w.heap.size w w' := by
  obtain rfl := Option.some.inj h
  by_cases hb : 2 ≤ l0.length ∧ l0.length ≤ 12
  · exact isTable_in A0 c0 l0 w hr0 hb.1 hb.2
  · exact isTable_out A0 c0 l0 w (Kd.C_max hr0) hb
end Go.Proofs.Ytdkncfmlehcjmaa.X
end

section
/- tickinglaw11.list, by hand: the first 25 numbers of a list, in new memory. -/
set_option linter.unusedVariables false
set_option linter.unusedSimpArgs false
namespace Go.Proofs.Ytdkncfmlehcjmaa.X
open Go.RowKit Go.Proofs.YtdkncfmlehcjmaaW.PrintWords Go.Proofs.YtdkncfmlehcjmaaW.PrintLast Go.Proofs.YtdkncfmlehcjmaaW.PrintMore
attribute [local go_sem] max2_int min2_int max_two min_two max_three min_three max_four min_four
def tickinglaw11_list.f (l0 : List Int) : Option (List Int) := some (l0.take 25)
set_option maxHeartbeats 2000000 in
set_option maxRecDepth 100000 in
theorem list_any (A0 : Option Addr) (c0 : Nat) (l0 : List Int) (w : World) (hr0 : Kd.C (Kd.int .i64) w A0 l0.length l0) (hc0 : l0.length ≤ c0) (m : Nat) (hm : m ≤ l0.length) (hm2 : (if 25 < (l0.length : Int) then 25 else (l0.length : Int)) = (m : Int)) (hm3 : m ≤ 25) :
    Calls Try.prog 21 #[.slice A0 l0.length c0] w fun e w' => ∃ v0_ : Value, e = .returned (v0_) ∧ Kd.R (Kd.int .i64) 3 w' w.heap.size (fun _ => True) v0_ (l0.take m) ∧ Below w.heap.size w w' := by
  have HR0 := Aside0.mk hr0
  have HC0 := Aside0.mk hc0
  clear hr0 hc0
  have HB := Aside0.mk (Below.refl w.heap.size w)
  obtain ⟨i06, hi06, _, hsz6, _⟩ := info_parts info3
  have hcut := print_take_of (P := Try.prog) (Value.int .i64) 0 23 3 .i64 Try.underlying23 hi06 hsz6 A0 c0 l0 (m : Int) (by omega) (by omega) HC0.out
  have hl : (l0.take m).length = m := by rw [List.length_take]; omega
  rw [Int.toNat_natCast, hl] at hcut
  obtain ⟨hcut6, hA6, hC6⟩ := hcut
  have HR101 := Aside0.mk (Kd.C_of_reads (h1 := fun _ => rfl) (hA6 _ (Kd.reads_of_C HR0.out)))
  clear hA6 hC6 hi06 hsz6
  obtain ⟨ys, hys⟩ : ∃ ys, ys = l0.take m := ⟨_, rfl⟩
  rw [← hys] at hl HR101 ⊢
  have HL := Aside0.mk hl
  clear hys hl
  go_enter Try.func21, Try.ntmps21
  go_wp2_with (at_builtin; go_loud (refine Kd.R_append_rows (Kd.int .i64) (w0 := w) w.heap.size rfl (.tmp 4) (.tmp 9) 23 3 (.int .i64 0) 8 rfl Try.underlying23 info3 rfl (by decide) (by omega) (.slice none 0 0) ([] : List Int) ys _ _ _ (fun _ => True) (fun _ => False) rfl rfl ?aO ?aR (fun _ _ h => h) (fun _ h => h.elim) ?aF ?aB ?aS ?aL ?_); (case aO => exact Kd.R_nil _ _ _ _ (fun _ => True)); (case aR => exact HR101.out); (case aF => exact fun _ _ => trivial); (case aB => exact HB.out); (case aS => exact Nat.le_refl _); (case aL => have := HL.out; simp; omega); intro v103 w7 ho hb hg hat; have HO := Aside0.mk ho; have HB2 := Aside0.mk hb; clear ho hb hg hat)
  go_ret
  exact ⟨_, rfl, HO.out, HB2.out⟩
theorem tickinglaw11_list.calls (A0 : Option Addr) (c0 : Nat) (l0 : List Int) (r : List Int) (w : World) (hr0 : Kd.C (Kd.int .i64) w A0 l0.length l0) (hc0 : l0.length ≤ c0) (h : tickinglaw11_list.f l0 = some r) :
    Calls Try.prog 21 #[.slice A0 l0.length c0] w fun e w' => ∃ v0_ : Value, e = .returned (v0_) ∧ Kd.R (Kd.int .i64) 3 w' w.heap.size (fun _ => True) v0_ r ∧ Below w.heap.size w w' := by
  obtain rfl := Option.some.inj h
  by_cases hl : 25 < l0.length
  · exact list_any A0 c0 l0 w hr0 hc0 25 (by omega) (by rw [if_pos (by omega)]; rfl) (by omega)
  · have := list_any A0 c0 l0 w hr0 hc0 l0.length (by omega) (by rw [if_neg (by omega)]) (by omega)
    rw [List.take_of_length_le (Nat.le_refl _)] at this
    rw [List.take_of_length_le (by omega)]
    exact this
end Go.Proofs.Ytdkncfmlehcjmaa.X
end

section
namespace Go.Proofs.Ytdkncfmlehcjmaa.X
open Go.RowKit Go.Proofs.YtdkncfmlehcjmaaW.PrintWords Go.Proofs.YtdkncfmlehcjmaaW.PrintLast Go.Proofs.YtdkncfmlehcjmaaW.PrintMore
attribute [local go_sem] max2_int min2_int max_two min_two max_three min_three max_four min_four   -- for this text's walks alone
set_option linter.unusedVariables false
set_option linter.unusedSimpArgs false

def tickinglaw11_table.l0 : Nat → List (List Int) → List (List Int) → Int → Option ((List (List Int)))
 | 0, _, _, _ => none
 | k + 1, x0, x3, x4 => if x4 < (x0.length : Int) then (if x4 < 13 then (if 0 ≤ x4 then ((tickinglaw11_list.f (rd_L1 x0 x4)).bind fun t102 => (if x3.length < 5864062014805 then (tickinglaw11_table.l0 k x0 (x3 ++ [t102]) (wrap64 (x4 + 1))) else (none))) else (none)) else (some x3)) else (some x3)
def tickinglaw11_table.f (k : Nat) (l0 : List (List Int)) : Option ((List (List Int))) := tickinglaw11_table.l0 k l0 ([] : List (List Int)) 0
theorem tickinglaw11_table.mono_l : ∀ k, (∀ y0 y1 y2, LeO (tickinglaw11_table.l0 k y0 y1 y2) (tickinglaw11_table.l0 (k + 1) y0 y1 y2))
 | 0 => fun _ _ _ r h => by simp [tickinglaw11_table.l0] at h
 | k + 1 => by
  have ih0 := tickinglaw11_table.mono_l k
  ·intro y0 y1 y2
   unfold tickinglaw11_table.l0
   repeat' first
   | (with_reducible exact ih0 _ _ _)
   | (with_reducible exact LeO.refl _)
   | (with_reducible exact LeO.none _)
   | (with_reducible refine LeO.ite ?_ ?_)
   | (with_reducible refine LeO.bind ?_ (fun _ => ?_))
   | exact ih0 _ _ _
   | exact LeO.none _
   | refine LeO.ite ?_ ?_
   | refine LeO.bind ?_ (fun _ => ?_)
set_option maxHeartbeats 8000000 in
set_option maxRecDepth 100000 in
theorem tickinglaw11_table.calls (k : Nat) (A0 : Option Addr) (c0 : Nat) (l0 : List (List Int)) (r : List (List Int)) (w : World) (hr0 : Kd.C (Kd.slice 3 (Kd.int .i64)) w A0 l0.length l0) (hc0 : l0.length ≤ c0) (h : tickinglaw11_table.f k l0 = some r) :
  Calls Try.prog 33 #[.slice A0 l0.length c0] w fun e w' => ∃ v0_ : Value, e = .returned (v0_) ∧ Kd.S (Kd.slice 3 (Kd.int .i64)) 23 w' w.heap.size (fun _ => True) v0_ r ∧ Below w.heap.size w w' := by
 have HR0 := Aside0.mk hr0
 have HC0 := Aside0.mk hc0
 clear hr0 hc0
 have HB := Aside0.mk (Below.refl w.heap.size w)
 have H : (tickinglaw11_table.l0 k l0 ([] : List (List Int)) 0) = some r := h
 clear h
 have H' := Aside0.mk H
 clear H
 go_enter Try.func33, Try.ntmps33
 go_wp2
 go_loopg [3, 4] k (fun kq v3 v4 w' => ∃ (x3_1 : List (List Int)) (x4_1 : Int), v4 = .int .i64 x4_1 ∧ Aside0 (tickinglaw11_table.l0 kq l0 x3_1 x4_1 = some r) ∧ Aside0 (kq ≤ k) ∧ Aside0 (Kd.S (Kd.slice 3 (Kd.int .i64)) 23 w' w.heap.size (fun _ => True) v3 x3_1) ∧ Aside0 (Below w.heap.size w w'))
 case atStart => exact ⟨(([] : List (List Int))), (0), (by first | rfl | (simp; done) | (simp [*]; done)), H', ⟨Nat.le_refl _⟩, ⟨by first | exact Kd.S_nil _ _ _ _ _ | exact Kd.N_nil _ _ _ _ _ | exact Kd.V_nil _ _ _ _ _ | exact Kd.Q_nil _ _ _ _ _ | exact Kd.R_nil _ _ _ _ _⟩, ⟨by repeat (first | (with_reducible first | exact HB.out | apply below_alloc | apply pw_below_drewN | apply below_drew1) | exact HB.out)⟩⟩
 case round =>
  clear H'
  obtain ⟨x3_1, x4_1, rfl, HA, HK1, HO_3, HB⟩ := hrel
  cases gk with
  | zero => exact absurd HA.out (by simp [tickinglaw11_table.l0])
  | succ k1 =>
   have H := HA.out
   clear HA
   simp only [tickinglaw11_table.l0] at H
   by_cases c2 : x4_1 < (l0.length : Int)
   ·rw [if_pos c2] at H
    have c2b0 : decide (x4_1 < (l0.length : Int)) = true := decide_eq_true c2
    clear c2
    by_cases c3 : x4_1 < 13
    ·rw [if_pos c3] at H
     have c3b0 : decide (x4_1 < 13) = true := decide_eq_true c3
     clear c3
     by_cases c4 : 0 ≤ x4_1
     ·rw [if_pos c4] at H
      have c4b0 : decide (0 ≤ x4_1) = true := decide_eq_true c4
      clear c4
      replace H := Option.bind_eq_some_iff.mp H
      obtain ⟨t102, A50, H⟩ := H
      replace H : (if x3_1.length < 5864062014805 then (tickinglaw11_table.l0 k1 l0 (x3_1 ++ [t102]) (wrap64 (x4_1 + 1))) else (none)) = some r := H
      have A5 := Aside0.mk A50
      clear A50
      by_cases c6 : x3_1.length < 5864062014805
      ·rw [if_pos c6] at H
       have LMc6 := Aside0.mk c6
       clear c6
       obtain ⟨y105, hy105⟩ : ∃ y_ : List (List Int), y_ = (x3_1 ++ [t102]) := ⟨_, rfl⟩
       replace H : (tickinglaw11_table.l0 k1 l0 y105 (wrap64 (x4_1 + 1))) = some r := by first | (rw [hy105]; with_reducible exact H) | (have H2_ := (Option.bind_some _ _).symm.trans H; rw [hy105]; with_reducible exact H2_) | (have H2_ := (Option.bind_some _ _).symm.trans H; with_reducible exact H2_) | with_reducible exact H | (rw [hy105]; exact H) | exact H
       have Ny105 := Aside0.mk hy105
       clear hy105
       have H' := Aside0.mk H
       clear H
       have p101 : 0 ≤ (x4_1 : Int) := of_decide_eq_true (by first | (with_reducible assumption) | assumption)
       have q101 : x4_1 < (l0.length : Int) := of_decide_eq_true (by first | (with_reducible assumption) | assumption)
       obtain ⟨ad101, A101_0, c101_0, e101, hx101_0, hl101_0, hi101_0⟩ := at_L1 HR0.out x4_1 p101 q101
       cases e101
       replace hx101_0 := (HB.out.cell (World.block_lt_of_cell? w _ hx101_0)).trans hx101_0
       have HR101_0 := Aside0.mk hi101_0
       have HC101_0 := Aside0.mk hl101_0
       clear hi101_0 hl101_0
       replace p101 := eq_true p101
       replace q101 := eq_true q101
       go_wp2_with (first | ((with_reducible refine gate_callee (f := 21) rfl ?_); refine goesL_ (some 20) rfl rfl Try.func21 (by kernel_rfl) rfl #[.slice A101_0 (rd_L1 l0 x4_1).length c101_0] rfl (by (try simp only [List.map_toArray, List.map_cons, List.map_nil]); first | done | rfl | (simp only [List.length_drop, List.length_take]; rfl)) ?_; (with_reducible refine (tickinglaw11_list.calls _ _ (rd_L1 l0 x4_1) t102 _ ?side1 ?side2 A5.out).mono ?_); (case side1 => repeat (first | exact (Kd.C_below HR101_0.out HB.out) | (with_reducible refine Kd.C_alloc ?_ _) | (with_reducible refine Kd.C_drewN ?_ _) | (with_reducible refine Kd.C_drew ?_))); (case side2 => exact HC101_0.out); rintro e w7 ⟨v103, rfl, ho0, hb⟩; refine ⟨_, rfl, ?_⟩; have n0_ := Aside0.mk (Kd.S_elder' (by (with_reducible repeat (first | apply Kd.S_alloc | apply Kd.S_drewN | apply Kd.S_drew)); exact HO_3.out) (Kd.R_base ho0) hb); have n1_ := Aside0.mk (Kd.R_lower ho0 (below_size (by repeat (first | (with_reducible first | exact HB.out | apply below_alloc | apply pw_below_drewN | apply below_drew1) | exact HB.out)))); have n2_ := Aside0.mk (below_step (by repeat (first | (with_reducible first | exact HB.out | apply below_alloc | apply pw_below_drewN | apply below_drew1) | exact HB.out)) hb); clear HO_3; clear HB; have HO_3 := n0_; have HO104 := n1_; have HB := n2_; clear n0_ n1_ n2_; (try clear hb); (try clear hb2); (try clear hk); (try clear hi); (try clear ho0); obtain ⟨Ao9, co9, eo9⟩ := Kd.R_slice HO104.out; subst eo9) | ((with_reducible refine gate_builtin (b := .append) (xs := #[.tmp 15, .tmp 21]) rfl ?_); at_builtin; refine Kd.S_append (Kd.slice 3 (Kd.int .i64)) (w0 := w) w.heap.size rfl (.tmp 15) (.tmp 21) 22 23 (.slice none 0 0) 24 rfl Try.underlying22 info23 rfl (by decide) (by omega) u3 x3_1 t102 [.slice Ao9 t102.length co9] (fun _ => True) (fun k_ => some k_ = (.slice Ao9 t102.length co9 : Value).ownBlock) rfl rfl ?aP (fun k_ hk_ => ((Kd.R_mono (ok' := fun k_ => ((fun _ => True)) k_ ∧ some k_ ≠ (u3 : Value).ownBlock) (Kd.R_apart' (HO104.out) (Kd.S_typed HO_3.out) (by decide)) (fun k_ hk => ⟨trivial, hk.2⟩))).1 k_ hk_.symm) ?aF ?aO ?aB ?aS ?aL ?_; (case aP => exact Kd.M_row (Kd.R_mono (Kd.R_tight rfl (Kd.R_mono (ok' := fun k_ => ((fun _ => True)) k_ ∧ some k_ ≠ (u3 : Value).ownBlock) (Kd.R_apart' (HO104.out) (Kd.S_typed HO_3.out) (by decide)) (fun k_ hk => ⟨trivial, hk.2⟩))) (fun _ h_ => h_))); (case aB => exact (by repeat (first | (with_reducible first | exact HB.out | apply below_alloc | apply pw_below_drewN | apply below_drew1) | exact HB.out))); (case aF => exact (fun _ _ => trivial)); (case aO => exact (by (with_reducible repeat (first | apply Kd.S_alloc | apply Kd.S_drewN | apply Kd.S_drew)); exact Kd.S_mono HO_3.out (fun k_ hk => ⟨trivial, fun e_ => hk.2 e_⟩))); (case aS => exact (below_size (by repeat (first | (with_reducible first | exact HB.out | apply below_alloc | apply pw_below_drewN | apply below_drew1) | exact HB.out)))); (case aL => have := LMc6.out; omega); intro v106 w8 ho hb hg hat; rw [← Ny105.out] at ho; have n0_ := Aside0.mk (hb); have n1_ := Aside0.mk (ho); clear HB; clear HO_3; clear HO104; have HB := n0_; have HO107 := n1_; clear n0_ n1_; clear ho hb hg hat))
       go_roundg k1
       case measure => have := HK1.out; omega
       case rel => exact ⟨(y105), (wrap64 (x4_1 + 1)), (by first | rfl | (simp; done) | (simp [*]; done)), H', ⟨by have := HK1.out; omega⟩, ⟨by (with_reducible repeat (first | apply Kd.S_alloc | apply Kd.S_drewN | apply Kd.S_drew)); exact HO107.out⟩, ⟨by repeat (first | (with_reducible first | exact HB.out | apply below_alloc | apply pw_below_drewN | apply below_drew1) | exact HB.out)⟩⟩
      ·rw [if_neg c6] at H
       exact absurd H (by simp)
     ·rw [if_neg c4] at H
      exact absurd H (by simp)
    ·rw [if_neg c3] at H
     have c3b0 : decide (x4_1 < 13) = false := decide_eq_false c3
     clear c3
     obtain rfl := Option.some.inj H
     go_wp2
     go_ret
     exact ⟨_, by first | rfl | (simp [errW_none, errW_some] <;> rfl) | (simp [*, errW_none, errW_some] <;> rfl), by (with_reducible repeat (first | apply Kd.S_alloc | apply Kd.S_drewN | apply Kd.S_drew)); exact HO_3.out, by repeat (first | (with_reducible first | exact HB.out | apply below_alloc | apply pw_below_drewN | apply below_drew1) | exact HB.out)⟩
   ·rw [if_neg c2] at H
    have c2b0 : decide (x4_1 < (l0.length : Int)) = false := decide_eq_false c2
    clear c2
    obtain rfl := Option.some.inj H
    go_wp2
    go_ret
    exact ⟨_, by first | rfl | (simp [errW_none, errW_some] <;> rfl) | (simp [*, errW_none, errW_some] <;> rfl), by (with_reducible repeat (first | apply Kd.S_alloc | apply Kd.S_drewN | apply Kd.S_drew)); exact HO_3.out, by repeat (first | (with_reducible first | exact HB.out | apply below_alloc | apply pw_below_drewN | apply below_drew1) | exact HB.out)⟩

def serial_within.f (a0 : Int) (a1 : Int) (a2 : Int) : Option (Bool) := if a0 ≥ a1 then (some (decide (a0 ≤ a2))) else (some false)
set_option maxHeartbeats 8000000 in
set_option maxRecDepth 100000 in
theorem serial_within.calls (a0 : Int) (a1 : Int) (a2 : Int) (r : Bool) (w : World) (h : serial_within.f a0 a1 a2 = some r) :
  Calls Try.prog 56 #[.int .i64 a0, .int .i64 a1, .int .i64 a2] w fun e w' => e = .returned (.bool r) ∧ Drawn0 w w' := by
 have H : (if a0 ≥ a1 then (some (decide (a0 ≤ a2))) else (some false)) = some r := h
 clear h
 by_cases c4 : a0 ≥ a1
 ·rw [if_pos c4] at H
  have c4b0 : decide (a1 ≤ a0) = true := decide_eq_true c4
  clear c4
  obtain rfl := Option.some.inj H
  go_enter Try.func56, Try.ntmps56
  go_wp2
  go_ret
  exact ⟨by first | rfl | (simp; done) | (simp [*]; done), by repeat (first | exact Drawn0.refl _ | apply Drawn0.step)⟩
 ·rw [if_neg c4] at H
  have c4b0 : decide (a1 ≤ a0) = false := decide_eq_false c4
  clear c4
  obtain rfl := Option.some.inj H
  go_enter Try.func56, Try.ntmps56
  go_wp2
  go_ret
  exact ⟨by first | rfl | (simp; done) | (simp [*]; done), by repeat (first | exact Drawn0.refl _ | apply Drawn0.step)⟩

def serial_table_trace.l0 : Nat → List (List Int) → Int → List Int → Int → Int → Option (Int)
 | 0, _, _, _, _, _ => none
 | k + 1, x0, x5, x8, x9, x10 => if x10 < x9 then (if 0 ≤ x10 then (if x10 < (x8.length : Int) then (if 0 ≤ x5 then (if x5 < (x0.length : Int) then (if 0 ≤ (rd x8 x10) then (if (rd x8 x10) < ((rd_L1 x0 x5).length : Int) then (serial_table_trace.l0 k x0 (rd (rd_L1 x0 x5) (rd x8 x10)) x8 x9 (wrap64 (x10 + 1))) else (none)) else (none)) else (none)) else (none)) else (none)) else (none)) else (some x5)
def serial_table_trace.f (k : Nat) (l0 : List (List Int)) (l1 : List Int) : Option (Int) := serial_table_trace.l0 k l0 0 l1 (l1.length : Int) 0
theorem serial_table_trace.mono_l : ∀ k, (∀ y0 y1 y2 y3 y4, LeO (serial_table_trace.l0 k y0 y1 y2 y3 y4) (serial_table_trace.l0 (k + 1) y0 y1 y2 y3 y4))
 | 0 => fun _ _ _ _ _ r h => by simp [serial_table_trace.l0] at h
 | k + 1 => by
  have ih0 := serial_table_trace.mono_l k
  ·intro y0 y1 y2 y3 y4
   unfold serial_table_trace.l0
   repeat' first
   | (with_reducible exact ih0 _ _ _ _ _)
   | (with_reducible exact LeO.refl _)
   | (with_reducible exact LeO.none _)
   | (with_reducible refine LeO.ite ?_ ?_)
   | (with_reducible refine LeO.bind ?_ (fun _ => ?_))
   | exact ih0 _ _ _ _ _
   | exact LeO.none _
   | refine LeO.ite ?_ ?_
   | refine LeO.bind ?_ (fun _ => ?_)
theorem serial_table_trace.mono : ∀ a0 a1 k, LeO (serial_table_trace.f k a0 a1) (serial_table_trace.f (k + 1) a0 a1) := by
 intro a0 a1 k
 have ih0 := serial_table_trace.mono_l k
 unfold serial_table_trace.f
 repeat' first
   | (with_reducible exact ih0 _ _ _ _ _)
   | (with_reducible exact LeO.refl _)
   | (with_reducible exact LeO.none _)
   | (with_reducible refine LeO.ite ?_ ?_)
   | (with_reducible refine LeO.bind ?_ (fun _ => ?_))
   | exact ih0 _ _ _ _ _
   | exact LeO.none _
   | refine LeO.ite ?_ ?_
   | refine LeO.bind ?_ (fun _ => ?_)
set_option maxHeartbeats 8000000 in
set_option maxRecDepth 100000 in
theorem serial_table_trace.calls (k : Nat) (A0 : Option Addr) (c0 : Nat) (l0 : List (List Int)) (A1 : Option Addr) (c1 : Nat) (l1 : List Int) (r : Int) (w : World) (hr0 : Kd.C (Kd.slice 3 (Kd.int .i64)) w A0 l0.length l0) (hc0 : l0.length ≤ c0) (hr1 : Kd.C (Kd.int .i64) w A1 l1.length l1) (hc1 : l1.length ≤ c1) (h : serial_table_trace.f k l0 l1 = some r) :
  Calls Try.prog 55 #[.slice A0 l0.length c0, .slice A1 l1.length c1] w fun e w' => e = .returned (.int .i64 r) ∧ Drawn0 w w' := by
 have HR0 := Aside0.mk hr0
 have HC0 := Aside0.mk hc0
 clear hr0 hc0
 have HR1 := Aside0.mk hr1
 have HC1 := Aside0.mk hc1
 clear hr1 hc1
 have H : (serial_table_trace.l0 k l0 0 l1 (l1.length : Int) 0) = some r := h
 clear h
 have H' := Aside0.mk H
 clear H
 go_enter Try.func55, Try.ntmps55
 go_wp2
 go_loopg [5, 10] k (fun kq v5 v10 w' => ∃ (x5_1 : Int) (x10_1 : Int), v5 = .int .i64 x5_1 ∧ v10 = .int .i64 x10_1 ∧ Aside0 (serial_table_trace.l0 kq l0 x5_1 l1 (l1.length : Int) x10_1 = some r) ∧ Aside0 (kq ≤ k) ∧ Drawn0 w w')
 case atStart => exact ⟨(0), (0), (by first | rfl | (simp; done) | (simp [*]; done)), (by first | rfl | (simp; done) | (simp [*]; done)), H', ⟨Nat.le_refl _⟩, by repeat (first | exact Drawn0.refl _ | apply Drawn0.step)⟩
 case round =>
  clear H'
  try clear c1
  try clear p2
  obtain ⟨x5_1, x10_1, rfl, rfl, HA, HK1, ⟨m1, rfl⟩⟩ := hrel
  cases gk with
  | zero => exact absurd HA.out (by simp [serial_table_trace.l0])
  | succ k1 =>
   have H := HA.out
   clear HA
   simp only [serial_table_trace.l0] at H
   by_cases c3 : x10_1 < (l1.length : Int)
   ·rw [if_pos c3] at H
    have c3b0 : decide (x10_1 < (l1.length : Int)) = true := decide_eq_true c3
    clear c3
    by_cases c4 : 0 ≤ x10_1
    ·rw [if_pos c4] at H
     have c4b0 : decide (0 ≤ x10_1) = true := decide_eq_true c4
     clear c4
     by_cases c5 : x10_1 < (l1.length : Int)
     ·rw [if_pos c5] at H
      have c5b0 : decide (x10_1 < (l1.length : Int)) = true := decide_eq_true c5
      clear c5
      by_cases c6 : 0 ≤ x5_1
      ·rw [if_pos c6] at H
       have c6b0 : decide (0 ≤ x5_1) = true := decide_eq_true c6
       clear c6
       by_cases c7 : x5_1 < (l0.length : Int)
       ·rw [if_pos c7] at H
        have c7b0 : decide (x5_1 < (l0.length : Int)) = true := decide_eq_true c7
        clear c7
        by_cases c8 : 0 ≤ (rd l1 x10_1)
        ·rw [if_pos c8] at H
         have c8b0 : decide (0 ≤ (rd l1 x10_1)) = true := decide_eq_true c8
         clear c8
         by_cases c9 : (rd l1 x10_1) < ((rd_L1 l0 x5_1).length : Int)
         ·rw [if_pos c9] at H
          have c9b0 : decide ((rd l1 x10_1) < ((rd_L1 l0 x5_1).length : Int)) = true := decide_eq_true c9
          clear c9
          have H' := Aside0.mk H
          clear H
          have p194 : 0 ≤ (x10_1 : Int) := of_decide_eq_true (by first | (with_reducible assumption) | assumption)
          have q194 : x10_1 < (l1.length : Int) := of_decide_eq_true (by first | (with_reducible assumption) | assumption)
          obtain ⟨ad194, e194, hx194_0⟩ := Kd.at_int HR1.out x10_1 p194 q194
          cases e194
          replace p194 := eq_true p194
          replace q194 := eq_true q194
          have p195 : 0 ≤ (x5_1 : Int) := of_decide_eq_true (by first | (with_reducible assumption) | assumption)
          have q195 : x5_1 < (l0.length : Int) := of_decide_eq_true (by first | (with_reducible assumption) | assumption)
          obtain ⟨ad195, A195_0, c195_0, e195, hx195_0, hl195_0, hi195_0⟩ := at_L1 HR0.out x5_1 p195 q195
          cases e195
          have HR195_0 := Aside0.mk hi195_0
          have HC195_0 := Aside0.mk hl195_0
          clear hi195_0 hl195_0
          replace p195 := eq_true p195
          replace q195 := eq_true q195
          have p196 : 0 ≤ ((rd l1 x10_1) : Int) := of_decide_eq_true (by first | (with_reducible assumption) | assumption)
          have q196 : (rd l1 x10_1) < ((rd_L1 l0 x5_1).length : Int) := of_decide_eq_true (by first | (with_reducible assumption) | assumption)
          obtain ⟨ad196, e196, hx196_0⟩ := Kd.at_int HR195_0.out (rd l1 x10_1) p196 q196
          cases e196
          replace p196 := eq_true p196
          replace q196 := eq_true q196
          go_wp2
          go_roundg k1
          case measure => have := HK1.out; omega
          case rel => exact ⟨(rd (rd_L1 l0 x5_1) (rd l1 x10_1)), (wrap64 (x10_1 + 1)), (by first | rfl | (simp; done) | (simp [*]; done)), (by first | rfl | (simp; done) | (simp [*]; done)), H', ⟨by have := HK1.out; omega⟩, by repeat (first | exact Drawn0.refl _ | apply Drawn0.step)⟩
         ·rw [if_neg c9] at H
          exact absurd H (by simp)
        ·rw [if_neg c8] at H
         exact absurd H (by simp)
       ·rw [if_neg c7] at H
        exact absurd H (by simp)
      ·rw [if_neg c6] at H
       exact absurd H (by simp)
     ·rw [if_neg c5] at H
      exact absurd H (by simp)
    ·rw [if_neg c4] at H
     exact absurd H (by simp)
   ·rw [if_neg c3] at H
    have c3b0 : decide (x10_1 < (l1.length : Int)) = false := decide_eq_false c3
    clear c3
    obtain rfl := Option.some.inj H
    go_wp2
    go_ret
    exact ⟨by first | rfl | (simp; done) | (simp [*]; done), by repeat (first | exact Drawn0.refl _ | apply Drawn0.step)⟩

def serial_gcd.l0 : Nat → Int → Int → Option (Int)
 | 0, _, _ => none
 | k + 1, x0, x1 => if x1 = 0 then (some (mx x0 (wrap64 (-x0)))) else (serial_gcd.l0 k x1 (Int.tmod x0 x1))
def serial_gcd.f (k : Nat) (a0 : Int) (a1 : Int) : Option (Int) := serial_gcd.l0 k a0 a1
theorem serial_gcd.mono_l : ∀ k, (∀ y0 y1, LeO (serial_gcd.l0 k y0 y1) (serial_gcd.l0 (k + 1) y0 y1))
 | 0 => fun _ _ r h => by simp [serial_gcd.l0] at h
 | k + 1 => by
  have ih0 := serial_gcd.mono_l k
  ·intro y0 y1
   unfold serial_gcd.l0
   repeat' first
   | (with_reducible exact ih0 _ _)
   | (with_reducible exact LeO.refl _)
   | (with_reducible exact LeO.none _)
   | (with_reducible refine LeO.ite ?_ ?_)
   | (with_reducible refine LeO.bind ?_ (fun _ => ?_))
   | exact ih0 _ _
   | exact LeO.none _
   | refine LeO.ite ?_ ?_
   | refine LeO.bind ?_ (fun _ => ?_)
theorem serial_gcd.mono : ∀ a0 a1 k, LeO (serial_gcd.f k a0 a1) (serial_gcd.f (k + 1) a0 a1) := by
 intro a0 a1 k
 have ih0 := serial_gcd.mono_l k
 unfold serial_gcd.f
 repeat' first
   | (with_reducible exact ih0 _ _)
   | (with_reducible exact LeO.refl _)
   | (with_reducible exact LeO.none _)
   | (with_reducible refine LeO.ite ?_ ?_)
   | (with_reducible refine LeO.bind ?_ (fun _ => ?_))
   | exact ih0 _ _
   | exact LeO.none _
   | refine LeO.ite ?_ ?_
   | refine LeO.bind ?_ (fun _ => ?_)
set_option maxHeartbeats 8000000 in
set_option maxRecDepth 100000 in
theorem serial_gcd.calls (k : Nat) (a0 : Int) (a1 : Int) (r : Int) (w : World) (h : serial_gcd.f k a0 a1 = some r) :
  Calls Try.prog 74 #[.int .i64 a0, .int .i64 a1] w fun e w' => e = .returned (.int .i64 r) ∧ Below w.heap.size w w' := by
 have HB := Aside0.mk (Below.refl w.heap.size w)
 have H : (serial_gcd.l0 k a0 a1) = some r := h
 clear h
 have H' := Aside0.mk H
 clear H
 go_enter Try.func74, Try.ntmps74
 go_wp2
 repeat (go_quiet (fail); try go_wp2)
 go_loopg [0, 1] k (fun kq v0 v1 w' => ∃ (x0_1 : Int) (x1_1 : Int), v0 = .int .i64 x0_1 ∧ v1 = .int .i64 x1_1 ∧ Aside0 (serial_gcd.l0 kq x0_1 x1_1 = some r) ∧ Aside0 (kq ≤ k) ∧ Aside0 (Below w.heap.size w w'))
 case atStart => exact ⟨(a0), (a1), (by first | rfl | (simp; done) | (simp [*]; done)), (by first | rfl | (simp; done) | (simp [*]; done)), H', ⟨Nat.le_refl _⟩, ⟨by repeat (first | (with_reducible first | exact HB.out | apply below_alloc | apply pw_below_drewN | apply below_drew1) | exact HB.out)⟩⟩
 case round =>
  clear H'
  try clear p2
  obtain ⟨x0_1, x1_1, rfl, rfl, HA, HK1, HB⟩ := hrel
  cases gk with
  | zero => exact absurd HA.out (by simp [serial_gcd.l0])
  | succ k1 =>
   have H := HA.out
   clear HA
   simp only [serial_gcd.l0] at H
   by_cases c3 : x1_1 = 0
   ·rw [if_pos c3] at H
    have c3b0 : (x1_1 == 0) = true := beq_iff_eq.mpr c3
    have c3b1 : (x1_1 != 0) = false := bne_eq_false_iff_eq.mpr c3
    clear c3
    obtain ⟨ji4, hji4⟩ : ∃ j_ : Int, (mx x0_1 (wrap64 (-x0_1))) = j_ := ⟨_, rfl⟩
    replace H : (some ji4) = some r := by first | (rw [hji4] at H; exact H) | (simp only [hji4] at H ⊢; exact H)
    have hji4_ : (if x0_1 < (wrap64 (-x0_1)) then (wrap64 (-x0_1)) else x0_1) = ji4 := hji4
    obtain rfl := Option.some.inj H
    go_wp2
    repeat (go_quiet (fail); try go_wp2)
    go_ret
    exact ⟨by first | rfl | (simp [errW_none, errW_some] <;> rfl) | (simp only [← hji4]; first | rfl | (simp [errW_none, errW_some] <;> rfl)) | (simp [*, errW_none, errW_some] <;> rfl), by repeat (first | (with_reducible first | exact HB.out | apply below_alloc | apply pw_below_drewN | apply below_drew1) | exact HB.out)⟩
   ·rw [if_neg c3] at H
    have c3b0 : (x1_1 == 0) = false := beq_eq_false_iff_ne.mpr c3
    have c3b1 : (x1_1 != 0) = true := bne_iff_ne.mpr c3
    have H' := Aside0.mk H
    clear H
    go_wp2
    repeat (go_quiet (fail); try go_wp2)
    go_roundg k1
    case measure => have := HK1.out; omega
    case rel => exact ⟨(x1_1), (Int.tmod x0_1 x1_1), (by first | rfl | (simp; done) | (simp [*]; done)), (by first | rfl | (simp; done) | (simp [*]; done)), H', ⟨by have := HK1.out; omega⟩, ⟨by repeat (first | (with_reducible first | exact HB.out | apply below_alloc | apply pw_below_drewN | apply below_drew1) | exact HB.out)⟩⟩

def serial_isUnit.f (k : Nat) (a0 : Int) (a1 : Int) : Option (Bool) := (serial_within.f a0 0 (wrap64 (a1 - 1))).bind fun t200 => (if t200 = true then ((serial_gcd.f k a0 a1).bind fun t201 => (some (t201 == 1))) else (some false))
theorem serial_isUnit.mono : ∀ a0 a1 k, LeO (serial_isUnit.f k a0 a1) (serial_isUnit.f (k + 1) a0 a1) := by
 intro a0 a1 k
 unfold serial_isUnit.f
 repeat' first
   | (with_reducible exact serial_gcd.mono _ _ _)
   | (with_reducible exact LeO.refl _)
   | (with_reducible exact LeO.none _)
   | (with_reducible refine LeO.ite ?_ ?_)
   | (with_reducible refine LeO.bind ?_ (fun _ => ?_))
   | exact serial_gcd.mono _ _ _
   | exact LeO.none _
   | refine LeO.ite ?_ ?_
   | refine LeO.bind ?_ (fun _ => ?_)
set_option maxHeartbeats 8000000 in
set_option maxRecDepth 100000 in
theorem serial_isUnit.calls (k : Nat) (a0 : Int) (a1 : Int) (r : Bool) (w : World) (h : serial_isUnit.f k a0 a1 = some r) :
  Calls Try.prog 57 #[.int .i64 a0, .int .i64 a1] w fun e w' => e = .returned (.bool r) ∧ Below w.heap.size w w' := by
 have HB := Aside0.mk (Below.refl w.heap.size w)
 have H : ((serial_within.f a0 0 (wrap64 (a1 - 1))).bind fun t200 => (if t200 = true then ((serial_gcd.f k a0 a1).bind fun t201 => (some (t201 == 1))) else (some false))) = some r := h
 clear h
 replace H := Option.bind_eq_some_iff.mp H
 obtain ⟨t200, A30, H⟩ := H
 replace H : (if t200 = true then ((serial_gcd.f k a0 a1).bind fun t201 => (some (t201 == 1))) else (some false)) = some r := H
 have A3 := Aside0.mk A30
 clear A30
 by_cases c4 : t200 = true
 ·subst c4
  have H1 : ((serial_gcd.f k a0 a1).bind fun t201 => (some (t201 == 1))) = some r := by rw [if_pos rfl] at H; exact H
  clear H
  have H := H1
  clear H1
  replace H := Option.bind_eq_some_iff.mp H
  obtain ⟨t201, A50, H⟩ := H
  replace H : (some (t201 == 1)) = some r := H
  have A5 := Aside0.mk A50
  clear A50
  obtain rfl := Option.some.inj H
  go_enter Try.func57, Try.ntmps57
  go_wp2_with (first | ((with_reducible refine gate_callee (f := 56) rfl ?_); refine goesL_ (some 8) rfl rfl Try.func56 (by kernel_rfl) rfl #[.int .i64 a0, .int .i64 0, .int .i64 (wrap64 (a1 - 1))] rfl (by (try simp only [List.map_toArray, List.map_cons, List.map_nil]); first | done | rfl | (simp only [List.length_drop, List.length_take]; rfl)) ?_; (with_reducible refine (serial_within.calls a0 0 (wrap64 (a1 - 1)) true _ A3.out).mono ?_); rintro e w' ⟨rfl, ⟨nd, rfl⟩⟩; refine ⟨_, rfl, ?_⟩) | (go_at_call 74; (with_reducible refine (serial_gcd.calls k a0 a1 t201 _ A5.out).mono ?_); rintro e w6 ⟨rfl, hb⟩; have n0_ := Aside0.mk (below_step (by repeat (first | (with_reducible first | exact HB.out | apply below_alloc | apply pw_below_drewN | apply below_drew1) | exact HB.out)) hb); clear HB; have HB := n0_; clear n0_; (try clear hb); (try clear hb2); (try clear hk); (try clear hi)))
  go_ret
  exact ⟨by first | rfl | (simp [errW_none, errW_some] <;> rfl) | (simp [*, errW_none, errW_some] <;> rfl), by repeat (first | (with_reducible first | exact HB.out | apply below_alloc | apply pw_below_drewN | apply below_drew1) | exact HB.out)⟩
 ·replace c4 := Bool.eq_false_iff.mpr c4
  subst c4
  have H1 : (some false) = some r := by rw [if_neg (show ¬ (false = true) by decide)] at H; exact H
  clear H
  have H := H1
  clear H1
  obtain rfl := Option.some.inj H
  go_enter Try.func57, Try.ntmps57
  go_wp2_with (first | ((with_reducible refine gate_callee (f := 56) rfl ?_); refine goesL_ (some 8) rfl rfl Try.func56 (by kernel_rfl) rfl #[.int .i64 a0, .int .i64 0, .int .i64 (wrap64 (a1 - 1))] rfl (by (try simp only [List.map_toArray, List.map_cons, List.map_nil]); first | done | rfl | (simp only [List.length_drop, List.length_take]; rfl)) ?_; (with_reducible refine (serial_within.calls a0 0 (wrap64 (a1 - 1)) false _ A3.out).mono ?_); rintro e w' ⟨rfl, ⟨nd, rfl⟩⟩; refine ⟨_, rfl, ?_⟩))
  go_ret
  exact ⟨by first | rfl | (simp [errW_none, errW_some] <;> rfl) | (simp [*, errW_none, errW_some] <;> rfl), by repeat (first | (with_reducible first | exact HB.out | apply below_alloc | apply pw_below_drewN | apply below_drew1) | exact HB.out)⟩

mutual
def serial_linear.l0 : Nat → Int → Int → Int → List (List Int) → Int → Int → Option ((List (List Int)))
 | 0, _, _, _, _, _, _ => none
 | k + 1, x0, x1, x2, x7, x11, x12 => if x12 < x11 then (serial_linear.l1 k x0 x1 x2 x7 x12 ([] : List Int) x11 x12 x0 0) else (some x7)
def serial_linear.l1 : Nat → Int → Int → Int → List (List Int) → Int → List Int → Int → Int → Int → Int → Option ((List (List Int)))
 | 0, _, _, _, _, _, _, _, _, _, _ => none
 | k + 1, x0, x1, x2, x7, x8, x9, x11, x12, x15, x16 => if x16 < x15 then (if x0 = 0 then (none) else (if x9.length < 17592186044416 then (serial_linear.l1 k x0 x1 x2 x7 x8 (x9 ++ [Int.tmod (wrap64 ((wrap64 (x1 * x8)) + (wrap64 (x2 * x16)))) x0]) x11 x12 x15 (wrap64 (x16 + 1))) else (none))) else (if x7.length < 5864062014805 then (serial_linear.l0 k x0 x1 x2 (x7 ++ [x9]) x11 (wrap64 (x12 + 1))) else (none))
end
def serial_linear.f (k : Nat) (a0 : Int) (a1 : Int) (a2 : Int) : Option ((List (List Int))) := serial_linear.l0 k a0 a1 a2 ([] : List (List Int)) a0 0
theorem serial_linear.mono_l : ∀ k, (∀ y0 y1 y2 y3 y4 y5, LeO (serial_linear.l0 k y0 y1 y2 y3 y4 y5) (serial_linear.l0 (k + 1) y0 y1 y2 y3 y4 y5)) ∧ (∀ y0 y1 y2 y3 y4 y5 y6 y7 y8 y9, LeO (serial_linear.l1 k y0 y1 y2 y3 y4 y5 y6 y7 y8 y9) (serial_linear.l1 (k + 1) y0 y1 y2 y3 y4 y5 y6 y7 y8 y9))
 | 0 => ⟨fun _ _ _ _ _ _ r h => by simp [serial_linear.l0] at h, fun _ _ _ _ _ _ _ _ _ _ r h => by simp [serial_linear.l1] at h⟩
 | k + 1 => by
  obtain ⟨ih0, ih1⟩ := serial_linear.mono_l k
  refine ⟨?_, ?_⟩
  ·intro y0 y1 y2 y3 y4 y5
   unfold serial_linear.l0
   repeat' first
   | (with_reducible exact ih0 _ _ _ _ _ _)
   | (with_reducible exact ih1 _ _ _ _ _ _ _ _ _ _)
   | (with_reducible exact LeO.refl _)
   | (with_reducible exact LeO.none _)
   | (with_reducible refine LeO.ite ?_ ?_)
   | (with_reducible refine LeO.bind ?_ (fun _ => ?_))
   | exact ih0 _ _ _ _ _ _
   | exact ih1 _ _ _ _ _ _ _ _ _ _
   | exact LeO.none _
   | refine LeO.ite ?_ ?_
   | refine LeO.bind ?_ (fun _ => ?_)
  ·intro y0 y1 y2 y3 y4 y5 y6 y7 y8 y9
   unfold serial_linear.l1
   repeat' first
   | (with_reducible exact ih0 _ _ _ _ _ _)
   | (with_reducible exact ih1 _ _ _ _ _ _ _ _ _ _)
   | (with_reducible exact LeO.refl _)
   | (with_reducible exact LeO.none _)
   | (with_reducible refine LeO.ite ?_ ?_)
   | (with_reducible refine LeO.bind ?_ (fun _ => ?_))
   | exact ih0 _ _ _ _ _ _
   | exact ih1 _ _ _ _ _ _ _ _ _ _
   | exact LeO.none _
   | refine LeO.ite ?_ ?_
   | refine LeO.bind ?_ (fun _ => ?_)
theorem serial_linear.mono : ∀ a0 a1 a2 k, LeO (serial_linear.f k a0 a1 a2) (serial_linear.f (k + 1) a0 a1 a2) := by
 intro a0 a1 a2 k
 obtain ⟨ih0, ih1⟩ := serial_linear.mono_l k
 unfold serial_linear.f
 repeat' first
   | (with_reducible exact ih0 _ _ _ _ _ _)
   | (with_reducible exact ih1 _ _ _ _ _ _ _ _ _ _)
   | (with_reducible exact LeO.refl _)
   | (with_reducible exact LeO.none _)
   | (with_reducible refine LeO.ite ?_ ?_)
   | (with_reducible refine LeO.bind ?_ (fun _ => ?_))
   | exact ih0 _ _ _ _ _ _
   | exact ih1 _ _ _ _ _ _ _ _ _ _
   | exact LeO.none _
   | refine LeO.ite ?_ ?_
   | refine LeO.bind ?_ (fun _ => ?_)
set_option maxHeartbeats 8000000 in
set_option maxRecDepth 100000 in
theorem serial_linear.calls (k : Nat) (a0 : Int) (a1 : Int) (a2 : Int) (r : List (List Int)) (w : World) (h : serial_linear.f k a0 a1 a2 = some r) :
  Calls Try.prog 58 #[.int .i64 a0, .int .i64 a1, .int .i64 a2] w fun e w' => ∃ v0_ : Value, e = .returned (v0_) ∧ Kd.S (Kd.slice 3 (Kd.int .i64)) 23 w' w.heap.size (fun _ => True) v0_ r ∧ Below w.heap.size w w' := by
 have HB := Aside0.mk (Below.refl w.heap.size w)
 have H : (serial_linear.l0 k a0 a1 a2 ([] : List (List Int)) a0 0) = some r := h
 clear h
 have H' := Aside0.mk H
 clear H
 go_enter Try.func58, Try.ntmps58
 go_wp2
 go_loopg [7, 12] k (fun kq v7 v12 w' => ∃ (x7_1 : List (List Int)) (x12_1 : Int), v12 = .int .i64 x12_1 ∧ Aside0 (serial_linear.l0 kq a0 a1 a2 x7_1 a0 x12_1 = some r) ∧ Aside0 (kq ≤ k) ∧ Aside0 (Kd.S (Kd.slice 3 (Kd.int .i64)) 23 w' w.heap.size (fun _ => True) v7 x7_1) ∧ Aside0 (Below w.heap.size w w'))
 case atStart => exact ⟨(([] : List (List Int))), (0), (by first | rfl | (simp; done) | (simp [*]; done)), H', ⟨Nat.le_refl _⟩, ⟨by first | exact Kd.S_nil _ _ _ _ _ | exact Kd.N_nil _ _ _ _ _ | exact Kd.V_nil _ _ _ _ _ | exact Kd.Q_nil _ _ _ _ _ | exact Kd.R_nil _ _ _ _ _⟩, ⟨by repeat (first | (with_reducible first | exact HB.out | apply below_alloc | apply pw_below_drewN | apply below_drew1) | exact HB.out)⟩⟩
 case round =>
  clear H'
  try clear p2
  obtain ⟨x7_1, x12_1, rfl, HA, HK1, HO_7, HB⟩ := hrel
  cases gk with
  | zero => exact absurd HA.out (by simp [serial_linear.l0])
  | succ k1 =>
   have H := HA.out
   clear HA
   simp only [serial_linear.l0] at H
   by_cases c4 : x12_1 < a0
   ·rw [if_pos c4] at H
    have c4b0 : decide (x12_1 < a0) = true := decide_eq_true c4
    clear c4
    have H' := Aside0.mk H
    clear H
    go_wp2
    go_loopg [9, 16] k1 (fun kq v9 v16 w' => ∃ (x9_2 : List Int) (x16_2 : Int), v16 = .int .i64 x16_2 ∧ Aside0 (serial_linear.l1 kq a0 a1 a2 x7_1 x12_1 x9_2 a0 x12_1 a0 x16_2 = some r) ∧ Aside0 (kq ≤ k1) ∧ Aside0 (Kd.S (Kd.slice 3 (Kd.int .i64)) 23 w' w.heap.size (fun k_ => some k_ ≠ (v9 : Value).ownBlock) u7 x7_1) ∧ Aside0 (Kd.R (Kd.int .i64) 3 w' w.heap.size (fun _ => True) v9 x9_2) ∧ Aside0 (Below w.heap.size w w'))
    case atStart => exact ⟨(([] : List Int)), (0), (by first | rfl | (simp; done) | (simp [*]; done)), H', ⟨Nat.le_refl _⟩, ⟨by (with_reducible repeat (first | apply Kd.S_alloc | apply Kd.S_drewN | apply Kd.S_drew)); exact Kd.S_mono HO_7.out (fun _ hk => (by simp [Value.ownBlock]))⟩, ⟨by first | exact Kd.R_nil _ _ _ _ _ | exact Kd.N_nil _ _ _ _ _ | exact Kd.V_nil _ _ _ _ _ | exact Kd.Q_nil _ _ _ _ _ | exact Kd.S_nil _ _ _ _ _⟩, ⟨by repeat (first | (with_reducible first | exact HB.out | apply below_alloc | apply pw_below_drewN | apply below_drew1) | exact HB.out)⟩⟩
    case round =>
     clear H'
     try clear p2
     try clear c4
     try clear c4b0
     try clear p2
     obtain ⟨x9_2, x16_2, rfl, HA, HK2, HO_7, HO_9, HB⟩ := hrel
     cases gk with
     | zero => exact absurd HA.out (by simp [serial_linear.l1])
     | succ k2 =>
      have H := HA.out
      clear HA
      simp only [serial_linear.l1] at H
      by_cases c5 : x16_2 < a0
      ·rw [if_pos c5] at H
       have c5b0 : decide (x16_2 < a0) = true := decide_eq_true c5
       clear c5
       by_cases c6 : a0 = 0
       ·rw [if_pos c6] at H
        exact absurd H (by simp)
       ·rw [if_neg c6] at H
        have c6b0 : (a0 == 0) = false := beq_eq_false_iff_ne.mpr c6
        have c6b1 : (a0 != 0) = true := bne_iff_ne.mpr c6
        by_cases c7 : x9_2.length < 17592186044416
        ·rw [if_pos c7] at H
         have LMc7 := Aside0.mk c7
         clear c7
         obtain ⟨y202, hy202⟩ : ∃ y_ : List Int, y_ = (x9_2 ++ [Int.tmod (wrap64 ((wrap64 (a1 * x12_1)) + (wrap64 (a2 * x16_2)))) a0]) := ⟨_, rfl⟩
         replace H : (serial_linear.l1 k2 a0 a1 a2 x7_1 x12_1 y202 a0 x12_1 a0 (wrap64 (x16_2 + 1))) = some r := by first | (rw [hy202]; with_reducible exact H) | (have H2_ := (Option.bind_some _ _).symm.trans H; rw [hy202]; with_reducible exact H2_) | (have H2_ := (Option.bind_some _ _).symm.trans H; with_reducible exact H2_) | with_reducible exact H | (rw [hy202]; exact H) | exact H
         have Ny202 := Aside0.mk hy202
         clear hy202
         have H' := Aside0.mk H
         clear H
         go_wp2_with (first | ((with_reducible refine gate_builtin (b := .append) (xs := #[.tmp 19, .tmp 29]) rfl ?_); at_builtin; refine Kd.R_append (Kd.int .i64) (w0 := w) w.heap.size rfl (.tmp 19) (.tmp 29) 23 3 (.int .i64 0) 8 rfl Try.underlying23 info3 rfl (by decide) (by omega) u9 x9_2 (Int.tmod (wrap64 ((wrap64 (a1 * x12_1)) + (wrap64 (a2 * x16_2)))) a0) [.int .i64 (Int.tmod (wrap64 ((wrap64 (a1 * x12_1)) + (wrap64 (a2 * x16_2)))) a0)] (fun _ => True) (fun _ => False) rfl rfl ?aP (fun _ hk => hk.elim) ?aF ?aO ?aB ?aS ?aL ?_; (case aP => exact rfl); (case aB => exact (by repeat (first | (with_reducible first | exact HB.out | apply below_alloc | apply pw_below_drewN | apply below_drew1) | exact HB.out))); (case aF => exact (fun _ _ => trivial)); (case aO => exact (by (with_reducible repeat (first | apply Kd.R_alloc | apply Kd.R_drewN | apply Kd.R_drew)); exact HO_9.out)); (case aS => exact (below_size (by repeat (first | (with_reducible first | exact HB.out | apply below_alloc | apply pw_below_drewN | apply below_drew1) | exact HB.out)))); (case aL => have := LMc7.out; omega); intro v203 w8 ho hb hg hat; rw [← Ny202.out] at ho; have n0_ := Aside0.mk (Kd.S_after (ok := (fun _ => True)) (by (with_reducible repeat (first | apply Kd.S_alloc | apply Kd.S_drewN | apply Kd.S_drew)); exact Kd.S_mono HO_7.out (fun _ hk => ⟨trivial, hk⟩)) hg hat); have n1_ := Aside0.mk (hb); have n2_ := Aside0.mk (ho); clear HO_7; clear HB; clear HO_9; have HO_7 := n0_; have HB := n1_; have HO204 := n2_; clear n0_ n1_ n2_; clear ho hb hg hat))
         go_roundg k2
         case measure => have := HK1.out; have := HK2.out; omega
         case rel => exact ⟨(y202), (wrap64 (x16_2 + 1)), (by first | rfl | (simp; done) | (simp [*]; done)), H', ⟨by have := HK1.out; have := HK2.out; omega⟩, ⟨by (with_reducible repeat (first | apply Kd.S_alloc | apply Kd.S_drewN | apply Kd.S_drew)); exact Kd.S_mono HO_7.out (fun _ hk => hk.2)⟩, ⟨by (with_reducible repeat (first | apply Kd.R_alloc | apply Kd.R_drewN | apply Kd.R_drew)); exact HO204.out⟩, ⟨by repeat (first | (with_reducible first | exact HB.out | apply below_alloc | apply pw_below_drewN | apply below_drew1) | exact HB.out)⟩⟩
        ·rw [if_neg c7] at H
         exact absurd H (by simp)
      ·rw [if_neg c5] at H
       have c5b0 : decide (x16_2 < a0) = false := decide_eq_false c5
       clear c5
       by_cases c9 : x7_1.length < 5864062014805
       ·rw [if_pos c9] at H
        have LMc9 := Aside0.mk c9
        clear c9
        obtain ⟨y205, hy205⟩ : ∃ y_ : List (List Int), y_ = (x7_1 ++ [x9_2]) := ⟨_, rfl⟩
        replace H : (serial_linear.l0 k2 a0 a1 a2 y205 a0 (wrap64 (x12_1 + 1))) = some r := by first | (rw [hy205]; with_reducible exact H) | (have H2_ := (Option.bind_some _ _).symm.trans H; rw [hy205]; with_reducible exact H2_) | (have H2_ := (Option.bind_some _ _).symm.trans H; with_reducible exact H2_) | with_reducible exact H | (rw [hy205]; exact H) | exact H
        have Ny205 := Aside0.mk hy205
        clear hy205
        have H' := Aside0.mk H
        clear H
        obtain ⟨Ao11, co11, eo11⟩ := Kd.R_slice HO_9.out
        subst eo11
        go_wp2_with (first | ((with_reducible refine gate_builtin (b := .append) (xs := #[.tmp 32, .tmp 34]) rfl ?_); at_builtin; refine Kd.S_append (Kd.slice 3 (Kd.int .i64)) (w0 := w) w.heap.size rfl (.tmp 32) (.tmp 34) 81 23 (.slice none 0 0) 24 rfl Try.underlying81 info23 rfl (by decide) (by omega) u7 x7_1 x9_2 [.slice Ao11 x9_2.length co11] (fun _ => True) (fun k_ => some k_ = (.slice Ao11 x9_2.length co11 : Value).ownBlock) rfl rfl ?aP (fun k_ hk_ => ((Kd.R_mono (ok' := fun k_ => ((fun _ => True)) k_ ∧ some k_ ≠ (u7 : Value).ownBlock) (Kd.R_apart' (HO_9.out) (Kd.S_typed HO_7.out) (by decide)) (fun k_ hk => ⟨trivial, hk.2⟩))).1 k_ hk_.symm) ?aF ?aO ?aB ?aS ?aL ?_; (case aP => exact Kd.M_row (Kd.R_mono (Kd.R_tight rfl (Kd.R_mono (ok' := fun k_ => ((fun _ => True)) k_ ∧ some k_ ≠ (u7 : Value).ownBlock) (Kd.R_apart' (HO_9.out) (Kd.S_typed HO_7.out) (by decide)) (fun k_ hk => ⟨trivial, hk.2⟩))) (fun _ h_ => h_))); (case aB => exact (by repeat (first | (with_reducible first | exact HB.out | apply below_alloc | apply pw_below_drewN | apply below_drew1) | exact HB.out))); (case aF => exact (fun _ _ => trivial)); (case aO => exact (by (with_reducible repeat (first | apply Kd.S_alloc | apply Kd.S_drewN | apply Kd.S_drew)); exact Kd.S_mono HO_7.out (fun k_ hk => ⟨trivial, fun e_ => hk e_⟩))); (case aS => exact (below_size (by repeat (first | (with_reducible first | exact HB.out | apply below_alloc | apply pw_below_drewN | apply below_drew1) | exact HB.out)))); (case aL => have := LMc9.out; omega); intro v206 w10 ho hb hg hat; rw [← Ny205.out] at ho; have n0_ := Aside0.mk (hb); have n1_ := Aside0.mk (ho); clear HB; clear HO_7; clear HO_9; have HB := n0_; have HO207 := n1_; clear n0_ n1_; clear ho hb hg hat))
        go_roundg k2
        case measure => have := HK1.out; have := HK2.out; omega
        case rel => exact ⟨(y205), (wrap64 (x12_1 + 1)), (by first | rfl | (simp; done) | (simp [*]; done)), H', ⟨by have := HK1.out; have := HK2.out; omega⟩, ⟨by (with_reducible repeat (first | apply Kd.S_alloc | apply Kd.S_drewN | apply Kd.S_drew)); exact HO207.out⟩, ⟨by repeat (first | (with_reducible first | exact HB.out | apply below_alloc | apply pw_below_drewN | apply below_drew1) | exact HB.out)⟩⟩
       ·rw [if_neg c9] at H
        exact absurd H (by simp)
   ·rw [if_neg c4] at H
    have c4b0 : decide (x12_1 < a0) = false := decide_eq_false c4
    clear c4
    obtain rfl := Option.some.inj H
    go_wp2
    go_ret
    exact ⟨_, by first | rfl | (simp [errW_none, errW_some] <;> rfl) | (simp [*, errW_none, errW_some] <;> rfl), by (with_reducible repeat (first | apply Kd.S_alloc | apply Kd.S_drewN | apply Kd.S_drew)); exact HO_7.out, by repeat (first | (with_reducible first | exact HB.out | apply below_alloc | apply pw_below_drewN | apply below_drew1) | exact HB.out)⟩

def tickinglaw11_ints.l0 : Nat → List Int → List Int → Int → Option (Bool)
 | 0, _, _, _ => none
 | k + 1, x0, x1, x5 => if x5 < (x0.length : Int) then (if 0 ≤ x5 then (if x5 < (x1.length : Int) then (if (rd x0 x5) = (rd x1 x5) then (tickinglaw11_ints.l0 k x0 x1 (wrap64 (x5 + 1))) else (some false)) else (none)) else (none)) else (some true)
def tickinglaw11_ints.f (k : Nat) (l0 : List Int) (l1 : List Int) : Option (Bool) := if (l0.length : Int) = (l1.length : Int) then (tickinglaw11_ints.l0 k l0 l1 0) else (some false)
theorem tickinglaw11_ints.mono_l : ∀ k, (∀ y0 y1 y2, LeO (tickinglaw11_ints.l0 k y0 y1 y2) (tickinglaw11_ints.l0 (k + 1) y0 y1 y2))
 | 0 => fun _ _ _ r h => by simp [tickinglaw11_ints.l0] at h
 | k + 1 => by
  have ih0 := tickinglaw11_ints.mono_l k
  ·intro y0 y1 y2
   unfold tickinglaw11_ints.l0
   repeat' first
   | (with_reducible exact ih0 _ _ _)
   | (with_reducible exact LeO.refl _)
   | (with_reducible exact LeO.none _)
   | (with_reducible refine LeO.ite ?_ ?_)
   | (with_reducible refine LeO.bind ?_ (fun _ => ?_))
   | exact ih0 _ _ _
   | exact LeO.none _
   | refine LeO.ite ?_ ?_
   | refine LeO.bind ?_ (fun _ => ?_)
theorem tickinglaw11_ints.mono : ∀ a0 a1 k, LeO (tickinglaw11_ints.f k a0 a1) (tickinglaw11_ints.f (k + 1) a0 a1) := by
 intro a0 a1 k
 have ih0 := tickinglaw11_ints.mono_l k
 unfold tickinglaw11_ints.f
 repeat' first
   | (with_reducible exact ih0 _ _ _)
   | (with_reducible exact LeO.refl _)
   | (with_reducible exact LeO.none _)
   | (with_reducible refine LeO.ite ?_ ?_)
   | (with_reducible refine LeO.bind ?_ (fun _ => ?_))
   | exact ih0 _ _ _
   | exact LeO.none _
   | refine LeO.ite ?_ ?_
   | refine LeO.bind ?_ (fun _ => ?_)
set_option maxHeartbeats 8000000 in
set_option maxRecDepth 100000 in
theorem tickinglaw11_ints.calls (k : Nat) (A0 : Option Addr) (c0 : Nat) (l0 : List Int) (A1 : Option Addr) (c1 : Nat) (l1 : List Int) (r : Bool) (w : World) (hr0 : Kd.C (Kd.int .i64) w A0 l0.length l0) (hc0 : l0.length ≤ c0) (hr1 : Kd.C (Kd.int .i64) w A1 l1.length l1) (hc1 : l1.length ≤ c1) (h : tickinglaw11_ints.f k l0 l1 = some r) :
  Calls Try.prog 28 #[.slice A0 l0.length c0, .slice A1 l1.length c1] w fun e w' => e = .returned (.bool r) ∧ Drawn0 w w' := by
 have HR0 := Aside0.mk hr0
 have HC0 := Aside0.mk hc0
 clear hr0 hc0
 have HR1 := Aside0.mk hr1
 have HC1 := Aside0.mk hc1
 clear hr1 hc1
 have H : (if (l0.length : Int) = (l1.length : Int) then (tickinglaw11_ints.l0 k l0 l1 0) else (some false)) = some r := h
 clear h
 by_cases c3 : (l0.length : Int) = (l1.length : Int)
 ·rw [if_pos c3] at H
  have c3b0 : ((l0.length : Int) == (l1.length : Int)) = true := beq_iff_eq.mpr c3
  have c3b1 : ((l0.length : Int) != (l1.length : Int)) = false := bne_eq_false_iff_eq.mpr c3
  have c3b2 : (l0.length == l1.length) = true := by first | simpa using c3 | (simp at c3 ⊢; omega)
  clear c3
  have H' := Aside0.mk H
  clear H
  go_enter Try.func28, Try.ntmps28
  go_wp2
  repeat (go_quiet (fail); try go_wp2)
  go_loopg [5] k (fun kq v5 w' => ∃ (x5_1 : Int), v5 = .int .i64 x5_1 ∧ Aside0 (tickinglaw11_ints.l0 kq l0 l1 x5_1 = some r) ∧ Aside0 (kq ≤ k) ∧ Drawn0 w w')
  case atStart => exact ⟨(0), (by first | rfl | (simp; done) | (simp [*]; done)), H', ⟨Nat.le_refl _⟩, by repeat (first | exact Drawn0.refl _ | apply Drawn0.step)⟩
  case round =>
   clear H'
   try clear c1
   try clear c2
   try clear p2
   try clear c3
   try clear c3b0
   try clear c3b1
   try clear c3b2
   obtain ⟨x5_1, rfl, HA, HK1, ⟨m1, rfl⟩⟩ := hrel
   cases gk with
   | zero => exact absurd HA.out (by simp [tickinglaw11_ints.l0])
   | succ k1 =>
    have H := HA.out
    clear HA
    simp only [tickinglaw11_ints.l0] at H
    by_cases c4 : x5_1 < (l0.length : Int)
    ·rw [if_pos c4] at H
     have c4b0 : decide (x5_1 < (l0.length : Int)) = true := decide_eq_true c4
     clear c4
     by_cases c5 : 0 ≤ x5_1
     ·rw [if_pos c5] at H
      have c5b0 : decide (0 ≤ x5_1) = true := decide_eq_true c5
      clear c5
      by_cases c6 : x5_1 < (l1.length : Int)
      ·rw [if_pos c6] at H
       have c6b0 : decide (x5_1 < (l1.length : Int)) = true := decide_eq_true c6
       clear c6
       by_cases c7 : (rd l0 x5_1) = (rd l1 x5_1)
       ·rw [if_pos c7] at H
        have c7b0 : ((rd l0 x5_1) == (rd l1 x5_1)) = true := beq_iff_eq.mpr c7
        have c7b1 : ((rd l0 x5_1) != (rd l1 x5_1)) = false := bne_eq_false_iff_eq.mpr c7
        clear c7
        have H' := Aside0.mk H
        clear H
        have p228 : 0 ≤ (x5_1 : Int) := of_decide_eq_true (by first | (with_reducible assumption) | assumption)
        have q228 : x5_1 < (l0.length : Int) := of_decide_eq_true (by first | (with_reducible assumption) | assumption)
        obtain ⟨ad228, e228, hx228_0⟩ := Kd.at_int HR0.out x5_1 p228 q228
        cases e228
        replace p228 := eq_true p228
        replace q228 := eq_true q228
        have p229 : 0 ≤ (x5_1 : Int) := of_decide_eq_true (by first | (with_reducible assumption) | assumption)
        have q229 : x5_1 < (l1.length : Int) := of_decide_eq_true (by first | (with_reducible assumption) | assumption)
        obtain ⟨ad229, e229, hx229_0⟩ := Kd.at_int HR1.out x5_1 p229 q229
        cases e229
        replace p229 := eq_true p229
        replace q229 := eq_true q229
        go_wp2
        repeat (go_quiet (fail); try go_wp2)
        go_roundg k1
        case measure => have := HK1.out; omega
        case rel => exact ⟨(wrap64 (x5_1 + 1)), (by first | rfl | (simp; done) | (simp [*]; done)), H', ⟨by have := HK1.out; omega⟩, by repeat (first | exact Drawn0.refl _ | apply Drawn0.step)⟩
       ·rw [if_neg c7] at H
        have c7b0 : ((rd l0 x5_1) == (rd l1 x5_1)) = false := beq_eq_false_iff_ne.mpr c7
        have c7b1 : ((rd l0 x5_1) != (rd l1 x5_1)) = true := bne_iff_ne.mpr c7
        obtain rfl := Option.some.inj H
        have p228 : 0 ≤ (x5_1 : Int) := of_decide_eq_true (by first | (with_reducible assumption) | assumption)
        have q228 : x5_1 < (l0.length : Int) := of_decide_eq_true (by first | (with_reducible assumption) | assumption)
        obtain ⟨ad228, e228, hx228_0⟩ := Kd.at_int HR0.out x5_1 p228 q228
        cases e228
        replace p228 := eq_true p228
        replace q228 := eq_true q228
        have p229 : 0 ≤ (x5_1 : Int) := of_decide_eq_true (by first | (with_reducible assumption) | assumption)
        have q229 : x5_1 < (l1.length : Int) := of_decide_eq_true (by first | (with_reducible assumption) | assumption)
        obtain ⟨ad229, e229, hx229_0⟩ := Kd.at_int HR1.out x5_1 p229 q229
        cases e229
        replace p229 := eq_true p229
        replace q229 := eq_true q229
        go_wp2
        repeat (go_quiet (fail); try go_wp2)
        go_ret
        exact ⟨by first | rfl | (simp; done) | (simp [*]; done), by repeat (first | exact Drawn0.refl _ | apply Drawn0.step)⟩
      ·rw [if_neg c6] at H
       exact absurd H (by simp)
     ·rw [if_neg c5] at H
      exact absurd H (by simp)
    ·rw [if_neg c4] at H
     have c4b0 : decide (x5_1 < (l0.length : Int)) = false := decide_eq_false c4
     clear c4
     obtain rfl := Option.some.inj H
     go_wp2
     repeat (go_quiet (fail); try go_wp2)
     go_ret
     exact ⟨by first | rfl | (simp; done) | (simp [*]; done), by repeat (first | exact Drawn0.refl _ | apply Drawn0.step)⟩
 ·rw [if_neg c3] at H
  have c3b0 : ((l0.length : Int) == (l1.length : Int)) = false := beq_eq_false_iff_ne.mpr c3
  have c3b1 : ((l0.length : Int) != (l1.length : Int)) = true := bne_iff_ne.mpr c3
  have c3b2 : (l0.length == l1.length) = false := by first | simpa using c3 | (simp at c3 ⊢; omega)
  obtain rfl := Option.some.inj H
  go_enter Try.func28, Try.ntmps28
  go_wp2
  repeat (go_quiet (fail); try go_wp2)
  go_ret
  exact ⟨by first | rfl | (simp; done) | (simp [*]; done), by repeat (first | exact Drawn0.refl _ | apply Drawn0.step)⟩

end Go.Proofs.Ytdkncfmlehcjmaa.X
end
