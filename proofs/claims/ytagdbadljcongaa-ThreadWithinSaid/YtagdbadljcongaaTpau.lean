/- Texts behind ThreadWithin, part 21: contracts of the program's functions and the plain words for them. -/
import Derived.Test.YtagdbadljcongaaProg
import Derived.Below
import Derived.Deep.Draws
import Derived.Deep.AppendLies
import Derived.Maps.AppendAt
import Derived.OwnWalk
import Derived.Laws.BytesArg
import Derived.Laws.MakeOwn
import Derived.Laws.OwnMore
import Derived.Deep.OwnRows
import Derived.Tactics
import Derived.Lib.ConvBytes
import Derived.Laws.Slices
import Derived.WalkKit
import Derived.KernelRfl
import Derived.RowKit3
import Derived.Deep.LoopGhost
import Derived.Deep.QuietTactic
import Derived.BigQuiet
import Derived.WideLaws
import Derived.Deep.DeepCutAuto
import Derived.Deep.CutBlock
import Derived.Deep.RegionHeld3
import Derived.Laws.Rows
import Derived.Lib.AppendStr
import Derived.ArgAppend
import Derived.Laws.IdiomCopy
import Derived.OrdersHeld
import Derived.Laws.BitsLemmas
import Derived.RowKit
import Derived.IntWalk
import Derived.RangeFuncNested
import Derived.RangeFuncBound
import Derived.RangeFuncCalls
import Derived.RangeFuncLeaves
import Derived.Shelf.Abstract
import Derived.Shelf.RegionOpen
import Derived.OwnWalkIn
import Derived.TacticsInMore
import Derived.LoopNIn
import Derived.LoopIn
import Derived.WalkSpells
import Derived.Laws.EntriesVeiled
import Derived.Test.YtagdbadljcongaaTpaa
import Derived.Test.YtagdbadljcongaaTpab
import Derived.Test.YtagdbadljcongaaTpac
import Derived.Test.YtagdbadljcongaaTpad
import Derived.Test.YtagdbadljcongaaTpae
import Derived.Test.YtagdbadljcongaaTpaf
import Derived.Test.YtagdbadljcongaaTpah
import Derived.Test.YtagdbadljcongaaTpaj
import Derived.Test.YtagdbadljcongaaTpak
import Derived.Test.YtagdbadljcongaaTpal
import Derived.Test.YtagdbadljcongaaTpam
import Derived.Test.YtagdbadljcongaaTpao
import Derived.Test.YtagdbadljcongaaTpap
import Derived.Test.YtagdbadljcongaaTpar
import Derived.Test.YtagdbadljcongaaTpat
section
namespace Go.Proofs.Ytagdbadljcongaa.X
open Go.RowKit Go.Proofs.YtagdbadljcongaaW.PrintWords Go.Proofs.YtagdbadljcongaaW.PrintLast Go.Proofs.YtagdbadljcongaaW.PrintMore
attribute [local go_sem] max2_int min2_int max_two min_two max_three min_three max_four min_four   -- for this text's walks alone
set_option linter.unusedVariables false
set_option linter.unusedSimpArgs false



def errW : Option Int → Value
 | none => .nilIface
 | some c => .iface 0 (.int .i64 c)
theorem errW_none : errW none = .nilIface := rfl
theorem errW_some (c : Int) : errW (some c) = .iface 0 (.int .i64 c) := rfl

theorem info3 : (Try.prog.info? 3).map (fun i => (i.zero, i.size, i.bytes)) = some (some (.int .i64 0), 1, 8) := by kernel_rfl
theorem info23 : (Try.prog.info? 23).map (fun i => (i.zero, i.size, i.bytes)) = some (some (.slice none 0 0), 1, 24) := by kernel_rfl
structure S88 where
 f0 : Int
 f1 : Int
def z88 : S88 := ⟨(0 : Int), (0 : Int)⟩
def k88 : Kd S88 := Kd.iso (Kd.pair (Kd.int .i64) (Kd.int .i64)) (fun x : S88 => (x.f0, x.f1))
theorem k88_open {w : World} {x : S88} {cs : List Value} (h : k88.K w x cs) : cs = [.int .i64 x.f0, .int .i64 x.f1] := by
 obtain ⟨_, _, rfl, rfl, rfl⟩ := h
 exact rfl
theorem k88_mkM (w : World) (base : Nat) (ok : Nat → Prop) (x : S88)  : k88.M w base ok x [.int .i64 x.f0, .int .i64 x.f1] := ⟨[.int .i64 x.f0], [.int .i64 x.f1], rfl, rfl, rfl⟩
def rd_T88 (xs : List S88) (i : Int) : S88 := xs.getD i.toNat z88
theorem at_T88 {w : World} {A : Option Addr} {n : Nat} {xs : List S88} (h : Kd.C k88 w A n xs) (i : Int) (h0 : 0 ≤ i) (h1 : i < n) : ∃ ad , A = some ad ∧ w.cell? (ad.add (i.toNat * 2)) = some (.int .i64 (rd_T88 xs i).f0) ∧ w.cell? ⟨(ad.add (i.toNat * 2)).block, (ad.add (i.toNat * 2)).off + 1, none⟩ = some (.int .i64 (rd_T88 xs i).f1) := by
 obtain ⟨ad, c, e, _, hK, hc0⟩ := Kd.C_get h z88 i h0 h1
 have hc : ∀ j u, c[j]? = some u → w.cell? (ad.add (i.toNat * 2 + j)) = some u := hc0
 obtain rfl := k88_open hK
 exact ⟨ad, e, hc 0 _ rfl, by rw [← add_field _ _ 1 (by omega)]; exact hc 1 _ rfl⟩

def rd_L4 (xs : List (List Int)) (i : Int) : (List Int) := xs.getD i.toNat ([] : List Int)
theorem at_L4 {w : World} {A : Option Addr} {n : Nat} {xs : List (List Int)} (h : Kd.C (Kd.slice 3 (Kd.int .i64)) w A n xs) (i : Int) (h0 : 0 ≤ i) (h1 : i < n) : ∃ ad A0 c0, A = some ad ∧ w.cell? (ad.add i.toNat) = some (.slice A0 (rd_L4 xs i).length c0) ∧ (rd_L4 xs i).length ≤ c0 ∧ (Kd.int .i64).C w A0 (rd_L4 xs i).length (rd_L4 xs i) := by
 obtain ⟨ad, c, e, _, hK, hc0⟩ := Kd.C_get h ([] : List Int) i h0 h1
 have hc : ∀ j u, c[j]? = some u → w.cell? (ad.add (i.toNat * 1 + j)) = some u := hc0
 obtain ⟨A0, c0, rfl, l0, g0⟩ := hK
 exact ⟨ad, A0, c0, e, by have hq := hc 0 _ rfl; rwa [Nat.mul_one, Nat.add_zero] at hq, l0, g0⟩

structure S75 where
 f0 : Int
 f1 : Int
 f2 : Int
 f3 : Int
end Go.Proofs.Ytagdbadljcongaa.X
end

section
namespace Go.Proofs.Ytagdbadljcongaa.X
open Go.RowKit Go.Proofs.YtagdbadljcongaaW.PrintWords Go.Proofs.YtagdbadljcongaaW.PrintLast Go.Proofs.YtagdbadljcongaaW.PrintMore
attribute [local go_sem] max2_int min2_int max_two min_two max_three min_three max_four min_four   -- for this text's walks alone
set_option linter.unusedVariables false
set_option linter.unusedSimpArgs false

def thread_within.f (a0 : Int) (a1 : Int) (a2 : Int) : Option (Bool) := if a0 ≥ a1 then (some (decide (a0 ≤ a2))) else (some false)
set_option maxHeartbeats 8000000 in
set_option maxRecDepth 100000 in
theorem thread_within.calls (a0 : Int) (a1 : Int) (a2 : Int) (r : Bool) (w : World) (h : thread_within.f a0 a1 a2 = some r) :
  Calls Try.prog 49 #[.int .i64 a0, .int .i64 a1, .int .i64 a2] w fun e w' => e = .returned (.bool r) ∧ Drawn0 w w' := by
 have H : (if a0 ≥ a1 then (some (decide (a0 ≤ a2))) else (some false)) = some r := h
 clear h
 by_cases c4 : a0 ≥ a1
 ·rw [if_pos c4] at H
  have c4b0 : decide (a1 ≤ a0) = true := decide_eq_true c4
  clear c4
  obtain rfl := Option.some.inj H
  go_enter Try.func49, Try.ntmps49
  go_wp2
  go_ret
  exact ⟨by first | rfl | (simp; done) | (simp [*]; done), by repeat (first | exact Drawn0.refl _ | apply Drawn0.step)⟩
 ·rw [if_neg c4] at H
  have c4b0 : decide (a1 ≤ a0) = false := decide_eq_false c4
  clear c4
  obtain rfl := Option.some.inj H
  go_enter Try.func49, Try.ntmps49
  go_wp2
  go_ret
  exact ⟨by first | rfl | (simp; done) | (simp [*]; done), by repeat (first | exact Drawn0.refl _ | apply Drawn0.step)⟩

end Go.Proofs.Ytagdbadljcongaa.X
end

section
/- thread.newWord and after: a word's block: its text, and where the next letters are. -/
set_option linter.unusedVariables false
set_option linter.unusedSimpArgs false
namespace Go.Proofs.Ytagdbadljcongaa.X
open Go.RowKit Go.Proofs.YtagdbadljcongaaW.PrintWords Go.Proofs.YtagdbadljcongaaW.PrintLast Go.Proofs.YtagdbadljcongaaW.PrintMore
/-- A word's cells. -/
def wcells (s : ByteArray) (f : Nat → Int) : Array Value := (Value.string s :: (List.range 244).map fun j => Value.int .i64 (f j)).toArray
/-- Block b of w holds the word s. -/
structure WordAt (w : World) (b : Nat) (s : ByteArray) : Prop where
  ex : ∃ f, w.heap[b]? = some (.cells (wcells s f) 78 (0, 0)) ∧ ∀ i c, i ≤ s.size → c < 4 → f (i * 4 + c) = (nx (bl s) i (97 + c) : Int)
theorem wcells_at (s : ByteArray) (f : Nat → Int) (j : Nat) (h : j < 244) : (wcells s f)[1 + j]? = some (.int .i64 (f j)) := by
  simp [wcells, Nat.add_comm 1 j, h]
theorem WordAt.below {w w' : World} {b : Nat} {s : ByteArray} (h : WordAt w b s) (hb : Below w.heap.size w w') : WordAt w' b s := by
  obtain ⟨f, h1, h2⟩ := h.ex
  exact ⟨⟨f, blk_below h1 hb, h2⟩⟩
theorem WordAt.text {w : World} {b : Nat} {s : ByteArray} (h : WordAt w b s) : w.cell? ⟨b, 0, none⟩ = some (.string s) := by
  obtain ⟨f, h1, h2⟩ := h.ex
  exact (blk_cell h1 0).trans rfl
theorem WordAt.cell {w : World} {b : Nat} {s : ByteArray} (h : WordAt w b s) (hs : s.size ≤ 60) {i c : Nat} (hi : i ≤ s.size) (hc : c < 4) : w.cell? ⟨b, 1 + i * 4 + c, none⟩ = some (.int .i64 (nx (bl s) i (97 + c) : Int)) := by
  obtain ⟨f, h1, h2⟩ := h.ex
  rw [← h2 i c hi hc, blk_cell h1, Nat.add_assoc]
  exact wcells_at s f _ (by omega)
set_option maxHeartbeats 2000000 in
set_option maxRecDepth 100000 in
theorem after_any (w : World) (b : Nat) (s : ByteArray) (hw : WordAt w b s) (hs : s.size ≤ 60) (i c : Nat) (hi : i ≤ s.size) (hc : c < 4) :
    Calls Try.prog 57 #[.pointer (some ⟨b, 0, none⟩), .int .i64 i, .int .i64 c] w fun e w' => e = .returned (.tuple #[.int .i64 (nx (bl s) i (97 + c) + 1 : Int), .bool (decide (nx (bl s) i (97 + c) < s.size))]) ∧ Drawn0 w w' := by
  have h1 := hw.text
  have h2 := hw.cell hs hi hc
  have h3 := nx_le (bl s) i (97 + c) (by rw [bl_length]; exact hi)
  rw [bl_length] at h3
  generalize nx (bl s) i (97 + c) = q at h2 h3 ⊢
  have a1 : (0 : Int) ≤ (i : Int) := by omega
  have a2 : (i : Int) < 61 := by omega
  have a3 : (0 : Int) ≤ (c : Int) := by omega
  have a4 : (c : Int) < 4 := by omega
  have a5 : (q : Int) ≤ 60 := by omega
  have a6 : (s.size : Int) ≤ 60 := by omega
  clear hw hs hi hc h3
  go_enter Try.func57, Try.ntmps57
  go_wp2
  go_quiet (fail)
  go_wp2
  go_ret2
  exact ⟨rfl, ⟨⟨_, rfl⟩⟩⟩
theorem build78 (s : ByteArray) (W : World) : (Instr.build 78 #[(0, .string s)]).run Try.prog W = .ok (.agg (wcells s fun _ => 0)) W := by kernel_rfl
theorem box78 (s : ByteArray) (W : World) : (Instr.box 78 (.agg (wcells s fun _ => 0))).run Try.prog W = .ok (.pointer (some ⟨W.heap.size, 0, none⟩)) (W.alloc (.cells (wcells s fun _ => 0) 78)) := by kernel_rfl
def upd (f : Nat → Int) (j : Nat) (v : Int) : Nat → Int := fun k => if k = j then v else f k
theorem wcells_set (s : ByteArray) (f : Nat → Int) (j : Nat) (v : Int) (h : j < 244) : (wcells s f).setIfInBounds (1 + j) (.int .i64 v) = wcells s (upd f j v) := by
  apply Array.ext_getElem?
  intro i
  rw [Array.getElem?_setIfInBounds]
  have hsz : (wcells s f).size = 245 := by simp [wcells]
  by_cases e : 1 + j = i
  · subst e
    rw [if_pos rfl, if_pos (by omega), wcells_at s _ j h]
    simp [upd]
  · rw [if_neg e]
    rcases i with _ | i
    · simp [wcells]
    · by_cases hi : i < 244
      · rw [Nat.add_comm i 1, wcells_at s f i hi, wcells_at s _ i hi]
        simp [upd, show i ≠ j by omega]
      · simp [wcells, hi]
/-- The world behind a store into the table. -/
theorem wset {w : World} {b : Nat} {s : ByteArray} {f : Nat → Int} (h : w.heap[b]? = some (.cells (wcells s f) 78 (0, 0))) (j : Nat) (v : Int) (hj : j < 244) :
    (w.setCell ⟨b, 1 + j, none⟩ (.int .i64 v)).heap[b]? = some (.cells (wcells s (upd f j v)) 78 (0, 0)) := by
  rw [← wcells_set s f j v hj]; exact blk_set h (1 + j) (.int .i64 v)
def NWPost (s : ByteArray) (w : World) (e : Ending) (w' : World) : Prop :=
  if isW (bl s) = true then e = .returned (.tuple #[.pointer (some ⟨w.heap.size, 0, none⟩), .bool true]) ∧ WordAt w' w.heap.size s ∧ Below w.heap.size w w'
  else e = .returned (.tuple #[.pointer none, .bool false]) ∧ Below w.heap.size w w'
set_option maxHeartbeats 2000000 in
set_option maxRecDepth 100000 in
theorem newWord_big (s : ByteArray) (w : World) (h : 60 < s.size) : Calls Try.prog 48 #[.string s] w (NWPost s w) := by
  have hf : isW (bl s) = false := by simp [isW, bl_length]; omega
  have h1 : ((60 : Int) < (s.size : Int)) = True := eq_true (by omega)
  have HF := Aside0.mk (show NWPost s w (.returned (.tuple #[.pointer none, .bool false])) w by unfold NWPost; rw [hf]; exact ⟨rfl, Below.refl _ _⟩)
  clear hf h
  go_enter Try.func48, Try.ntmps48
  go_wp2
  go_ret2
  exact HF.out
/-- The table is filled from row i on; in row i the first k letters' places are the length. -/
def Rows0 (s : ByteArray) (w : World) (k : Nat) (wr : World) : Prop :=
  ∃ f, wr.heap[w.heap.size]? = some (.cells (wcells s f) 78 (0, 0)) ∧ (∀ c, c < k → f (s.size * 4 + c) = (s.size : Int)) ∧ Below w.heap.size w wr
def Rows1 (s : ByteArray) (w : World) (i : Nat) (wr : World) : Prop :=
  ∃ f, wr.heap[w.heap.size]? = some (.cells (wcells s f) 78 (0, 0)) ∧ (∀ j c, i ≤ j → j ≤ s.size → c < 4 → f (j * 4 + c) = (nx (bl s) j (97 + c) : Int)) ∧ Below w.heap.size w wr ∧ ∀ j, i ≤ j → ∀ h : j < (bl s).length, ltrB ((bl s)[j]) = true
theorem Rows0.start (s : ByteArray) (w : World) : Rows0 s w 0 (w.alloc (.cells (wcells s fun _ => 0) 78)) :=
  ⟨_, blk_new w _, fun c h => by omega, below_alloc (Below.refl _ _) _⟩
theorem Rows0.cell {s : ByteArray} {w wr : World} {k : Nat} (h : Rows0 s w k wr) (hs : s.size ≤ 60) (hk : k < 4) : ∃ v, wr.cell? ⟨w.heap.size, 1 + s.size * 4 + k, none⟩ = some (.int .i64 v) ∧ wr.frozen? ⟨w.heap.size, 1 + s.size * 4 + k, none⟩ = false := by
  obtain ⟨f, h1, _⟩ := h
  exact ⟨_, (blk_cell h1 _).trans (by rw [Nat.add_assoc]; exact wcells_at s f _ (by omega)), blk_frozen h1 _⟩
theorem Rows0.step {s : ByteArray} {w wr : World} {k : Nat} (h : Rows0 s w k wr) (hs : s.size ≤ 60) (hk : k < 4) : Rows0 s w (k + 1) (wr.setCell ⟨w.heap.size, 1 + s.size * 4 + k, none⟩ (.int .i64 s.size)) := by
  obtain ⟨f, h1, h2, h3⟩ := h
  refine ⟨_, by rw [Nat.add_assoc]; exact wset h1 (s.size * 4 + k) _ (by omega), fun c hc => ?_, h3.setCell (Nat.le_refl _) _⟩
  unfold upd
  by_cases e : c = k
  · subst e; rw [if_pos rfl]
  · rw [if_neg (by omega)]; exact h2 c (by omega)
theorem Rows0.done {s : ByteArray} {w wr : World} (h : Rows0 s w 4 wr) : Rows1 s w s.size wr := by
  obtain ⟨f, h1, h2, h3⟩ := h
  refine ⟨f, h1, fun j c h4 h5 hc => ?_, h3, fun j h4 h5 => by rw [bl_length] at h5; omega⟩
  obtain rfl : j = s.size := by omega
  rw [h2 c hc, ← bl_length, nx_end]
theorem Rows1.cell {s : ByteArray} {w wr : World} {i : Nat} (h : Rows1 s w i wr) (hs : s.size ≤ 60) {j c : Nat} (hi : i ≤ j) (hj : j ≤ s.size) (hc : c < 4) :
    wr.cell? ⟨w.heap.size, 1 + j * 4 + c, none⟩ = some (.int .i64 (nx (bl s) j (97 + c) : Int)) := by
  obtain ⟨f, h1, h2, _⟩ := h
  rw [← h2 j c hi hj hc]
  exact (blk_cell h1 _).trans (by rw [Nat.add_assoc]; exact wcells_at s f _ (by omega))
theorem Rows1.there {s : ByteArray} {w wr : World} {i : Nat} (h : Rows1 s w i wr) {j : Nat} (hj : j < 244) :
    ∃ v, wr.cell? ⟨w.heap.size, 1 + j, none⟩ = some (.int .i64 v) ∧ wr.frozen? ⟨w.heap.size, 1 + j, none⟩ = false := by
  obtain ⟨f, h1, h2, _⟩ := h
  exact ⟨_, (blk_cell h1 _).trans (wcells_at s f _ hj), blk_frozen h1 _⟩
/-- Row m + 1, as it is read; row m, as it may be written. -/
theorem Rows1.quad {s : ByteArray} {w wr : World} {m : Nat} (h : Rows1 s w (m + 1) wr) (hs : s.size ≤ 60) (hm : m < s.size) : ∃ q0 q1 q2 q3 v0 v1 v2 v3 : Int,
    (wr.cell? ⟨w.heap.size, 1 + (m + 1) * 4, none⟩ = some (.int .i64 q0) ∧ wr.cell? ⟨w.heap.size, 1 + (m + 1) * 4 + 1, none⟩ = some (.int .i64 q1) ∧ wr.cell? ⟨w.heap.size, 1 + (m + 1) * 4 + 2, none⟩ = some (.int .i64 q2) ∧ wr.cell? ⟨w.heap.size, 1 + (m + 1) * 4 + 3, none⟩ = some (.int .i64 q3)) ∧
    (wr.cell? ⟨w.heap.size, 1 + m * 4, none⟩ = some (.int .i64 v0) ∧ wr.frozen? ⟨w.heap.size, 1 + m * 4, none⟩ = false) ∧ (wr.cell? ⟨w.heap.size, 1 + m * 4 + 1, none⟩ = some (.int .i64 v1) ∧ wr.frozen? ⟨w.heap.size, 1 + m * 4 + 1, none⟩ = false) ∧ (wr.cell? ⟨w.heap.size, 1 + m * 4 + 2, none⟩ = some (.int .i64 v2) ∧ wr.frozen? ⟨w.heap.size, 1 + m * 4 + 2, none⟩ = false) ∧ (wr.cell? ⟨w.heap.size, 1 + m * 4 + 3, none⟩ = some (.int .i64 v3) ∧ wr.frozen? ⟨w.heap.size, 1 + m * 4 + 3, none⟩ = false) ∧
    Aside0 (q0 = (nx (bl s) (m + 1) (97 + 0) : Int) ∧ q1 = (nx (bl s) (m + 1) (97 + 1) : Int) ∧ q2 = (nx (bl s) (m + 1) (97 + 2) : Int) ∧ q3 = (nx (bl s) (m + 1) (97 + 3) : Int)) := by
  obtain ⟨v0, t0, f0⟩ := h.there (j := m * 4) (by omega)
  obtain ⟨v1, t1, f1⟩ := h.there (j := m * 4 + 1) (by omega)
  obtain ⟨v2, t2, f2⟩ := h.there (j := m * 4 + 2) (by omega)
  obtain ⟨v3, t3, f3⟩ := h.there (j := m * 4 + 3) (by omega)
  exact ⟨_, _, _, _, v0, v1, v2, v3, ⟨h.cell hs (c := 0) (Nat.le_refl _) hm (by omega), h.cell hs (c := 1) (Nat.le_refl _) hm (by omega), h.cell hs (c := 2) (Nat.le_refl _) hm (by omega), h.cell hs (c := 3) (Nat.le_refl _) hm (by omega)⟩, ⟨t0, f0⟩, ⟨t1, f1⟩, ⟨t2, f2⟩, ⟨t3, f3⟩, ⟨rfl, rfl, rfl, rfl⟩⟩
theorem Rows1.below {s : ByteArray} {w wr w' : World} {i : Nat} (h : Rows1 s w i wr) (hb : Below wr.heap.size wr w') : Rows1 s w i w' := by
  obtain ⟨f, h1, h2, h3, h4⟩ := h
  exact ⟨f, blk_below h1 hb, h2, below_step h3 hb, h4⟩
/-- Row m holds what row m + 1 holds. -/
def RowsC (s : ByteArray) (w : World) (m : Nat) (wr : World) : Prop :=
  ∃ f, wr.heap[w.heap.size]? = some (.cells (wcells s f) 78 (0, 0)) ∧ (∀ c, c < 4 → f (m * 4 + c) = (nx (bl s) (m + 1) (97 + c) : Int)) ∧ (∀ j c, m + 1 ≤ j → j ≤ s.size → c < 4 → f (j * 4 + c) = (nx (bl s) j (97 + c) : Int)) ∧ Below w.heap.size w wr ∧ ∀ j, m + 1 ≤ j → ∀ h : j < (bl s).length, ltrB ((bl s)[j]) = true
theorem Rows1.copied {s : ByteArray} {w wr : World} {m : Nat} {q0 q1 q2 q3 : Int} (h : Rows1 s w (m + 1) wr) (hs : s.size ≤ 60) (hm : m < s.size)
    (hq : q0 = (nx (bl s) (m + 1) (97 + 0) : Int) ∧ q1 = (nx (bl s) (m + 1) (97 + 1) : Int) ∧ q2 = (nx (bl s) (m + 1) (97 + 2) : Int) ∧ q3 = (nx (bl s) (m + 1) (97 + 3) : Int)) :
    RowsC s w m ((((wr.setCell ⟨w.heap.size, 1 + m * 4, none⟩ (.int .i64 q0)).setCell ⟨w.heap.size, 1 + m * 4 + 1, none⟩ (.int .i64 q1)).setCell ⟨w.heap.size, 1 + m * 4 + 2, none⟩ (.int .i64 q2)).setCell ⟨w.heap.size, 1 + m * 4 + 3, none⟩ (.int .i64 q3)).drew := by
  obtain ⟨f, h1, h2, h3, h4⟩ := h
  obtain ⟨e0, e1, e2, e3⟩ := hq
  have g0 := wset h1 (m * 4) q0 (by omega)
  have g1 := wset g0 (m * 4 + 1) q1 (by omega)
  have g2 := wset g1 (m * 4 + 2) q2 (by omega)
  have g3 := wset g2 (m * 4 + 3) q3 (by omega)
  simp only [← Nat.add_assoc] at g3
  refine ⟨_, g3, fun c hc => ?_, fun j c hj hj2 hc => ?_, below_drew ((((h3.setCell (Nat.le_refl _) _).setCell (Nat.le_refl _) _).setCell (Nat.le_refl _) _).setCell (Nat.le_refl _) _), h4⟩
  · have hc' : c = 0 ∨ c = 1 ∨ c = 2 ∨ c = 3 := by omega
    unfold upd
    rcases hc' with rfl | rfl | rfl | rfl
    · rw [if_neg (by omega), if_neg (by omega), if_neg (by omega), if_pos (by omega), e0]
    · rw [if_neg (by omega), if_neg (by omega), if_pos (by omega), e1]
    · rw [if_neg (by omega), if_pos (by omega), e2]
    · rw [if_pos (by omega), e3]
  · unfold upd
    rw [if_neg (by omega), if_neg (by omega), if_neg (by omega), if_neg (by omega), h2 j c hj hj2 hc]
theorem RowsC.there {s : ByteArray} {w wr : World} {m : Nat} (h : RowsC s w m wr) {j : Nat} (hj : j < 244) :
    ∃ v, wr.cell? ⟨w.heap.size, 1 + j, none⟩ = some (.int .i64 v) ∧ wr.frozen? ⟨w.heap.size, 1 + j, none⟩ = false := by
  obtain ⟨f, h1, h2, _⟩ := h
  exact ⟨_, (blk_cell h1 _).trans (wcells_at s f _ hj), blk_frozen h1 _⟩
theorem RowsC.put {s : ByteArray} {w wr : World} {m c : Nat} (h : RowsC s w m wr) (hs : s.size ≤ 60) (hm : m < s.size) (hc : c < 4) (hl : (s[m]'hm).toNat = 97 + c) : Rows1 s w m (wr.setCell ⟨w.heap.size, 1 + m * 4 + c, none⟩ (.int .i64 m)) := by
  obtain ⟨f, h1, h2, h3, h4, h5⟩ := h
  have hml : m < (bl s).length := by rw [bl_length]; exact hm
  have hl' : (bl s)[m]'hml = 97 + c := by rw [bl_get s m hm]; exact hl
  refine ⟨_, by rw [Nat.add_assoc]; exact wset h1 (m * 4 + c) _ (by omega), fun j d hj hj2 hd => ?_, h4.setCell (Nat.le_refl _) _, fun j hj hj2 => ?_⟩
  · unfold upd
    by_cases e : j = m
    · subst e
      by_cases e2 : d = c
      · subst e2
        rw [if_pos rfl, nx_same hml hl']
      · rw [if_neg (by omega), h2 d hd, nx_next hml (by rw [hl']; omega)]
    · rw [if_neg (by omega), h3 j d (by omega) hj2 hd]
  · by_cases e : j = m
    · subst e
      rw [hl']; simp [ltrB]; omega
    · exact h5 j (by omega) hj2
theorem within_y (a b c : Int) (W : World) (h1 : b ≤ a) (h2 : a ≤ c) : Calls Try.prog 49 #[.int .i64 a, .int .i64 b, .int .i64 c] W fun e w' => e = .returned (.bool true) ∧ Drawn0 W w' :=
  thread_within.calls a b c true W (by unfold thread_within.f; rw [if_pos h1, decide_eq_true h2])
theorem within_n (a b c : Int) (W : World) (h : ¬ (b ≤ a ∧ a ≤ c)) : Calls Try.prog 49 #[.int .i64 a, .int .i64 b, .int .i64 c] W fun e w' => e = .returned (.bool false) ∧ Drawn0 W w' :=
  thread_within.calls a b c false W (by
    unfold thread_within.f
    by_cases h1 : a ≥ b
    · rw [if_pos h1, decide_eq_false (fun h2 => h ⟨h1, h2⟩)]
    · rw [if_neg h1])
set_option maxHeartbeats 2000000 in
set_option maxRecDepth 100000 in
theorem newWord_any (s : ByteArray) (w : World) (h : s.size ≤ 60) : Calls Try.prog 48 #[.string s] w (NWPost s w) := by
  have h1 : ((60 : Int) < (s.size : Int)) = False := eq_false (by omega)
  have b1 := build78 s
  have b2 := box78 s
  have a1 : (0 : Int) ≤ (s.size : Int) := by omega
  have a2 : (s.size : Int) < 61 := by omega
  have HS := Aside0.mk h
  clear h
  go_enter Try.func48, Try.ntmps48
  go_wp2
  clear b1 b2
  go_loopw [14] (fun v14 wr => ∃ k : Nat, v14 = .int .i64 k ∧ k ≤ 4 ∧ Aside0 (Rows0 s w k wr)) (fun v14 _ => 4 - (intOf v14).toNat)
  case atStart => exact ⟨0, rfl, by omega, ⟨Rows0.start s w⟩⟩
  case round =>
    obtain ⟨k, rfl, hk, HR⟩ := hrel
    by_cases hlt : k < 4
    · obtain ⟨v, c1, c2⟩ := HR.out.cell HS.out hlt
      have a3 : (k : Int) < 4 := by omega
      clear hlt
      go_wp2
      go_roundw
      case rel => exact ⟨k + 1, by go_num, by omega, ⟨HR.out.step HS.out (by omega)⟩⟩
      case measure => simp [intOf]; omega
    · have HR1 := Aside0.mk (show Rows1 s w s.size wr by have e : k = 4 := by omega
                                                         subst e; exact HR.out.done)
      have hge : ¬ ((k : Int) < 4) := by omega
      clear HR hlt hk
      go_wp2
      clear a1 a2 h1 hge
      go_loopw [6] (fun v6 wr => ∃ i : Int, v6 = .int .i64 i ∧ -1 ≤ i ∧ i < (s.size : Int) ∧ Aside0 (Rows1 s w (i + 1).toNat wr)) (fun v6 _ => (intOf v6 + 1).toNat)
      case atStart => exact ⟨(s.size : Int) - 1, rfl, by omega, by omega, ⟨by rw [show ((s.size : Int) - 1 + 1).toNat = s.size by omega]; exact HR1.out⟩⟩
      case round =>
        obtain ⟨i, rfl, hi1, hi2, HR⟩ := hrel
        clear HR1
        by_cases hp : 0 ≤ i
        · obtain ⟨m, rfl⟩ := Int.eq_ofNat_of_zero_le hp
          clear hp hi1
          have hm : m < s.size := by omega
          have HR := Aside0.mk (show Rows1 s w (m + 1) wr by have := HR.out; rwa [show ((m : Int) + 1).toNat = m + 1 by omega] at this)
          by_cases hg : ltrB ((bl s)[m]'(by rw [bl_length]; exact hm)) = true
          · obtain ⟨c, hc, hc4⟩ : ∃ c : Nat, (s[m]'hm).toNat = 97 + c ∧ c < 4 := by
              rw [← bl_get s m hm]; simp [ltrB] at hg; exact ⟨(bl s)[m]'(by rw [bl_length]; exact hm) - 97, by omega, by omega⟩
            have hx : ∀ h : m < s.size, ((s[m]'h).toNat : Int) = 97 + (c : Int) := fun _ => by rw [hc]; simp
            have c1 : (97 : Int) + (c : Int) - 97 = (c : Int) := by omega
            have c2 : (c : Int) < 4 := by omega
            have c3 : (m : Int) < 61 := by have := HS.out; omega
            have c4 : (m : Int) + 1 < 61 := by have := HS.out; omega
            have c5 : (0 : Int) ≤ (m : Int) + 1 := by omega
            have c6 : (0 : Int) ≤ (m : Int) := by omega
            have c7 : IntKind.i64.wrap ((m : Int) + 1) = (m : Int) + 1 := IntWalk.i64_in _ (by have := HS.out; omega)
            have c8 : ((m : Int) + 1).toNat = m + 1 := by omega
            have HC := Aside0.mk hc
            have HG := Aside0.mk hg
            clear hc hg hc4
            go_upto_region 15 with (go_at_call 49; (with_reducible refine (within_y _ _ _ _ (by omega) (by omega)).mono ?_); rintro e w1 ⟨rfl, HD⟩; have HR2 := Aside0.mk (HR.out.below HD.below); obtain ⟨q0, q1, q2, q3, v0, v1, v2, v3, ⟨r0, r1, r2, r3⟩, ⟨t0, f0⟩, ⟨t1, f1⟩, ⟨t2, f2⟩, ⟨t3, f3⟩, HQ⟩ := HR2.out.quad HS.out hm; clear HD)
            refine start_ (n := 13) (S := fun w' => w'.cell? ⟨w.heap.size, 1 + (m + 1) * 4, none⟩ = some (.int .i64 q0) ∧ w'.cell? ⟨w.heap.size, 1 + (m + 1) * 4 + 1, none⟩ = some (.int .i64 q1) ∧ w'.cell? ⟨w.heap.size, 1 + (m + 1) * 4 + 2, none⟩ = some (.int .i64 q2) ∧ w'.cell? ⟨w.heap.size, 1 + (m + 1) * 4 + 3, none⟩ = some (.int .i64 q3)) (ds := [12]) #[false, false, false, false, false, false, false, false, false, false, false, false, false] (by kernel_rfl) rfl rfl ⟨r0, r1, r2, r3⟩ (fun hHeld => ?_)
            refine pure_ (i := 0) (N := (some 43)) (v := ?_) (a' := ?_) #[true, false, false, false, false, false, false, false, false, false, false, false, false] rfl rfl (by kernel_rfl) (fun _ _ _ h => h) (Or.inl ⟨by rfl, ?_⟩) ?_ ?_
            rotate_left
            · intro w'
              go_simp
              with_reducible rfl
            rotate_left
            · simp only [Act.put, List.setIfInBounds_toArray, List.set_cons_zero, List.set_cons_succ, i64_w, i32_w]
              rfl
            refine pure_ (i := 1) (N := (some 44)) (v := ?_) (a' := ?_) #[true, true, false, false, false, false, false, false, false, false, false, false, false] rfl rfl (by kernel_rfl) (fun _ _ _ h => h) (Or.inl ⟨by rfl, ?_⟩) ?_ ?_
            rotate_left
            · intro w'
              go_simp
              with_reducible rfl
            rotate_left
            · simp only [Act.put, List.setIfInBounds_toArray, List.set_cons_zero, List.set_cons_succ, i64_w, i32_w]
              rfl
            refine pure_ (i := 2) (N := (some 45)) (v := ?_) (a' := ?_) #[true, true, true, false, false, false, false, false, false, false, false, false, false] rfl rfl (by kernel_rfl) (fun _ _ _ h => h) (Or.inl ⟨by rfl, ?_⟩) ?_ ?_
            rotate_left
            · intro w'
              go_simp
              with_reducible rfl
            rotate_left
            · simp only [Act.put, List.setIfInBounds_toArray, List.set_cons_zero, List.set_cons_succ, i64_w, i32_w]
              rfl
            refine pure_ (i := 3) (N := (some 46)) (v := ?_) (a' := ?_) #[true, true, true, true, false, false, false, false, false, false, false, false, false] rfl rfl (by kernel_rfl) (fun _ _ _ h => h) (Or.inl ⟨by rfl, ?_⟩) ?_ ?_
            rotate_left
            · intro w'
              go_simp
              with_reducible rfl
            rotate_left
            · simp only [Act.put, List.setIfInBounds_toArray, List.set_cons_zero, List.set_cons_succ, i64_w, i32_w]
              rfl
            refine pure_ (i := 4) (N := (some 47)) (v := ?_) (a' := ?_) #[true, true, true, true, true, false, false, false, false, false, false, false, false] rfl rfl (by kernel_rfl) (fun _ _ _ h => h) (Or.inl ⟨by rfl, ?_⟩) ?_ ?_
            rotate_left
            · intro w'
              go_simp
              with_reducible rfl
            rotate_left
            · simp only [Act.put, List.setIfInBounds_toArray, List.set_cons_zero, List.set_cons_succ, i64_w, i32_w]
              rfl
            refine pure_ (i := 5) (N := (some 48)) (v := ?_) (a' := ?_) #[true, true, true, true, true, true, false, false, false, false, false, false, false] rfl rfl (by kernel_rfl) (fun _ _ _ h => h) (Or.inl ⟨by rfl, ?_⟩) ?_ ?_
            rotate_left
            · intro w'
              go_simp
              with_reducible rfl
            rotate_left
            · simp only [Act.put, List.setIfInBounds_toArray, List.set_cons_zero, List.set_cons_succ, i64_w, i32_w]
              rfl
            refine pure_ (i := 6) (N := (some 49)) (v := ?_) (a' := ?_) #[true, true, true, true, true, true, true, false, false, false, false, false, false] rfl rfl (by kernel_rfl) (fun _ _ _ h => h) (Or.inl ⟨by rfl, ?_⟩) ?_ ?_
            rotate_left
            · intro w'
              go_simp
              with_reducible rfl
            rotate_left
            · simp only [Act.put, List.setIfInBounds_toArray, List.set_cons_zero, List.set_cons_succ, i64_w, i32_w]
              rfl
            refine pure_ (i := 7) (N := (some 50)) (v := ?_) (a' := ?_) #[true, true, true, true, true, true, true, true, false, false, false, false, false] rfl rfl (by kernel_rfl) (fun _ _ _ h => h) (Or.inl ⟨by rfl, ?_⟩) ?_ ?_
            rotate_left
            · intro w'
              go_simp
              with_reducible rfl
            rotate_left
            · simp only [Act.put, List.setIfInBounds_toArray, List.set_cons_zero, List.set_cons_succ, i64_w, i32_w]
              rfl
            refine take_ (i := 8) (N := (some 51)) (v := ?_) (a' := ?_) #[true, true, true, true, true, true, true, true, true, false, false, false, false] rfl rfl (by kernel_rfl) (fun _ _ _ h => h) (Or.inl ⟨by rfl, ?_⟩) hHeld ?_ ?_
            rotate_left
            · rintro w' ⟨s0, s1, s2, s3⟩
              go_simp
              with_reducible rfl
            rotate_left
            · simp only [Act.put, List.setIfInBounds_toArray, List.set_cons_zero, List.set_cons_succ, i64_w, i32_w]
              rfl
            refine pure_ (i := 9) (N := (some 52)) (v := ?_) (a' := ?_) #[true, true, true, true, true, true, true, true, true, true, false, false, false] rfl rfl (by kernel_rfl) (fun _ _ _ h => h) (Or.inl ⟨by rfl, ?_⟩) ?_ ?_
            rotate_left
            · intro w'
              go_simp
              with_reducible rfl
            rotate_left
            · simp only [Act.put, List.setIfInBounds_toArray, List.set_cons_zero, List.set_cons_succ, i64_w, i32_w]
              rfl
            refine pure_ (i := 10) (N := (some 53)) (v := ?_) (a' := ?_) #[true, true, true, true, true, true, true, true, true, true, true, false, false] rfl rfl (by kernel_rfl) (fun _ _ _ h => h) (Or.inl ⟨by rfl, ?_⟩) ?_ ?_
            rotate_left
            · intro w'
              go_simp
              with_reducible rfl
            rotate_left
            · simp only [Act.put, List.setIfInBounds_toArray, List.set_cons_zero, List.set_cons_succ, i64_w, i32_w]
              rfl
            refine pure_ (i := 11) (N := (some 54)) (v := ?_) (a' := ?_) #[true, true, true, true, true, true, true, true, true, true, true, true, false] rfl rfl (by kernel_rfl) (fun _ _ _ h => h) (Or.inl ⟨by rfl, ?_⟩) ?_ ?_
            rotate_left
            · intro w'
              go_simp
              with_reducible rfl
            rotate_left
            · simp only [Act.put, List.setIfInBounds_toArray, List.set_cons_zero, List.set_cons_succ, i64_w, i32_w]
              rfl
            refine last_ (i := 12) (N := none) #[true, true, true, true, true, true, true, true, true, true, true, true, true] rfl rfl (by kernel_rfl) (by decide) (fun K hK => ?_)
            refine skip_ (w1 := ?_) (by rfl) rfl ?_ ?_
            rotate_left
            · go_simp
              rfl
            refine hK.out _ _ ?_
            clear hK K
            refine done_ (by kernel_rfl) ?_
            have HRC := Aside0.mk (HR2.out.copied HS.out hm HQ.out)
            obtain ⟨w2, hw2⟩ : ∃ w2, w2 = ((((w1.setCell ⟨w.heap.size, 1 + m * 4, none⟩ (.int .i64 q0)).setCell ⟨w.heap.size, 1 + m * 4 + 1, none⟩ (.int .i64 q1)).setCell ⟨w.heap.size, 1 + m * 4 + 2, none⟩ (.int .i64 q2)).setCell ⟨w.heap.size, 1 + m * 4 + 3, none⟩ (.int .i64 q3)).drew := ⟨_, rfl⟩
            rw [← hw2]
            replace HRC := Aside0.mk (show RowsC s w m w2 by rw [hw2]; exact HRC.out)
            clear hw2 r0 r1 r2 r3 t0 f0 t1 f1 t2 f2 t3 f3 HQ
            obtain ⟨v, t0, f0⟩ := HRC.out.there (j := m * 4 + c) (by omega)
            rw [← Nat.add_assoc] at t0 f0
            go_wp2
            go_roundw
            case rel => exact ⟨(m : Int) - 1, rfl, by omega, by omega, ⟨by rw [show ((m : Int) - 1 + 1).toNat = m by omega]; exact HRC.out.put HS.out hm (by omega) HC.out⟩⟩
            case measure => simp [intOf]
          · have HF := Aside0.mk (show isW (bl s) = false by
              rw [Bool.eq_false_iff]; intro he
              refine hg ?_
              unfold isW at he
              rw [Bool.and_eq_true, List.all_eq_true] at he
              exact he.2 _ (List.getElem_mem _))
            obtain ⟨b, hb⟩ : ∃ b : Nat, (s[m]'hm).toNat = b := ⟨_, rfl⟩
            have hx : ∀ h : m < s.size, ((s[m]'h).toNat : Int) = (b : Int) := fun _ => by rw [hb]
            have hb256 : (b : Int) < 256 := by have := (s[m]'hm).toNat_lt; omega
            have HB := Aside0.mk (show ¬ ((0 : Int) ≤ (b : Int) - 97 ∧ (b : Int) - 97 ≤ 3) by
              intro h
              refine hg ?_
              rw [bl_get s m hm, hb]; simp [ltrB]; omega)
            clear hg hb
            go_wp2_with (go_at_call 49; (with_reducible refine (within_n _ _ _ _ HB.out).mono ?_); rintro e w1 ⟨rfl, HD⟩; have HD' := Aside0.mk HD; clear HD)
            go_ret2
            unfold NWPost
            rw [HF.out]
            obtain ⟨f, h1, h2, h3, h4⟩ := HR.out
            exact ⟨rfl, below_step h3 HD'.out.below⟩
        · obtain rfl : i = -1 := by omega
          clear hp hi1 hi2
          go_wp2
          go_ret2
          obtain ⟨f, h1, h2, h3, h4⟩ := HR.out
          have HT : isW (bl s) = true := by
            rw [isW_iff, bl_length]
            refine ⟨HS.out, fun b hb => ?_⟩
            obtain ⟨j, hj, rfl⟩ := List.getElem_of_mem hb
            have := h4 j (by omega) hj
            simpa [ltrB] using this
          unfold NWPost
          rw [if_pos HT]
          exact ⟨rfl, ⟨⟨f, h1, fun j c hj hc => h2 j c (by omega) hj hc⟩⟩, h3⟩
theorem newWord_post (s : ByteArray) (w : World) : Calls Try.prog 48 #[.string s] w (NWPost s w) := by
  by_cases h : s.size ≤ 60
  · exact newWord_any s w h
  · exact newWord_big s w (by omega)
theorem newWord_yes (s : ByteArray) (w : World) (h : isW (bl s) = true) : Calls Try.prog 48 #[.string s] w fun e w' => e = .returned (.tuple #[.pointer (some ⟨w.heap.size, 0, none⟩), .bool true]) ∧ WordAt w' w.heap.size s ∧ Below w.heap.size w w' :=
  (newWord_post s w).mono fun e w' hp => by unfold NWPost at hp; rw [if_pos h] at hp; exact hp
theorem newWord_no (s : ByteArray) (w : World) (h : isW (bl s) = false) : Calls Try.prog 48 #[.string s] w fun e w' => e = .returned (.tuple #[.pointer none, .bool false]) ∧ Below w.heap.size w w' :=
  (newWord_post s w).mono fun e w' hp => by unfold NWPost at hp; rw [if_neg (by rw [h]; decide)] at hp; exact hp
theorem newWord_b (s : ByteArray) (r : Bool) (w : World) (h : isW (bl s) = r) : Calls Try.prog 48 #[.string s] w fun e w' => ∃ p, e = .returned (.tuple #[.pointer p, .bool r]) ∧ Below w.heap.size w w' := by
  cases r with
  | true => exact (newWord_yes s w h).mono fun e w' ⟨h1, _, h2⟩ => ⟨_, h1, h2⟩
  | false => exact (newWord_no s w h).mono fun e w' ⟨h1, h2⟩ => ⟨_, h1, h2⟩
end Go.Proofs.Ytagdbadljcongaa.X
end

section
/- thread.counts and Count: the numbers of different subsequences from each place on. -/
set_option linter.unusedVariables false
set_option linter.unusedSimpArgs false
namespace Go.Proofs.Ytagdbadljcongaa.X
open Go.RowKit Go.Proofs.YtagdbadljcongaaW.PrintWords Go.Proofs.YtagdbadljcongaaW.PrintLast Go.Proofs.YtagdbadljcongaaW.PrintMore
/-- The cells of an array of 61 numbers. -/
def acells (f : Nat → Int) : Array Value := ((List.range 61).map fun j => Value.int .i64 (f j)).toArray
theorem acells_at (f : Nat → Int) (j : Nat) (h : j < 61) : (acells f)[j]? = some (.int .i64 (f j)) := by simp [acells, h]
theorem acells_size (f : Nat → Int) : (acells f).size = 61 := by simp [acells]
theorem acells_set (f : Nat → Int) (j : Nat) (v : Int) (h : j < 61) : (acells f).setIfInBounds j (.int .i64 v) = acells (upd f j v) := by
  apply Array.ext_getElem?
  intro i
  rw [Array.getElem?_setIfInBounds, acells_size]
  by_cases e : j = i
  · subst e
    rw [if_pos rfl, if_pos h, acells_at _ j h]; simp [upd]
  · rw [if_neg e]
    by_cases hi : i < 61
    · rw [acells_at f i hi, acells_at _ i hi]; simp [upd, show i ≠ j by omega]
    · simp [acells, hi]
theorem acells_congr {f g : Nat → Int} (h : ∀ j, j < 61 → f j = g j) : acells f = acells g := by
  apply Array.ext_getElem?
  intro i
  by_cases hi : i < 61
  · rw [acells_at f i hi, acells_at g i hi, h i hi]
  · simp [acells, hi]
theorem zeros61 : #[Value.int IntKind.i64 0, Value.int IntKind.i64 0, Value.int IntKind.i64 0, Value.int IntKind.i64 0, Value.int IntKind.i64 0, Value.int IntKind.i64 0, Value.int IntKind.i64 0, Value.int IntKind.i64 0, Value.int IntKind.i64 0, Value.int IntKind.i64 0, Value.int IntKind.i64 0, Value.int IntKind.i64 0, Value.int IntKind.i64 0, Value.int IntKind.i64 0, Value.int IntKind.i64 0, Value.int IntKind.i64 0, Value.int IntKind.i64 0, Value.int IntKind.i64 0, Value.int IntKind.i64 0, Value.int IntKind.i64 0, Value.int IntKind.i64 0, Value.int IntKind.i64 0, Value.int IntKind.i64 0, Value.int IntKind.i64 0, Value.int IntKind.i64 0, Value.int IntKind.i64 0, Value.int IntKind.i64 0, Value.int IntKind.i64 0, Value.int IntKind.i64 0, Value.int IntKind.i64 0, Value.int IntKind.i64 0, Value.int IntKind.i64 0, Value.int IntKind.i64 0, Value.int IntKind.i64 0, Value.int IntKind.i64 0, Value.int IntKind.i64 0, Value.int IntKind.i64 0, Value.int IntKind.i64 0, Value.int IntKind.i64 0, Value.int IntKind.i64 0, Value.int IntKind.i64 0, Value.int IntKind.i64 0, Value.int IntKind.i64 0, Value.int IntKind.i64 0, Value.int IntKind.i64 0, Value.int IntKind.i64 0, Value.int IntKind.i64 0, Value.int IntKind.i64 0, Value.int IntKind.i64 0, Value.int IntKind.i64 0, Value.int IntKind.i64 0, Value.int IntKind.i64 0, Value.int IntKind.i64 0, Value.int IntKind.i64 0, Value.int IntKind.i64 0, Value.int IntKind.i64 0, Value.int IntKind.i64 0, Value.int IntKind.i64 0, Value.int IntKind.i64 0, Value.int IntKind.i64 0, Value.int IntKind.i64 0] = acells (fun _ => 0) := by kernel_rfl
theorem aset {w : World} {b : Nat} {f : Nat → Int} (h : w.heap[b]? = some (.cells (acells f) 84 (0, 0))) (j : Nat) (v : Int) (hj : j < 61) :
    (w.setCell ⟨b, j, none⟩ (.int .i64 v)).heap[b]? = some (.cells (acells (upd f j v)) 84 (0, 0)) := by
  rw [← acells_set f j v hj]; exact blk_set h j (.int .i64 v)
theorem upd_upd (f : Nat → Int) (j : Nat) (u v : Int) : upd (upd f j u) j v = upd f j v := by
  funext k; unfold upd; split <;> rfl
/-- A whole array stored over another one. -/
theorem store_arr {w : World} {ops : Array Oper} {rest : List Oper} {o : Oper} {a : Act} {Q : Exit → Act → World → Prop} (x y : Operand) (hg : o.guard = none) (ho : o.op = .store 84 x y)
    (b : Nat) (f g : Nat → Int) (hx : a.eval x = .pointer (some ⟨b, 0, none⟩)) (hy : a.eval y = .agg (acells g)) (hb : w.heap[b]? = some (.cells (acells f) 84 (0, 0)))
    (h : ∀ w', w'.heap[b]? = some (.cells (acells g) 84 (0, 0)) → w.grownBy w' (some b) → wpList Try.prog ops Q rest (a.put o.dst undef) w') : wpList Try.prog ops Q (o :: rest) a w := by
  have hsz : (acells g).toList.length = 61 := by rw [Array.length_toList, acells_size]
  refine wpList_store_mid hg 84 x y ho b 0 (acells g) hx hy (fun j hj => ?_) (by rw [acells_size]; kernel_rfl) (Array.all_eq_true_iff_forall_mem.2 (fun v hv => ?_)) ?_
  · rw [acells_size] at hj
    rw [Nat.zero_add]
    exact ⟨by rw [blk_cell hb, acells_at f j hj]; rfl, blk_frozen hb _⟩
  · unfold acells at hv
    rw [List.mem_toArray, List.mem_map] at hv
    obtain ⟨j, _, rfl⟩ := hv; rfl
  · obtain ⟨cur', h3, h4, h5⟩ := setCells_row (acells g).toList 0 w (acells f) hb (by rw [hsz, acells_size]; omega)
    obtain ⟨s1, s2, s3, s4⟩ := setCells_same b (acells g).toList 0 w
    refine h _ ?_ ⟨s1, s2, s3, by rw [s4]; exact Nat.le_refl _, fun k _ hk => setCells_far _ _ k (fun e => hk (by rw [e]))⟩
    have : cur' = acells g := by
      apply Array.toList_inj.1
      rw [h5, List.take_zero, List.nil_append, hsz, List.drop_eq_nil_of_le (by rw [Array.length_toList, acells_size]; omega), List.append_nil]
    rw [h3, this]
/-- Where counts stands: all places behind i are reckoned; the result's block is untouched. -/
structure CtAt (s : ByteArray) (w : World) (b : Nat) (f : Nat → Int) (wr : World) : Prop where
  res : wr.heap[w.heap.size]? = some (.cells (acells fun _ => 0) 84 (0, 0))
  arr : wr.heap[w.heap.size + 1]? = some (.cells (acells f) 84 (0, 0))
  wd : WordAt wr b s
  bel : Below w.heap.size w wr
theorem CtAt.below {s : ByteArray} {w wr w' : World} {b : Nat} {f : Nat → Int} (h : CtAt s w b f wr) (hb : Below wr.heap.size wr w') : CtAt s w b f w' :=
  ⟨blk_below h.res hb, blk_below h.arr hb, h.wd.below hb, below_step h.bel hb⟩
theorem CtAt.set {s : ByteArray} {w wr : World} {b : Nat} {f : Nat → Int} (h : CtAt s w b f wr) (hw : WordAt w b s) (j : Nat) (hj : j < 61) (v : Int) : CtAt s w b (upd f j v) (wr.setCell ⟨w.heap.size + 1, j, none⟩ (.int .i64 v)) := by
  have hb := h.bel.setCell (p := ⟨w.heap.size + 1, j, none⟩) (Nat.le_succ _) (.int .i64 v)
  exact ⟨blk_far h.res (by show w.heap.size ≠ w.heap.size + 1; omega) _, aset h.arr j v hj, hw.below hb, hb⟩
theorem CtAt.start (s : ByteArray) (w : World) (b : Nat) (hw : WordAt w b s) : CtAt s w b (fun _ => 0) ((w.alloc (.cells (acells fun _ => 0) 84)).alloc (.cells (acells fun _ => 0) 84)) := by
  have hb := below_alloc (below_alloc (Below.refl w.heap.size w) (.cells (acells fun _ => 0) 84)) (.cells (acells fun _ => 0) 84)
  refine ⟨blk_alloc (blk_new w _) _, ?_, hw.below hb, hb⟩
  have := blk_new (w.alloc (.cells (acells fun _ => 0) 84)) (.cells (acells fun _ => 0) 84)
  rwa [World.size_alloc] at this
/-- All places behind i are reckoned. -/
def Done (l : List Nat) (i : Int) (f : Nat → Int) : Prop := ∀ j : Nat, i < (j : Int) → f j = cntF l j
theorem Done.at_ {l : List Nat} {i : Int} {f : Nat → Int} (h : Done l i f) (j : Nat) (hj : i < (j : Int)) (hl : j ≤ l.length) : f j = (cs (l.drop j) : Int) := by
  rw [h j hj]; unfold cntF; rw [if_pos hl]
theorem after_c (w : World) (b : Nat) (s : ByteArray) (hw : WordAt w b s) (hs : s.size ≤ 60) (i c q : Nat) (r : Bool) (hi : i ≤ s.size) (hc : c < 4) (hq : nx (bl s) i (97 + c) = q) (hr : decide (q < s.size) = r) :
    Calls Try.prog 57 #[.pointer (some ⟨b, 0, none⟩), .int .i64 i, .int .i64 c] w fun e w' => e = .returned (.tuple #[.int .i64 (q + 1 : Int), .bool r]) ∧ Drawn0 w w' := by
  subst hq hr
  exact after_any w b s hw hs i c hi hc
set_option maxHeartbeats 4000000 in
set_option maxRecDepth 100000 in
theorem counts_any (w : World) (b : Nat) (s : ByteArray) (hw : WordAt w b s) (hs : s.size ≤ 60) :
    Calls Try.prog 53 #[.pointer (some ⟨b, 0, none⟩)] w fun e w' => e = .returned (.agg (acells (cntF (bl s)))) ∧ Below w.heap.size w w' := by
  have HST := Aside0.mk (CtAt.start s w b hw)
  have HW := Aside0.mk hw
  have HS := Aside0.mk hs
  have t1 := HST.out.wd.text
  have hs1 : (s.size : Int) ≤ 60 := by omega
  clear hw hs
  go_enter Try.func53, Try.ntmps53
  go_upto_region 2 with (fail)
  rw [zeros61]
  obtain ⟨w0, hw0⟩ : ∃ w0, w0 = (w.alloc (.cells (acells fun _ => 0) 84)).alloc (.cells (acells fun _ => 0) 84) := ⟨_, rfl⟩
  rw [← hw0] at HST t1 ⊢
  clear hw0
  go_wp2
  clear t1
  go_loopw [4] (fun v4 wr => ∃ (i : Int) (f : Nat → Int), v4 = .int .i64 i ∧ -1 ≤ i ∧ i ≤ (s.size : Int) ∧ Aside0 (CtAt s w b f wr) ∧ Aside0 (Done (bl s) i f)) (fun v4 _ => (intOf v4 + 1).toNat)
  case atStart => exact ⟨s.size, _, rfl, by omega, by omega, HST, ⟨fun j hj => by unfold cntF; rw [if_neg (by rw [bl_length]; omega)]⟩⟩
  case round =>
    obtain ⟨i, f, rfl, hi1, hi2, HC, HD⟩ := hrel
    clear HST
    by_cases hp : 0 ≤ i
    · obtain ⟨m, rfl⟩ := Int.eq_ofNat_of_zero_le hp
      clear hp hi1
      have hm : m ≤ s.size := by omega
      have c3 : (m : Int) < 61 := by omega
      have c4 : (0 : Int) ≤ (m : Int) := by omega
      have g1 : wr.cell? ⟨w.heap.size + 1, m, none⟩ = some (.int .i64 (f m)) := (blk_cell HC.out.arr _).trans (acells_at f m (by omega))
      have g2 := blk_frozen HC.out.arr m
      have HX := Aside0.mk (HC.out.set HW.out m (by omega) 1)
      go_upto_region 6 with (fail)
      obtain ⟨w1, hw1⟩ : ∃ w1, w1 = wr.setCell ⟨w.heap.size + 1, m, none⟩ (.int .i64 1) := ⟨_, rfl⟩
      rw [← hw1] at HX ⊢
      clear hw1 g1 g2
      go_wp2
      go_loopw [19] (fun v19 wr => ∃ k : Nat, v19 = .int .i64 k ∧ k ≤ 4 ∧ Aside0 (CtAt s w b (upd f m (psum ((bl s).drop m) k)) wr)) (fun v19 _ => 4 - (intOf v19).toNat)
      case atStart => exact ⟨0, rfl, by omega, HX⟩
      case round =>
        clear HX
        obtain ⟨k, rfl, hk, HX⟩ := hrel
        have hq1 := nx_le (bl s) m (97 + k) (by rw [bl_length]; exact hm)
        rw [bl_length] at hq1
        by_cases hlt : k < 4
        · have c5 : (k : Int) < 4 := by omega
          have HK := Aside0.mk hlt
          obtain ⟨q, hq⟩ : ∃ q, nx (bl s) m (97 + k) = q := ⟨_, rfl⟩
          have HT := Aside0.mk (show term ((bl s).drop m) (97 + k) = if q < s.size then cs ((bl s).drop (q + 1)) else 0 by rw [term_at _ _ _ (by rw [bl_length]; exact hm), hq, bl_length])
          have HBD := Aside0.mk (show (psum ((bl s).drop m) (k + 1) : Int) ≤ 1152921504606846976 by
            have h1 := psum_mono ((bl s).drop m) (show k + 1 ≤ 4 by omega)
            rw [← cs_eq] at h1
            have h2 := cs_60 (l := (bl s).drop m) (by rw [List.length_drop, bl_length]; have := HS.out; omega)
            omega)
          rw [hq] at hq1
          have hq2 : q ≤ 60 := by have := HS.out; omega
          have HQ := Aside0.mk hq
          clear hq hlt
          by_cases hr : q < s.size
          · have HR := Aside0.mk (decide_eq_true hr)
            have HQS := Aside0.mk hr
            have HT := HT.out
            rw [if_pos hr] at HT
            have HT := Aside0.mk HT
            clear hr
            go_upto_region 11 with (go_at_call 57; (with_reducible refine (after_c _ b s HX.out.wd HS.out m k q true hm HK.out HQ.out HR.out).mono ?_); rintro e wa ⟨rfl, HD2⟩; have HX2 := Aside0.mk (HX.out.below HD2.below); clear HD2)
            obtain ⟨p, hp⟩ : ∃ p : Int, (psum ((bl s).drop m) k : Int) = p := ⟨_, rfl⟩
            obtain ⟨z, hz⟩ : ∃ z : Int, (cs ((bl s).drop (q + 1)) : Int) = z := ⟨_, rfl⟩
            have HP := Aside0.mk (show (psum ((bl s).drop m) (k + 1) : Int) = p + z by rw [psum_succ, HT.out]; omega)
            have r1 : wa.cell? ⟨w.heap.size + 1, m, none⟩ = some (.int .i64 p) := (blk_cell HX2.out.arr _).trans ((acells_at _ m (by omega)).trans (by rw [← hp]; simp [upd]))
            have r2 : wa.cell? ⟨w.heap.size + 1, q + 1, none⟩ = some (.int .i64 z) := (blk_cell HX2.out.arr _).trans ((acells_at _ (q + 1) (by have := HQS.out; have := HS.out; omega)).trans (by rw [← hz]; unfold upd; rw [if_neg (by omega), HD.out.at_ (q + 1) (by omega) (by rw [bl_length]; have := HQS.out; omega)]))
            have r3 := blk_frozen HX2.out.arr m
            have c6 : ((q : Int) + 1) < 61 := by have := HQS.out; have := HS.out; omega
            have c7 : (0 : Int) ≤ (q : Int) + 1 := by omega
            have c8 : ((q : Int) + 1).toNat = q + 1 := by omega
            have c9 : IntKind.i64.wrap (p + z) = p + z := IntWalk.i64_in _ (by have h1 := HP.out; have h2 := HBD.out; omega) 
            have HPZ := Aside0.mk hp
            clear hp hz
            refine start_ (n := 9) (S := fun w' => w'.cell? ⟨w.heap.size + 1, m, none⟩ = some (.int .i64 p) ∧ w'.cell? ⟨w.heap.size + 1, q + 1, none⟩ = some (.int .i64 z)) (ds := [8]) #[false, false, false, false, false, false, false, false, false] (by kernel_rfl) rfl rfl ⟨r1, r2⟩ (fun hHeld => ?_)
            refine pure_ (i := 0) (N := (some 30)) (v := ?_) (a' := ?_) #[true, false, false, false, false, false, false, false, false] rfl rfl (by kernel_rfl) (fun _ _ _ h => h) (Or.inl ⟨by rfl, ?_⟩) ?_ ?_
            rotate_left
            · intro w'
              go_simp
              with_reducible rfl
            rotate_left
            · simp only [Act.put, List.setIfInBounds_toArray, List.set_cons_zero, List.set_cons_succ, i64_w, i32_w]
              rfl
            refine pure_ (i := 1) (N := (some 31)) (v := ?_) (a' := ?_) #[true, true, false, false, false, false, false, false, false] rfl rfl (by kernel_rfl) (fun _ _ _ h => h) (Or.inl ⟨by rfl, ?_⟩) ?_ ?_
            rotate_left
            · intro w'
              go_simp
              with_reducible rfl
            rotate_left
            · simp only [Act.put, List.setIfInBounds_toArray, List.set_cons_zero, List.set_cons_succ, i64_w, i32_w]
              rfl
            refine take_ (i := 2) (N := (some 32)) (v := ?_) (a' := ?_) #[true, true, true, false, false, false, false, false, false] rfl rfl (by kernel_rfl) (fun _ _ _ h => h) (Or.inl ⟨by rfl, ?_⟩) hHeld ?_ ?_
            rotate_left
            · rintro w' ⟨s0, s1⟩
              go_simp
              with_reducible rfl
            rotate_left
            · simp only [Act.put, List.setIfInBounds_toArray, List.set_cons_zero, List.set_cons_succ, i64_w, i32_w]
              rfl
            refine pure_ (i := 3) (N := (some 33)) (v := ?_) (a' := ?_) #[true, true, true, true, false, false, false, false, false] rfl rfl (by kernel_rfl) (fun _ _ _ h => h) (Or.inl ⟨by rfl, ?_⟩) ?_ ?_
            rotate_left
            · intro w'
              go_simp
              with_reducible rfl
            rotate_left
            · simp only [Act.put, List.setIfInBounds_toArray, List.set_cons_zero, List.set_cons_succ, i64_w, i32_w]
              rfl
            refine pure_ (i := 4) (N := (some 34)) (v := ?_) (a' := ?_) #[true, true, true, true, true, false, false, false, false] rfl rfl (by kernel_rfl) (fun _ _ _ h => h) (Or.inl ⟨by rfl, ?_⟩) ?_ ?_
            rotate_left
            · intro w'
              go_simp
              with_reducible rfl
            rotate_left
            · simp only [Act.put, List.setIfInBounds_toArray, List.set_cons_zero, List.set_cons_succ, i64_w, i32_w]
              rfl
            refine take_ (i := 5) (N := (some 35)) (v := ?_) (a' := ?_) #[true, true, true, true, true, true, false, false, false] rfl rfl (by kernel_rfl) (fun _ _ _ h => h) (Or.inl ⟨by rfl, ?_⟩) hHeld ?_ ?_
            rotate_left
            · rintro w' ⟨s0, s1⟩
              go_simp
              with_reducible rfl
            rotate_left
            · simp only [Act.put, List.setIfInBounds_toArray, List.set_cons_zero, List.set_cons_succ, i64_w, i32_w]
              rfl
            refine pure_ (i := 6) (N := (some 36)) (v := ?_) (a' := ?_) #[true, true, true, true, true, true, true, false, false] rfl rfl (by kernel_rfl) (fun _ _ _ h => h) (Or.inl ⟨by rfl, ?_⟩) ?_ ?_
            rotate_left
            · intro w'
              go_simp
              with_reducible rfl
            rotate_left
            · simp only [Act.put, List.setIfInBounds_toArray, List.set_cons_zero, List.set_cons_succ, i64_w, i32_w]
              rfl
            refine pure_ (i := 7) (N := (some 37)) (v := ?_) (a' := ?_) #[true, true, true, true, true, true, true, true, false] rfl rfl (by kernel_rfl) (fun _ _ _ h => h) (Or.inl ⟨by rfl, ?_⟩) ?_ ?_
            rotate_left
            · intro w'
              go_simp
              with_reducible rfl
            rotate_left
            · simp only [Act.put, List.setIfInBounds_toArray, List.set_cons_zero, List.set_cons_succ, i64_w, i32_w]
              rfl
            refine last_ (i := 8) (N := none) #[true, true, true, true, true, true, true, true, true] rfl rfl (by kernel_rfl) (by decide) (fun K hK => ?_)
            refine skip_ (w1 := ?_) (by rfl) rfl ?_ ?_
            rotate_left
            · go_simp
              rfl
            refine hK.out _ _ ?_
            clear hK K
            refine done_ (by kernel_rfl) ?_
            have HX3 := Aside0.mk ((HX2.out.set HW.out m (by omega) (p + z)).below (below_drew (Below.refl _ _)))
            clear r1 r2 r3 c6 c7 c8 c9
            obtain ⟨w3, hw3⟩ : ∃ w3, w3 = (wa.setCell ⟨w.heap.size + 1, m, none⟩ (.int .i64 (p + z))).drew := ⟨_, rfl⟩
            rw [← hw3] at HX3 ⊢
            clear hw3
            go_wp2
            go_roundw
            case rel => exact ⟨k + 1, by go_num, HK.out, ⟨by rw [HP.out]; have := HX3.out; rwa [upd_upd] at this⟩⟩
            case measure => simp [intOf]; have := HK.out; omega
          · have HR := Aside0.mk (decide_eq_false hr)
            have HT := HT.out
            rw [if_neg hr] at HT
            have HT := Aside0.mk HT
            clear hr
            go_wp2_with (go_at_call 57; (with_reducible refine (after_c _ b s HX.out.wd HS.out m k q false hm HK.out HQ.out HR.out).mono ?_); rintro e wa ⟨rfl, HD2⟩; have HX2 := Aside0.mk (HX.out.below HD2.below); clear HD2)
            go_roundw
            case rel => exact ⟨k + 1, by go_num, HK.out, ⟨by rw [psum_succ, HT.out, Nat.add_zero]; exact HX2.out⟩⟩
            case measure => simp [intOf]; have := HK.out; omega
        · have hge : ¬ ((k : Int) < 4) := by omega
          have HX3 := Aside0.mk (show CtAt s w b (upd f m (cs ((bl s).drop m))) wr by have e : k = 4 := by omega
                                                                                      subst e; rw [cs_eq]; exact HX.out)
          clear HX hlt hq1
          go_wp2
          go_roundw
          case rel => exact ⟨(m : Int) - 1, _, rfl, by omega, by omega, HX3, ⟨fun j hj => by
            unfold upd
            by_cases e : j = m
            · subst e; rw [if_pos rfl]; unfold cntF; rw [if_pos (by rw [bl_length]; exact hm)]
            · rw [if_neg e]; exact HD.out j (by omega)⟩⟩
          case measure => simp [intOf]
    · obtain rfl : i = -1 := by omega
      clear hp hi1 hi2
      go_wp2_with (first | (with_reducible refine wpList_load_row rfl 84 (.tmp 3) rfl (w.heap.size + 1) rfl 84 _ (0, 0) _ HC.out.arr Try.underlying84 rfl (by rw [acells_size]; kernel_rfl) ?_) | (with_reducible refine store_arr (.tmp 2) (.tmp 39) rfl rfl w.heap.size _ f rfl rfl HC.out.res ?_; intro w1 hr1 hg1; have HR := Aside0.mk hr1; have HG := Aside0.mk hg1; clear hr1 hg1))
      refine bodyPost_ret (results_cell_row rfl _ _ w.heap.size 84 _ (0, 0) _ rfl HR.out Try.underlying84 rfl (by rw [acells_size]; kernel_rfl)) rfl ?_
      refine ⟨by rw [acells_congr (fun j _ => HD.out j (by omega))], HC.out.bel.grown HG.out HC.out.bel.size (fun k e => by injection e with e; omega)⟩
end Go.Proofs.Ytagdbadljcongaa.X
end

section
/- Small laws for the walks of this seat: append of a number and of a string; a string's bytes. -/
set_option linter.unusedVariables false
set_option linter.unusedSimpArgs false
namespace Go.Proofs.Ytagdbadljcongaa.X
open Go.RowKit Go.Proofs.YtagdbadljcongaaW.PrintWords Go.Proofs.YtagdbadljcongaaW.PrintLast Go.Proofs.YtagdbadljcongaaW.PrintMore
theorem info3w : (Try.prog.info? 3).map (fun i => (i.zero, i.size, i.bytes)) = some (some (.int .i64 0), 1, 8) := by kernel_rfl
/-- append of one whole number, as an arm. -/
theorem app_int {w W : World} {base : Nat} {ok : Nat → Prop} {A : Option Addr} {c : Nat} {xs : List Int} {x : Int} (hr : Kd.R (Kd.int .i64) 3 W base ok (.slice A xs.length c) xs) (hB : Below base w W) (hbase : base ≤ W.heap.size) (hfresh : ∀ k, W.heap.size ≤ k → ok k) (hl : xs.length ≤ 1000000) (i j : Nat) (ops : Array Oper) (rest : List Oper) (o : Oper) (a : Act) (Q : Exit → Act → World → Prop)
    (hgd : o.guard = none) (ho : o.op = .call { callee := .builtin .append, args := #[.tmp i, .tmp j], argTypes := #[23, 23] }) (hs : a.eval (.tmp i) = .slice A xs.length c) (hx : a.eval (.tmp j) = .slice (some ⟨W.heap.size, 0, none⟩) 1 1)
    (h : ∀ A' c' w', Kd.R (Kd.int .i64) 3 w' base ok (.slice A' (xs.length + 1) c') (xs ++ [x]) → Below base w w' → W.grownBy w' (Value.slice A xs.length c).ownBlock → ((Value.slice A' (xs.length + 1) c').ownBlock = (Value.slice A xs.length c).ownBlock ∨ ∃ q, (Value.slice A' (xs.length + 1) c').ownBlock = some q ∧ W.heap.size ≤ q) → wpList Try.prog ops Q rest (a.put o.dst (.slice A' (xs.length + 1) c')) w') :
    wpList Try.prog ops Q (o :: rest) a (W.alloc (.cells #[.int .i64 x] 3)) := by
  refine Kd.R_append (Kd.int .i64) (w0 := w) base hgd (.tmp i) (.tmp j) 23 3 (.int .i64 0) 8 ho Try.underlying23 info3w rfl (by decide) (by omega) (.slice A xs.length c) xs x [.int .i64 x] ok (fun _ => False) hs hx rfl (fun _ h => h.elim) hfresh hr hB hbase (by omega) ?_
  intro v1 w1 ho hb hg hat
  obtain ⟨A', c', rfl⟩ := Kd.R_slice ho
  have e : (xs ++ [x]).length = xs.length + 1 := by simp
  rw [e] at ho hat ⊢
  exact h A' c' w1 ho hb hg hat
theorem conv_run (u : ByteArray) (W : World) : (convert 9 36 (.string u)).run Try.prog W = .ok (.slice (some ⟨W.heap.size, 0, none⟩) u.size (grownCap W u.size 0 5)) (Lib.bytesWorld W 5 u) :=
  Lib.run_convert_string_bytes W 9 36 5 u Try.underlying9 Try.underlying36 Try.underlying5
theorem conv_below (u : ByteArray) (W : World) : Below W.heap.size W (Lib.bytesWorld W 5 u) :=
  ⟨rfl, rfl, rfl, by rw [Lib.bytesWorld_size]; omega, fun k hk => Lib.bytesWorld_at_old W 5 u k hk⟩
theorem conv_cell (u : ByteArray) (W : World) (j : Nat) (hj : j < u.size) : (Lib.bytesWorld W 5 u).cell? ⟨W.heap.size, j, none⟩ = some (.int .u8 ((bl u)[j]'(by rw [bl_length]; exact hj) : Nat)) := by
  rw [Lib.bytesWorld_cell W 5 u j hj]
  simp [bl, List.getD_eq_getElem?_getD, hj]
end Go.Proofs.Ytagdbadljcongaa.X
end

section
/- thread.Within. -/
set_option linter.unusedVariables false
set_option linter.unusedSimpArgs false
namespace Go.Proofs.Ytagdbadljcongaa.X
open Go.RowKit Go.Proofs.YtagdbadljcongaaW.PrintWords Go.Proofs.YtagdbadljcongaaW.PrintLast Go.Proofs.YtagdbadljcongaaW.PrintMore
theorem count0 (f : Nat → Int) (W : World) : (Instr.index 84 (.agg (acells f)) (.int .i64 0)).run Try.prog W = .ok (.int .i64 (f 0)) W := by kernel_rfl
set_option maxHeartbeats 2000000 in
set_option maxRecDepth 100000 in
theorem count_y (s : ByteArray) (w : World) (h : isW (bl s) = true) : Calls Try.prog 27 #[.string s] w fun e w' => e = .returned (.tuple #[.int .i64 (cs (bl s)), .int .i64 0]) ∧ Below w.heap.size w w' := by
  have HS := Aside0.mk (show s.size ≤ 60 by rw [← bl_length]; exact ((isW_iff _).1 h).1)
  have H := Aside0.mk h
  have h0 := count0 (cntF (bl s))
  clear h
  go_enter Try.func27, Try.ntmps27
  go_wp2_with (first | (go_at_call 48; (with_reducible refine (newWord_yes _ _ H.out).mono ?_); rintro e w1 ⟨rfl, hwd, hb⟩; have HWD := Aside0.mk hwd; have HB := Aside0.mk hb; clear hwd hb) | (go_at_call 53; (with_reducible refine (counts_any _ _ s HWD.out HS.out).mono ?_); rintro e w2 ⟨rfl, hb⟩; have HB2 := Aside0.mk hb; clear hb))
  go_ret2
  exact ⟨by unfold cntF; rfl, below_step HB.out HB2.out⟩
/-- What Within returns. -/
def WiPost (r : Option (List Nat)) (w : World) (e : Ending) (w' : World) : Prop :=
  ∃ v, (match r with
    | some xs => e = .returned (.tuple #[v, .int .i64 0]) ∧ Kd.R (Kd.int .i64) 3 w' w.heap.size (fun _ => True) v (xs.map fun (n : Nat) => (n : Int))
    | none => v = .slice none 0 0 ∧ e = .returned (.tuple #[v, .int .i64 6])) ∧ Below w.heap.size w w'
theorem letter_at {l : List Nat} (h : isW l = true) (k : Nat) (hk : k < l.length) : ∃ c, l[k] = 97 + c ∧ c < 4 := by
  have := ((isW_iff l).1 h).2 _ (List.getElem_mem hk)
  exact ⟨l[k] - 97, by omega, by omega⟩
theorem wth_step {l u : List Nat} {i k c q : Nat} (hk : k < u.length) (hc : u[k] = 97 + c) (hq : nx l i (97 + c) = q) : wth l i (u.drop k) = if q < l.length then (wth l (q + 1) (u.drop (k + 1))).map (q :: ·) else none := by
  rw [List.drop_eq_getElem_cons hk, hc]
  show (if nx l i (97 + c) < l.length then (wth l (nx l i (97 + c) + 1) (u.drop (k + 1))).map (nx l i (97 + c) :: ·) else none) = _
  rw [hq]
set_option maxHeartbeats 4000000 in
set_option maxRecDepth 100000 in
theorem within_ok (u s : ByteArray) (w : World) (hu : isW (bl u) = true) (hs : isW (bl s) = true) (r : Option (List Nat)) (hr : wth (bl s) 0 (bl u) = r) : Calls Try.prog 32 #[.string u, .string s] w (WiPost r w) := by
  have HU := Aside0.mk hu
  have HS := Aside0.mk hs
  have HS60 := Aside0.mk (show s.size ≤ 60 by rw [← bl_length]; exact ((isW_iff _).1 hs).1)
  have HU60 := Aside0.mk (show u.size ≤ 60 by rw [← bl_length]; exact ((isW_iff _).1 hu).1)
  have HRR := Aside0.mk hr
  have hcv := conv_run u
  clear hu hs hr
  go_enter Try.func32, Try.ntmps32
  go_wp2_with (first | (go_at_call 48; (with_reducible refine (newWord_yes u _ HU.out).mono ?_); rintro e w1 ⟨rfl, hwd, hb⟩; have HWU := Aside0.mk hwd; have HB := Aside0.mk hb; clear hwd hb) | (go_at_call 48; (with_reducible refine (newWord_yes s _ HS.out).mono ?_); rintro e w2 ⟨rfl, hwd, hb⟩; have HWS := Aside0.mk hwd; have HB2 := Aside0.mk hb; have t1 := (HWU.out.below hb).text; clear hwd hb))
  clear t1
  obtain ⟨g, hg⟩ : ∃ g, w2.heap.size = g := ⟨_, rfl⟩
  obtain ⟨b, hb⟩ : ∃ b, w1.heap.size = b := ⟨_, rfl⟩
  obtain ⟨cap, hcap⟩ : ∃ cap, grownCap w2 u.size 0 5 = cap := ⟨_, rfl⟩
  have HWD := Aside0.mk (show WordAt (Lib.bytesWorld w2 5 u) b s by rw [← hb]; exact HWS.out.below (conv_below u w2))
  have HCC := Aside0.mk (show ∀ j (hj : j < u.size), (Lib.bytesWorld w2 5 u).cell? ⟨g, j, none⟩ = some (.int .u8 ((bl u)[j]'(by rw [bl_length]; exact hj) : Nat)) by rw [← hg]; exact fun j hj => conv_cell u w2 j hj)
  have HB0 := Aside0.mk (show Below w.heap.size w (Lib.bytesWorld w2 5 u) from below_step (below_step HB.out HB2.out) (conv_below u w2))
  obtain ⟨W0, hW0⟩ : ∃ W0, Lib.bytesWorld w2 5 u = W0 := ⟨_, rfl⟩
  rw [hW0] at HWD HCC HB0 ⊢
  simp only [hg, hb, hcap]
  clear hcv hW0 hg hb hcap HB HB2 HWS HWU
  go_loopw [10, 11, 38] (fun v10 v11 v38 wr => ∃ (k i : Nat) (A : Option Addr) (c : Nat) (xs : List Int), v38 = .int .i64 k ∧ v11 = .int .i64 i ∧ v10 = .slice A xs.length c ∧ k ≤ u.size ∧ i ≤ s.size ∧ Aside0 (xs.length ≤ k) ∧
      Aside0 (Kd.R (Kd.int .i64) 3 wr W0.heap.size (fun _ => True) (.slice A xs.length c) xs) ∧ Aside0 (Below W0.heap.size W0 wr) ∧ Aside0 (∃ pre : List Nat, xs = pre.map (fun (n : Nat) => (n : Int)) ∧ (wth (bl s) i ((bl u).drop k)).map (pre ++ ·) = r)) (fun _ _ v38 _ => u.size - (intOf v38).toNat)
  case atStart => exact ⟨0, 0, none, 0, [], rfl, rfl, rfl, by omega, by omega, ⟨by simp⟩, ⟨Kd.R_nil _ _ _ _ _⟩, ⟨Below.refl _ _⟩, ⟨[], rfl, by
    rw [List.drop_zero, HRR.out]; cases r <;> simp⟩⟩
  case round =>
    obtain ⟨k, i, A, c, xs, rfl, rfl, rfl, hk, hi, HP, HR, HB, HE⟩ := hrel
    clear HRR
    by_cases hlt : k < u.size
    · obtain ⟨d, hd, hd4⟩ := letter_at HU.out k (by rw [bl_length]; exact hlt)
      have t1 : wr.cell? ⟨g, k, none⟩ = some (.int .u8 (97 + (d : Int))) := by
        rw [pw_cell_below HB.out (HCC.out k hlt), hd]; simp
      have HWR := Aside0.mk (HWD.out.below HB.out)
      obtain ⟨q, hq⟩ : ∃ q, nx (bl s) i (97 + d) = q := ⟨_, rfl⟩
      have hq1 := nx_le (bl s) i (97 + d) (by rw [bl_length]; exact hi)
      rw [hq, bl_length] at hq1
      have HW := Aside0.mk (wth_step (by rw [bl_length]; exact hlt) hd hq)
      have HQ := Aside0.mk hq
      have HD4 := Aside0.mk hd4
      have c1 : (97 : Int) + (d : Int) - 97 = (d : Int) := by omega
      have c2 : (d : Int) < 4 := by omega
      have hq2 : q ≤ 60 := by have := HS60.out; omega
      have hk2 : (k : Int) < 60 := by have := HU60.out; omega
      have HLT := Aside0.mk hlt
      have HI := Aside0.mk hi
      have hltI : (k : Int) < (u.size : Int) := by omega
      clear hd hq hd4 hlt
      by_cases hqs : q < s.size
      · have HQS := Aside0.mk hqs
        have HR1 := Aside0.mk (decide_eq_true hqs)
        clear hqs
        go_upto_region 13 with (go_at_call 57; (with_reducible refine (after_c _ b s HWR.out HS60.out i d q true HI.out HD4.out HQ.out HR1.out).mono ?_); rintro e wa ⟨rfl, HDR⟩; have HBA := Aside0.mk HDR.below; clear HDR)
        have HRA := Aside0.mk (Kd.R_below HR.out HBA.out)
        have HBW := Aside0.mk (below_step HB.out HBA.out)
        have KEY := Aside0.mk (app_int (x := (q : Int)) HRA.out HBW.out HBW.out.size (fun _ _ => trivial) (by have := HP.out; omega) 53 56)
        go_wp2_with (at_builtin; refine KEY.out _ _ _ _ _ rfl rfl rfl rfl ?_; intro A2 c2 w3 hr3 hb3 hg3 hat3; have HR3 := Aside0.mk hr3; have HB3 := Aside0.mk hb3; clear hr3 hb3 hg3 hat3)
        go_roundw
        case rel => exact ⟨k + 1, q + 1, A2, c2, xs ++ [(q : Int)], by go_num, by go_num, by simp, by have := HLT.out; omega, by have := HQS.out; omega, ⟨by have := HP.out; simp; omega⟩, ⟨by rw [List.length_append]; exact HR3.out⟩, HB3, ⟨by
          obtain ⟨pre, h1, h2⟩ := HE.out
          have h3 := HW.out
          rw [if_pos (by rw [bl_length]; exact HQS.out)] at h3
          refine ⟨pre ++ [q], by rw [h1]; simp, ?_⟩
          rw [← h2, h3]
          cases wth (bl s) (q + 1) ((bl u).drop (k + 1)) <;> simp⟩⟩
        case measure => simp [intOf]; have := HLT.out; omega
      · have HR1 := Aside0.mk (decide_eq_false hqs)
        have HQS := Aside0.mk hqs
        clear hqs
        go_wp2_with (go_at_call 57; (with_reducible refine (after_c _ b s HWR.out HS60.out i d q false HI.out HD4.out HQ.out HR1.out).mono ?_); rintro e wa ⟨rfl, HDR⟩; have HBA := Aside0.mk HDR.below; clear HDR)
        go_ret2
        refine ⟨.slice none 0 0, ?_, below_then (HB0.out.trans (HB.out.mono HB0.out.size)) (Nat.le_trans HB0.out.size HB.out.size) HBA.out⟩
        obtain ⟨pre, h1, h2⟩ := HE.out
        have h3 := HW.out
        rw [if_neg (by rw [bl_length]; exact HQS.out)] at h3
        rw [h3] at h2
        subst h2
        exact ⟨rfl, rfl⟩
    · have HLT := Aside0.mk (show k = u.size by omega)
      have hltI : ¬ ((k : Int) < (u.size : Int)) := by omega
      clear hlt
      go_wp2
      go_ret2
      refine ⟨.slice A xs.length c, ?_, HB0.out.trans (HB.out.mono HB0.out.size)⟩
      obtain ⟨pre, h1, h2⟩ := HE.out
      rw [HLT.out, ← bl_length, List.drop_length] at h2
      simp [wth] at h2
      subst h2
      refine ⟨rfl, ?_⟩
      rw [← h1]
      exact Kd.R_lower HR.out HB0.out.size
set_option maxHeartbeats 4000000 in
set_option maxRecDepth 100000 in
theorem within_bad (u s : ByteArray) (w : World) (h : ¬ (isW (bl u) = true ∧ isW (bl s) = true)) : Calls Try.prog 32 #[.string u, .string s] w fun e w' => e = .returned (.tuple #[.slice none 0 0, .int .i64 2]) ∧ Below w.heap.size w w' := by
  obtain ⟨a, ha⟩ : ∃ a, isW (bl u) = a := ⟨_, rfl⟩
  obtain ⟨c, hc⟩ : ∃ c, isW (bl s) = c := ⟨_, rfl⟩
  have HA := Aside0.mk ha
  have HC := Aside0.mk hc
  rw [ha, hc] at h
  clear ha hc
  cases a <;> cases c
  case true.true => exact absurd ⟨rfl, rfl⟩ h
  all_goals
    clear h
    go_enter Try.func32, Try.ntmps32
    go_wp2_with (first | (go_at_call 48; (with_reducible refine (newWord_b u _ _ HA.out).mono ?_); rintro e w1 ⟨pu, rfl, hb⟩; have HB := Aside0.mk hb; clear hb) | (go_at_call 48; (with_reducible refine (newWord_b s _ _ HC.out).mono ?_); rintro e w2 ⟨ps, rfl, hb⟩; have HB2 := Aside0.mk hb; clear hb))
    go_ret2
    exact ⟨rfl, below_step HB.out HB2.out⟩
end Go.Proofs.Ytagdbadljcongaa.X
end

section
/- A range over a function that hands out the first letters, one after the other: the law of the statement with an invariant that counts the rounds; alphabet's contract; leaving a function with marks. -/
set_option linter.unusedVariables false
set_option linter.unusedSimpArgs false
namespace Go.Proofs.Ytagdbadljcongaa.X
open Go Go.RowKit Go.Proofs.YtagdbadljcongaaW.PrintWords Go.Proofs.YtagdbadljcongaaW.PrintLast Go.Proofs.YtagdbadljcongaaW.PrintMore
section
variable {F : Fence} {n : Nat} {P : Program}
/-- The iterator's contract: it hands out encs 0, encs 1, .., encs (k - 1) in turn until a round says 'no more'. -/
def SeqJ (F : Fence) (n : Nat) (P : Program) (g : Nat) (lb : Array Value) (encs : Nat → Array Value) (k : Nat) (w : World) : Prop :=
  ∀ (l : Nat) (J Jx : Nat → World → Prop) (W : World), Below w.heap.size w W →
    (∀ c W1, c < k → J c W1 → YieldAt F (n - 1) P l (encs c) W1 fun e W' => (e = .returned (.bool true) ∧ J (c + 1) W') ∨ (e = .returned (.bool false) ∧ Jx c W')) → J 0 W →
    CallsIn F n P g (#[.func (.yield l) #[] #[]] ++ lb) W fun e W' => (∃ v, e = .returned v) ∧ (J k W' ∨ ∃ c, c < k ∧ Jx c W')
/-- How a round's body may be left. -/
def postJ (I : Nat → World → Prop) (Ix : Code → Nat → World → Prop) (c : Nat) (W : World) : Exit → Act → World → Prop
  | .normal, _, W' => KeepsOthers W W' ∧ I (c + 1) W'
  | .ret, _, W' => KeepsOthers W W' ∧ Ix .ret c W'
  | .exit id, _, W' => KeepsOthers W W' ∧ Ix (.exit id) c W'
  | .goto t, _, W' => KeepsOthers W W' ∧ Ix (.goto t) c W'
  | .panic _, _, _ => False
  | .outgrown, _, _ => False
theorem wpIn_rangeFunc_J {g : Operand} {ps : Array Tmp} {assign body : Code} {Q : Exit → Act → World → Prop} {a : Act} {w : World}
    (hro : F.round = none) (h1 : 1 ≤ n) {gf : Nat} {lb : Array Value} (hg : a.eval g = .func (.func gf) #[] lb) (hFg : F.fn gf) (eg : ∀ args w, (callFunc gf args).run P w = .ok (.enter gf args) w)
    {encs : Nat → Array Value} {k : Nat} (hseq : SeqJ F (n - 1) P gf lb encs k w) (hps : ∀ x, (encs x).size = ps.size)
    (I : Nat → World → Prop) (Ix : Code → Nat → World → Prop)
    (hI : ∀ c W l o o', w.heap.size ≤ l → W.heap[l]? = some o → o.isCells = false → I c W → I c (W.putObj l o'))
    (hIx : ∀ e c W l o o', w.heap.size ≤ l → W.heap[l]? = some o → o.isCells = false → Ix e c W → Ix e c (W.putObj l o'))
    (h0 : ∀ o o', I 0 ((w.alloc o).alloc o')) (a₁ : Nat → Act)
    (hassign : ∀ (l : Nat) (c : Nat) (W : World) (K : Act → World → Prop), K (a₁ c) W →
      assign.wpIn (F.inRound l) (n - 1 - 1) P (Exit.then K (fun _ _ _ => False)) { tmps := (ps.zip (encs c)).foldl (fun t (p, v) => t.setIfInBounds p v) a.tmps, defers := [] } W)
    (hbody : ∀ (l : Nat) (c : Nat) (W : World), w.heap.size ≤ l → c < k → I c W → body.wpIn (F.inRound l) (n - 1 - 1) P (postJ I Ix c W) (a₁ c) W)
    (hdone : ∀ (D : Nat) (W : World), w.heap.size ≤ D → I k W → W.heap[D]? = some (.deferred (some [])) → Q .normal { a with defers := { target := .collected D, args := #[] } :: a.defers } W)
    (hstop : ∀ (D : Nat) (e : Code) (c : Nat) (W : World), w.heap.size ≤ D → c < k → Ix e c W → W.heap[D]? = some (.deferred (some [])) → e.wpIn F n P Q { a with defers := { target := .collected D, args := #[] } :: a.defers } W) :
    (Code.rangeFunc g ps assign body).wpIn F n P Q a w := by
  refine wpIn_rangeFunc ?_
  intro fn hfn
  rw [hro]
  obtain ⟨rec, hrec⟩ : ∃ rec : LoopState → Option Code → Loop, rec = fun st pe => { state := st, pending := pe, fn, tmps := a.tmps, params := ps, assign, body, defers := w.heap.size } := ⟨_, rfl⟩
  obtain ⟨W1, hW1⟩ : ∃ W1, (w.alloc (.deferred (some []))).alloc (.loop (rec .ready none)) = W1 := ⟨_, rfl⟩
  have hL1 : W1.heap[w.heap.size + 1]? = some (.loop (rec .ready none)) := by
    rw [← hW1]; have := World.alloc_heap_new (w.alloc (.deferred (some []))) (.loop (rec .ready none)); rwa [World.size_alloc] at this
  have hK1 : W1.heap[w.heap.size]? = some (.deferred (some [])) := by
    rw [← hW1]; exact (Below.heap_alloc _ _ _ (by simp)).trans (World.alloc_heap_new w _)
  have hI1 : I 0 W1 := by rw [← hW1]; exact h0 _ _
  have hb1 : Below w.heap.size w W1 := by
    rw [← hW1]; exact ((Below.refl _ w).alloc (Nat.le_refl _) _).alloc (by simp) _
  refine ⟨w.heap.size + 1, [{ target := .collected w.heap.size, args := #[] }], W1, { target := .fn (.func gf) lb, args := #[.func (.yield (w.heap.size + 1)) #[] #[]] }, W1, gf,
    #[.func (.yield (w.heap.size + 1)) #[] #[]] ++ lb, W1, ?_, ?_, ?_, ?_, fun _ => h1, ?_⟩
  · rw [← hW1, hrec]; exact run_enterLoop_outer _ _ _ _ _
  · simp only [resolve, hg]
    simp [go_sem]
  · intro f' hf'; simp [Target.leads] at hf'; subst hf'; exact hFg
  · simp [invoke, go_sem, eg]
  · refine (hseq (w.heap.size + 1)
      (fun c W => I c W ∧ W.heap[w.heap.size + 1]? = some (.loop (rec .ready none)) ∧ W.heap[w.heap.size]? = some (.deferred (some [])))
      (fun c W => ∃ e, Ix e c W ∧ W.heap[w.heap.size + 1]? = some (.loop (rec .done (some e))) ∧ W.heap[w.heap.size]? = some (.deferred (some [])))
      W1 hb1 ?_ ⟨hI1, hL1, hK1⟩).mono ?_
    · rintro c W hck ⟨hIc, hl, hk⟩
      have hlt : w.heap.size + 1 < W.heap.size := (Array.getElem?_eq_some_iff.1 hl).1
      have hy := run_yield (P := P) (args := encs c) hl (by rw [hrec]; exact hps c)
      rw [hrec] at hy
      refine ⟨fn, _, assign, body, hy, roundIn_of_wpIn hfn (hassign _ c W _ ⟨_, run_beginRound hl (by rw [hrec]), ?_⟩)⟩
      have hl2 : (W.putObj (w.heap.size + 1) (.loop { rec .ready none with state := .busy })).heap[w.heap.size + 1]? = some (.loop { rec .ready none with state := .busy }) := World.putObj_heap_same hlt
      have hk2 : (W.putObj (w.heap.size + 1) (.loop { rec .ready none with state := .busy })).heap[w.heap.size]? = some (.deferred (some [])) := (World.putObj_heap_other (by omega)).trans hk
      refine wpIn_mono (hbody _ c _ (by omega) hck (hI _ _ _ _ _ (by omega) hl rfl hIc)) ?_
      have fin : ∀ (jump : Option Code) (W3 : World), W3.heap[w.heap.size + 1]? = some (.loop { rec .ready none with state := .busy }) → W3.heap[w.heap.size]? = some (.deferred (some [])) →
          (Instr.endRound (w.heap.size + 1) jump).run P W3 = .ok (.bool jump.isNone) (W3.putObj (w.heap.size + 1) (.loop (rec (if jump.isNone then .ready else .done) jump))) ∧
          (W3.putObj (w.heap.size + 1) (.loop (rec (if jump.isNone then .ready else .done) jump))).heap[w.heap.size + 1]? = some (.loop (rec (if jump.isNone then .ready else .done) jump)) ∧
          (W3.putObj (w.heap.size + 1) (.loop (rec (if jump.isNone then .ready else .done) jump))).heap[w.heap.size]? = some (.deferred (some [])) := fun jump W3 hl3 hk3 => by
        have := run_endRound (P := P) jump hl3
        rw [hrec] at this ⊢
        exact ⟨this, World.putObj_heap_same (Array.getElem?_eq_some_iff.1 hl3).1, (World.putObj_heap_other (by omega)).trans hk3⟩
      rintro e a3 W3 hp
      cases e with
      | normal =>
        obtain ⟨hk3, hi3⟩ := hp
        have h3l := hk3.same _ _ hl2 rfl
        obtain ⟨hr, hl4, hk4⟩ := fin none W3 h3l (hk3.same _ _ hk2 rfl)
        exact ⟨_, _, hr, .inl ⟨rfl, hI _ _ _ _ _ (by omega) h3l rfl hi3, hl4, hk4⟩⟩
      | ret =>
        obtain ⟨hk3, hi3⟩ := hp
        have h3l := hk3.same _ _ hl2 rfl
        obtain ⟨hr, hl4, hk4⟩ := fin (some .ret) W3 h3l (hk3.same _ _ hk2 rfl)
        exact ⟨_, _, hr, .inr ⟨rfl, .ret, hIx _ _ _ _ _ _ (by omega) h3l rfl hi3, hl4, hk4⟩⟩
      | exit id =>
        obtain ⟨hk3, hi3⟩ := hp
        have h3l := hk3.same _ _ hl2 rfl
        obtain ⟨hr, hl4, hk4⟩ := fin (some (.exit id)) W3 h3l (hk3.same _ _ hk2 rfl)
        exact ⟨_, _, hr, .inr ⟨rfl, .exit id, hIx _ _ _ _ _ _ (by omega) h3l rfl hi3, hl4, hk4⟩⟩
      | goto t =>
        obtain ⟨hk3, hi3⟩ := hp
        have h3l := hk3.same _ _ hl2 rfl
        obtain ⟨hr, hl4, hk4⟩ := fin (some (.goto t)) W3 h3l (hk3.same _ _ hk2 rfl)
        exact ⟨_, _, hr, .inr ⟨rfl, .goto t, hIx _ _ _ _ _ _ (by omega) h3l rfl hi3, hl4, hk4⟩⟩
      | panic ch => exact hp.elim
      | outgrown => exact hp.elim
    · rintro e W2 ⟨⟨v, rfl⟩, (⟨hIk, hl, hk⟩ | ⟨c, hck, cd, hi, hl, hk⟩)⟩
      · exact ⟨none, _, by have := run_endLoop (P := P) hl (by rw [hrec]; simp); rw [hrec] at this; exact this, hdone _ _ (Nat.le_refl _) (hI _ _ _ _ _ (by omega) hl rfl hIk) ((World.putObj_heap_other (by omega)).trans hk)⟩
      · exact ⟨some cd, _, by have := run_endLoop (P := P) hl (by rw [hrec]; simp); rw [hrec] at this; exact this, hstop _ cd c _ (Nat.le_refl _) hck (hIx _ _ _ _ _ _ (by omega) hl rfl hi) ((World.putObj_heap_other (by omega)).trans hk)⟩
/-- The marks of the ranges that the function has gone through. -/
def Marks (lo : Nat) (W : World) : List Deferred → Prop
  | [] => True
  | d :: ds => (∃ D, lo ≤ D ∧ d = { target := .collected D, args := #[] } ∧ W.heap[D]? = some (.deferred (some [])) ∧ ∀ e ∈ ds, e ≠ { target := .collected D, args := #[] }) ∧ Marks lo W ds
theorem Marks.keeps {lo : Nat} {W W' : World} {ds : List Deferred} (h : Marks lo W ds) (hk : ∀ D, lo ≤ D → W.heap[D]? = some (.deferred (some [])) → ({ target := .collected D, args := #[] } : Deferred) ∈ ds → W'.heap[D]? = some (.deferred (some []))) : Marks lo W' ds := by
  induction ds with
  | nil => trivial
  | cons d ds ih =>
    obtain ⟨⟨D, h1, rfl, h3, h4⟩, h5⟩ := h
    exact ⟨⟨D, h1, rfl, hk D h1 h3 (by simp), h4⟩, ih h5 (fun D a b c => hk D a b (by simp [c]))⟩
theorem Marks.lt {lo : Nat} {W : World} {ds : List Deferred} (h : Marks lo W ds) {D : Nat} (hd : ({ target := .collected D, args := #[] } : Deferred) ∈ ds) : W.heap[D]? = some (.deferred (some [])) := by
  induction ds with
  | nil => simp at hd
  | cons d ds ih =>
    obtain ⟨⟨D', h1, rfl, h3, h4⟩, h5⟩ := h
    rcases List.mem_cons.1 hd with e | e
    · injection e with e; injection e with e; subst e; exact h3
    · exact ih h5 e
theorem Marks.keepsOthers {lo : Nat} {W W' : World} {ds : List Deferred} (h : Marks lo W ds) (hk : KeepsOthers W W') : Marks lo W' ds := h.keeps fun D _ a _ => hk.same _ _ a rfl
theorem Marks.below {lo : Nat} {W W' : World} {ds : List Deferred} (h : Marks lo W ds) (hb : Below W.heap.size W W') : Marks lo W' ds := h.keeps fun D _ a _ => blk_below a hb
theorem Marks.put {lo : Nat} {W : World} {ds : List Deferred} (h : Marks lo W ds) {l : Nat} (hl : ∀ D, ({ target := .collected D, args := #[] } : Deferred) ∈ ds → D ≠ l) (o : Obj) : Marks lo (W.putObj l o) ds := h.keeps fun D _ a c => (World.putObj_heap_other (hl D c)).trans a
theorem Marks.cons {lo : Nat} {W : World} {ds : List Deferred} (h : Marks lo W ds) {D : Nat} (hl : lo ≤ D) (hD : W.heap[D]? = some (.deferred (some []))) (hn : ∀ D', ({ target := .collected D', args := #[] } : Deferred) ∈ ds → D' ≠ D) : Marks lo W ({ target := .collected D, args := #[] } :: ds) :=
  ⟨⟨D, hl, rfl, hD, fun e he e2 => by subst e2; exact hn D he rfl⟩, h⟩
/-- A function leaves by its marks: what its results read stays, and nothing below lo changes. -/
theorem leaves_marks {fn : Func} {tmps : Array Value} {R : Ending → World → Prop} {lo : Nat} : ∀ (ds : List Deferred) (W : World), Marks lo W ds →
    (∀ W', W'.heap.size = W.heap.size → (∀ (k : Nat) (o : Obj), W.heap[k]? = some o → o.isCells = true → W'.heap[k]? = some o) → Below lo W W' → LeavesInM F n P fn tmps R [] .returning W') → lo ≤ W.heap.size → LeavesInM F n P fn tmps R ds .returning W
  | [], W, _, h, hlo => h W rfl (fun k o h _ => h) (Below.refl _ _)
  | d :: ds, W, hm, h, hlo => by
    obtain ⟨⟨D, h1, rfl, h3, h4⟩, h5⟩ := hm
    refine ⟨by simp, .inl ⟨D, _, rfl, run_takeDeferred h3, ?_⟩⟩
    refine leaves_marks ds _ (h5.put (fun D' hD' e => by subst e; exact h4 _ hD' rfl) _) (fun W' hs hc hb => ?_) (by rw [World.putObj_size]; exact hlo)
    refine h W' (by rw [hs, World.putObj_size]) (fun k o hk ho => hc k o ?_ ho) ?_
    · rw [World.putObj_heap_other (fun e => by subst e; rw [h3] at hk; injection hk with hk; subst hk; cases ho)]; exact hk
    · exact ((Below.refl lo W).grown (grownBy_putObj' W D _) hlo (fun k e => by cases e; exact h1)).trans hb
end
/-- A slot of a frame. -/
def sl (U : Array Value) (j : Nat) : Value := U.getD j undef
theorem act_named {P : Program} {c : Code} {Q : Exit → Act → World → Prop} {a : Act} {w : World} (h : ∀ A : Act, A = a → c.wp P Q A w) : c.wp P Q a w := h a rfl
theorem ex_act {R : Prop} {F : Array Value → Act} {a : Act} (h1 : R) (h2 : a = F a.tmps) : ∃ U, R ∧ a = F U := ⟨a.tmps, h1, h2⟩
/-- A letter as a string. -/
def ltr (c : Nat) : ByteArray := ⟨#[UInt8.ofNat (97 + c)]⟩
set_option maxRecDepth 100000 in
theorem alphabet_calls (k : Int) (w : World) : Calls Try.prog 52 #[.int .i64 k] w fun e w' => e = .returned (.func (.func 70) #[] #[.pointer (some ⟨w.heap.size, 0, none⟩)]) ∧ w' = w.alloc (.cells #[.int .i64 k] 3) := by
  go_enter Try.func52, Try.ntmps52
  go_wp2
  go_ret
  exact ⟨rfl, rfl⟩
theorem encs_0 : (#[.int .i64 ((0 : Nat) : Int), .string (ltr 0)] : Array Value) = #[.int .i64 0, .string (Utf8.encode 97)] := by kernel_rfl
theorem encs_1 : (#[.int .i64 ((1 : Nat) : Int), .string (ltr 1)] : Array Value) = #[.int .i64 1, .string (Utf8.encode 98)] := by kernel_rfl
theorem encs_2 : (#[.int .i64 ((2 : Nat) : Int), .string (ltr 2)] : Array Value) = #[.int .i64 2, .string (Utf8.encode 99)] := by kernel_rfl
theorem encs_3 : (#[.int .i64 ((3 : Nat) : Int), .string (ltr 3)] : Array Value) = #[.int .i64 3, .string (Utf8.encode 100)] := by kernel_rfl
set_option maxHeartbeats 4000000 in
set_option maxRecDepth 100000 in
theorem alphabet_seq (k g : Nat) (w : World) (hk : k ≤ 4) (hg : w.heap[g]? = some (.cells #[.int .i64 k] 3 (0, 0))) : SeqJ Fence.wide 2 Try.prog 70 #[.pointer (some ⟨g, 0, none⟩)] (fun c => #[.int .i64 c, .string (ltr c)]) k w := by
  intro l J Jx W hW hY h0
  have hcg : W.cell? ⟨g, 0, none⟩ = some (.int .i64 k) := (blk_cell (blk_below hg hW) 0).trans rfl
  have HY := Aside0.mk hY
  have H0 := Aside0.mk h0
  have HK := Aside0.mk hk
  have hk2 : (k : Int) ≤ 4 := by omega
  clear hY h0 hW hg hk
  refine callsIn_of_wp Try.func70 rfl trivial ?_
  simp only [Try.ntmps70, List.size_toArray, List.length_cons, List.length_nil, Nat.reduceAdd, Nat.reduceSub, Array.replicate_succ, Array.replicate_zero, List.push_toArray, List.append_toArray, List.nil_append, List.cons_append]
  gi_wp2
  clear hcg
  gi_loopw [5] (fun v5 wr => ∃ c : Nat, v5 = .int .i64 c ∧ c ≤ k ∧ Aside0 (J c wr)) (fun v5 _ => k - (intOf v5).toNat)
  case atStart => exact ⟨0, rfl, by omega, H0⟩
  case round =>
    clear H0
    obtain ⟨c, rfl, hc, HJ⟩ := hrel
    by_cases hlt : c < k
    · have hy := HY.out c wr hlt HJ.out
      have hcc : c = 0 ∨ c = 1 ∨ c = 2 ∨ c = 3 := by have := HK.out; omega
      have hI : (c : Int) < (k : Int) := by omega
      have HLT := Aside0.mk hlt
      clear hlt
      rcases hcc with rfl | rfl | rfl | rfl
      · rw [encs_0] at hy
        obtain ⟨fn, tmps, assign, body, hyy, hRR⟩ := hy
        gi_wp2
        refine hRR.mono ?_
        rintro e W' (⟨rfl, hj⟩ | ⟨rfl, hj⟩)
        · have HJ2 := Aside0.mk hj
          clear hj hRR hyy
          gi_wp2
          go_roundw
          case rel => exact ⟨_, by go_num, by have := HLT.out; omega, HJ2⟩
          case measure => simp [intOf]; have := HLT.out; omega
        · have HJ2 := Aside0.mk hj
          clear hj hRR hyy
          gi_wp2
          (try simp only [Exit.inBlock, Exit.then])
          refine bodyPost_ret (results_none rfl _ _ _) rfl ?_
          exact ⟨⟨_, rfl⟩, .inr ⟨_, HLT.out, HJ2.out⟩⟩
      · rw [encs_1] at hy
        obtain ⟨fn, tmps, assign, body, hyy, hRR⟩ := hy
        gi_wp2
        refine hRR.mono ?_
        rintro e W' (⟨rfl, hj⟩ | ⟨rfl, hj⟩)
        · have HJ2 := Aside0.mk hj
          clear hj hRR hyy
          gi_wp2
          go_roundw
          case rel => exact ⟨_, by go_num, by have := HLT.out; omega, HJ2⟩
          case measure => simp [intOf]; have := HLT.out; omega
        · have HJ2 := Aside0.mk hj
          clear hj hRR hyy
          gi_wp2
          (try simp only [Exit.inBlock, Exit.then])
          refine bodyPost_ret (results_none rfl _ _ _) rfl ?_
          exact ⟨⟨_, rfl⟩, .inr ⟨_, HLT.out, HJ2.out⟩⟩
      · rw [encs_2] at hy
        obtain ⟨fn, tmps, assign, body, hyy, hRR⟩ := hy
        gi_wp2
        refine hRR.mono ?_
        rintro e W' (⟨rfl, hj⟩ | ⟨rfl, hj⟩)
        · have HJ2 := Aside0.mk hj
          clear hj hRR hyy
          gi_wp2
          go_roundw
          case rel => exact ⟨_, by go_num, by have := HLT.out; omega, HJ2⟩
          case measure => simp [intOf]; have := HLT.out; omega
        · have HJ2 := Aside0.mk hj
          clear hj hRR hyy
          gi_wp2
          (try simp only [Exit.inBlock, Exit.then])
          refine bodyPost_ret (results_none rfl _ _ _) rfl ?_
          exact ⟨⟨_, rfl⟩, .inr ⟨_, HLT.out, HJ2.out⟩⟩
      · rw [encs_3] at hy
        obtain ⟨fn, tmps, assign, body, hyy, hRR⟩ := hy
        gi_wp2
        refine hRR.mono ?_
        rintro e W' (⟨rfl, hj⟩ | ⟨rfl, hj⟩)
        · have HJ2 := Aside0.mk hj
          clear hj hRR hyy
          gi_wp2
          go_roundw
          case rel => exact ⟨_, by go_num, by have := HLT.out; omega, HJ2⟩
          case measure => simp [intOf]; have := HLT.out; omega
        · have HJ2 := Aside0.mk hj
          clear hj hRR hyy
          gi_wp2
          (try simp only [Exit.inBlock, Exit.then])
          refine bodyPost_ret (results_none rfl _ _ _) rfl ?_
          exact ⟨⟨_, rfl⟩, .inr ⟨_, HLT.out, HJ2.out⟩⟩
    · have hI : ¬ ((c : Int) < (k : Int)) := by omega
      have e : c = k := by omega
      have HJ2 := Aside0.mk (show J k wr by rw [← e]; exact HJ.out)
      clear hlt HJ e
      gi_wp2
      go_end0
      exact ⟨⟨_, rfl⟩, .inl HJ2.out⟩
end Go.Proofs.Ytagdbadljcongaa.X
end

section
/- The subsequence with a given rank. -/
set_option linter.unusedVariables false
set_option linter.unusedSimpArgs false
namespace Go.Proofs.Ytagdbadljcongaa.X
open Go.RowKit Go.Proofs.YtagdbadljcongaaW.PrintWords
/-- The letter that is chosen at a rank behind what has come so far. -/
def pickC (l : List Nat) (k : Nat) : Nat := if k < less l 1 then 0 else if k < less l 2 then 1 else if k < less l 3 then 2 else 3
/-- The subsequence of l that has k ones before it. -/
def itemF : Nat → List Nat → Nat → List Nat
  | 0, _, _ => []
  | f + 1, l, k => if k = 0 then [] else (97 + pickC l (k - 1)) :: itemF f (l.drop (nxl l (97 + pickC l (k - 1)) + 1)) (k - 1 - less l (pickC l (k - 1)))
def itemL (l : List Nat) (k : Nat) : List Nat := itemF (l.length + 1) l k
theorem less_succ (l : List Nat) (j : Nat) : less l (j + 1) = less l j + term l (97 + j) := rfl
theorem less_mono (l : List Nat) {i j : Nat} (h : i ≤ j) : less l i ≤ less l j := by
  have := psum_mono l h
  rw [psum_less, psum_less] at this; omega
theorem cs_less (l : List Nat) : cs l = 1 + less l 4 := by rw [cs_eq, psum_less]
/-- What picks the letter. -/
theorem pick_is {l : List Nat} {k c : Nat} (hc : c < 4) (h1 : less l c ≤ k) (h2 : k < less l (c + 1)) : pickC l k = c := by
  unfold pickC
  have h01 := less_mono l (show 0 ≤ 1 by omega)
  have h12 := less_mono l (show 1 ≤ 2 by omega)
  have h23 := less_mono l (show 2 ≤ 3 by omega)
  have hcc : c = 0 ∨ c = 1 ∨ c = 2 ∨ c = 3 := by omega
  rcases hcc with rfl | rfl | rfl | rfl
  · rw [if_pos h2]
  · rw [if_neg (by omega), if_pos h2]
  · rw [if_neg (by omega), if_neg (by omega), if_pos h2]
  · rw [if_neg (by omega), if_neg (by omega), if_neg (by omega)]
theorem pick_ok {l : List Nat} {k : Nat} (h : k + 1 < cs l) : pickC l k < 4 ∧ less l (pickC l k) ≤ k ∧ k < less l (pickC l k + 1) := by
  rw [cs_less] at h
  unfold pickC
  split
  · exact ⟨by omega, Nat.zero_le _, by assumption⟩
  · split
    · exact ⟨by omega, by omega, by assumption⟩
    · split
      · exact ⟨by omega, by omega, by assumption⟩
      · exact ⟨by omega, by omega, by show k < less l 4; omega⟩
theorem itemF_enough : ∀ (f : Nat) (l : List Nat) (k : Nat), l.length < f → k < cs l → itemF f l k = itemF (l.length + 1) l k
  | 0, l, k, h, _ => by omega
  | f + 1, l, k, h, hk => by
    show (if k = 0 then [] else _) = (if k = 0 then [] else _)
    by_cases e : k = 0
    · rw [if_pos e, if_pos e]
    · rw [if_neg e, if_neg e]
      obtain ⟨p1, p2, p3⟩ := pick_ok (l := l) (k := k - 1) (by omega)
      generalize pickC l (k - 1) = c at p1 p2 p3 ⊢
      rw [less_succ] at p3
      have hq : nxl l (97 + c) < l.length := by
        rcases Nat.lt_or_ge (nxl l (97 + c)) l.length with hq | hq
        · exact hq
        · unfold term at p3; rw [if_neg (by omega)] at p3; omega
      have hr : k - 1 - less l c < cs (l.drop (nxl l (97 + c) + 1)) := by
        unfold term at p3; rw [if_pos hq] at p3; omega
      have hl : (l.drop (nxl l (97 + c) + 1)).length < l.length := by rw [List.length_drop]; omega
      rw [itemF_enough f _ _ (by omega) hr, itemF_enough l.length _ _ hl hr]
theorem itemL_step {l : List Nat} {k c : Nat} (hc : c < 4) (h1 : less l c ≤ k) (h2 : k < less l (c + 1)) (hk : k + 1 < cs l) :
    itemL l (k + 1) = (97 + c) :: itemL (l.drop (nxl l (97 + c) + 1)) (k - less l c) := by
  have hp := pick_is hc h1 h2
  unfold itemL
  show (if k + 1 = 0 then [] else (97 + pickC l (k + 1 - 1)) :: itemF l.length (l.drop (nxl l (97 + pickC l (k + 1 - 1)) + 1)) (k + 1 - 1 - less l (pickC l (k + 1 - 1)))) = _
  rw [if_neg (by omega), Nat.add_sub_cancel, hp]
  rw [less_succ] at h2
  have hq : nxl l (97 + c) < l.length := by
    rcases Nat.lt_or_ge (nxl l (97 + c)) l.length with hq | hq
    · exact hq
    · unfold term at h2; rw [if_neg (by omega)] at h2; omega
  have hr : k - less l c < cs (l.drop (nxl l (97 + c) + 1)) := by
    unfold term at h2; rw [if_pos hq] at h2; omega
  rw [itemF_enough l.length _ _ (by rw [List.length_drop]; omega) hr]
/-- The same at a place of a word. -/
theorem itemL_at {l : List Nat} {i k c q : Nat} (hi : i ≤ l.length) (hq : nx l i (97 + c) = q) (hc : c < 4) (h1 : less (l.drop i) c ≤ k) (h2 : k < less (l.drop i) (c + 1)) (hk : k + 1 < cs (l.drop i)) :
    itemL (l.drop i) (k + 1) = (97 + c) :: itemL (l.drop (q + 1)) (k - less (l.drop i) c) := by
  rw [itemL_step hc h1 h2 hk, List.drop_drop, ← hq]
  unfold nx
  rw [Nat.add_assoc]
end Go.Proofs.Ytagdbadljcongaa.X
end
