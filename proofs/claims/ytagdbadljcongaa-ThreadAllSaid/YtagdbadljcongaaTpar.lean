/- Texts behind ThreadAll, part 18: contracts of the program's functions and the plain words for them. -/
import Derived.Lib.ConvBytes
import Derived.RangeFuncNested
import Derived.RangeFuncBound
import Derived.RangeFuncCalls
import Derived.RangeFuncLeaves
import Derived.Shelf.Abstract
import Derived.Shelf.RegionOpen
import Derived.WalkKit
import Derived.OwnWalkIn
import Derived.TacticsInMore
import Derived.LoopNIn
import Derived.LoopIn
import Derived.WalkSpells
import Derived.Laws.EntriesVeiled
import Derived.Test.YtagdbadljcongaaTpaq
section
/- marks.after. -/
set_option linter.unusedVariables false
set_option linter.unusedSimpArgs false
namespace Go.Proofs.Ytagdbadljcongaa.X
open Go Go.RowKit Go.Proofs Go.Proofs.YtagdbadljcongaaW.PrintWords Go.Proofs.YtagdbadljcongaaW.PrintLast Go.Proofs.YtagdbadljcongaaW.PrintMore
/-- Marks as cells. -/
def mcells (m : List Nat) : Array Value := (m.map fun (x : Nat) => Value.int .i64 (x : Int)).toArray
theorem mcells_at (m : List Nat) (i : Nat) (h : i < m.length) : (mcells m)[i]? = some (.int .i64 ((m.getD i 0 : Nat) : Int)) := by
  unfold mcells
  simp [List.getElem?_map, List.getElem?_eq_getElem h, List.getD_eq_getElem?_getD]
theorem mcells_set (m : List Nat) (i v : Nat) : (mcells m).setIfInBounds i (.int .i64 (v : Int)) = mcells (m.set i v) := by
  unfold mcells
  simp [List.map_set]
theorem four {m : List Nat} (h : m.length = 4) : ∃ a b c d, m = [a, b, c, d] := by
  match m, h with
  | [a, b, c, d], _ => exact ⟨a, b, c, d, rfl⟩
structure MkAt (w : World) (m : List Nat) (V : World) : Prop where
  c1 : V.heap[w.heap.size]? = some (.cells (mcells m) 101 (0, 0))
  c2 : V.heap[w.heap.size + 1]? = some (.cells #[.int .i64 0, .int .i64 0, .int .i64 0, .int .i64 0] 101 (0, 0))
  bel : Below w.heap.size w V
/-- What after returns. -/
def AfPost (r : Option (List Nat)) (w : World) (e : Ending) (w' : World) : Prop :=
  ∃ a b c d : Nat, e = .returned (.tuple #[.agg #[.int .i64 (a : Int), .int .i64 (b : Int), .int .i64 (c : Int), .int .i64 (d : Int)], .bool r.isSome]) ∧ (∀ m', r = some m' → m' = [a, b, c, d]) ∧ Below w.heap.size w w'
theorem blk_set4 {V : World} {g : Nat} {x0 x1 x2 x3 : Value} (h : V.heap[g]? = some (.cells #[x0, x1, x2, x3] 101 (0, 0))) (a b c d : Value) : ((((V.setCell ⟨g, 0, none⟩ a).setCell ⟨g, 1, none⟩ b).setCell ⟨g, 2, none⟩ c).setCell ⟨g, 3, none⟩ d).heap[g]? = some (.cells #[a, b, c, d] 101 (0, 0)) :=
  (blk_set (((blk_set ((blk_set ((blk_set h 0 a).trans rfl) 1 b).trans rfl) 2 c).trans rfl)) 3 d).trans rfl
theorem below4 {w V : World} {g : Nat} (h : Below w.heap.size w V) (hg : w.heap.size ≤ g) (a b c d : Value) : Below w.heap.size w ((((V.setCell ⟨g, 0, none⟩ a).setCell ⟨g, 1, none⟩ b).setCell ⟨g, 2, none⟩ c).setCell ⟨g, 3, none⟩ d) :=
  (((h.setCell hg _).setCell hg _).setCell hg _).setCell hg _
theorem info101 : (Try.prog.info? 101).map (·.size) = some 4 := by kernel_rfl
set_option maxHeartbeats 4000000 in
set_option maxRecDepth 1000000 in
theorem after_m (A : Option Addr) (c : Nat) (l : List ByteArray) (w : World) (hC : Kd.C Kd.string w A l.length l) (hl : l.length ≤ 4) (h8 : ∀ s ∈ l, s.size ≤ 8) (m : List Nat) (hm : MOk (l.map bl) m) (d : Nat) (hd : d < 4) (r : Option (List Nat)) (hr : aft (l.map bl) m (97 + d) = r) :
    Calls Try.prog 66 #[.agg (mcells m), .slice A l.length c, .int .u8 (97 + (d : Int))] w (AfPost r w) := by
  have HC := Aside0.mk hC
  have H8 := Aside0.mk h8
  have HL := Aside0.mk hl
  have HM := Aside0.mk hm
  have HD := Aside0.mk hd
  have HRR := Aside0.mk hr
  obtain ⟨a0, a1, a2, a3, e4⟩ := four hm.len
  subst e4
  show Calls Try.prog 66 #[.agg #[.int .i64 (a0 : Int), .int .i64 (a1 : Int), .int .i64 (a2 : Int), .int .i64 (a3 : Int)], .slice A l.length c, .int .u8 (97 + (d : Int))] w (AfPost r w)
  clear hC h8 hl hm hd hr
  go_enter Try.func66, Try.ntmps66
  go_wp2
  obtain ⟨W0, hW0⟩ : ∃ W0, (w.alloc (.cells #[.int .i64 (a0 : Int), .int .i64 (a1 : Int), .int .i64 (a2 : Int), .int .i64 (a3 : Int)] 101)).alloc (.cells #[.int .i64 0, .int .i64 0, .int .i64 0, .int .i64 0] 101) = W0 := ⟨_, rfl⟩
  have H0 := Aside0.mk (show MkAt w [a0, a1, a2, a3] W0 by
    rw [← hW0]
    refine ⟨blk_alloc (blk_new _ _) _, ?_, below_alloc (below_alloc (Below.refl _ _) _) _⟩
    have := blk_new (w.alloc (.cells #[.int .i64 (a0 : Int), .int .i64 (a1 : Int), .int .i64 (a2 : Int), .int .i64 (a3 : Int)] 101)) (.cells #[.int .i64 0, .int .i64 0, .int .i64 0, .int .i64 0] 101)
    rwa [World.size_alloc] at this)
  rw [hW0]
  clear hW0
  go_loopw [12] (fun v12 wr => ∃ (i : Nat) (m : List Nat), v12 = .int .i64 i ∧ i ≤ l.length ∧ Aside0 (MkAt w m wr) ∧ Aside0 (MOk (l.map bl) m) ∧ Aside0 (aftL ((l.map bl).drop i) i m (97 + d) = r)) (fun v12 _ => l.length - (intOf v12).toNat)
  case atStart => exact ⟨0, _, rfl, by omega, H0, HM, ⟨by rw [List.drop_zero]; exact HRR.out⟩⟩
  case round =>
    obtain ⟨i, m, rfl, hi, HA, HO, HE⟩ := hrel
    clear H0 HM HRR
    by_cases hlt : i < l.length
    · have hltI : (i : Int) < (l.length : Int) := by omega
      have hi0 : (0 : Int) ≤ (i : Int) := by omega
      have hi4 : (i : Int) < 4 := by have := HL.out; omega
      obtain ⟨s, hs⟩ : ∃ s, l[i] = s := ⟨_, rfl⟩
      obtain ⟨ad, e, hx⟩ := Kd.at_string (Kd.C_below HC.out HA.out.bel) (i : Int) hi0 hltI
      cases e
      have er : rdOf ByteArray.empty l (i : Int) = s := by unfold rdOf; simp [List.getD_eq_getElem?_getD, hlt, hs]
      rw [er, Int.toNat_natCast] at hx
      have hWi : ∀ h : i < (l.map bl).length, (l.map bl)[i] = bl s := fun h => by rw [List.getElem_map, hs]
      obtain ⟨p, hp⟩ : ∃ p, m.getD i 0 = p := ⟨_, rfl⟩
      have hps : p < s.size := by
        have := HO.out.lt i (by simpa using hlt)
        rw [hWi, hp, bl_length] at this
        exact this
      have hs8 : s.size ≤ 8 := H8.out s (by rw [← hs]; exact List.getElem_mem hlt)
      obtain ⟨v, hv⟩ : ∃ v, (bl s)[p]'(by rw [bl_length]; exact hps) = v := ⟨_, rfl⟩
      have hxv : ∀ h : p < s.size, (s[p]'h).toNat = v := fun h => by rw [← bl_get s p h]; exact hv
      have q1 : wr.cell? ⟨w.heap.size, i, none⟩ = some (.int .i64 (p : Int)) := by
        rw [← hp]
        exact (blk_cell HA.out.c1 i).trans (mcells_at m i (by rw [HO.out.len]; have := HL.out; omega))
      have HST := Aside0.mk (show (if v = 97 + d then (if p + 1 = s.size then none else aftL ((l.map bl).drop (i + 1)) (i + 1) (m.set i (p + 1)) (97 + d)) else aftL ((l.map bl).drop (i + 1)) (i + 1) m (97 + d)) = r by
        have h := HE.out
        rw [aftL_step (by simpa using hlt), hWi, hp, bl_length] at h
        rw [← h]
        have e2 : (bl s)[p]? = some v := by rw [List.getElem?_eq_getElem (by rw [bl_length]; exact hps), hv]
        rw [e2]
        simp)
      have HP := Aside0.mk hp
      have HLT := Aside0.mk hlt
      have HWI := Aside0.mk hWi
      have hpI : (p : Int) < (s.size : Int) := by omega
      have hp8 : (p : Int) < 8 := by omega
      have hp0 : (0 : Int) ≤ (p : Int) := by omega
      have HS8 := Aside0.mk hs8
      clear hlt hs er hWi hp hv hs8
      by_cases hvd : v = 97 + d
      · subst hvd
        have hxv2 : ∀ h : p < s.size, ((s[p]'h).toNat : Int) = 97 + (d : Int) := fun h => by rw [hxv h]; simp
        have f1 := blk_frozen HA.out.c1 i
        clear hxv
        go_upto_region 6 with (fail)
        have h1 : (wr.setCell ⟨w.heap.size, i, none⟩ (.int .i64 ((p : Int) + 1))).heap[w.heap.size]? = some (.cells (mcells (m.set i (p + 1))) 101 (0, 0)) := by
          have := blk_set HA.out.c1 i (.int .i64 ((p : Int) + 1))
          rw [show ((p : Int) + 1) = ((p + 1 : Nat) : Int) by omega, mcells_set] at this
          exact this
        have hlen : (m.set i (p + 1)).length = 4 := by rw [List.length_set]; exact HO.out.len
        have h2 := blk_far HA.out.c2 (p := ⟨w.heap.size, i, none⟩) (by show w.heap.size + 1 ≠ w.heap.size; omega) (.int .i64 ((p : Int) + 1))
        have HA2 := Aside0.mk (show MkAt w (m.set i (p + 1)) (wr.setCell ⟨w.heap.size, i, none⟩ (.int .i64 ((p : Int) + 1))) from ⟨h1, h2, HA.out.bel.setCell (Nat.le_refl _) _⟩)
        have q2 : (wr.setCell ⟨w.heap.size, i, none⟩ (.int .i64 ((p : Int) + 1))).cell? ⟨w.heap.size, i, none⟩ = some (.int .i64 ((p : Int) + 1)) := by
          refine (blk_cell h1 i).trans ((mcells_at _ i (by rw [hlen]; have := HL.out; have := HLT.out; omega)).trans ?_)
          rw [getD_set, if_pos ⟨rfl, by rw [HO.out.len]; have := HL.out; have := HLT.out; omega⟩]
          simp
        obtain ⟨W1, hW1⟩ : ∃ W1, wr.setCell ⟨w.heap.size, i, none⟩ (.int .i64 ((p : Int) + 1)) = W1 := ⟨_, rfl⟩
        rw [hW1] at HA2 q2 ⊢
        clear h1 h2 hW1 q1 hx hxv2 f1
        have HST := HST.out
        rw [if_pos rfl] at HST
        have HLEN := Aside0.mk hlen
        clear hlen
        by_cases hps1 : p + 1 = s.size
        · rw [if_pos hps1] at HST
          subst HST
          have e1 : (p : Int) + 1 = (s.size : Int) := by omega
          have e2 : ((p : Int) + 1 == (s.size : Int)) = true := by simpa using e1
          obtain ⟨b0, b1, b2, b3, e4⟩ := four HLEN.out
          have g1 := HA2.out.c1
          rw [e4] at g1
          have c0 : W1.cell? ⟨w.heap.size, 0, none⟩ = some (.int .i64 (b0 : Int)) := (blk_cell g1 0).trans rfl
          have c1 : W1.cell? ⟨w.heap.size, 1, none⟩ = some (.int .i64 (b1 : Int)) := (blk_cell g1 1).trans rfl
          have c2 : W1.cell? ⟨w.heap.size, 2, none⟩ = some (.int .i64 (b2 : Int)) := (blk_cell g1 2).trans rfl
          have c3 : W1.cell? ⟨w.heap.size, 3, none⟩ = some (.int .i64 (b3 : Int)) := (blk_cell g1 3).trans rfl
          have g2 := HA2.out.c2
          have d0 : W1.cell? ⟨w.heap.size + 1, 0, none⟩ = some (.int .i64 0) := (blk_cell g2 0).trans rfl
          have d1 : W1.cell? ⟨w.heap.size + 1, 1, none⟩ = some (.int .i64 0) := (blk_cell g2 1).trans rfl
          have d2 : W1.cell? ⟨w.heap.size + 1, 2, none⟩ = some (.int .i64 0) := (blk_cell g2 2).trans rfl
          have d3 : W1.cell? ⟨w.heap.size + 1, 3, none⟩ = some (.int .i64 0) := (blk_cell g2 3).trans rfl
          have f0 := blk_frozen g2 0
          have f1 := blk_frozen g2 1
          have f2 := blk_frozen g2 2
          have f3 := blk_frozen g2 3
          have HF := Aside0.mk (blk_set4 g2 (.int .i64 (b0 : Int)) (.int .i64 (b1 : Int)) (.int .i64 (b2 : Int)) (.int .i64 (b3 : Int)))
          have HB4 := Aside0.mk (below4 HA2.out.bel (Nat.le_succ w.heap.size) (.int .i64 (b0 : Int)) (.int .i64 (b1 : Int)) (.int .i64 (b2 : Int)) (.int .i64 (b3 : Int)))
          clear hps1 g1 g2 e4
          go_wp2
          refine bodyPost_ret (results_ct rfl _ _ (w.heap.size + 1) 101 _ (0, 0) _ rfl HF.out Try.underlying101 rfl info101) rfl ?_
          exact ⟨b0, b1, b2, b3, rfl, fun _ h => (by cases h), HB4.out⟩
        · rw [if_neg hps1] at HST
          have HR := Aside0.mk HST
          have e1 : ¬ ((p : Int) + 1 = (s.size : Int)) := by omega
          have e2 : ((p : Int) + 1 == (s.size : Int)) = false := by simpa using e1
          have HO2 := Aside0.mk (show MOk (l.map bl) (m.set i (p + 1)) by
            have h := HO.out.set (i := i) (by simpa using HLT.out) (by rw [HWI.out, bl_length]; exact HS8.out) (by rw [HWI.out, HP.out, bl_length]; exact hps1)
            rw [HP.out] at h
            exact h)
          clear hps1 HST
          go_wp2
          go_roundw
          case rel => exact ⟨i + 1, m.set i (p + 1), by go_num, by have := HLT.out; omega, HA2, HO2, HR⟩
          case measure => simp [intOf]; have := HLT.out; omega
      · have hxv2 : ∀ h : p < s.size, ¬ ((s[p]'h).toNat : Int) = 97 + (d : Int) := fun h => by rw [hxv h]; omega
        have hxv3 : ∀ h : p < s.size, (((s[p]'h).toNat : Int) == 97 + (d : Int)) = false := fun h => by simpa using hxv2 h
        have HST := HST.out
        rw [if_neg hvd] at HST
        have HR := Aside0.mk HST
        clear hvd HST hxv
        go_wp2
        go_roundw
        case rel => exact ⟨i + 1, m, by go_num, by have := HLT.out; omega, HA, HO, HR⟩
        case measure => simp [intOf]; have := HLT.out; omega
    · have hltI : ¬ ((i : Int) < (l.length : Int)) := by omega
      have HR := HE.out
      rw [List.drop_eq_nil_of_le (by simp; omega)] at HR
      simp only [aftL] at HR
      subst HR
      obtain ⟨b0, b1, b2, b3, e4⟩ := four HO.out.len
      have g1 := HA.out.c1
      rw [e4] at g1
      have c0 : wr.cell? ⟨w.heap.size, 0, none⟩ = some (.int .i64 (b0 : Int)) := (blk_cell g1 0).trans rfl
      have c1 : wr.cell? ⟨w.heap.size, 1, none⟩ = some (.int .i64 (b1 : Int)) := (blk_cell g1 1).trans rfl
      have c2 : wr.cell? ⟨w.heap.size, 2, none⟩ = some (.int .i64 (b2 : Int)) := (blk_cell g1 2).trans rfl
      have c3 : wr.cell? ⟨w.heap.size, 3, none⟩ = some (.int .i64 (b3 : Int)) := (blk_cell g1 3).trans rfl
      have g2 := HA.out.c2
      have d0 : wr.cell? ⟨w.heap.size + 1, 0, none⟩ = some (.int .i64 0) := (blk_cell g2 0).trans rfl
      have d1 : wr.cell? ⟨w.heap.size + 1, 1, none⟩ = some (.int .i64 0) := (blk_cell g2 1).trans rfl
      have d2 : wr.cell? ⟨w.heap.size + 1, 2, none⟩ = some (.int .i64 0) := (blk_cell g2 2).trans rfl
      have d3 : wr.cell? ⟨w.heap.size + 1, 3, none⟩ = some (.int .i64 0) := (blk_cell g2 3).trans rfl
      have f0 := blk_frozen g2 0
      have f1 := blk_frozen g2 1
      have f2 := blk_frozen g2 2
      have f3 := blk_frozen g2 3
      have HF := Aside0.mk (blk_set4 g2 (.int .i64 (b0 : Int)) (.int .i64 (b1 : Int)) (.int .i64 (b2 : Int)) (.int .i64 (b3 : Int)))
      have HB4 := Aside0.mk (below4 HA.out.bel (Nat.le_succ w.heap.size) (.int .i64 (b0 : Int)) (.int .i64 (b1 : Int)) (.int .i64 (b2 : Int)) (.int .i64 (b3 : Int)))
      have HE4 := Aside0.mk e4
      clear hlt g1 g2 e4
      go_wp2
      refine bodyPost_ret (results_ct rfl _ _ (w.heap.size + 1) 101 _ (0, 0) _ rfl HF.out Try.underlying101 rfl info101) rfl ?_
      exact ⟨b0, b1, b2, b3, rfl, fun m' h => by injection h with h; rw [← h]; exact HE4.out, HB4.out⟩
end Go.Proofs.Ytagdbadljcongaa.X
end

section
/- Marks as keys of a map; what the map says of a list of marks. -/
set_option linter.unusedVariables false
set_option linter.unusedSimpArgs false
namespace Go.Proofs.Ytagdbadljcongaa.X
open Go Go.RowKit Go.Proofs.YtagdbadljcongaaW.PrintWords Go.Proofs.YtagdbadljcongaaW.PrintLast Go.Proofs.YtagdbadljcongaaW.PrintMore
def quadK (m : List Nat) : Lit := .string (keyBytes (m.map fun (x : Nat) => Lit.int .i64 (x : Int)))
theorem key101 (m : List Nat) (h4 : m.length = 4) (h8 : ∀ x ∈ m, x ≤ 1000000) : keyOf Try.prog 101 (.agg (mcells m)) = some (quadK m) := by
  obtain ⟨k, hm⟩ := types_pos
  obtain ⟨a, b, c, d, rfl⟩ := four h4
  have w1 : (Lit.int .i64 (a : Int)).wf = true := WalkArith.wf_i64 (by have := h8 a (by simp); omega)
  have w2 : (Lit.int .i64 (b : Int)).wf = true := WalkArith.wf_i64 (by have := h8 b (by simp); omega)
  have w3 : (Lit.int .i64 (c : Int)).wf = true := WalkArith.wf_i64 (by have := h8 c (by simp); omega)
  have w4 : (Lit.int .i64 (d : Int)).wf = true := WalkArith.wf_i64 (by have := h8 d (by simp); omega)
  have c101 : Try.prog.cellsOf 101 = 4 := by kernel_rfl
  have c3 : Try.prog.cellsOf 3 = 1 := by kernel_rfl
  have kt : Try.prog.keyType 101 = true := by kernel_rfl
  unfold keyOf mcells quadK
  simp only [Try.underlying101]
  rw [if_pos (by simp [kt, Value.formed, Try.underlying101, c101]), hm]
  unfold Program.keyLits
  simp only [Try.underlying101, Value.cells]
  rw [if_pos (by rw [c101]; rfl)]
  simp [List.range, List.range.loop, List.mapM_cons, List.mapM_nil, c3, Program.keyLits, Try.underlying3, w1, w2, w3, w4]
theorem mcells_inj {m m' : List Nat} (h : mcells m = mcells m') : m = m' := by
  unfold mcells at h
  have h : (m.map fun (x : Nat) => Value.int .i64 (x : Int)) = (m'.map fun (x : Nat) => Value.int .i64 (x : Int)) := congrArg Array.toList h
  exact (List.map_inj_right (fun x y e => by injection e with _ e; omega)).1 h
theorem quadK_inj {m m' : List Nat} (h4 : m.length = 4) (h8 : ∀ x ∈ m, x ≤ 1000000) (h4' : m'.length = 4) (h8' : ∀ x ∈ m', x ≤ 1000000) (h : quadK m = quadK m') : m = m' := by
  have h1 := key101 m h4 h8
  have h2 := key101 m' h4' h8'
  rw [← h] at h2
  have h3 := keyed101.inj h1 h2
  exact mcells_inj (by injection h3)
/-- Marks that may come: four of at most 8. -/
def Mk (m : List Nat) : Prop := m.length = 4 ∧ ∀ x ∈ m, x ≤ 1000000
theorem MOk.mk' {W : List (List Nat)} {m : List Nat} (h : MOk W m) : Mk m := ⟨h.len, fun x hx => Nat.le_trans (h.le x hx) (by omega)⟩
/-- What the map says of a list of marks: how often each comes. -/
structure CntOf (T : List (List Nat)) (f : KMap) : Prop where
  at_ : ∀ m, Mk m → f (quadK m) = if T.count m = 0 then none else some (.int .i64 ((T.count m : Nat) : Int))
  key : ∀ kl v, f kl = some v → ∃ m ∈ T, Mk m ∧ kl = quadK m
theorem CntOf.nil : CntOf [] KMap.empty := ⟨fun m _ => by simp [KMap.empty], fun kl v h => by cases h⟩
theorem CntOf.perm {T T' : List (List Nat)} {f : KMap} (h : CntOf T f) (hc : ∀ a, T.count a = T'.count a) : CntOf T' f := by
  refine ⟨fun m hm => by rw [← hc]; exact h.at_ m hm, fun kl v e => ?_⟩
  obtain ⟨m, hm, h2, h3⟩ := h.key kl v e
  exact ⟨m, List.count_pos_iff.1 (by rw [← hc]; exact List.count_pos_iff.2 hm), h2, h3⟩
theorem CntOf.getD {T : List (List Nat)} {f : KMap} (h : CntOf T f) {m : List Nat} (hm : Mk m) : (f (quadK m)).getD (.int .i64 0) = .int .i64 ((T.count m : Nat) : Int) := by
  rw [h.at_ m hm]
  split
  · rename_i e; rw [e]; rfl
  · rfl
theorem CntOf.push {T : List (List Nat)} {f : KMap} (h : CntOf T f) {m : List Nat} (hm : Mk m) {n : Nat} (hn : 0 < n) : CntOf (T ++ List.replicate n m) (f.put (quadK m) (.int .i64 ((T.count m : Int) + (n : Int)))) := by
  have hk : WideAt.IsKeyLit (quadK m) := keyed101.key (key101 m hm.1 hm.2)
  refine ⟨fun m' hm' => ?_, fun kl v e => ?_⟩
  · rw [List.count_append, List.count_replicate]
    by_cases e : m' = m
    · subst e
      rw [KMap.put_same f hk, if_neg (by simp; omega)]
      simp
    · rw [KMap.put_other f (fun e2 => e (quadK_inj hm'.1 hm'.2 hm.1 hm.2 e2)), h.at_ m' hm', if_neg (show ¬ (m == m') = true by simpa using Ne.symm e)]
      rfl
  · by_cases e2 : kl = quadK m
    · exact ⟨m, by simp; exact .inr (by omega), hm, e2⟩
    · rw [KMap.put_other f e2] at e
      obtain ⟨m', a, b, c⟩ := h.key kl v e
      exact ⟨m', by simp [a], b, c⟩
end Go.Proofs.Ytagdbadljcongaa.X
end

section
namespace Go.Proofs.Ytagdbadljcongaa.X
open Go.RowKit Go.Proofs.YtagdbadljcongaaW.PrintWords Go.Proofs.YtagdbadljcongaaW.PrintLast Go.Proofs.YtagdbadljcongaaW.PrintMore
attribute [local go_sem] max2_int min2_int max_two min_two max_three min_three max_four min_four   -- for this text's walks alone
set_option linter.unusedVariables false
set_option linter.unusedSimpArgs false

def slices_Index_string_string.l0 : Nat → List ByteArray → ByteArray → Int → Int → Option (Int)
 | 0, _, _, _, _ => none
 | k + 1, x0, x1, x7, x8 => if x8 < x7 then (if 0 ≤ x8 then (if x8 < (x0.length : Int) then (if x1.toList = (rdOf ByteArray.empty x0 x8).toList then (some x8) else (slices_Index_string_string.l0 k x0 x1 x7 (wrap64 (x8 + 1)))) else (none)) else (none)) else (some (-1))
def slices_Index_string_string.f (k : Nat) (l0 : List ByteArray) (a1 : ByteArray) : Option (Int) := slices_Index_string_string.l0 k l0 a1 (l0.length : Int) 0
set_option maxHeartbeats 8000000 in
set_option maxRecDepth 100000 in
theorem slices_Index_string_string.calls (k : Nat) (A0 : Option Addr) (c0 : Nat) (l0 : List ByteArray) (a1 : ByteArray) (r : Int) (w : World) (hr0 : Kd.C Kd.string w A0 l0.length l0) (hc0 : l0.length ≤ c0) (h : slices_Index_string_string.f k l0 a1 = some r) :
  Calls Try.prog 78 #[.slice A0 l0.length c0, .string a1] w fun e w' => e = .returned (.int .i64 r) ∧ Drawn0 w w' := by
 have HR0 := Aside0.mk hr0
 have HC0 := Aside0.mk hc0
 clear hr0 hc0
 have H : (slices_Index_string_string.l0 k l0 a1 (l0.length : Int) 0) = some r := h
 clear h
 have H' := Aside0.mk H
 clear H
 go_enter Try.func78, Try.ntmps78
 go_wp2
 go_loopg [8] k (fun kq v8 w' => ∃ (x8_1 : Int), v8 = .int .i64 x8_1 ∧ Aside0 (slices_Index_string_string.l0 kq l0 a1 (l0.length : Int) x8_1 = some r) ∧ Aside0 (kq ≤ k) ∧ Drawn0 w w')
 case atStart => exact ⟨(0), (by first | rfl | (simp; done) | (simp [*]; done)), H', ⟨Nat.le_refl _⟩, by repeat (first | exact Drawn0.refl _ | apply Drawn0.step)⟩
 case round =>
  clear H'
  try clear p2
  obtain ⟨x8_1, rfl, HA, HK1, ⟨m1, rfl⟩⟩ := hrel
  cases gk with
  | zero => exact absurd HA.out (by simp [slices_Index_string_string.l0])
  | succ k1 =>
   have H := HA.out
   clear HA
   simp only [slices_Index_string_string.l0] at H
   by_cases c3 : x8_1 < (l0.length : Int)
   ·rw [if_pos c3] at H
    have c3b0 : decide (x8_1 < (l0.length : Int)) = true := decide_eq_true c3
    clear c3
    by_cases c4 : 0 ≤ x8_1
    ·rw [if_pos c4] at H
     have c4b0 : decide (0 ≤ x8_1) = true := decide_eq_true c4
     clear c4
     by_cases c5 : x8_1 < (l0.length : Int)
     ·rw [if_pos c5] at H
      have c5b0 : decide (x8_1 < (l0.length : Int)) = true := decide_eq_true c5
      clear c5
      by_cases c6 : a1.toList = (rdOf ByteArray.empty l0 x8_1).toList
      ·rw [if_pos c6] at H
       have c6b0 : (a1.toList == (rdOf ByteArray.empty l0 x8_1).toList) = true := beq_iff_eq.mpr c6
       have c6b1 : (a1.toList != (rdOf ByteArray.empty l0 x8_1).toList) = false := bne_eq_false_iff_eq.mpr c6
       clear c6
       obtain rfl := Option.some.inj H
       have p104 : 0 ≤ (x8_1 : Int) := of_decide_eq_true az
       have q104 : x8_1 < (l0.length : Int) := of_decide_eq_true az
       obtain ⟨ad104, e104, hx104_0⟩ := Kd.at_string HR0.out x8_1 p104 q104
       cases e104
       replace p104 := eq_true p104
       replace q104 := eq_true q104
       go_wp2
       go_ret
       exact ⟨by first | rfl | (simp; done) | (simp [*]; done), by repeat (first | exact Drawn0.refl _ | apply Drawn0.step)⟩
      ·rw [if_neg c6] at H
       have c6b0 : (a1.toList == (rdOf ByteArray.empty l0 x8_1).toList) = false := beq_eq_false_iff_ne.mpr c6
       have c6b1 : (a1.toList != (rdOf ByteArray.empty l0 x8_1).toList) = true := bne_iff_ne.mpr c6
       have H' := Aside0.mk H
       clear H
       have p104 : 0 ≤ (x8_1 : Int) := of_decide_eq_true az
       have q104 : x8_1 < (l0.length : Int) := of_decide_eq_true az
       obtain ⟨ad104, e104, hx104_0⟩ := Kd.at_string HR0.out x8_1 p104 q104
       cases e104
       replace p104 := eq_true p104
       replace q104 := eq_true q104
       go_wp2
       go_roundg k1
       case measure => have := HK1.out; omega
       case rel => exact ⟨(wrap64 (x8_1 + 1)), (by first | rfl | (simp; done) | (simp [*]; done)), H', ⟨by have := HK1.out; omega⟩, by repeat (first | exact Drawn0.refl _ | apply Drawn0.step)⟩
     ·rw [if_neg c5] at H
      exact absurd H (by simp)
    ·rw [if_neg c4] at H
     exact absurd H (by simp)
   ·rw [if_neg c3] at H
    have c3b0 : decide (x8_1 < (l0.length : Int)) = false := decide_eq_false c3
    clear c3
    obtain rfl := Option.some.inj H
    go_wp2
    go_ret
    exact ⟨by first | rfl | (simp; done) | (simp [*]; done), by repeat (first | exact Drawn0.refl _ | apply Drawn0.step)⟩

end Go.Proofs.Ytagdbadljcongaa.X
end

section
namespace Go.Proofs.Ytagdbadljcongaa.X
open Go.RowKit Go.Proofs.YtagdbadljcongaaW.PrintWords Go.Proofs.YtagdbadljcongaaW.PrintLast Go.Proofs.YtagdbadljcongaaW.PrintMore
attribute [local go_sem] max2_int min2_int max_two min_two max_three min_three max_four min_four   -- for this text's walks alone
set_option linter.unusedVariables false
set_option linter.unusedSimpArgs false

def slices_Contains_string_string.f (k : Nat) (l0 : List ByteArray) (a1 : ByteArray) : Option (Bool) := (slices_Index_string_string.f k l0 a1).bind fun t105 => (some (decide (t105 ≥ 0)))
set_option maxHeartbeats 8000000 in
set_option maxRecDepth 100000 in
theorem slices_Contains_string_string.calls (k : Nat) (A0 : Option Addr) (c0 : Nat) (l0 : List ByteArray) (a1 : ByteArray) (r : Bool) (w : World) (hr0 : Kd.C Kd.string w A0 l0.length l0) (hc0 : l0.length ≤ c0) (h : slices_Contains_string_string.f k l0 a1 = some r) :
  Calls Try.prog 65 #[.slice A0 l0.length c0, .string a1] w fun e w' => e = .returned (.bool r) ∧ Drawn0 w w' := by
 have HR0 := Aside0.mk hr0
 have HC0 := Aside0.mk hc0
 clear hr0 hc0
 have H : ((slices_Index_string_string.f k l0 a1).bind fun t105 => (some (decide (t105 ≥ 0)))) = some r := h
 clear h
 replace H := Option.bind_eq_some_iff.mp H
 obtain ⟨t105, A30, H⟩ := H
 replace H : (some (decide (t105 ≥ 0))) = some r := H
 have A3 := Aside0.mk A30
 clear A30
 obtain rfl := Option.some.inj H
 go_enter Try.func65, Try.ntmps65
 go_wp2_with (first | ((with_reducible refine gate_callee (f := 78) rfl ?_); refine goesL_ (some 7) rfl rfl Try.func78 (by kernel_rfl) rfl #[.slice A0 l0.length c0, .string a1] rfl dz ?_; (with_reducible refine (slices_Index_string_string.calls k _ _ l0 a1 t105 _ ?side1 ?side2 A3.out).mono ?_); (case side1 => exact cz (HR0.out)); (case side2 => exact HC0.out); rintro e w' ⟨rfl, ⟨nd, rfl⟩⟩; refine ⟨_, rfl, ?_⟩))
 go_ret
 exact ⟨by first | rfl | (simp; done) | (simp [*]; done), by repeat (first | exact Drawn0.refl _ | apply Drawn0.step)⟩

end Go.Proofs.Ytagdbadljcongaa.X
end

section
/- thread.counts and Count: the numbers of different subsequences from each place on. -/
set_option linter.unusedVariables false
set_option linter.unusedSimpArgs false
namespace Go.Proofs.Ytagdbadljcongaa.X
open Go.RowKit Go.Proofs.YtagdbadljcongaaW.PrintWords Go.Proofs.YtagdbadljcongaaW.PrintLast Go.Proofs.YtagdbadljcongaaW.PrintMore
/-- The cells of an array of 61 numbers. -/
def acells (f : Nat → Int) : Array Value := ((List.range 61).map fun j => Value.int .i64 (f j)).toArray
theorem acells_at (f : Nat → Int) (j : Nat) (h : j < 61) : (acells f)[j]? = some (.int .i64 (f j)) := by simp [acells, h]
theorem acells_size (f : Nat → Int) : (acells f).size = 61 := by simp [acells]
theorem acells_set (f : Nat → Int) (j : Nat) (v : Int) (h : j < 61) : (acells f).setIfInBounds j (.int .i64 v) = acells (upd f j v) := by
  apply Array.ext_getElem?
  intro i
  rw [Array.getElem?_setIfInBounds, acells_size]
  by_cases e : j = i
  · subst e
    rw [if_pos rfl, if_pos h, acells_at _ j h]; simp [upd]
  · rw [if_neg e]
    by_cases hi : i < 61
    · rw [acells_at f i hi, acells_at _ i hi]; simp [upd, show i ≠ j by omega]
    · simp [acells, hi]
theorem acells_congr {f g : Nat → Int} (h : ∀ j, j < 61 → f j = g j) : acells f = acells g := by
  apply Array.ext_getElem?
  intro i
  by_cases hi : i < 61
  · rw [acells_at f i hi, acells_at g i hi, h i hi]
  · simp [acells, hi]
theorem zeros61 : #[Value.int IntKind.i64 0, Value.int IntKind.i64 0, Value.int IntKind.i64 0, Value.int IntKind.i64 0, Value.int IntKind.i64 0, Value.int IntKind.i64 0, Value.int IntKind.i64 0, Value.int IntKind.i64 0, Value.int IntKind.i64 0, Value.int IntKind.i64 0, Value.int IntKind.i64 0, Value.int IntKind.i64 0, Value.int IntKind.i64 0, Value.int IntKind.i64 0, Value.int IntKind.i64 0, Value.int IntKind.i64 0, Value.int IntKind.i64 0, Value.int IntKind.i64 0, Value.int IntKind.i64 0, Value.int IntKind.i64 0, Value.int IntKind.i64 0, Value.int IntKind.i64 0, Value.int IntKind.i64 0, Value.int IntKind.i64 0, Value.int IntKind.i64 0, Value.int IntKind.i64 0, Value.int IntKind.i64 0, Value.int IntKind.i64 0, Value.int IntKind.i64 0, Value.int IntKind.i64 0, Value.int IntKind.i64 0, Value.int IntKind.i64 0, Value.int IntKind.i64 0, Value.int IntKind.i64 0, Value.int IntKind.i64 0, Value.int IntKind.i64 0, Value.int IntKind.i64 0, Value.int IntKind.i64 0, Value.int IntKind.i64 0, Value.int IntKind.i64 0, Value.int IntKind.i64 0, Value.int IntKind.i64 0, Value.int IntKind.i64 0, Value.int IntKind.i64 0, Value.int IntKind.i64 0, Value.int IntKind.i64 0, Value.int IntKind.i64 0, Value.int IntKind.i64 0, Value.int IntKind.i64 0, Value.int IntKind.i64 0, Value.int IntKind.i64 0, Value.int IntKind.i64 0, Value.int IntKind.i64 0, Value.int IntKind.i64 0, Value.int IntKind.i64 0, Value.int IntKind.i64 0, Value.int IntKind.i64 0, Value.int IntKind.i64 0, Value.int IntKind.i64 0, Value.int IntKind.i64 0, Value.int IntKind.i64 0] = acells (fun _ => 0) := by kernel_rfl
theorem aset {w : World} {b : Nat} {f : Nat → Int} (h : w.heap[b]? = some (.cells (acells f) 84 (0, 0))) (j : Nat) (v : Int) (hj : j < 61) :
    (w.setCell ⟨b, j, none⟩ (.int .i64 v)).heap[b]? = some (.cells (acells (upd f j v)) 84 (0, 0)) := by
  rw [← acells_set f j v hj]; exact blk_set h j (.int .i64 v)
theorem upd_upd (f : Nat → Int) (j : Nat) (u v : Int) : upd (upd f j u) j v = upd f j v := by
  funext k; unfold upd; split <;> rfl
/-- A whole array stored over another one. -/
theorem store_arr {w : World} {ops : Array Oper} {rest : List Oper} {o : Oper} {a : Act} {Q : Exit → Act → World → Prop} (x y : Operand) (hg : o.guard = none) (ho : o.op = .store 84 x y)
    (b : Nat) (f g : Nat → Int) (hx : a.eval x = .pointer (some ⟨b, 0, none⟩)) (hy : a.eval y = .agg (acells g)) (hb : w.heap[b]? = some (.cells (acells f) 84 (0, 0)))
    (h : ∀ w', w'.heap[b]? = some (.cells (acells g) 84 (0, 0)) → w.grownBy w' (some b) → wpList Try.prog ops Q rest (a.put o.dst undef) w') : wpList Try.prog ops Q (o :: rest) a w := by
  have hsz : (acells g).toList.length = 61 := by rw [Array.length_toList, acells_size]
  refine wpList_store_mid hg 84 x y ho b 0 (acells g) hx hy (fun j hj => ?_) (by rw [acells_size]; kernel_rfl) (Array.all_eq_true_iff_forall_mem.2 (fun v hv => ?_)) ?_
  · rw [acells_size] at hj
    rw [Nat.zero_add]
    exact ⟨by rw [blk_cell hb, acells_at f j hj]; rfl, blk_frozen hb _⟩
  · unfold acells at hv
    rw [List.mem_toArray, List.mem_map] at hv
    obtain ⟨j, _, rfl⟩ := hv; rfl
  · obtain ⟨cur', h3, h4, h5⟩ := setCells_row (acells g).toList 0 w (acells f) hb (by rw [hsz, acells_size]; omega)
    obtain ⟨s1, s2, s3, s4⟩ := setCells_same b (acells g).toList 0 w
    refine h _ ?_ ⟨s1, s2, s3, by rw [s4]; exact Nat.le_refl _, fun k _ hk => setCells_far _ _ k (fun e => hk (by rw [e]))⟩
    have : cur' = acells g := by
      apply Array.toList_inj.1
      rw [h5, List.take_zero, List.nil_append, hsz, List.drop_eq_nil_of_le (by rw [Array.length_toList, acells_size]; omega), List.append_nil]
    rw [h3, this]
/-- Where counts stands: all places behind i are reckoned; the result's block is untouched. -/
structure CtAt (s : ByteArray) (w : World) (b : Nat) (f : Nat → Int) (wr : World) : Prop where
  res : wr.heap[w.heap.size]? = some (.cells (acells fun _ => 0) 84 (0, 0))
  arr : wr.heap[w.heap.size + 1]? = some (.cells (acells f) 84 (0, 0))
  wd : WordAt wr b s
  bel : Below w.heap.size w wr
theorem CtAt.below {s : ByteArray} {w wr w' : World} {b : Nat} {f : Nat → Int} (h : CtAt s w b f wr) (hb : Below wr.heap.size wr w') : CtAt s w b f w' :=
  ⟨blk_below h.res hb, blk_below h.arr hb, h.wd.below hb, below_step h.bel hb⟩
theorem CtAt.set {s : ByteArray} {w wr : World} {b : Nat} {f : Nat → Int} (h : CtAt s w b f wr) (hw : WordAt w b s) (j : Nat) (hj : j < 61) (v : Int) : CtAt s w b (upd f j v) (wr.setCell ⟨w.heap.size + 1, j, none⟩ (.int .i64 v)) := by
  have hb := h.bel.setCell (p := ⟨w.heap.size + 1, j, none⟩) (Nat.le_succ _) (.int .i64 v)
  exact ⟨blk_far h.res (by show w.heap.size ≠ w.heap.size + 1; omega) _, aset h.arr j v hj, hw.below hb, hb⟩
theorem CtAt.start (s : ByteArray) (w : World) (b : Nat) (hw : WordAt w b s) : CtAt s w b (fun _ => 0) ((w.alloc (.cells (acells fun _ => 0) 84)).alloc (.cells (acells fun _ => 0) 84)) := by
  have hb := below_alloc (below_alloc (Below.refl w.heap.size w) (.cells (acells fun _ => 0) 84)) (.cells (acells fun _ => 0) 84)
  refine ⟨blk_alloc (blk_new w _) _, ?_, hw.below hb, hb⟩
  have := blk_new (w.alloc (.cells (acells fun _ => 0) 84)) (.cells (acells fun _ => 0) 84)
  rwa [World.size_alloc] at this
/-- All places behind i are reckoned. -/
def Done (l : List Nat) (i : Int) (f : Nat → Int) : Prop := ∀ j : Nat, i < (j : Int) → f j = cntF l j
theorem Done.at_ {l : List Nat} {i : Int} {f : Nat → Int} (h : Done l i f) (j : Nat) (hj : i < (j : Int)) (hl : j ≤ l.length) : f j = (cs (l.drop j) : Int) := by
  rw [h j hj]; unfold cntF; rw [if_pos hl]
theorem after_c (w : World) (b : Nat) (s : ByteArray) (hw : WordAt w b s) (hs : s.size ≤ 60) (i c q : Nat) (r : Bool) (hi : i ≤ s.size) (hc : c < 4) (hq : nx (bl s) i (97 + c) = q) (hr : decide (q < s.size) = r) :
    Calls Try.prog 57 #[.pointer (some ⟨b, 0, none⟩), .int .i64 i, .int .i64 c] w fun e w' => e = .returned (.tuple #[.int .i64 (q + 1 : Int), .bool r]) ∧ Drawn0 w w' := by
  subst hq hr
  exact after_any w b s hw hs i c hi hc
set_option maxHeartbeats 4000000 in
set_option maxRecDepth 100000 in
theorem counts_any (w : World) (b : Nat) (s : ByteArray) (hw : WordAt w b s) (hs : s.size ≤ 60) :
    Calls Try.prog 53 #[.pointer (some ⟨b, 0, none⟩)] w fun e w' => e = .returned (.agg (acells (cntF (bl s)))) ∧ Below w.heap.size w w' := by
  have HST := Aside0.mk (CtAt.start s w b hw)
  have HW := Aside0.mk hw
  have HS := Aside0.mk hs
  have t1 := HST.out.wd.text
  have hs1 : (s.size : Int) ≤ 60 := by omega
  clear hw hs
  go_enter Try.func53, Try.ntmps53
  go_upto_region 2 with (fail)
  rw [zeros61]
  obtain ⟨w0, hw0⟩ : ∃ w0, w0 = (w.alloc (.cells (acells fun _ => 0) 84)).alloc (.cells (acells fun _ => 0) 84) := ⟨_, rfl⟩
  rw [← hw0] at HST t1 ⊢
  clear hw0
  go_wp2
  clear t1
  go_loopw [4] (fun v4 wr => ∃ (i : Int) (f : Nat → Int), v4 = .int .i64 i ∧ -1 ≤ i ∧ i ≤ (s.size : Int) ∧ Aside0 (CtAt s w b f wr) ∧ Aside0 (Done (bl s) i f)) (fun v4 _ => (intOf v4 + 1).toNat)
  case atStart => exact ⟨s.size, _, rfl, by omega, by omega, HST, ⟨fun j hj => by unfold cntF; rw [if_neg (by rw [bl_length]; omega)]⟩⟩
  case round =>
    obtain ⟨i, f, rfl, hi1, hi2, HC, HD⟩ := hrel
    clear HST
    by_cases hp : 0 ≤ i
    · obtain ⟨m, rfl⟩ := Int.eq_ofNat_of_zero_le hp
      clear hp hi1
      have hm : m ≤ s.size := by omega
      have c3 : (m : Int) < 61 := by omega
      have c4 : (0 : Int) ≤ (m : Int) := by omega
      have g1 : wr.cell? ⟨w.heap.size + 1, m, none⟩ = some (.int .i64 (f m)) := (blk_cell HC.out.arr _).trans (acells_at f m (by omega))
      have g2 := blk_frozen HC.out.arr m
      have HX := Aside0.mk (HC.out.set HW.out m (by omega) 1)
      go_upto_region 6 with (fail)
      obtain ⟨w1, hw1⟩ : ∃ w1, w1 = wr.setCell ⟨w.heap.size + 1, m, none⟩ (.int .i64 1) := ⟨_, rfl⟩
      rw [← hw1] at HX ⊢
      clear hw1 g1 g2
      go_wp2
      go_loopw [19] (fun v19 wr => ∃ k : Nat, v19 = .int .i64 k ∧ k ≤ 4 ∧ Aside0 (CtAt s w b (upd f m (psum ((bl s).drop m) k)) wr)) (fun v19 _ => 4 - (intOf v19).toNat)
      case atStart => exact ⟨0, rfl, by omega, HX⟩
      case round =>
        clear HX
        obtain ⟨k, rfl, hk, HX⟩ := hrel
        have hq1 := nx_le (bl s) m (97 + k) (by rw [bl_length]; exact hm)
        rw [bl_length] at hq1
        by_cases hlt : k < 4
        · have c5 : (k : Int) < 4 := by omega
          have HK := Aside0.mk hlt
          obtain ⟨q, hq⟩ : ∃ q, nx (bl s) m (97 + k) = q := ⟨_, rfl⟩
          have HT := Aside0.mk (show term ((bl s).drop m) (97 + k) = if q < s.size then cs ((bl s).drop (q + 1)) else 0 by rw [term_at _ _ _ (by rw [bl_length]; exact hm), hq, bl_length])
          have HBD := Aside0.mk (show (psum ((bl s).drop m) (k + 1) : Int) ≤ 1152921504606846976 by
            have h1 := psum_mono ((bl s).drop m) (show k + 1 ≤ 4 by omega)
            rw [← cs_eq] at h1
            have h2 := cs_60 (l := (bl s).drop m) (by rw [List.length_drop, bl_length]; have := HS.out; omega)
            omega)
          rw [hq] at hq1
          have hq2 : q ≤ 60 := by have := HS.out; omega
          have HQ := Aside0.mk hq
          clear hq hlt
          by_cases hr : q < s.size
          · have HR := Aside0.mk (decide_eq_true hr)
            have HQS := Aside0.mk hr
            have HT := HT.out
            rw [if_pos hr] at HT
            have HT := Aside0.mk HT
            clear hr
            go_upto_region 11 with (go_at_call 57; (with_reducible refine (after_c _ b s HX.out.wd HS.out m k q true hm HK.out HQ.out HR.out).mono ?_); rintro e wa ⟨rfl, HD2⟩; have HX2 := Aside0.mk (HX.out.below HD2.below); clear HD2)
            obtain ⟨p, hp⟩ : ∃ p : Int, (psum ((bl s).drop m) k : Int) = p := ⟨_, rfl⟩
            obtain ⟨z, hz⟩ : ∃ z : Int, (cs ((bl s).drop (q + 1)) : Int) = z := ⟨_, rfl⟩
            have HP := Aside0.mk (show (psum ((bl s).drop m) (k + 1) : Int) = p + z by rw [psum_succ, HT.out]; omega)
            have r1 : wa.cell? ⟨w.heap.size + 1, m, none⟩ = some (.int .i64 p) := (blk_cell HX2.out.arr _).trans ((acells_at _ m (by omega)).trans (by rw [← hp]; simp [upd]))
            have r2 : wa.cell? ⟨w.heap.size + 1, q + 1, none⟩ = some (.int .i64 z) := (blk_cell HX2.out.arr _).trans ((acells_at _ (q + 1) (by have := HQS.out; have := HS.out; omega)).trans (by rw [← hz]; unfold upd; rw [if_neg (by omega), HD.out.at_ (q + 1) (by omega) (by rw [bl_length]; have := HQS.out; omega)]))
            have r3 := blk_frozen HX2.out.arr m
            have c6 : ((q : Int) + 1) < 61 := by have := HQS.out; have := HS.out; omega
            have c7 : (0 : Int) ≤ (q : Int) + 1 := by omega
            have c8 : ((q : Int) + 1).toNat = q + 1 := by omega
            have c9 : IntKind.i64.wrap (p + z) = p + z := IntWalk.i64_in _ (by have h1 := HP.out; have h2 := HBD.out; omega) 
            have HPZ := Aside0.mk hp
            clear hp hz
            refine start_ (n := 9) (S := fun w' => w'.cell? ⟨w.heap.size + 1, m, none⟩ = some (.int .i64 p) ∧ w'.cell? ⟨w.heap.size + 1, q + 1, none⟩ = some (.int .i64 z)) (ds := [8]) #[false, false, false, false, false, false, false, false, false] (by kernel_rfl) rfl rfl ⟨r1, r2⟩ (fun hHeld => ?_)
            refine pure_ (i := 0) (N := (some 30)) (v := ?_) (a' := ?_) #[true, false, false, false, false, false, false, false, false] rfl rfl (by kernel_rfl) (fun _ _ _ h => h) (Or.inl ⟨by rfl, ?_⟩) ?_ ?_
            rotate_left
            · intro w'
              go_simp
              with_reducible rfl
            rotate_left
            · simp only [Act.put, List.setIfInBounds_toArray, List.set_cons_zero, List.set_cons_succ, i64_w, i32_w]
              rfl
            refine pure_ (i := 1) (N := (some 31)) (v := ?_) (a' := ?_) #[true, true, false, false, false, false, false, false, false] rfl rfl (by kernel_rfl) (fun _ _ _ h => h) (Or.inl ⟨by rfl, ?_⟩) ?_ ?_
            rotate_left
            · intro w'
              go_simp
              with_reducible rfl
            rotate_left
            · simp only [Act.put, List.setIfInBounds_toArray, List.set_cons_zero, List.set_cons_succ, i64_w, i32_w]
              rfl
            refine take_ (i := 2) (N := (some 32)) (v := ?_) (a' := ?_) #[true, true, true, false, false, false, false, false, false] rfl rfl (by kernel_rfl) (fun _ _ _ h => h) (Or.inl ⟨by rfl, ?_⟩) hHeld ?_ ?_
            rotate_left
            · rintro w' ⟨s0, s1⟩
              go_simp
              with_reducible rfl
            rotate_left
            · simp only [Act.put, List.setIfInBounds_toArray, List.set_cons_zero, List.set_cons_succ, i64_w, i32_w]
              rfl
            refine pure_ (i := 3) (N := (some 33)) (v := ?_) (a' := ?_) #[true, true, true, true, false, false, false, false, false] rfl rfl (by kernel_rfl) (fun _ _ _ h => h) (Or.inl ⟨by rfl, ?_⟩) ?_ ?_
            rotate_left
            · intro w'
              go_simp
              with_reducible rfl
            rotate_left
            · simp only [Act.put, List.setIfInBounds_toArray, List.set_cons_zero, List.set_cons_succ, i64_w, i32_w]
              rfl
            refine pure_ (i := 4) (N := (some 34)) (v := ?_) (a' := ?_) #[true, true, true, true, true, false, false, false, false] rfl rfl (by kernel_rfl) (fun _ _ _ h => h) (Or.inl ⟨by rfl, ?_⟩) ?_ ?_
            rotate_left
            · intro w'
              go_simp
              with_reducible rfl
            rotate_left
            · simp only [Act.put, List.setIfInBounds_toArray, List.set_cons_zero, List.set_cons_succ, i64_w, i32_w]
              rfl
            refine take_ (i := 5) (N := (some 35)) (v := ?_) (a' := ?_) #[true, true, true, true, true, true, false, false, false] rfl rfl (by kernel_rfl) (fun _ _ _ h => h) (Or.inl ⟨by rfl, ?_⟩) hHeld ?_ ?_
            rotate_left
            · rintro w' ⟨s0, s1⟩
              go_simp
              with_reducible rfl
            rotate_left
            · simp only [Act.put, List.setIfInBounds_toArray, List.set_cons_zero, List.set_cons_succ, i64_w, i32_w]
              rfl
            refine pure_ (i := 6) (N := (some 36)) (v := ?_) (a' := ?_) #[true, true, true, true, true, true, true, false, false] rfl rfl (by kernel_rfl) (fun _ _ _ h => h) (Or.inl ⟨by rfl, ?_⟩) ?_ ?_
            rotate_left
            · intro w'
              go_simp
              with_reducible rfl
            rotate_left
            · simp only [Act.put, List.setIfInBounds_toArray, List.set_cons_zero, List.set_cons_succ, i64_w, i32_w]
              rfl
            refine pure_ (i := 7) (N := (some 37)) (v := ?_) (a' := ?_) #[true, true, true, true, true, true, true, true, false] rfl rfl (by kernel_rfl) (fun _ _ _ h => h) (Or.inl ⟨by rfl, ?_⟩) ?_ ?_
            rotate_left
            · intro w'
              go_simp
              with_reducible rfl
            rotate_left
            · simp only [Act.put, List.setIfInBounds_toArray, List.set_cons_zero, List.set_cons_succ, i64_w, i32_w]
              rfl
            refine last_ (i := 8) (N := none) #[true, true, true, true, true, true, true, true, true] rfl rfl (by kernel_rfl) (by decide) (fun K hK => ?_)
            refine skip_ (w1 := ?_) (by rfl) rfl ?_ ?_
            rotate_left
            · go_simp
              rfl
            refine hK.out _ _ ?_
            clear hK K
            refine done_ (by kernel_rfl) ?_
            have HX3 := Aside0.mk ((HX2.out.set HW.out m (by omega) (p + z)).below (below_drew (Below.refl _ _)))
            clear r1 r2 r3 c6 c7 c8 c9
            obtain ⟨w3, hw3⟩ : ∃ w3, w3 = (wa.setCell ⟨w.heap.size + 1, m, none⟩ (.int .i64 (p + z))).drew := ⟨_, rfl⟩
            rw [← hw3] at HX3 ⊢
            clear hw3
            go_wp2
            go_roundw
            case rel => exact ⟨k + 1, by go_num, HK.out, ⟨by rw [HP.out]; have := HX3.out; rwa [upd_upd] at this⟩⟩
            case measure => simp [intOf]; have := HK.out; omega
          · have HR := Aside0.mk (decide_eq_false hr)
            have HT := HT.out
            rw [if_neg hr] at HT
            have HT := Aside0.mk HT
            clear hr
            go_wp2_with (go_at_call 57; (with_reducible refine (after_c _ b s HX.out.wd HS.out m k q false hm HK.out HQ.out HR.out).mono ?_); rintro e wa ⟨rfl, HD2⟩; have HX2 := Aside0.mk (HX.out.below HD2.below); clear HD2)
            go_roundw
            case rel => exact ⟨k + 1, by go_num, HK.out, ⟨by rw [psum_succ, HT.out, Nat.add_zero]; exact HX2.out⟩⟩
            case measure => simp [intOf]; have := HK.out; omega
        · have hge : ¬ ((k : Int) < 4) := by omega
          have HX3 := Aside0.mk (show CtAt s w b (upd f m (cs ((bl s).drop m))) wr by have e : k = 4 := by omega
                                                                                      subst e; rw [cs_eq]; exact HX.out)
          clear HX hlt hq1
          go_wp2
          go_roundw
          case rel => exact ⟨(m : Int) - 1, _, rfl, by omega, by omega, HX3, ⟨fun j hj => by
            unfold upd
            by_cases e : j = m
            · subst e; rw [if_pos rfl]; unfold cntF; rw [if_pos (by rw [bl_length]; exact hm)]
            · rw [if_neg e]; exact HD.out j (by omega)⟩⟩
          case measure => simp [intOf]
    · obtain rfl : i = -1 := by omega
      clear hp hi1 hi2
      go_wp2_with (first | (with_reducible refine wpList_load_row rfl 84 (.tmp 3) rfl (w.heap.size + 1) rfl 84 _ (0, 0) _ HC.out.arr Try.underlying84 rfl (by rw [acells_size]; kernel_rfl) ?_) | (with_reducible refine store_arr (.tmp 2) (.tmp 39) rfl rfl w.heap.size _ f rfl rfl HC.out.res ?_; intro w1 hr1 hg1; have HR := Aside0.mk hr1; have HG := Aside0.mk hg1; clear hr1 hg1))
      refine bodyPost_ret (results_cell_row rfl _ _ w.heap.size 84 _ (0, 0) _ rfl HR.out Try.underlying84 rfl (by rw [acells_size]; kernel_rfl)) rfl ?_
      refine ⟨by rw [acells_congr (fun j _ => HD.out j (by omega))], HC.out.bel.grown HG.out HC.out.bel.size (fun k e => by injection e with e; omega)⟩
end Go.Proofs.Ytagdbadljcongaa.X
end

section
/- Small laws for the walks of this seat: append of a number and of a string; a string's bytes. -/
set_option linter.unusedVariables false
set_option linter.unusedSimpArgs false
namespace Go.Proofs.Ytagdbadljcongaa.X
open Go.RowKit Go.Proofs.YtagdbadljcongaaW.PrintWords Go.Proofs.YtagdbadljcongaaW.PrintLast Go.Proofs.YtagdbadljcongaaW.PrintMore
theorem info3w : (Try.prog.info? 3).map (fun i => (i.zero, i.size, i.bytes)) = some (some (.int .i64 0), 1, 8) := by kernel_rfl
theorem info9w : (Try.prog.info? 9).map (fun i => (i.zero, i.size, i.bytes)) = some (some (.string ByteArray.empty), 1, 16) := by kernel_rfl
/-- append of one whole number, as an arm. -/
theorem app_int {w W : World} {base : Nat} {ok : Nat → Prop} {A : Option Addr} {c : Nat} {xs : List Int} {x : Int} (hr : Kd.R (Kd.int .i64) 3 W base ok (.slice A xs.length c) xs) (hB : Below base w W) (hbase : base ≤ W.heap.size) (hfresh : ∀ k, W.heap.size ≤ k → ok k) (hl : xs.length ≤ 1000000) (i j : Nat) (ops : Array Oper) (rest : List Oper) (o : Oper) (a : Act) (Q : Exit → Act → World → Prop)
    (hgd : o.guard = none) (ho : o.op = .call { callee := .builtin .append, args := #[.tmp i, .tmp j], argTypes := #[23, 23] }) (hs : a.eval (.tmp i) = .slice A xs.length c) (hx : a.eval (.tmp j) = .slice (some ⟨W.heap.size, 0, none⟩) 1 1)
    (h : ∀ A' c' w', Kd.R (Kd.int .i64) 3 w' base ok (.slice A' (xs.length + 1) c') (xs ++ [x]) → Below base w w' → W.grownBy w' (Value.slice A xs.length c).ownBlock → ((Value.slice A' (xs.length + 1) c').ownBlock = (Value.slice A xs.length c).ownBlock ∨ ∃ q, (Value.slice A' (xs.length + 1) c').ownBlock = some q ∧ W.heap.size ≤ q) → wpList Try.prog ops Q rest (a.put o.dst (.slice A' (xs.length + 1) c')) w') :
    wpList Try.prog ops Q (o :: rest) a (W.alloc (.cells #[.int .i64 x] 3)) := by
  refine Kd.R_append (Kd.int .i64) (w0 := w) base hgd (.tmp i) (.tmp j) 23 3 (.int .i64 0) 8 ho Try.underlying23 info3w rfl (by decide) (by omega) (.slice A xs.length c) xs x [.int .i64 x] ok (fun _ => False) hs hx rfl (fun _ h => h.elim) hfresh hr hB hbase (by omega) ?_
  intro v1 w1 ho hb hg hat
  obtain ⟨A', c', rfl⟩ := Kd.R_slice ho
  have e : (xs ++ [x]).length = xs.length + 1 := by simp
  rw [e] at ho hat ⊢
  exact h A' c' w1 ho hb hg hat
/-- append of one string, as an arm. -/
theorem app_str {w W : World} {base : Nat} {ok : Nat → Prop} {A : Option Addr} {c : Nat} {xs : List ByteArray} {x : ByteArray} (hr : Kd.R Kd.string 9 W base ok (.slice A xs.length c) xs) (hB : Below base w W) (hbase : base ≤ W.heap.size) (hfresh : ∀ k, W.heap.size ≤ k → ok k) (hl : xs.length ≤ 1000000) (i j : Nat) (ops : Array Oper) (rest : List Oper) (o : Oper) (a : Act) (Q : Exit → Act → World → Prop)
    (hgd : o.guard = none) (ho : o.op = .call { callee := .builtin .append, args := #[.tmp i, .tmp j], argTypes := #[53, 53] }) (hs : a.eval (.tmp i) = .slice A xs.length c) (hx : a.eval (.tmp j) = .slice (some ⟨W.heap.size, 0, none⟩) 1 1)
    (h : ∀ A' c' w', Kd.R Kd.string 9 w' base ok (.slice A' (xs.length + 1) c') (xs ++ [x]) → Below base w w' → W.grownBy w' (Value.slice A xs.length c).ownBlock → ((Value.slice A' (xs.length + 1) c').ownBlock = (Value.slice A xs.length c).ownBlock ∨ ∃ q, (Value.slice A' (xs.length + 1) c').ownBlock = some q ∧ W.heap.size ≤ q) → wpList Try.prog ops Q rest (a.put o.dst (.slice A' (xs.length + 1) c')) w') :
    wpList Try.prog ops Q (o :: rest) a (W.alloc (.cells #[.string x] 9)) := by
  refine Kd.R_append Kd.string (w0 := w) base hgd (.tmp i) (.tmp j) 53 9 (.string ByteArray.empty) 16 ho Try.underlying53 info9w rfl (by decide) (by omega) (.slice A xs.length c) xs x [.string x] ok (fun _ => False) hs hx rfl (fun _ h => h.elim) hfresh hr hB hbase (by omega) ?_
  intro v1 w1 ho hb hg hat
  obtain ⟨A', c', rfl⟩ := Kd.R_slice ho
  have e : (xs ++ [x]).length = xs.length + 1 := by simp
  rw [e] at ho hat ⊢
  exact h A' c' w1 ho hb hg hat
theorem conv_run (u : ByteArray) (W : World) : (convert 9 36 (.string u)).run Try.prog W = .ok (.slice (some ⟨W.heap.size, 0, none⟩) u.size (grownCap W u.size 0 5)) (Lib.bytesWorld W 5 u) :=
  Lib.run_convert_string_bytes W 9 36 5 u Try.underlying9 Try.underlying36 Try.underlying5
theorem conv_below (u : ByteArray) (W : World) : Below W.heap.size W (Lib.bytesWorld W 5 u) :=
  ⟨rfl, rfl, rfl, by rw [Lib.bytesWorld_size]; omega, fun k hk => Lib.bytesWorld_at_old W 5 u k hk⟩
theorem conv_cell (u : ByteArray) (W : World) (j : Nat) (hj : j < u.size) : (Lib.bytesWorld W 5 u).cell? ⟨W.heap.size, j, none⟩ = some (.int .u8 ((bl u)[j]'(by rw [bl_length]; exact hj) : Nat)) := by
  rw [Lib.bytesWorld_cell W 5 u j hj]
  simp [bl, List.getD_eq_getElem?_getD, hj]
end Go.Proofs.Ytagdbadljcongaa.X
end

section
/- thread.Within. -/
set_option linter.unusedVariables false
set_option linter.unusedSimpArgs false
namespace Go.Proofs.Ytagdbadljcongaa.X
open Go.RowKit Go.Proofs.YtagdbadljcongaaW.PrintWords Go.Proofs.YtagdbadljcongaaW.PrintLast Go.Proofs.YtagdbadljcongaaW.PrintMore
theorem count0 (f : Nat → Int) (W : World) : (Instr.index 84 (.agg (acells f)) (.int .i64 0)).run Try.prog W = .ok (.int .i64 (f 0)) W := by kernel_rfl
set_option maxHeartbeats 2000000 in
set_option maxRecDepth 100000 in
theorem count_y (s : ByteArray) (w : World) (h : isW (bl s) = true) : Calls Try.prog 27 #[.string s] w fun e w' => e = .returned (.tuple #[.int .i64 (cs (bl s)), .int .i64 0]) ∧ Below w.heap.size w w' := by
  have HS := Aside0.mk (show s.size ≤ 60 by rw [← bl_length]; exact ((isW_iff _).1 h).1)
  have H := Aside0.mk h
  have h0 := count0 (cntF (bl s))
  clear h
  go_enter Try.func27, Try.ntmps27
  go_wp2_with (first | (go_at_call 48; (with_reducible refine (newWord_yes _ _ H.out).mono ?_); rintro e w1 ⟨rfl, hwd, hb⟩; have HWD := Aside0.mk hwd; have HB := Aside0.mk hb; clear hwd hb) | (go_at_call 53; (with_reducible refine (counts_any _ _ s HWD.out HS.out).mono ?_); rintro e w2 ⟨rfl, hb⟩; have HB2 := Aside0.mk hb; clear hb))
  go_ret2
  exact ⟨by unfold cntF; rfl, below_step HB.out HB2.out⟩
theorem letter_at {l : List Nat} (h : isW l = true) (k : Nat) (hk : k < l.length) : ∃ c, l[k] = 97 + c ∧ c < 4 := by
  have := ((isW_iff l).1 h).2 _ (List.getElem_mem hk)
  exact ⟨l[k] - 97, by omega, by omega⟩
end Go.Proofs.Ytagdbadljcongaa.X
end

section
/- thread.Index. -/
set_option linter.unusedVariables false
set_option linter.unusedSimpArgs false
namespace Go.Proofs.Ytagdbadljcongaa.X
open Go.RowKit Go.Proofs.YtagdbadljcongaaW.PrintWords Go.Proofs.YtagdbadljcongaaW.PrintLast Go.Proofs.YtagdbadljcongaaW.PrintMore
theorem new_arr {wa w1 : World} {o : Obj} (hg : (wa.alloc o).grownBy w1 (some wa.heap.size)) : Below wa.heap.size wa w1 :=
  (below_alloc (Below.refl _ _) o).grown hg (by rw [World.size_alloc]; omega) (fun k e => by injection e with e; omega)
theorem idx_step {l u : List Nat} {i k d q : Nat} (hk : k < u.length) (hc : u[k] = 97 + d) (hq : nx l i (97 + d) = q) : idx l i (u.drop k) = if q < l.length then (idx l (q + 1) (u.drop (k + 1))).map (1 + less (l.drop i) d + ·) else none := by
  rw [List.drop_eq_getElem_cons hk, hc]
  show (if nx l i (97 + d) < l.length then (idx l (nx l i (97 + d) + 1) (u.drop (k + 1))).map (1 + less (l.drop i) (97 + d - 97) + ·) else none) = _
  rw [hq, show 97 + d - 97 = d by omega]
/-- What Index returns. -/
def IxRes : Option Nat → Int × Int
  | some n => (n, 0)
  | none => (0, 6)
def IxPost (r : Option Nat) (w : World) (e : Ending) (w' : World) : Prop := e = .returned (.tuple #[.int .i64 (IxRes r).1, .int .i64 (IxRes r).2]) ∧ Below w.heap.size w w'
set_option maxHeartbeats 4000000 in
set_option maxRecDepth 100000 in
theorem index_ok (s u : ByteArray) (w : World) (hs : isW (bl s) = true) (hu : isW (bl u) = true) (r : Option Nat) (hr : idx (bl s) 0 (bl u) = r) : Calls Try.prog 33 #[.string s, .string u] w (IxPost r w) := by
  have HU := Aside0.mk hu
  have HS := Aside0.mk hs
  have HS60 := Aside0.mk (show s.size ≤ 60 by rw [← bl_length]; exact ((isW_iff _).1 hs).1)
  have HU60 := Aside0.mk (show u.size ≤ 60 by rw [← bl_length]; exact ((isW_iff _).1 hu).1)
  have HRR := Aside0.mk hr
  have hcv := conv_run u
  clear hu hs hr
  go_enter Try.func33, Try.ntmps33
  go_wp2_with (first | (go_at_call 48; (with_reducible refine (newWord_yes s _ HS.out).mono ?_); rintro e w1 ⟨rfl, hwd, hb⟩; have HWS := Aside0.mk hwd; have HB := Aside0.mk hb; clear hwd hb) | (go_at_call 48; (with_reducible refine (newWord_yes u _ HU.out).mono ?_); rintro e w2 ⟨rfl, hwd, hb⟩; have HWU := Aside0.mk hwd; have HB2 := Aside0.mk hb; have HWS2 := Aside0.mk (HWS.out.below hb); clear hwd hb) | (go_at_call 53; (with_reducible refine (counts_any _ _ s HWS2.out HS60.out).mono ?_); rintro e w3 ⟨rfl, hb⟩; have HB3 := Aside0.mk hb; clear hb) | ((with_reducible refine store_arr (.tmp 10) (.tmp 38) rfl rfl _ (fun _ => 0) _ rfl rfl (by rw [← zeros61]; exact blk_new _ _) ?_); intro w4 h4 hg4; have H4 := Aside0.mk h4; have HB4 := Aside0.mk (new_arr hg4); have t1 := ((HWU.out.below HB3.out).below HB4.out).text; clear h4 hg4))
  clear t1
  obtain ⟨g, hg⟩ : ∃ g, w4.heap.size = g := ⟨_, rfl⟩
  obtain ⟨b, hb⟩ : ∃ b, w.heap.size = b := ⟨_, rfl⟩
  obtain ⟨B, hB⟩ : ∃ B, w3.heap.size = B := ⟨_, rfl⟩
  obtain ⟨cap, hcap⟩ : ∃ cap, grownCap w4 u.size 0 5 = cap := ⟨_, rfl⟩
  have HWD := Aside0.mk (show WordAt (Lib.bytesWorld w4 5 u) b s by rw [← hb]; exact ((HWS2.out.below HB3.out).below HB4.out).below (conv_below u w4))
  have HCC := Aside0.mk (show ∀ j (hj : j < u.size), (Lib.bytesWorld w4 5 u).cell? ⟨g, j, none⟩ = some (.int .u8 ((bl u)[j]'(by rw [bl_length]; exact hj) : Nat)) by rw [← hg]; exact fun j hj => conv_cell u w4 j hj)
  have HN := Aside0.mk (show (Lib.bytesWorld w4 5 u).heap[B]? = some (.cells (acells (cntF (bl s))) 84 (0, 0)) by rw [← hB]; exact blk_below H4.out (conv_below u w4))
  have HB0 := Aside0.mk (show Below w.heap.size w (Lib.bytesWorld w4 5 u) from below_step (below_step (below_step (below_step HB.out HB2.out) HB3.out) HB4.out) (conv_below u w4))
  obtain ⟨W0, hW0⟩ : ∃ W0, Lib.bytesWorld w4 5 u = W0 := ⟨_, rfl⟩
  rw [hW0] at HWD HCC HB0 HN ⊢
  simp only [hg, hb, hB, hcap]
  clear hcv hW0 hg hB hcap HB HB2 HB3 HB4 HWS HWS2 HWU H4
  replace hb := Aside0.mk hb
  go_loopw [11, 12, 45] (fun v11 v12 v45 wr => ∃ (k i acc : Nat), v45 = .int .i64 k ∧ v12 = .int .i64 i ∧ v11 = .int .i64 acc ∧ k ≤ u.size ∧ i ≤ s.size ∧ Aside0 (acc + cs ((bl s).drop i) ≤ 1152921504606846976) ∧
      Aside0 (Below W0.heap.size W0 wr) ∧ Aside0 ((idx (bl s) i ((bl u).drop k)).map (acc + ·) = r)) (fun _ _ v45 _ => u.size - (intOf v45).toNat)
  case atStart => exact ⟨0, 0, 0, rfl, rfl, rfl, by omega, by omega, ⟨by have := cs_60 (l := (bl s).drop 0) (by rw [List.drop_zero, bl_length]; exact HS60.out); omega⟩, ⟨Below.refl _ _⟩, ⟨by
    rw [List.drop_zero, HRR.out]; cases r <;> simp⟩⟩
  case round =>
    obtain ⟨k, i, acc, rfl, rfl, rfl, hk, hi, HA, HB, HE⟩ := hrel
    clear HRR
    by_cases hlt : k < u.size
    · obtain ⟨d, hd, hd4⟩ := letter_at HU.out k (by rw [bl_length]; exact hlt)
      have t1 : wr.cell? ⟨g, k, none⟩ = some (.int .u8 (97 + (d : Int))) := by
        rw [pw_cell_below HB.out (HCC.out k hlt), hd]; simp
      obtain ⟨q, hq⟩ : ∃ q, nx (bl s) i (97 + d) = q := ⟨_, rfl⟩
      have hq1 := nx_le (bl s) i (97 + d) (by rw [bl_length]; exact hi)
      rw [hq, bl_length] at hq1
      have HW := Aside0.mk (idx_step (by rw [bl_length]; exact hlt) hd hq)
      have HTQ := Aside0.mk (show term ((bl s).drop i) (97 + d) = if q < s.size then cs ((bl s).drop (q + 1)) else 0 by rw [term_at _ _ _ (by rw [bl_length]; exact hi), hq, bl_length])
      have HQ := Aside0.mk hq
      have HD4 := Aside0.mk hd4
      have c1 : (97 : Int) + (d : Int) - 97 = (d : Int) := by omega
      have c2 : (d : Int) < 4 := by omega
      have hq2 : q ≤ 60 := by have := HS60.out; omega
      have hk2 : (k : Int) < 60 := by have := HU60.out; omega
      have HLT := Aside0.mk hlt
      have HI := Aside0.mk hi
      have hltI : (k : Int) < (u.size : Int) := by omega
      have hacc : (acc : Int) + 1 ≤ 1152921504606846976 := by have := HA.out; have := cs_pos ((bl s).drop i); omega
      clear hd hq hd4 hlt hi
      go_wp2
      clear t1
      go_loopw [11, 55] (fun v11 v55 wr => ∃ (j : Nat) (o : Int), v55 = .int .i64 j ∧ v11 = .int .i64 o ∧ j ≤ d ∧ 0 ≤ o ∧ Aside0 (o = (acc + psum ((bl s).drop i) j : Nat)) ∧ Aside0 (Below W0.heap.size W0 wr)) (fun _ v55 _ => d - (intOf v55).toNat)
      case atStart => exact ⟨0, _, rfl, rfl, by omega, by omega, ⟨by show (acc : Int) + 1 = ((acc + 1 : Nat) : Int); simp⟩, HB⟩
      case round =>
        clear HB
        obtain ⟨j, o, rfl, rfl, hj, ho0, HO, HB⟩ := hrel
        by_cases hjd : j < d
        · have HWR := Aside0.mk (HWD.out.below HB.out)
          obtain ⟨p, hp⟩ : ∃ p, nx (bl s) i (97 + j) = p := ⟨_, rfl⟩
          have hp1 := nx_le (bl s) i (97 + j) (by rw [bl_length]; exact HI.out)
          rw [hp, bl_length] at hp1
          have hp2 : p ≤ 60 := by have := HS60.out; omega
          have HT := Aside0.mk (show term ((bl s).drop i) (97 + j) = if p < s.size then cs ((bl s).drop (p + 1)) else 0 by rw [term_at _ _ _ (by rw [bl_length]; exact HI.out), hp, bl_length])
          have HBD := Aside0.mk (show acc + psum ((bl s).drop i) (j + 1) ≤ 1152921504606846976 by
            have h1 := psum_mono ((bl s).drop i) (show j + 1 ≤ 4 by have := HD4.out; omega)
            rw [← cs_eq] at h1
            have h2 := HA.out
            omega)
          have hjI : (j : Int) < (d : Int) := by omega
          have HJ := Aside0.mk (show j < 4 by have := HD4.out; omega)
          have HP := Aside0.mk hp
          have HJD := Aside0.mk hjd
          clear hp hjd
          by_cases hps : p < s.size
          · have HR1 := Aside0.mk (decide_eq_true hps)
            have HT := HT.out
            rw [if_pos hps] at HT
            have HT := Aside0.mk HT
            have n1 : wr.cell? ⟨B, p + 1, none⟩ = some (.int .i64 (cs ((bl s).drop (p + 1)) : Int)) := by
              rw [pw_cell_below HB.out (show W0.cell? ⟨B, p + 1, none⟩ = some (.int .i64 (cntF (bl s) (p + 1))) from (blk_cell HN.out _).trans (acells_at _ _ (by have := HS60.out; omega)))]
              unfold cntF; rw [if_pos (by rw [bl_length]; omega)]
            obtain ⟨z, hz⟩ : ∃ z : Int, (cs ((bl s).drop (p + 1)) : Int) = z := ⟨_, rfl⟩
            rw [hz] at n1
            have HZ := Aside0.mk hz
            have hz0 : 0 ≤ z := by omega
            have hoz : o + z ≤ 1152921504606846976 := by have h1 := HBD.out; rw [psum_succ, HT.out] at h1; have := HO.out; omega
            have c6 : ((p : Int) + 1) < 61 := by have := HS60.out; omega
            clear hps hz
            go_wp2_with (go_at_call 57; (with_reducible refine (after_c _ b s HWR.out HS60.out i j p true HI.out HJ.out HP.out HR1.out).mono ?_); rintro e wa ⟨rfl, HDR⟩; have HBA := Aside0.mk HDR.below; have n2 := pw_cell_below HDR.below n1; clear HDR)
            go_roundw
            case rel => exact ⟨j + 1, o + z, by go_num, by go_num, by have := HJD.out; omega, by omega, ⟨by rw [psum_succ, HT.out]; have := HO.out; have := HZ.out; omega⟩, ⟨below_step HB.out HBA.out⟩⟩
            case measure => simp [intOf]; have := HJD.out; omega
          · have HR1 := Aside0.mk (decide_eq_false hps)
            have HT := HT.out
            rw [if_neg hps] at HT
            have HT := Aside0.mk HT
            clear hps
            go_wp2_with (go_at_call 57; (with_reducible refine (after_c _ b s HWR.out HS60.out i j p false HI.out HJ.out HP.out HR1.out).mono ?_); rintro e wa ⟨rfl, HDR⟩; have HBA := Aside0.mk HDR.below; clear HDR)
            go_roundw
            case rel => exact ⟨j + 1, o, by go_num, rfl, by have := HJD.out; omega, by omega, ⟨by rw [psum_succ, HT.out]; have := HO.out; omega⟩, ⟨below_step HB.out HBA.out⟩⟩
            case measure => simp [intOf]; have := HJD.out; omega
        · have HWR := Aside0.mk (HWD.out.below HB.out)
          have ejd : j = d := by omega
          have HO2 := Aside0.mk (show o = (acc + psum ((bl s).drop i) d : Nat) by rw [← ejd]; exact HO.out)
          clear ejd
          have hjI : ¬ ((j : Int) < (d : Int)) := by omega
          clear hjd HO
          by_cases hqs : q < s.size
          · have HQS := Aside0.mk hqs
            have HR1 := Aside0.mk (decide_eq_true hqs)
            clear hqs
            go_wp2_with (go_at_call 57; (with_reducible refine (after_c _ b s HWR.out HS60.out i d q true HI.out HD4.out HQ.out HR1.out).mono ?_); rintro e wa ⟨rfl, HDR⟩; have HBA := Aside0.mk HDR.below; clear HDR)
            go_roundw
            case rel => exact ⟨k + 1, q + 1, acc + psum ((bl s).drop i) d, by go_num, by go_num, by rw [HO2.out], by have := HLT.out; omega, by have := HQS.out; omega, ⟨by
              have h1 := psum_mono ((bl s).drop i) (show d + 1 ≤ 4 by have := HD4.out; omega)
              rw [← cs_eq, psum_succ, HTQ.out, if_pos HQS.out] at h1
              have := HA.out
              omega⟩, ⟨below_step HB.out HBA.out⟩, ⟨by
              have h3 := HW.out
              rw [if_pos (by rw [bl_length]; exact HQS.out)] at h3
              rw [← HE.out, h3, psum_less]
              cases idx (bl s) (q + 1) ((bl u).drop (k + 1)) <;> simp [Nat.add_assoc]⟩⟩
            case measure => simp [intOf]; have := HLT.out; omega
          · have HR1 := Aside0.mk (decide_eq_false hqs)
            have HQS := Aside0.mk hqs
            clear hqs
            go_wp2_with (go_at_call 57; (with_reducible refine (after_c _ b s HWR.out HS60.out i d q false HI.out HD4.out HQ.out HR1.out).mono ?_); rintro e wa ⟨rfl, HDR⟩; have HBA := Aside0.mk HDR.below; clear HDR)
            go_ret2
            have h3 := HW.out
            rw [if_neg (by rw [bl_length]; exact HQS.out)] at h3
            have h4 := HE.out
            rw [h3] at h4
            subst h4
            exact ⟨rfl, below_then (HB0.out.trans (HB.out.mono HB0.out.size)) (Nat.le_trans HB0.out.size HB.out.size) HBA.out⟩
    · have HLT := Aside0.mk (show k = u.size by omega)
      have hltI : ¬ ((k : Int) < (u.size : Int)) := by omega
      clear hlt
      go_wp2
      go_ret2
      refine ⟨?_, HB0.out.trans (HB.out.mono HB0.out.size)⟩
      have h2 := HE.out
      rw [HLT.out, ← bl_length, List.drop_length] at h2
      simp [idx] at h2
      subst h2
      rfl
end Go.Proofs.Ytagdbadljcongaa.X
end

section
/- A range over a function that hands out the first letters, one after the other: the law of the statement with an invariant that counts the rounds; alphabet's contract; leaving a function with marks. -/
set_option linter.unusedVariables false
set_option linter.unusedSimpArgs false
namespace Go.Proofs.Ytagdbadljcongaa.X
open Go Go.RowKit Go.Proofs.YtagdbadljcongaaW.PrintWords Go.Proofs.YtagdbadljcongaaW.PrintLast Go.Proofs.YtagdbadljcongaaW.PrintMore
section
variable {F : Fence} {n : Nat} {P : Program}
/-- The iterator's contract: it hands out encs 0, encs 1, .., encs (k - 1) in turn until a round says 'no more'. -/
def SeqJ (F : Fence) (n : Nat) (P : Program) (g : Nat) (lb : Array Value) (encs : Nat → Array Value) (k : Nat) (w : World) : Prop :=
  ∀ (l : Nat) (J Jx : Nat → World → Prop) (W : World), Below w.heap.size w W →
    (∀ c W1, c < k → J c W1 → YieldAt F (n - 1) P l (encs c) W1 fun e W' => (e = .returned (.bool true) ∧ J (c + 1) W') ∨ (e = .returned (.bool false) ∧ Jx c W')) → J 0 W →
    CallsIn F n P g (#[.func (.yield l) #[] #[]] ++ lb) W fun e W' => (∃ v, e = .returned v) ∧ (J k W' ∨ ∃ c, c < k ∧ Jx c W')
/-- How a round's body may be left. -/
def postJ (I : Nat → World → Prop) (Ix : Code → Nat → World → Prop) (c : Nat) (W : World) : Exit → Act → World → Prop
  | .normal, _, W' => KeepsOthers W W' ∧ I (c + 1) W'
  | .ret, _, W' => KeepsOthers W W' ∧ Ix .ret c W'
  | .exit id, _, W' => KeepsOthers W W' ∧ Ix (.exit id) c W'
  | .goto t, _, W' => KeepsOthers W W' ∧ Ix (.goto t) c W'
  | .panic _, _, _ => False
  | .outgrown, _, _ => False
theorem wpIn_rangeFunc_J {g : Operand} {ps : Array Tmp} {assign body : Code} {Q : Exit → Act → World → Prop} {a : Act} {w : World}
    (hro : F.round = none) (h1 : 1 ≤ n) {gf : Nat} {lb : Array Value} (hg : a.eval g = .func (.func gf) #[] lb) (hFg : F.fn gf) (eg : ∀ args w, (callFunc gf args).run P w = .ok (.enter gf args) w)
    {encs : Nat → Array Value} {k : Nat} (hseq : SeqJ F (n - 1) P gf lb encs k w) (hps : ∀ x, (encs x).size = ps.size)
    (I : Nat → World → Prop) (Ix : Code → Nat → World → Prop)
    (hI : ∀ c W l o o', w.heap.size ≤ l → W.heap[l]? = some o → o.isCells = false → I c W → I c (W.putObj l o'))
    (hIx : ∀ e c W l o o', w.heap.size ≤ l → W.heap[l]? = some o → o.isCells = false → Ix e c W → Ix e c (W.putObj l o'))
    (h0 : ∀ o o', I 0 ((w.alloc o).alloc o')) (a₁ : Nat → Act)
    (hassign : ∀ (l : Nat) (c : Nat) (W : World) (K : Act → World → Prop), K (a₁ c) W →
      assign.wpIn (F.inRound l) (n - 1 - 1) P (Exit.then K (fun _ _ _ => False)) { tmps := (ps.zip (encs c)).foldl (fun t (p, v) => t.setIfInBounds p v) a.tmps, defers := [] } W)
    (hbody : ∀ (l : Nat) (c : Nat) (W : World), w.heap.size ≤ l → c < k → I c W → body.wpIn (F.inRound l) (n - 1 - 1) P (postJ I Ix c W) (a₁ c) W)
    (hdone : ∀ (D : Nat) (W : World), w.heap.size ≤ D → I k W → W.heap[D]? = some (.deferred (some [])) → Q .normal { a with defers := { target := .collected D, args := #[] } :: a.defers } W)
    (hstop : ∀ (D : Nat) (e : Code) (c : Nat) (W : World), w.heap.size ≤ D → c < k → Ix e c W → W.heap[D]? = some (.deferred (some [])) → e.wpIn F n P Q { a with defers := { target := .collected D, args := #[] } :: a.defers } W) :
    (Code.rangeFunc g ps assign body).wpIn F n P Q a w := by
  refine wpIn_rangeFunc ?_
  intro fn hfn
  rw [hro]
  obtain ⟨rec, hrec⟩ : ∃ rec : LoopState → Option Code → Loop, rec = fun st pe => { state := st, pending := pe, fn, tmps := a.tmps, params := ps, assign, body, defers := w.heap.size } := ⟨_, rfl⟩
  obtain ⟨W1, hW1⟩ : ∃ W1, (w.alloc (.deferred (some []))).alloc (.loop (rec .ready none)) = W1 := ⟨_, rfl⟩
  have hL1 : W1.heap[w.heap.size + 1]? = some (.loop (rec .ready none)) := by
    rw [← hW1]; have := World.alloc_heap_new (w.alloc (.deferred (some []))) (.loop (rec .ready none)); rwa [World.size_alloc] at this
  have hK1 : W1.heap[w.heap.size]? = some (.deferred (some [])) := by
    rw [← hW1]; exact (Below.heap_alloc _ _ _ (by simp)).trans (World.alloc_heap_new w _)
  have hI1 : I 0 W1 := by rw [← hW1]; exact h0 _ _
  have hb1 : Below w.heap.size w W1 := by
    rw [← hW1]; exact ((Below.refl _ w).alloc (Nat.le_refl _) _).alloc (by simp) _
  refine ⟨w.heap.size + 1, [{ target := .collected w.heap.size, args := #[] }], W1, { target := .fn (.func gf) lb, args := #[.func (.yield (w.heap.size + 1)) #[] #[]] }, W1, gf,
    #[.func (.yield (w.heap.size + 1)) #[] #[]] ++ lb, W1, ?_, ?_, ?_, ?_, fun _ => h1, ?_⟩
  · rw [← hW1, hrec]; exact run_enterLoop_outer _ _ _ _ _
  · simp only [resolve, hg]
    simp [go_sem]
  · intro f' hf'; simp [Target.leads] at hf'; subst hf'; exact hFg
  · simp [invoke, go_sem, eg]
  · refine (hseq (w.heap.size + 1)
      (fun c W => I c W ∧ W.heap[w.heap.size + 1]? = some (.loop (rec .ready none)) ∧ W.heap[w.heap.size]? = some (.deferred (some [])))
      (fun c W => ∃ e, Ix e c W ∧ W.heap[w.heap.size + 1]? = some (.loop (rec .done (some e))) ∧ W.heap[w.heap.size]? = some (.deferred (some [])))
      W1 hb1 ?_ ⟨hI1, hL1, hK1⟩).mono ?_
    · rintro c W hck ⟨hIc, hl, hk⟩
      have hlt : w.heap.size + 1 < W.heap.size := (Array.getElem?_eq_some_iff.1 hl).1
      have hy := run_yield (P := P) (args := encs c) hl (by rw [hrec]; exact hps c)
      rw [hrec] at hy
      refine ⟨fn, _, assign, body, hy, roundIn_of_wpIn hfn (hassign _ c W _ ⟨_, run_beginRound hl (by rw [hrec]), ?_⟩)⟩
      have hl2 : (W.putObj (w.heap.size + 1) (.loop { rec .ready none with state := .busy })).heap[w.heap.size + 1]? = some (.loop { rec .ready none with state := .busy }) := World.putObj_heap_same hlt
      have hk2 : (W.putObj (w.heap.size + 1) (.loop { rec .ready none with state := .busy })).heap[w.heap.size]? = some (.deferred (some [])) := (World.putObj_heap_other (by omega)).trans hk
      refine wpIn_mono (hbody _ c _ (by omega) hck (hI _ _ _ _ _ (by omega) hl rfl hIc)) ?_
      have fin : ∀ (jump : Option Code) (W3 : World), W3.heap[w.heap.size + 1]? = some (.loop { rec .ready none with state := .busy }) → W3.heap[w.heap.size]? = some (.deferred (some [])) →
          (Instr.endRound (w.heap.size + 1) jump).run P W3 = .ok (.bool jump.isNone) (W3.putObj (w.heap.size + 1) (.loop (rec (if jump.isNone then .ready else .done) jump))) ∧
          (W3.putObj (w.heap.size + 1) (.loop (rec (if jump.isNone then .ready else .done) jump))).heap[w.heap.size + 1]? = some (.loop (rec (if jump.isNone then .ready else .done) jump)) ∧
          (W3.putObj (w.heap.size + 1) (.loop (rec (if jump.isNone then .ready else .done) jump))).heap[w.heap.size]? = some (.deferred (some [])) := fun jump W3 hl3 hk3 => by
        have := run_endRound (P := P) jump hl3
        rw [hrec] at this ⊢
        exact ⟨this, World.putObj_heap_same (Array.getElem?_eq_some_iff.1 hl3).1, (World.putObj_heap_other (by omega)).trans hk3⟩
      rintro e a3 W3 hp
      cases e with
      | normal =>
        obtain ⟨hk3, hi3⟩ := hp
        have h3l := hk3.same _ _ hl2 rfl
        obtain ⟨hr, hl4, hk4⟩ := fin none W3 h3l (hk3.same _ _ hk2 rfl)
        exact ⟨_, _, hr, .inl ⟨rfl, hI _ _ _ _ _ (by omega) h3l rfl hi3, hl4, hk4⟩⟩
      | ret =>
        obtain ⟨hk3, hi3⟩ := hp
        have h3l := hk3.same _ _ hl2 rfl
        obtain ⟨hr, hl4, hk4⟩ := fin (some .ret) W3 h3l (hk3.same _ _ hk2 rfl)
        exact ⟨_, _, hr, .inr ⟨rfl, .ret, hIx _ _ _ _ _ _ (by omega) h3l rfl hi3, hl4, hk4⟩⟩
      | exit id =>
        obtain ⟨hk3, hi3⟩ := hp
        have h3l := hk3.same _ _ hl2 rfl
        obtain ⟨hr, hl4, hk4⟩ := fin (some (.exit id)) W3 h3l (hk3.same _ _ hk2 rfl)
        exact ⟨_, _, hr, .inr ⟨rfl, .exit id, hIx _ _ _ _ _ _ (by omega) h3l rfl hi3, hl4, hk4⟩⟩
      | goto t =>
        obtain ⟨hk3, hi3⟩ := hp
        have h3l := hk3.same _ _ hl2 rfl
        obtain ⟨hr, hl4, hk4⟩ := fin (some (.goto t)) W3 h3l (hk3.same _ _ hk2 rfl)
        exact ⟨_, _, hr, .inr ⟨rfl, .goto t, hIx _ _ _ _ _ _ (by omega) h3l rfl hi3, hl4, hk4⟩⟩
      | panic ch => exact hp.elim
      | outgrown => exact hp.elim
    · rintro e W2 ⟨⟨v, rfl⟩, (⟨hIk, hl, hk⟩ | ⟨c, hck, cd, hi, hl, hk⟩)⟩
      · exact ⟨none, _, by have := run_endLoop (P := P) hl (by rw [hrec]; simp); rw [hrec] at this; exact this, hdone _ _ (Nat.le_refl _) (hI _ _ _ _ _ (by omega) hl rfl hIk) ((World.putObj_heap_other (by omega)).trans hk)⟩
      · exact ⟨some cd, _, by have := run_endLoop (P := P) hl (by rw [hrec]; simp); rw [hrec] at this; exact this, hstop _ cd c _ (Nat.le_refl _) hck (hIx _ _ _ _ _ _ (by omega) hl rfl hi) ((World.putObj_heap_other (by omega)).trans hk)⟩
/-- The marks of the ranges that the function has gone through. -/
def Marks (lo : Nat) (W : World) : List Deferred → Prop
  | [] => True
  | d :: ds => (∃ D, lo ≤ D ∧ d = { target := .collected D, args := #[] } ∧ W.heap[D]? = some (.deferred (some [])) ∧ ∀ e ∈ ds, e ≠ { target := .collected D, args := #[] }) ∧ Marks lo W ds
theorem Marks.keeps {lo : Nat} {W W' : World} {ds : List Deferred} (h : Marks lo W ds) (hk : ∀ D, lo ≤ D → W.heap[D]? = some (.deferred (some [])) → ({ target := .collected D, args := #[] } : Deferred) ∈ ds → W'.heap[D]? = some (.deferred (some []))) : Marks lo W' ds := by
  induction ds with
  | nil => trivial
  | cons d ds ih =>
    obtain ⟨⟨D, h1, rfl, h3, h4⟩, h5⟩ := h
    exact ⟨⟨D, h1, rfl, hk D h1 h3 (by simp), h4⟩, ih h5 (fun D a b c => hk D a b (by simp [c]))⟩
theorem Marks.lt {lo : Nat} {W : World} {ds : List Deferred} (h : Marks lo W ds) {D : Nat} (hd : ({ target := .collected D, args := #[] } : Deferred) ∈ ds) : W.heap[D]? = some (.deferred (some [])) := by
  induction ds with
  | nil => simp at hd
  | cons d ds ih =>
    obtain ⟨⟨D', h1, rfl, h3, h4⟩, h5⟩ := h
    rcases List.mem_cons.1 hd with e | e
    · injection e with e; injection e with e; subst e; exact h3
    · exact ih h5 e
theorem Marks.keepsOthers {lo : Nat} {W W' : World} {ds : List Deferred} (h : Marks lo W ds) (hk : KeepsOthers W W') : Marks lo W' ds := h.keeps fun D _ a _ => hk.same _ _ a rfl
theorem Marks.below {lo : Nat} {W W' : World} {ds : List Deferred} (h : Marks lo W ds) (hb : Below W.heap.size W W') : Marks lo W' ds := h.keeps fun D _ a _ => blk_below a hb
theorem Marks.put {lo : Nat} {W : World} {ds : List Deferred} (h : Marks lo W ds) {l : Nat} (hl : ∀ D, ({ target := .collected D, args := #[] } : Deferred) ∈ ds → D ≠ l) (o : Obj) : Marks lo (W.putObj l o) ds := h.keeps fun D _ a c => (World.putObj_heap_other (hl D c)).trans a
theorem Marks.cons {lo : Nat} {W : World} {ds : List Deferred} (h : Marks lo W ds) {D : Nat} (hl : lo ≤ D) (hD : W.heap[D]? = some (.deferred (some []))) (hn : ∀ D', ({ target := .collected D', args := #[] } : Deferred) ∈ ds → D' ≠ D) : Marks lo W ({ target := .collected D, args := #[] } :: ds) :=
  ⟨⟨D, hl, rfl, hD, fun e he e2 => by subst e2; exact hn D he rfl⟩, h⟩
/-- A function leaves by its marks: what its results read stays, and nothing below lo changes. -/
theorem leaves_marks {fn : Func} {tmps : Array Value} {R : Ending → World → Prop} {lo : Nat} : ∀ (ds : List Deferred) (W : World), Marks lo W ds →
    (∀ W', W'.heap.size = W.heap.size → (∀ (k : Nat) (o : Obj), W.heap[k]? = some o → o.isCells = true → W'.heap[k]? = some o) → Below lo W W' → LeavesInM F n P fn tmps R [] .returning W') → lo ≤ W.heap.size → LeavesInM F n P fn tmps R ds .returning W
  | [], W, _, h, hlo => h W rfl (fun k o h _ => h) (Below.refl _ _)
  | d :: ds, W, hm, h, hlo => by
    obtain ⟨⟨D, h1, rfl, h3, h4⟩, h5⟩ := hm
    refine ⟨by simp, .inl ⟨D, _, rfl, run_takeDeferred h3, ?_⟩⟩
    refine leaves_marks ds _ (h5.put (fun D' hD' e => by subst e; exact h4 _ hD' rfl) _) (fun W' hs hc hb => ?_) (by rw [World.putObj_size]; exact hlo)
    refine h W' (by rw [hs, World.putObj_size]) (fun k o hk ho => hc k o ?_ ho) ?_
    · rw [World.putObj_heap_other (fun e => by subst e; rw [h3] at hk; injection hk with hk; subst hk; cases ho)]; exact hk
    · exact ((Below.refl lo W).grown (grownBy_putObj' W D _) hlo (fun k e => by cases e; exact h1)).trans hb
end
/-- A slot of a frame. -/
def sl (U : Array Value) (j : Nat) : Value := U.getD j undef
theorem act_named {P : Program} {c : Code} {Q : Exit → Act → World → Prop} {a : Act} {w : World} (h : ∀ A : Act, A = a → c.wp P Q A w) : c.wp P Q a w := h a rfl
theorem ex_act {R : Prop} {F : Array Value → Act} {a : Act} (h1 : R) (h2 : a = F a.tmps) : ∃ U, R ∧ a = F U := ⟨a.tmps, h1, h2⟩
/-- A letter as a string. -/
def ltr (c : Nat) : ByteArray := ⟨#[UInt8.ofNat (97 + c)]⟩
set_option maxRecDepth 100000 in
theorem alphabet_calls (k : Int) (w : World) : Calls Try.prog 52 #[.int .i64 k] w fun e w' => e = .returned (.func (.func 70) #[] #[.pointer (some ⟨w.heap.size, 0, none⟩)]) ∧ w' = w.alloc (.cells #[.int .i64 k] 3) := by
  go_enter Try.func52, Try.ntmps52
  go_wp2
  go_ret
  exact ⟨rfl, rfl⟩
theorem encs_0 : (#[.int .i64 ((0 : Nat) : Int), .string (ltr 0)] : Array Value) = #[.int .i64 0, .string (Utf8.encode 97)] := by kernel_rfl
theorem encs_1 : (#[.int .i64 ((1 : Nat) : Int), .string (ltr 1)] : Array Value) = #[.int .i64 1, .string (Utf8.encode 98)] := by kernel_rfl
theorem encs_2 : (#[.int .i64 ((2 : Nat) : Int), .string (ltr 2)] : Array Value) = #[.int .i64 2, .string (Utf8.encode 99)] := by kernel_rfl
theorem encs_3 : (#[.int .i64 ((3 : Nat) : Int), .string (ltr 3)] : Array Value) = #[.int .i64 3, .string (Utf8.encode 100)] := by kernel_rfl
set_option maxHeartbeats 4000000 in
set_option maxRecDepth 100000 in
theorem alphabet_seq (k g : Nat) (w : World) (hk : k ≤ 4) (hg : w.heap[g]? = some (.cells #[.int .i64 k] 3 (0, 0))) : SeqJ Fence.wide 2 Try.prog 70 #[.pointer (some ⟨g, 0, none⟩)] (fun c => #[.int .i64 c, .string (ltr c)]) k w := by
  intro l J Jx W hW hY h0
  have hcg : W.cell? ⟨g, 0, none⟩ = some (.int .i64 k) := (blk_cell (blk_below hg hW) 0).trans rfl
  have HY := Aside0.mk hY
  have H0 := Aside0.mk h0
  have HK := Aside0.mk hk
  have hk2 : (k : Int) ≤ 4 := by omega
  clear hY h0 hW hg hk
  refine callsIn_of_wp Try.func70 rfl trivial ?_
  simp only [Try.ntmps70, List.size_toArray, List.length_cons, List.length_nil, Nat.reduceAdd, Nat.reduceSub, Array.replicate_succ, Array.replicate_zero, List.push_toArray, List.append_toArray, List.nil_append, List.cons_append]
  gi_wp2
  clear hcg
  gi_loopw [5] (fun v5 wr => ∃ c : Nat, v5 = .int .i64 c ∧ c ≤ k ∧ Aside0 (J c wr)) (fun v5 _ => k - (intOf v5).toNat)
  case atStart => exact ⟨0, rfl, by omega, H0⟩
  case round =>
    clear H0
    obtain ⟨c, rfl, hc, HJ⟩ := hrel
    by_cases hlt : c < k
    · have hy := HY.out c wr hlt HJ.out
      have hcc : c = 0 ∨ c = 1 ∨ c = 2 ∨ c = 3 := by have := HK.out; omega
      have hI : (c : Int) < (k : Int) := by omega
      have HLT := Aside0.mk hlt
      clear hlt
      rcases hcc with rfl | rfl | rfl | rfl
      · rw [encs_0] at hy
        obtain ⟨fn, tmps, assign, body, hyy, hRR⟩ := hy
        gi_wp2
        refine hRR.mono ?_
        rintro e W' (⟨rfl, hj⟩ | ⟨rfl, hj⟩)
        · have HJ2 := Aside0.mk hj
          clear hj hRR hyy
          gi_wp2
          go_roundw
          case rel => exact ⟨_, by go_num, by have := HLT.out; omega, HJ2⟩
          case measure => simp [intOf]; have := HLT.out; omega
        · have HJ2 := Aside0.mk hj
          clear hj hRR hyy
          gi_wp2
          (try simp only [Exit.inBlock, Exit.then])
          refine bodyPost_ret (results_none rfl _ _ _) rfl ?_
          exact ⟨⟨_, rfl⟩, .inr ⟨_, HLT.out, HJ2.out⟩⟩
      · rw [encs_1] at hy
        obtain ⟨fn, tmps, assign, body, hyy, hRR⟩ := hy
        gi_wp2
        refine hRR.mono ?_
        rintro e W' (⟨rfl, hj⟩ | ⟨rfl, hj⟩)
        · have HJ2 := Aside0.mk hj
          clear hj hRR hyy
          gi_wp2
          go_roundw
          case rel => exact ⟨_, by go_num, by have := HLT.out; omega, HJ2⟩
          case measure => simp [intOf]; have := HLT.out; omega
        · have HJ2 := Aside0.mk hj
          clear hj hRR hyy
          gi_wp2
          (try simp only [Exit.inBlock, Exit.then])
          refine bodyPost_ret (results_none rfl _ _ _) rfl ?_
          exact ⟨⟨_, rfl⟩, .inr ⟨_, HLT.out, HJ2.out⟩⟩
      · rw [encs_2] at hy
        obtain ⟨fn, tmps, assign, body, hyy, hRR⟩ := hy
        gi_wp2
        refine hRR.mono ?_
        rintro e W' (⟨rfl, hj⟩ | ⟨rfl, hj⟩)
        · have HJ2 := Aside0.mk hj
          clear hj hRR hyy
          gi_wp2
          go_roundw
          case rel => exact ⟨_, by go_num, by have := HLT.out; omega, HJ2⟩
          case measure => simp [intOf]; have := HLT.out; omega
        · have HJ2 := Aside0.mk hj
          clear hj hRR hyy
          gi_wp2
          (try simp only [Exit.inBlock, Exit.then])
          refine bodyPost_ret (results_none rfl _ _ _) rfl ?_
          exact ⟨⟨_, rfl⟩, .inr ⟨_, HLT.out, HJ2.out⟩⟩
      · rw [encs_3] at hy
        obtain ⟨fn, tmps, assign, body, hyy, hRR⟩ := hy
        gi_wp2
        refine hRR.mono ?_
        rintro e W' (⟨rfl, hj⟩ | ⟨rfl, hj⟩)
        · have HJ2 := Aside0.mk hj
          clear hj hRR hyy
          gi_wp2
          go_roundw
          case rel => exact ⟨_, by go_num, by have := HLT.out; omega, HJ2⟩
          case measure => simp [intOf]; have := HLT.out; omega
        · have HJ2 := Aside0.mk hj
          clear hj hRR hyy
          gi_wp2
          (try simp only [Exit.inBlock, Exit.then])
          refine bodyPost_ret (results_none rfl _ _ _) rfl ?_
          exact ⟨⟨_, rfl⟩, .inr ⟨_, HLT.out, HJ2.out⟩⟩
    · have hI : ¬ ((c : Int) < (k : Int)) := by omega
      have e : c = k := by omega
      have HJ2 := Aside0.mk (show J k wr by rw [← e]; exact HJ.out)
      clear hlt HJ e
      gi_wp2
      go_end0
      exact ⟨⟨_, rfl⟩, .inl HJ2.out⟩
end Go.Proofs.Ytagdbadljcongaa.X
end

section
/- The subsequence with a given rank. -/
set_option linter.unusedVariables false
set_option linter.unusedSimpArgs false
namespace Go.Proofs.Ytagdbadljcongaa.X
open Go.RowKit Go.Proofs.YtagdbadljcongaaW.PrintWords
/-- The letter that is chosen at a rank behind what has come so far. -/
def pickC (l : List Nat) (k : Nat) : Nat := if k < less l 1 then 0 else if k < less l 2 then 1 else if k < less l 3 then 2 else 3
/-- The subsequence of l that has k ones before it. -/
def itemF : Nat → List Nat → Nat → List Nat
  | 0, _, _ => []
  | f + 1, l, k => if k = 0 then [] else (97 + pickC l (k - 1)) :: itemF f (l.drop (nxl l (97 + pickC l (k - 1)) + 1)) (k - 1 - less l (pickC l (k - 1)))
def itemL (l : List Nat) (k : Nat) : List Nat := itemF (l.length + 1) l k
theorem less_succ (l : List Nat) (j : Nat) : less l (j + 1) = less l j + term l (97 + j) := rfl
theorem less_mono (l : List Nat) {i j : Nat} (h : i ≤ j) : less l i ≤ less l j := by
  have := psum_mono l h
  rw [psum_less, psum_less] at this; omega
theorem cs_less (l : List Nat) : cs l = 1 + less l 4 := by rw [cs_eq, psum_less]
/-- What picks the letter. -/
theorem pick_is {l : List Nat} {k c : Nat} (hc : c < 4) (h1 : less l c ≤ k) (h2 : k < less l (c + 1)) : pickC l k = c := by
  unfold pickC
  have h01 := less_mono l (show 0 ≤ 1 by omega)
  have h12 := less_mono l (show 1 ≤ 2 by omega)
  have h23 := less_mono l (show 2 ≤ 3 by omega)
  have hcc : c = 0 ∨ c = 1 ∨ c = 2 ∨ c = 3 := by omega
  rcases hcc with rfl | rfl | rfl | rfl
  · rw [if_pos h2]
  · rw [if_neg (by omega), if_pos h2]
  · rw [if_neg (by omega), if_neg (by omega), if_pos h2]
  · rw [if_neg (by omega), if_neg (by omega), if_neg (by omega)]
theorem pick_ok {l : List Nat} {k : Nat} (h : k + 1 < cs l) : pickC l k < 4 ∧ less l (pickC l k) ≤ k ∧ k < less l (pickC l k + 1) := by
  rw [cs_less] at h
  unfold pickC
  split
  · exact ⟨by omega, Nat.zero_le _, by assumption⟩
  · split
    · exact ⟨by omega, by omega, by assumption⟩
    · split
      · exact ⟨by omega, by omega, by assumption⟩
      · exact ⟨by omega, by omega, by show k < less l 4; omega⟩
theorem itemF_enough : ∀ (f : Nat) (l : List Nat) (k : Nat), l.length < f → k < cs l → itemF f l k = itemF (l.length + 1) l k
  | 0, l, k, h, _ => by omega
  | f + 1, l, k, h, hk => by
    show (if k = 0 then [] else _) = (if k = 0 then [] else _)
    by_cases e : k = 0
    · rw [if_pos e, if_pos e]
    · rw [if_neg e, if_neg e]
      obtain ⟨p1, p2, p3⟩ := pick_ok (l := l) (k := k - 1) (by omega)
      generalize pickC l (k - 1) = c at p1 p2 p3 ⊢
      rw [less_succ] at p3
      have hq : nxl l (97 + c) < l.length := by
        rcases Nat.lt_or_ge (nxl l (97 + c)) l.length with hq | hq
        · exact hq
        · unfold term at p3; rw [if_neg (by omega)] at p3; omega
      have hr : k - 1 - less l c < cs (l.drop (nxl l (97 + c) + 1)) := by
        unfold term at p3; rw [if_pos hq] at p3; omega
      have hl : (l.drop (nxl l (97 + c) + 1)).length < l.length := by rw [List.length_drop]; omega
      rw [itemF_enough f _ _ (by omega) hr, itemF_enough l.length _ _ hl hr]
theorem itemL_zero (l : List Nat) : itemL l 0 = [] := rfl
theorem itemL_step {l : List Nat} {k c : Nat} (hc : c < 4) (h1 : less l c ≤ k) (h2 : k < less l (c + 1)) (hk : k + 1 < cs l) :
    itemL l (k + 1) = (97 + c) :: itemL (l.drop (nxl l (97 + c) + 1)) (k - less l c) := by
  have hp := pick_is hc h1 h2
  unfold itemL
  show (if k + 1 = 0 then [] else (97 + pickC l (k + 1 - 1)) :: itemF l.length (l.drop (nxl l (97 + pickC l (k + 1 - 1)) + 1)) (k + 1 - 1 - less l (pickC l (k + 1 - 1)))) = _
  rw [if_neg (by omega), Nat.add_sub_cancel, hp]
  rw [less_succ] at h2
  have hq : nxl l (97 + c) < l.length := by
    rcases Nat.lt_or_ge (nxl l (97 + c)) l.length with hq | hq
    · exact hq
    · unfold term at h2; rw [if_neg (by omega)] at h2; omega
  have hr : k - less l c < cs (l.drop (nxl l (97 + c) + 1)) := by
    unfold term at h2; rw [if_pos hq] at h2; omega
  rw [itemF_enough l.length _ _ (by rw [List.length_drop]; omega) hr]
/-- The same at a place of a word. -/
theorem itemL_at {l : List Nat} {i k c q : Nat} (hi : i ≤ l.length) (hq : nx l i (97 + c) = q) (hc : c < 4) (h1 : less (l.drop i) c ≤ k) (h2 : k < less (l.drop i) (c + 1)) (hk : k + 1 < cs (l.drop i)) :
    itemL (l.drop i) (k + 1) = (97 + c) :: itemL (l.drop (q + 1)) (k - less (l.drop i) c) := by
  rw [itemL_step hc h1 h2 hk, List.drop_drop, ← hq]
  unfold nx
  rw [Nat.add_assoc]
end Go.Proofs.Ytagdbadljcongaa.X
end
