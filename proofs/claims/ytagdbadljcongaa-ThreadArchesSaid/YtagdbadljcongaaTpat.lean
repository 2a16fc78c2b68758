/- Texts behind ThreadArches, part 20: contracts of the program's functions and the plain words for them. -/
import Derived.Maps.RangeWalk
import Derived.Test.YtagdbadljcongaaTpaq
import Derived.Test.YtagdbadljcongaaTpas
section
/- marks.after. -/
set_option linter.unusedVariables false
set_option linter.unusedSimpArgs false
namespace Go.Proofs.Ytagdbadljcongaa.X
open Go Go.RowKit Go.Proofs Go.Proofs.YtagdbadljcongaaW.PrintWords Go.Proofs.YtagdbadljcongaaW.PrintLast Go.Proofs.YtagdbadljcongaaW.PrintMore
/-- Marks as cells. -/
def mcells (m : List Nat) : Array Value := (m.map fun (x : Nat) => Value.int .i64 (x : Int)).toArray
theorem mcells_at (m : List Nat) (i : Nat) (h : i < m.length) : (mcells m)[i]? = some (.int .i64 ((m.getD i 0 : Nat) : Int)) := by
  unfold mcells
  simp [List.getElem?_map, List.getElem?_eq_getElem h, List.getD_eq_getElem?_getD]
theorem mcells_set (m : List Nat) (i v : Nat) : (mcells m).setIfInBounds i (.int .i64 (v : Int)) = mcells (m.set i v) := by
  unfold mcells
  simp [List.map_set]
theorem four {m : List Nat} (h : m.length = 4) : ∃ a b c d, m = [a, b, c, d] := by
  match m, h with
  | [a, b, c, d], _ => exact ⟨a, b, c, d, rfl⟩
structure MkAt (w : World) (m : List Nat) (V : World) : Prop where
  c1 : V.heap[w.heap.size]? = some (.cells (mcells m) 101 (0, 0))
  c2 : V.heap[w.heap.size + 1]? = some (.cells #[.int .i64 0, .int .i64 0, .int .i64 0, .int .i64 0] 101 (0, 0))
  bel : Below w.heap.size w V
/-- What after returns. -/
def AfPost (r : Option (List Nat)) (w : World) (e : Ending) (w' : World) : Prop :=
  ∃ a b c d : Nat, e = .returned (.tuple #[.agg #[.int .i64 (a : Int), .int .i64 (b : Int), .int .i64 (c : Int), .int .i64 (d : Int)], .bool r.isSome]) ∧ (∀ m', r = some m' → m' = [a, b, c, d]) ∧ Below w.heap.size w w'
theorem blk_set4 {V : World} {g : Nat} {x0 x1 x2 x3 : Value} (h : V.heap[g]? = some (.cells #[x0, x1, x2, x3] 101 (0, 0))) (a b c d : Value) : ((((V.setCell ⟨g, 0, none⟩ a).setCell ⟨g, 1, none⟩ b).setCell ⟨g, 2, none⟩ c).setCell ⟨g, 3, none⟩ d).heap[g]? = some (.cells #[a, b, c, d] 101 (0, 0)) :=
  (blk_set (((blk_set ((blk_set ((blk_set h 0 a).trans rfl) 1 b).trans rfl) 2 c).trans rfl)) 3 d).trans rfl
theorem below4 {w V : World} {g : Nat} (h : Below w.heap.size w V) (hg : w.heap.size ≤ g) (a b c d : Value) : Below w.heap.size w ((((V.setCell ⟨g, 0, none⟩ a).setCell ⟨g, 1, none⟩ b).setCell ⟨g, 2, none⟩ c).setCell ⟨g, 3, none⟩ d) :=
  (((h.setCell hg _).setCell hg _).setCell hg _).setCell hg _
theorem info101 : (Try.prog.info? 101).map (·.size) = some 4 := by kernel_rfl
set_option maxHeartbeats 4000000 in
set_option maxRecDepth 1000000 in
theorem after_m (A : Option Addr) (c : Nat) (l : List ByteArray) (w : World) (hC : Kd.C Kd.string w A l.length l) (hl : l.length ≤ 4) (h8 : ∀ s ∈ l, s.size ≤ 8) (m : List Nat) (hm : MOk (l.map bl) m) (d : Nat) (hd : d < 4) (r : Option (List Nat)) (hr : aft (l.map bl) m (97 + d) = r) :
    Calls Try.prog 66 #[.agg (mcells m), .slice A l.length c, .int .u8 (97 + (d : Int))] w (AfPost r w) := by
  have HC := Aside0.mk hC
  have H8 := Aside0.mk h8
  have HL := Aside0.mk hl
  have HM := Aside0.mk hm
  have HD := Aside0.mk hd
  have HRR := Aside0.mk hr
  obtain ⟨a0, a1, a2, a3, e4⟩ := four hm.len
  subst e4
  show Calls Try.prog 66 #[.agg #[.int .i64 (a0 : Int), .int .i64 (a1 : Int), .int .i64 (a2 : Int), .int .i64 (a3 : Int)], .slice A l.length c, .int .u8 (97 + (d : Int))] w (AfPost r w)
  clear hC h8 hl hm hd hr
  go_enter Try.func66, Try.ntmps66
  go_wp2
  obtain ⟨W0, hW0⟩ : ∃ W0, (w.alloc (.cells #[.int .i64 (a0 : Int), .int .i64 (a1 : Int), .int .i64 (a2 : Int), .int .i64 (a3 : Int)] 101)).alloc (.cells #[.int .i64 0, .int .i64 0, .int .i64 0, .int .i64 0] 101) = W0 := ⟨_, rfl⟩
  have H0 := Aside0.mk (show MkAt w [a0, a1, a2, a3] W0 by
    rw [← hW0]
    refine ⟨blk_alloc (blk_new _ _) _, ?_, below_alloc (below_alloc (Below.refl _ _) _) _⟩
    have := blk_new (w.alloc (.cells #[.int .i64 (a0 : Int), .int .i64 (a1 : Int), .int .i64 (a2 : Int), .int .i64 (a3 : Int)] 101)) (.cells #[.int .i64 0, .int .i64 0, .int .i64 0, .int .i64 0] 101)
    rwa [World.size_alloc] at this)
  rw [hW0]
  clear hW0
  go_loopw [12] (fun v12 wr => ∃ (i : Nat) (m : List Nat), v12 = .int .i64 i ∧ i ≤ l.length ∧ Aside0 (MkAt w m wr) ∧ Aside0 (MOk (l.map bl) m) ∧ Aside0 (aftL ((l.map bl).drop i) i m (97 + d) = r)) (fun v12 _ => l.length - (intOf v12).toNat)
  case atStart => exact ⟨0, _, rfl, by omega, H0, HM, ⟨by rw [List.drop_zero]; exact HRR.out⟩⟩
  case round =>
    obtain ⟨i, m, rfl, hi, HA, HO, HE⟩ := hrel
    clear H0 HM HRR
    by_cases hlt : i < l.length
    · have hltI : (i : Int) < (l.length : Int) := by omega
      have hi0 : (0 : Int) ≤ (i : Int) := by omega
      have hi4 : (i : Int) < 4 := by have := HL.out; omega
      obtain ⟨s, hs⟩ : ∃ s, l[i] = s := ⟨_, rfl⟩
      obtain ⟨ad, e, hx⟩ := Kd.at_string (Kd.C_below HC.out HA.out.bel) (i : Int) hi0 hltI
      cases e
      have er : rdOf ByteArray.empty l (i : Int) = s := by unfold rdOf; simp [List.getD_eq_getElem?_getD, hlt, hs]
      rw [er, Int.toNat_natCast] at hx
      have hWi : ∀ h : i < (l.map bl).length, (l.map bl)[i] = bl s := fun h => by rw [List.getElem_map, hs]
      obtain ⟨p, hp⟩ : ∃ p, m.getD i 0 = p := ⟨_, rfl⟩
      have hps : p < s.size := by
        have := HO.out.lt i (by simpa using hlt)
        rw [hWi, hp, bl_length] at this
        exact this
      have hs8 : s.size ≤ 8 := H8.out s (by rw [← hs]; exact List.getElem_mem hlt)
      obtain ⟨v, hv⟩ : ∃ v, (bl s)[p]'(by rw [bl_length]; exact hps) = v := ⟨_, rfl⟩
      have hxv : ∀ h : p < s.size, (s[p]'h).toNat = v := fun h => by rw [← bl_get s p h]; exact hv
      have q1 : wr.cell? ⟨w.heap.size, i, none⟩ = some (.int .i64 (p : Int)) := by
        rw [← hp]
        exact (blk_cell HA.out.c1 i).trans (mcells_at m i (by rw [HO.out.len]; have := HL.out; omega))
      have HST := Aside0.mk (show (if v = 97 + d then (if p + 1 = s.size then none else aftL ((l.map bl).drop (i + 1)) (i + 1) (m.set i (p + 1)) (97 + d)) else aftL ((l.map bl).drop (i + 1)) (i + 1) m (97 + d)) = r by
        have h := HE.out
        rw [aftL_step (by simpa using hlt), hWi, hp, bl_length] at h
        rw [← h]
        have e2 : (bl s)[p]? = some v := by rw [List.getElem?_eq_getElem (by rw [bl_length]; exact hps), hv]
        rw [e2]
        simp)
      have HP := Aside0.mk hp
      have HLT := Aside0.mk hlt
      have HWI := Aside0.mk hWi
      have hpI : (p : Int) < (s.size : Int) := by omega
      have hp8 : (p : Int) < 8 := by omega
      have hp0 : (0 : Int) ≤ (p : Int) := by omega
      have HS8 := Aside0.mk hs8
      clear hlt hs er hWi hp hv hs8
      by_cases hvd : v = 97 + d
      · subst hvd
        have hxv2 : ∀ h : p < s.size, ((s[p]'h).toNat : Int) = 97 + (d : Int) := fun h => by rw [hxv h]; simp
        have f1 := blk_frozen HA.out.c1 i
        clear hxv
        go_upto_region 6 with (fail)
        have h1 : (wr.setCell ⟨w.heap.size, i, none⟩ (.int .i64 ((p : Int) + 1))).heap[w.heap.size]? = some (.cells (mcells (m.set i (p + 1))) 101 (0, 0)) := by
          have := blk_set HA.out.c1 i (.int .i64 ((p : Int) + 1))
          rw [show ((p : Int) + 1) = ((p + 1 : Nat) : Int) by omega, mcells_set] at this
          exact this
        have hlen : (m.set i (p + 1)).length = 4 := by rw [List.length_set]; exact HO.out.len
        have h2 := blk_far HA.out.c2 (p := ⟨w.heap.size, i, none⟩) (by show w.heap.size + 1 ≠ w.heap.size; omega) (.int .i64 ((p : Int) + 1))
        have HA2 := Aside0.mk (show MkAt w (m.set i (p + 1)) (wr.setCell ⟨w.heap.size, i, none⟩ (.int .i64 ((p : Int) + 1))) from ⟨h1, h2, HA.out.bel.setCell (Nat.le_refl _) _⟩)
        have q2 : (wr.setCell ⟨w.heap.size, i, none⟩ (.int .i64 ((p : Int) + 1))).cell? ⟨w.heap.size, i, none⟩ = some (.int .i64 ((p : Int) + 1)) := by
          refine (blk_cell h1 i).trans ((mcells_at _ i (by rw [hlen]; have := HL.out; have := HLT.out; omega)).trans ?_)
          rw [getD_set, if_pos ⟨rfl, by rw [HO.out.len]; have := HL.out; have := HLT.out; omega⟩]
          simp
        obtain ⟨W1, hW1⟩ : ∃ W1, wr.setCell ⟨w.heap.size, i, none⟩ (.int .i64 ((p : Int) + 1)) = W1 := ⟨_, rfl⟩
        rw [hW1] at HA2 q2 ⊢
        clear h1 h2 hW1 q1 hx hxv2 f1
        have HST := HST.out
        rw [if_pos rfl] at HST
        have HLEN := Aside0.mk hlen
        clear hlen
        by_cases hps1 : p + 1 = s.size
        · rw [if_pos hps1] at HST
          subst HST
          have e1 : (p : Int) + 1 = (s.size : Int) := by omega
          have e2 : ((p : Int) + 1 == (s.size : Int)) = true := by simpa using e1
          obtain ⟨b0, b1, b2, b3, e4⟩ := four HLEN.out
          have g1 := HA2.out.c1
          rw [e4] at g1
          have c0 : W1.cell? ⟨w.heap.size, 0, none⟩ = some (.int .i64 (b0 : Int)) := (blk_cell g1 0).trans rfl
          have c1 : W1.cell? ⟨w.heap.size, 1, none⟩ = some (.int .i64 (b1 : Int)) := (blk_cell g1 1).trans rfl
          have c2 : W1.cell? ⟨w.heap.size, 2, none⟩ = some (.int .i64 (b2 : Int)) := (blk_cell g1 2).trans rfl
          have c3 : W1.cell? ⟨w.heap.size, 3, none⟩ = some (.int .i64 (b3 : Int)) := (blk_cell g1 3).trans rfl
          have g2 := HA2.out.c2
          have d0 : W1.cell? ⟨w.heap.size + 1, 0, none⟩ = some (.int .i64 0) := (blk_cell g2 0).trans rfl
          have d1 : W1.cell? ⟨w.heap.size + 1, 1, none⟩ = some (.int .i64 0) := (blk_cell g2 1).trans rfl
          have d2 : W1.cell? ⟨w.heap.size + 1, 2, none⟩ = some (.int .i64 0) := (blk_cell g2 2).trans rfl
          have d3 : W1.cell? ⟨w.heap.size + 1, 3, none⟩ = some (.int .i64 0) := (blk_cell g2 3).trans rfl
          have f0 := blk_frozen g2 0
          have f1 := blk_frozen g2 1
          have f2 := blk_frozen g2 2
          have f3 := blk_frozen g2 3
          have HF := Aside0.mk (blk_set4 g2 (.int .i64 (b0 : Int)) (.int .i64 (b1 : Int)) (.int .i64 (b2 : Int)) (.int .i64 (b3 : Int)))
          have HB4 := Aside0.mk (below4 HA2.out.bel (Nat.le_succ w.heap.size) (.int .i64 (b0 : Int)) (.int .i64 (b1 : Int)) (.int .i64 (b2 : Int)) (.int .i64 (b3 : Int)))
          clear hps1 g1 g2 e4
          go_wp2
          refine bodyPost_ret (results_ct rfl _ _ (w.heap.size + 1) 101 _ (0, 0) _ rfl HF.out Try.underlying101 rfl info101) rfl ?_
          exact ⟨b0, b1, b2, b3, rfl, fun _ h => (by cases h), HB4.out⟩
        · rw [if_neg hps1] at HST
          have HR := Aside0.mk HST
          have e1 : ¬ ((p : Int) + 1 = (s.size : Int)) := by omega
          have e2 : ((p : Int) + 1 == (s.size : Int)) = false := by simpa using e1
          have HO2 := Aside0.mk (show MOk (l.map bl) (m.set i (p + 1)) by
            have h := HO.out.set (i := i) (by simpa using HLT.out) (by rw [HWI.out, bl_length]; exact HS8.out) (by rw [HWI.out, HP.out, bl_length]; exact hps1)
            rw [HP.out] at h
            exact h)
          clear hps1 HST
          go_wp2
          go_roundw
          case rel => exact ⟨i + 1, m.set i (p + 1), by go_num, by have := HLT.out; omega, HA2, HO2, HR⟩
          case measure => simp [intOf]; have := HLT.out; omega
      · have hxv2 : ∀ h : p < s.size, ¬ ((s[p]'h).toNat : Int) = 97 + (d : Int) := fun h => by rw [hxv h]; omega
        have hxv3 : ∀ h : p < s.size, (((s[p]'h).toNat : Int) == 97 + (d : Int)) = false := fun h => by simpa using hxv2 h
        have HST := HST.out
        rw [if_neg hvd] at HST
        have HR := Aside0.mk HST
        clear hvd HST hxv
        go_wp2
        go_roundw
        case rel => exact ⟨i + 1, m, by go_num, by have := HLT.out; omega, HA, HO, HR⟩
        case measure => simp [intOf]; have := HLT.out; omega
    · have hltI : ¬ ((i : Int) < (l.length : Int)) := by omega
      have HR := HE.out
      rw [List.drop_eq_nil_of_le (by simp; omega)] at HR
      simp only [aftL] at HR
      subst HR
      obtain ⟨b0, b1, b2, b3, e4⟩ := four HO.out.len
      have g1 := HA.out.c1
      rw [e4] at g1
      have c0 : wr.cell? ⟨w.heap.size, 0, none⟩ = some (.int .i64 (b0 : Int)) := (blk_cell g1 0).trans rfl
      have c1 : wr.cell? ⟨w.heap.size, 1, none⟩ = some (.int .i64 (b1 : Int)) := (blk_cell g1 1).trans rfl
      have c2 : wr.cell? ⟨w.heap.size, 2, none⟩ = some (.int .i64 (b2 : Int)) := (blk_cell g1 2).trans rfl
      have c3 : wr.cell? ⟨w.heap.size, 3, none⟩ = some (.int .i64 (b3 : Int)) := (blk_cell g1 3).trans rfl
      have g2 := HA.out.c2
      have d0 : wr.cell? ⟨w.heap.size + 1, 0, none⟩ = some (.int .i64 0) := (blk_cell g2 0).trans rfl
      have d1 : wr.cell? ⟨w.heap.size + 1, 1, none⟩ = some (.int .i64 0) := (blk_cell g2 1).trans rfl
      have d2 : wr.cell? ⟨w.heap.size + 1, 2, none⟩ = some (.int .i64 0) := (blk_cell g2 2).trans rfl
      have d3 : wr.cell? ⟨w.heap.size + 1, 3, none⟩ = some (.int .i64 0) := (blk_cell g2 3).trans rfl
      have f0 := blk_frozen g2 0
      have f1 := blk_frozen g2 1
      have f2 := blk_frozen g2 2
      have f3 := blk_frozen g2 3
      have HF := Aside0.mk (blk_set4 g2 (.int .i64 (b0 : Int)) (.int .i64 (b1 : Int)) (.int .i64 (b2 : Int)) (.int .i64 (b3 : Int)))
      have HB4 := Aside0.mk (below4 HA.out.bel (Nat.le_succ w.heap.size) (.int .i64 (b0 : Int)) (.int .i64 (b1 : Int)) (.int .i64 (b2 : Int)) (.int .i64 (b3 : Int)))
      have HE4 := Aside0.mk e4
      clear hlt g1 g2 e4
      go_wp2
      refine bodyPost_ret (results_ct rfl _ _ (w.heap.size + 1) 101 _ (0, 0) _ rfl HF.out Try.underlying101 rfl info101) rfl ?_
      exact ⟨b0, b1, b2, b3, rfl, fun m' h => by injection h with h; rw [← h]; exact HE4.out, HB4.out⟩
end Go.Proofs.Ytagdbadljcongaa.X
end

section
/- Marks as keys of a map; what the map says of a list of marks. -/
set_option linter.unusedVariables false
set_option linter.unusedSimpArgs false
namespace Go.Proofs.Ytagdbadljcongaa.X
open Go Go.RowKit Go.Proofs.YtagdbadljcongaaW.PrintWords Go.Proofs.YtagdbadljcongaaW.PrintLast Go.Proofs.YtagdbadljcongaaW.PrintMore
def quadK (m : List Nat) : Lit := .string (keyBytes (m.map fun (x : Nat) => Lit.int .i64 (x : Int)))
theorem key101 (m : List Nat) (h4 : m.length = 4) (h8 : ∀ x ∈ m, x ≤ 1000000) : keyOf Try.prog 101 (.agg (mcells m)) = some (quadK m) := by
  obtain ⟨k, hm⟩ := types_pos
  obtain ⟨a, b, c, d, rfl⟩ := four h4
  have w1 : (Lit.int .i64 (a : Int)).wf = true := WalkArith.wf_i64 (by have := h8 a (by simp); omega)
  have w2 : (Lit.int .i64 (b : Int)).wf = true := WalkArith.wf_i64 (by have := h8 b (by simp); omega)
  have w3 : (Lit.int .i64 (c : Int)).wf = true := WalkArith.wf_i64 (by have := h8 c (by simp); omega)
  have w4 : (Lit.int .i64 (d : Int)).wf = true := WalkArith.wf_i64 (by have := h8 d (by simp); omega)
  have c101 : Try.prog.cellsOf 101 = 4 := by kernel_rfl
  have c3 : Try.prog.cellsOf 3 = 1 := by kernel_rfl
  have kt : Try.prog.keyType 101 = true := by kernel_rfl
  unfold keyOf mcells quadK
  simp only [Try.underlying101]
  rw [if_pos (by simp [kt, Value.formed, Try.underlying101, c101]), hm]
  unfold Program.keyLits
  simp only [Try.underlying101, Value.cells]
  rw [if_pos (by rw [c101]; rfl)]
  simp [List.range, List.range.loop, List.mapM_cons, List.mapM_nil, c3, Program.keyLits, Try.underlying3, w1, w2, w3, w4]
theorem mcells_inj {m m' : List Nat} (h : mcells m = mcells m') : m = m' := by
  unfold mcells at h
  have h : (m.map fun (x : Nat) => Value.int .i64 (x : Int)) = (m'.map fun (x : Nat) => Value.int .i64 (x : Int)) := congrArg Array.toList h
  exact (List.map_inj_right (fun x y e => by injection e with _ e; omega)).1 h
theorem quadK_inj {m m' : List Nat} (h4 : m.length = 4) (h8 : ∀ x ∈ m, x ≤ 1000000) (h4' : m'.length = 4) (h8' : ∀ x ∈ m', x ≤ 1000000) (h : quadK m = quadK m') : m = m' := by
  have h1 := key101 m h4 h8
  have h2 := key101 m' h4' h8'
  rw [← h] at h2
  have h3 := keyed101.inj h1 h2
  exact mcells_inj (by injection h3)
/-- Marks that may come: four of at most 8. -/
def Mk (m : List Nat) : Prop := m.length = 4 ∧ ∀ x ∈ m, x ≤ 1000000
theorem MOk.mk' {W : List (List Nat)} {m : List Nat} (h : MOk W m) : Mk m := ⟨h.len, fun x hx => Nat.le_trans (h.le x hx) (by omega)⟩
/-- What the map says of a list of marks: how often each comes. -/
structure CntOf (T : List (List Nat)) (f : KMap) : Prop where
  at_ : ∀ m, Mk m → f (quadK m) = if T.count m = 0 then none else some (.int .i64 ((T.count m : Nat) : Int))
  key : ∀ kl v, f kl = some v → ∃ m ∈ T, Mk m ∧ kl = quadK m
theorem CntOf.nil : CntOf [] KMap.empty := ⟨fun m _ => by simp [KMap.empty], fun kl v h => by cases h⟩
theorem CntOf.perm {T T' : List (List Nat)} {f : KMap} (h : CntOf T f) (hc : ∀ a, T.count a = T'.count a) : CntOf T' f := by
  refine ⟨fun m hm => by rw [← hc]; exact h.at_ m hm, fun kl v e => ?_⟩
  obtain ⟨m, hm, h2, h3⟩ := h.key kl v e
  exact ⟨m, List.count_pos_iff.1 (by rw [← hc]; exact List.count_pos_iff.2 hm), h2, h3⟩
theorem CntOf.getD {T : List (List Nat)} {f : KMap} (h : CntOf T f) {m : List Nat} (hm : Mk m) : (f (quadK m)).getD (.int .i64 0) = .int .i64 ((T.count m : Nat) : Int) := by
  rw [h.at_ m hm]
  split
  · rename_i e; rw [e]; rfl
  · rfl
theorem CntOf.push {T : List (List Nat)} {f : KMap} (h : CntOf T f) {m : List Nat} (hm : Mk m) {n : Nat} (hn : 0 < n) : CntOf (T ++ List.replicate n m) (f.put (quadK m) (.int .i64 ((T.count m : Int) + (n : Int)))) := by
  have hk : WideAt.IsKeyLit (quadK m) := keyed101.key (key101 m hm.1 hm.2)
  refine ⟨fun m' hm' => ?_, fun kl v e => ?_⟩
  · rw [List.count_append, List.count_replicate]
    by_cases e : m' = m
    · subst e
      rw [KMap.put_same f hk, if_neg (by simp; omega)]
      simp
    · rw [KMap.put_other f (fun e2 => e (quadK_inj hm'.1 hm'.2 hm.1 hm.2 e2)), h.at_ m' hm', if_neg (show ¬ (m == m') = true by simpa using Ne.symm e)]
      rfl
  · by_cases e2 : kl = quadK m
    · exact ⟨m, by simp; exact .inr (by omega), hm, e2⟩
    · rw [KMap.put_other f e2] at e
      obtain ⟨m', a, b, c⟩ := h.key kl v e
      exact ⟨m', by simp [a], b, c⟩
end Go.Proofs.Ytagdbadljcongaa.X
end

section
/- thread.Free: what holds ahead of, in and behind its range over a map. -/
set_option linter.unusedVariables false
set_option linter.unusedSimpArgs false
namespace Go.Proofs.Ytagdbadljcongaa.X
open Go Go.RowKit Go.Proofs.YtagdbadljcongaaW.PrintWords Go.Proofs.YtagdbadljcongaaW.PrintLast Go.Proofs.YtagdbadljcongaaW.PrintMore
theorem ones (L : List (List Nat)) : (L.map fun _ => 1).sum = L.length := by
  induction L with
  | nil => rfl
  | cons a r ih => simp only [List.map_cons, List.sum_cons, List.length_cons, ih]; omega
def notCells (V : World) (x : Nat) : Prop := ∀ cs t fr, V.heap[x]? ≠ some (.cells cs t fr)
theorem cells_past {V V' : World} {x g : Nat} {cs : Array Value} {t : TypeId} (hg : V.grownBy V' (some x)) (e : V.heap[g]? = some (.cells cs t (0, 0))) (hx : notCells V x) : V'.heap[g]? = some (.cells cs t (0, 0)) :=
  blk_grown e hg (fun e2 => by injection e2 with e2; subst e2; exact hx _ _ _ e)
theorem row_past {V V' : World} {x lo : Nat} {ok : Nat → Prop} {v : Value} {xs : List Int} (h : Kd.R (Kd.int .i64) 3 V lo ok v xs) (hg : V.grownBy V' (some x)) (hx : notCells V x) : Kd.R (Kd.int .i64) 3 V' lo ok v xs := by
  refine Kd.R_mono (Kd.R_move (Kd.R_bound h) (fun k hkk => ?_)) (fun k hkk => hkk.1)
  obtain ⟨_, _, hlt, q, _, cells, hc⟩ := hkk
  exact hg.block k hlt (fun e => by injection e with e; subst e; exact hx _ _ _ hc)
theorem MapIs.notCells {P : Program} {kt : TypeId} {w : World} {B n : Nat} {f : KMap} (h : MapIs P kt w B n f) : notCells w B := fun cs t fr e => by
  obtain ⟨D, ⟨es, clock, hb, _⟩, _⟩ := h.ex
  rw [hb] at e
  cases e
theorem ranges_notCells {H : Type} {P : Program} {k : TypeId} {R : Value → Option (DataW H × List MemPlace)} {w : World} {b r n : Nat} {D : DataW H} {left : Lit → Bool} {cnt : Nat} (h : w.ranges P k R b r n D left cnt) : notCells w r := fun cs t fr e => by
  obtain ⟨es, clock, since, seen, c0, _, _, _, _, hr, _⟩ := h
  rw [hr] at e
  cases e
/-- Between two rounds. -/
structure FrAt (w : World) (B : Nat) (T : List (List Nat)) (A : Option Addr) (c : Nat) (out : List Int) (V : World) : Prop where
  mp : ∃ n f, MapIs Try.prog 101 V B n f ∧ CntOf T f
  row : Kd.R (Kd.int .i64) 3 V w.heap.size (fun _ => True) (.slice A out.length c) out
  bel : Below w.heap.size w V
  lb : w.heap.size ≤ B
/-- In the range over the map. -/
structure FrR (w : World) (B r nn : Nat) (D : DataW Value) (left : Lit → Bool) (cnt B2 : Nat) (T : List (List Nat)) (A : Option Addr) (c : Nat) (out : List Int) (V : World) : Prop where
  rg : V.ranges Try.prog 101 anyElem B r nn D left cnt
  mp : ∃ n f, MapIs Try.prog 101 V B2 n f ∧ n ≤ T.length ∧ CntOf T f
  row : Kd.R (Kd.int .i64) 3 V w.heap.size (fun _ => True) (.slice A out.length c) out
  bel : Below w.heap.size w V
  ne : B2 ≠ B ∧ B2 ≠ r ∧ w.heap.size ≤ B2 ∧ w.heap.size ≤ r
section
variable {w : World} {B r nn : Nat} {D : DataW Value} {left left' : Lit → Bool} {cnt cnt' B2 : Nat} {T T' : List (List Nat)} {A : Option Addr} {c : Nat} {out : List Int} {V V' : World}
theorem FrR.below (h : FrR w B r nn D left cnt B2 T A c out V) (hb : Below V.heap.size V V') : FrR w B r nn D left cnt B2 T A c out V' := by
  obtain ⟨n, f, m1, m2, m3⟩ := h.mp
  exact ⟨h.rg.kept (grown_of_below hb none) (by simp) (by simp), ⟨n, f, m1.below hb, m2, m3⟩, Kd.R_below h.row hb, below_step h.bel hb, h.ne⟩
theorem FrR.iter (h : FrR w B r nn D left cnt B2 T A c out V) (hg : V.grownBy V' (some r)) (hr : V'.ranges Try.prog 101 anyElem B r nn D left' cnt') : FrR w B r nn D left' cnt' B2 T A c out V' := by
  obtain ⟨n, f, m1, m2, m3⟩ := h.mp
  exact ⟨hr, ⟨n, f, m1.kept hg (fun e => h.ne.2.1 (by injection e)), m2, m3⟩, row_past h.row hg (ranges_notCells h.rg), h.bel.grown hg h.bel.size (fun k e => by injection e with e; subst e; exact h.ne.2.2.2), h.ne⟩
theorem FrR.store (h : FrR w B r nn D left cnt B2 T A c out V) (hg : V.grownBy V' (some B2)) (hm : ∃ n f, MapIs Try.prog 101 V' B2 n f ∧ n ≤ T'.length ∧ CntOf T' f) : FrR w B r nn D left cnt B2 T' A c out V' := by
  obtain ⟨n, f, m1, m2, m3⟩ := h.mp
  exact ⟨h.rg.kept hg (fun e => h.ne.1 (by injection e with e; exact e.symm)) (fun e => h.ne.2.1 (by injection e with e; exact e.symm)), hm, row_past h.row hg m1.notCells, h.bel.grown hg h.bel.size (fun k e => by injection e with e; subst e; exact h.ne.2.2.1), h.ne⟩
end
theorem visit {L : List (List Nat)} {f : KMap} {D : DataW Value} {kl : Lit} {x c : Value} {y : DataW Value × List MemPlace} (hC : CntOf L f) (hD : ∀ kl z, D.atKey kl (.held z) = .held ((f kl).getD z)) (hk : keyOf Try.prog 101 x = some kl) (hy : anyElem c = some y) (hat : ∀ zd, D.atKey kl zd = y.1) :
    ∃ m ∈ L, Mk m ∧ kl = quadK m ∧ x = .agg (mcells m) ∧ c = .int .i64 ((L.count m : Nat) : Int) := by
  have h1 : ∀ z, (f kl).getD z = c := fun z => by
    have h := (hD kl z).symm.trans (hat (.held z))
    have hy2 : (DataW.held c, []) = y := Option.some.inj hy
    rw [← hy2] at h
    exact DataW.held.inj h
  cases hf : f kl with
  | none =>
    rw [hf] at h1
    have a : Value.bool true = c := h1 (.bool true)
    have b : Value.bool false = c := h1 (.bool false)
    have e := a.trans b.symm
    injection e with e
    cases e
  | some v =>
    rw [hf] at h1
    have hv : v = c := h1 v
    subst hv
    obtain ⟨m, hm, hM, rfl⟩ := hC.key kl v hf
    refine ⟨m, hm, hM, rfl, keyed101.inj hk (key101 m hM.1 hM.2), ?_⟩
    have := hC.at_ m hM
    rw [hf, if_neg (by have := List.count_pos_iff.2 hm; omega)] at this
    injection this
/-- Which marks have been visited. -/
structure Vis (L V : List (List Nat)) (left : Lit → Bool) : Prop where
  nd : V.Nodup
  sub : ∀ m ∈ V, m ∈ L
  lf : ∀ m ∈ L, left (quadK m) = true ↔ m ∉ V
theorem Vis.step {L V : List (List Nat)} {left : Lit → Bool} (h : Vis L V left) (hL : ∀ m ∈ L, Mk m) {m : List Nat} (hm : m ∈ L) (hl : left (quadK m) = true) : Vis L (V ++ [m]) (fun z => left z && !z.sameKey (quadK m)) ∧ m ∉ V := by
  have hn := (h.lf m hm).1 hl
  refine ⟨⟨?_, fun a ha => ?_, fun a ha => ?_⟩, hn⟩
  · rw [List.nodup_append]
    refine ⟨h.nd, by simp, fun a ha b hb e => ?_⟩
    rw [List.mem_singleton] at hb
    subst hb; subst e
    exact hn ha
  · rcases List.mem_append.1 ha with e | e
    · exact h.sub a e
    · rw [List.mem_singleton] at e; subst e; exact hm
  · have hk : WideAt.IsKeyLit (quadK m) := keyed101.key (key101 m (hL m hm).1 (hL m hm).2)
    rw [Bool.and_eq_true, h.lf a ha, List.mem_append, List.mem_singleton]
    constructor
    · rintro ⟨h1, h2⟩ (h3 | h3)
      · exact h1 h3
      · subst h3
        rw [WideAt.sameKey_self hk] at h2
        cases h2
    · intro h1
      refine ⟨fun e => h1 (.inl e), ?_⟩
      rw [Bool.not_eq_true']
      rw [Bool.eq_false_iff]
      intro e
      exact h1 (.inr (quadK_inj (hL a ha).1 (hL a ha).2 (hL m hm).1 (hL m hm).2 (WideAt.sameKey_eq e)))
end Go.Proofs.Ytagdbadljcongaa.X
end

section
/- thread.Free. -/
set_option linter.unusedVariables false
set_option linter.unusedSimpArgs false
namespace Go.Proofs.Ytagdbadljcongaa.X
open Go Go.RowKit Go.Proofs Go.Proofs.YtagdbadljcongaaW.PrintWords Go.Proofs.YtagdbadljcongaaW.PrintLast Go.Proofs.YtagdbadljcongaaW.PrintMore
attribute [local go_sem] Oper.semAt_some
theorem build101 (W : World) : (Instr.build 101 #[]).run Try.prog W = .ok (.agg #[.int .i64 0, .int .i64 0, .int .i64 0, .int .i64 0]) W := by kernel_rfl
theorem zero3 (W : World) : (zeroValue 3).run Try.prog W = .ok (.int .i64 0) W := by kernel_rfl
theorem mk0 : Mk [0, 0, 0, 0] := ⟨rfl, by simp⟩
/-- What Free returns. -/
def FrPost (R : List Nat) (w : World) (e : Ending) (w' : World) : Prop :=
  ∃ A c, e = .returned (.tuple #[.slice A R.length c, .int .i64 0]) ∧ Kd.R (Kd.int .i64) 3 w' w.heap.size (fun _ => True) (.slice A R.length c) (R.map fun (n : Nat) => (n : Int)) ∧ Below w.heap.size w w'
theorem nil_mem {l : List ByteArray} : (⟨#[]⟩ : ByteArray) ∈ l ↔ [] ∈ l.map bl := by
  rw [List.mem_map]
  constructor
  · exact fun h => ⟨_, h, rfl⟩
  · rintro ⟨s, h1, h2⟩
    have : s = ⟨#[]⟩ := by
      have h3 : s.size = 0 := by rw [← bl_length, h2]; rfl
      have h4 : s.data.size = 0 := h3
      have h5 : s.data = #[] := Array.eq_empty_of_size_eq_zero h4
      cases s
      simpa using h5
    rw [← this]; exact h1
set_option maxHeartbeats 8000000 in
set_option maxRecDepth 1000000 in
theorem free_ok (A : Option Addr) (c : Nat) (l : List ByteArray) (w : World) (hC : Kd.C Kd.string w A l.length l) (hc : l.length ≤ c) (hl : l.length ≤ 4) (hf : famB l = true) (k n : Nat) (hk : 1 ≤ k) (hk4 : k ≤ 4) (hn : n ≤ 30) :
    Calls Try.prog 43 #[.slice A l.length c, .int .i64 (k : Int), .int .i64 (n : Int)] w (FrPost (freeL (l.map bl) k n) w) := by
  have HC := Aside0.mk hC
  have HCC := Aside0.mk hc
  have HL := Aside0.mk hl
  have HK := Aside0.mk hk
  have HK4 := Aside0.mk hk4
  have HN := Aside0.mk hn
  have HF := Aside0.mk (show (decide (l.length ≤ 4) && famB l) = true by simp [hl, hf])
  have H8 := Aside0.mk (show ∀ s ∈ l, s.size ≤ 8 from fun s hs => by
    have := List.all_eq_true.1 hf s hs
    unfold fam1 at this
    simp at this
    exact this.2)
  obtain ⟨v, hv⟩ : ∃ v : Bool, v = true ↔ (⟨#[]⟩ : ByteArray) ∈ l := by classical exact ⟨decide ((⟨#[]⟩ : ByteArray) ∈ l), decide_eq_true_iff⟩
  have HV := Aside0.mk hv
  have hk1 : (1 : Int) ≤ (k : Int) := by omega
  have hk2 : (k : Int) ≤ 4 := by omega
  have hn1 : (0 : Int) ≤ (n : Int) := by omega
  have hn2 : (n : Int) ≤ 30 := by omega
  have hmm := @run_makeMap Try.prog
  clear hC hc hl hf hk hk4 hn hv
  go_enter Try.func43, Try.ntmps43
  go_upto_region 4 with (first | (go_at_call 58; (with_reducible refine (fam_any _ _ l _ HC.out (by have := HL.out; omega) _ HF.out).mono ?_); rintro e w1 ⟨rfl, hb⟩; have HB1 := Aside0.mk hb; clear hb) | (go_at_call 49; (with_reducible refine (within_y (k : Int) _ _ _ (by omega) (by omega)).mono ?_); rintro e w2 ⟨rfl, HD⟩; have HB2 := Aside0.mk HD.below; clear HD) | (go_at_call 49; (with_reducible refine (within_y (n : Int) _ _ _ (by omega) (by omega)).mono ?_); rintro e w3 ⟨rfl, HD⟩; have HB3 := Aside0.mk (below_step (below_step HB1.out HB2.out) HD.below); clear HD))
  obtain ⟨W1, hW1⟩ : ∃ W1, w3.alloc (.map #[] 0) = W1 := ⟨_, rfl⟩
  obtain ⟨B0, hB0⟩ : ∃ B0, w3.heap.size = B0 := ⟨_, rfl⟩
  have HM1 := Aside0.mk (show MapIs Try.prog 101 W1 B0 0 KMap.empty by rw [← hW1, ← hB0]; exact MapIs.made w3 Try.prog 101)
  have HBW := Aside0.mk (show Below w.heap.size w W1 by rw [← hW1]; exact below_alloc HB3.out _)
  have HBB := Aside0.mk (show w.heap.size ≤ B0 by rw [← hB0]; exact HB3.out.size)
  rw [hW1, hB0]
  clear hW1 hB0 HB1 HB2 HB3
  cases v
  case true =>
    go_upto_region 6 with (go_at_call 65; (with_reducible refine (cont_any _ _ l _ _ (Kd.C_below HC.out HBW.out) HCC.out (by have := HL.out; omega) true HV.out).mono ?_); rintro e w4 ⟨rfl, HD⟩; have HB4 := Aside0.mk HD.below; clear HD)
    have HST := Aside0.mk (show FrAt w B0 (lev (l.map bl) k 0) none 0 [] w4 by
      refine ⟨⟨0, KMap.empty, HM1.out.below HB4.out, ?_⟩, Kd.R_nil _ _ _ _ _, below_step HBW.out HB4.out, HBB.out⟩
      unfold lev
      rw [if_pos (nil_mem.1 (HV.out.1 (by first | rfl | trivial)))]
      exact CntOf.nil)
    clear HM1 HBW HBB HV HB4
    go_wp2
    go_loopw [8, 9, 38] (fun v8 v9 v38 wr => ∃ (i B : Nat) (A : Option Addr) (c : Nat) (xs : List Int), v38 = .int .i64 i ∧ v8 = .map (some B) ∧ v9 = .slice A xs.length c ∧ i ≤ n + 1 ∧ Aside0 (xs = (List.range i).map fun j => ((lev (l.map bl) k j).length : Int)) ∧ Aside0 (FrAt w B (lev (l.map bl) k i) A c xs wr)) (fun _ _ v38 _ => n + 1 - (intOf v38).toNat)
    case atStart => exact ⟨0, B0, none, 0, [], rfl, rfl, rfl, by omega, ⟨rfl⟩, HST⟩
    case round =>
      clear HST
      obtain ⟨i, B, A9, c9, xs, rfl, rfl, rfl, hi, HX, HA⟩ := hrel
      by_cases hlt : i < n + 1
      · have hltI : (i : Int) < (n : Int) + 1 := by omega
        have HLT := Aside0.mk hlt
        have HS8 := Aside0.mk (show ∀ x ∈ l.map bl, x.length ≤ 8 from fun x hx => by
          obtain ⟨s, h1, rfl⟩ := List.mem_map.1 hx
          rw [bl_length]; exact H8.out s h1)
        obtain ⟨L, hL⟩ : ∃ L, lev (l.map bl) k i = L := ⟨_, rfl⟩
        have HLO := Aside0.mk (show ∀ m ∈ L, MOk (l.map bl) m by rw [← hL]; exact lev_ok HS8.out k i)
        have HLN := Aside0.mk (show L.length ≤ 1152921504606846976 by
          rw [← hL]
          have h1 := lev_le (l.map bl) k HK4.out i
          have h2 : 4 ^ i ≤ 4 ^ 30 := Nat.pow_le_pow_right (by omega) (by have := HN.out; omega)
          exact Nat.le_trans h1 (Nat.le_trans h2 (by decide)))
        have HLE := Aside0.mk hL
        have HA1 := Aside0.mk (show FrAt w B L A9 c9 xs wr by rw [← hL]; exact HA.out)
        obtain ⟨nn, f, m1, hcnt⟩ := HA1.out.mp
        obtain ⟨D, hown, hhas, hat⟩ := m1.ex
        have HCN := Aside0.mk hcnt
        have HAT := Aside0.mk hat
        have HHA := Aside0.mk hhas
        have HOW := Aside0.mk hown
        clear hlt hL m1 hcnt hat hhas hown HA hi
        go_upto_region 11 with (fail)
        have HOW1 := Aside0.mk (HOW.out.alloc (.map #[] 0))
        have HM2 := Aside0.mk (MapIs.made wr Try.prog 101)
        have HB2 := Aside0.mk (show Below wr.heap.size wr (wr.alloc (.map #[] 0)) from below_alloc (Below.refl _ _) _)
        have HSZ := Aside0.mk (World.size_alloc wr (.map #[] 0))
        obtain ⟨B2, hB2⟩ : ∃ B2, wr.heap.size = B2 := ⟨_, rfl⟩
        obtain ⟨W1, hW1⟩ : ∃ W1, wr.alloc (.map #[] 0) = W1 := ⟨_, rfl⟩
        have HNE := Aside0.mk (show B2 ≠ B ∧ w.heap.size ≤ B2 ∧ B < W1.heap.size from ⟨by have := HOW.out.lt; omega, by rw [← hB2]; exact HA1.out.bel.size, by rw [← hW1]; have := HOW.out.lt; rw [HSZ.out]; omega⟩)
        rw [hW1] at HOW1 HM2 HB2 HSZ ⊢
        rw [hB2] at HM2 HSZ ⊢
        have HBL := Aside0.mk (show Below w.heap.size w W1 from below_step HA1.out.bel (by have := HB2.out; exact this))
        have HRW := Aside0.mk (Kd.R_below HA1.out.row (by have := HB2.out; exact this))
        clear hW1 hB2 HOW HB2
        go_wp2_with (at_range; refine wpList_range_own _ rfl (.tmp 41) 99 rfl 101 3 keyed101 Try.underlying99 anyElem B nn D rfl HOW1.out ?_; intro w0 hrg0 hg0 hs0; have HR0 := Aside0.mk hrg0; have HG0 := Aside0.mk hg0; clear hrg0 hg0 hs0)
        go_frame
        obtain ⟨r0, hr0⟩ : ∃ r0, W1.heap.size = r0 := ⟨_, rfl⟩
        have HR1 := Aside0.mk (show w0.ranges Try.prog 101 anyElem B r0 nn D (Maps.has D) (Maps.size D) by rw [← hr0]; exact HR0.out)
        have HNR := Aside0.mk (show B2 ≠ r0 ∧ w.heap.size ≤ r0 from ⟨by rw [← hr0, HSZ.out]; omega, by rw [← hr0]; exact HBL.out.size⟩)
        have H0 := Aside0.mk (show FrR w B r0 nn D (Maps.has D) (Maps.size D) B2 (acc L (fun m => gos (l.map bl) m k) []) A9 c9 xs w0 from
          ⟨HR1.out, ⟨0, KMap.empty, HM2.out.kept HG0.out (by simp), by omega, CntOf.nil⟩, Kd.R_grown HRW.out HG0.out (by simp), HBL.out.grown HG0.out HBL.out.size (fun j e => by cases e), ⟨HNE.out.1, HNR.out.1, HNE.out.2.1, HNR.out.2⟩⟩)
        have HV0 := Aside0.mk (show Vis L [] (Maps.has D) from ⟨by simp, by simp, fun m hm => by
          have hM := (HLO.out m hm).mk'
          rw [HHA.out, HCN.out.at_ m hM, if_neg (by have := List.count_pos_iff.2 hm; omega)]
          simp⟩)
        rw [hr0]
        clear hr0 HR0 HR1 HOW1 HM2 HG0 HBL HRW HNE HNR HSZ HHA
        go_loopw [10] (fun v10 wq => ∃ (V : List (List Nat)) (left : Lit → Bool) (cnt : Nat), v10 = .int .i64 (((V.map fun m => L.count m).sum : Nat) : Int) ∧ Aside0 (Vis L V left) ∧ Aside0 (FrR w B r0 nn D left cnt B2 (acc L (fun m => gos (l.map bl) m k) V) A9 c9 xs wq)) (fun _ wq => wq.rangeLeft B r0)
        case atStart => exact ⟨[], _, _, rfl, HV0, H0⟩
        case round =>
          clear H0 HV0
          obtain ⟨V, left, cnt, rfl, HVI, HFR⟩ := hrel
          obtain ⟨S0, hS0⟩ : ∃ S0, (V.map fun m => L.count m).sum = S0 := ⟨_, rfl⟩
          have HS0 := Aside0.mk hS0
          rw [hS0]
          clear hS0
          go_wp2_with (at_next; refine wpList_next_ranges _ rfl (.tmp 42) rfl 101 keyed101 anyElem (fun x : Value => x) (fun x : Value => x) (fun key _ _ => ⟨key, rfl⟩) (fun v _ _ => ⟨v, rfl⟩) B r0 nn D left cnt rfl HFR.out.rg ?_ ?_)
          · intro hc0 hl0
            have hall : ∀ m ∈ L, m ∈ V := fun m hm => Classical.byContradiction fun hn => by
              have := (HVI.out.lf m hm).2 hn
              rw [hl0] at this
              cases this
            have HLV := Aside0.mk (show ∀ a, (acc L (fun m => gos (l.map bl) m k) V).count a = (lev (l.map bl) k (i + 1)).count a from fun a => by
              rw [acc_count HVI.out.nd hall, ← HLE.out]
              rfl)
            have HSL := Aside0.mk (show S0 = L.length by
              have h := sum_cover HVI.out.nd (fun _ => 1) L hall
              rw [ones] at h
              rw [← HS0.out, ← h]
              simp)
            have hxl : xs.length = i := by rw [HX.out]; simp
            have KEY := Aside0.mk (app_int (x := (S0 : Int)) HFR.out.row HFR.out.bel HFR.out.bel.size (fun _ _ => trivial) (by rw [hxl]; have := HLT.out; have := HN.out; omega) 73 75)
            have HXL := Aside0.mk hxl
            clear hc0 hl0 hall hxl
            go_wp2_with (at_builtin; refine KEY.out _ _ _ _ _ rfl rfl rfl rfl ?_; intro A3 c3 w3 hr3 hb3 hg3 hat3; have HR3 := Aside0.mk hr3; have HB3 := Aside0.mk hb3; have HG3 := Aside0.mk hg3; clear hr3 hb3 hg3 hat3)
            go_roundw
            case rel => exact ⟨i + 1, B2, A3, c3, xs ++ [(S0 : Int)], by go_num, rfl, by simp, by have := HLT.out; omega, ⟨by
              rw [List.range_succ, List.map_append, ← HX.out]
              simp only [List.map_cons, List.map_nil]
              rw [HLE.out, HSL.out]⟩, ⟨by
              obtain ⟨n2, f2, m2, _, h2⟩ := HFR.out.mp
              refine ⟨⟨n2, f2, m2.kept HG3.out (fun e => ?_), h2.perm HLV.out⟩, by rw [List.length_append]; exact HR3.out, HB3.out, HFR.out.ne.2.2.1⟩
              obtain ⟨cells, hc⟩ := Kd.R_typed HFR.out.row _ e.symm
              exact m2.notCells _ _ _ hc⟩⟩
            case measure => simp [intOf]; have := HLT.out; omega
          · intro x cv kl y1 y2 w1 cnt1 hkey hlk hv hat1 hrg1 hlt1 hg1 hs1 hen
            obtain ⟨m, hm, hM, rfl, rfl, rfl⟩ := visit (y := (y1, y2)) HCN.out HAT.out hkey hv hat1
            have HMM := Aside0.mk hm
            have HMO := Aside0.mk (HLO.out m hm)
            obtain ⟨hvs, hnv⟩ := HVI.out.step (fun m hm => (HLO.out m hm).mk') hm hlk
            have HVS := Aside0.mk hvs
            have HLT1 := Aside0.mk hlt1
            have HF1 := Aside0.mk (HFR.out.iter hg1 hrg1)
            obtain ⟨cm, hcm⟩ : ∃ cm, L.count m = cm := ⟨_, rfl⟩
            have HCM := Aside0.mk hcm
            have HCP := Aside0.mk (show 0 < cm by rw [← hcm]; exact List.count_pos_iff.2 hm)
            have HSB := Aside0.mk (show S0 + cm ≤ 1152921504606846976 by
              have h := sum_sub hvs.nd L
              rw [List.map_append, List.sum_append, HS0.out] at h
              have := HLN.out
              simp [hcm] at h
              omega)
            have hsb : (S0 : Int) + (cm : Int) ≤ 1152921504606846976 := by have := HSB.out; omega
            obtain ⟨m0, m1, m2, m3, e4⟩ := four HMO.out.len
            have HE4 := Aside0.mk e4
            have mc : mcells [m0, m1, m2, m3] = #[.int .i64 (m0 : Int), .int .i64 (m1 : Int), .int .i64 (m2 : Int), .int .i64 (m3 : Int)] := rfl
            rw [hcm, e4, mc] at hen
            rw [hcm, e4, mc]
            clear hkey hlk hv hat1 hrg1 hlt1 hg1 hs1 hm hM mc hvs hnv hcm e4
            go_wp2
            obtain ⟨gm, hgm⟩ : ∃ gm, w1.heap.size = gm := ⟨_, rfl⟩
            obtain ⟨W2, hW2⟩ : ∃ W2, w1.alloc (.cells #[.int .i64 (m0 : Int), .int .i64 (m1 : Int), .int .i64 (m2 : Int), .int .i64 (m3 : Int)] 101) = W2 := ⟨_, rfl⟩
            have HGM := Aside0.mk (show W2.heap[gm]? = some (.cells #[.int .i64 (m0 : Int), .int .i64 (m1 : Int), .int .i64 (m2 : Int), .int .i64 (m3 : Int)] 101 (0, 0)) by rw [← hW2, ← hgm]; exact blk_new _ _)
            have HF2 := Aside0.mk (show FrR w B r0 nn D (fun z => left z && !z.sameKey (quadK m)) cnt1 B2 (acc L (fun m => gos (l.map bl) m k) V ++ (gos (l.map bl) m 0).flatMap fun t => List.replicate cm t) A9 c9 xs W2 by
              have h := HF1.out.below (V' := W2) (by rw [← hW2]; exact below_alloc (Below.refl _ _) _)
              simpa [gos] using h)
            rw [hW2, hgm]
            clear hW2 hgm hen
            go_loopw [52] (fun v52 wz => ∃ cc : Nat, v52 = .int .i64 cc ∧ cc ≤ k ∧ Aside0 (wz.heap[gm]? = some (.cells #[.int .i64 (m0 : Int), .int .i64 (m1 : Int), .int .i64 (m2 : Int), .int .i64 (m3 : Int)] 101 (0, 0))) ∧ Aside0 (FrR w B r0 nn D (fun z => left z && !z.sameKey (quadK m)) cnt1 B2 (acc L (fun m => gos (l.map bl) m k) V ++ (gos (l.map bl) m cc).flatMap fun t => List.replicate cm t) A9 c9 xs wz)) (fun v52 _ => k - (intOf v52).toNat)
            case atStart => exact ⟨0, rfl, by omega, HGM, HF2⟩
            case round =>
              clear HGM HF2
              obtain ⟨cc, rfl, hcc, HGM, HF2⟩ := hrel
              by_cases hlt : cc < k
              · have hltI : (cc : Int) < (k : Int) := by omega
                have c1 : wr.cell? ⟨gm, 0, none⟩ = some (.int .i64 (m0 : Int)) := (blk_cell HGM.out 0).trans rfl
                have c2 : wr.cell? ⟨gm, 1, none⟩ = some (.int .i64 (m1 : Int)) := (blk_cell HGM.out 1).trans rfl
                have c3 : wr.cell? ⟨gm, 2, none⟩ = some (.int .i64 (m2 : Int)) := (blk_cell HGM.out 2).trans rfl
                have c4 : wr.cell? ⟨gm, 3, none⟩ = some (.int .i64 (m3 : Int)) := (blk_cell HGM.out 3).trans rfl
                have hcv : IntKind.u8.wrap (97 + (cc : Int)) = 97 + (cc : Int) := by
                  have h1 : (cc : Int) < 4 := by omega
                  have h0 : (0 : Int) ≤ (cc : Int) := by omega
                  show (97 + (cc : Int)) % 256 = 97 + (cc : Int)
                  omega
                have hcc4 : cc < 4 := by have := HK4.out; omega
                obtain ⟨ra, hra⟩ : ∃ ra, aft (l.map bl) m (97 + cc) = ra := ⟨_, rfl⟩
                have HRA := Aside0.mk hra
                have HLT2 := Aside0.mk hlt
                have AF := Aside0.mk (show Calls Try.prog 66 #[.agg #[.int .i64 (m0 : Int), .int .i64 (m1 : Int), .int .i64 (m2 : Int), .int .i64 (m3 : Int)], .slice A l.length c, .int .u8 (97 + (cc : Int))] wr (AfPost ra wr) from by
                  have h := after_m A c l wr (Kd.C_below HC.out HF2.out.bel) HL.out H8.out m HMO.out cc hcc4 ra hra
                  rw [HE4.out] at h
                  exact h)
                clear hlt hra hcc
                go_upto_region 19 with (go_at_call 66; (with_reducible refine AF.out.mono ?_); rintro e w5 ⟨b0, b1, b2, b3, rfl, hb4, hb⟩; have HB4 := Aside0.mk hb4; have HB5 := Aside0.mk hb; clear hb4 hb)
                have HGM5 := Aside0.mk (blk_alloc (blk_below HGM.out HB5.out) (.cells #[.int .i64 (b0 : Int), .int .i64 (b1 : Int), .int .i64 (b2 : Int), .int .i64 (b3 : Int)] 101))
                have HF5 := Aside0.mk (HF2.out.below (V' := w5.alloc (.cells #[.int .i64 (b0 : Int), .int .i64 (b1 : Int), .int .i64 (b2 : Int), .int .i64 (b3 : Int)] 101)) (below_alloc HB5.out _))
                have HGT := Aside0.mk (blk_new w5 (.cells #[.int .i64 (b0 : Int), .int .i64 (b1 : Int), .int .i64 (b2 : Int), .int .i64 (b3 : Int)] 101))
                obtain ⟨gt, hgt⟩ : ∃ gt, w5.heap.size = gt := ⟨_, rfl⟩
                obtain ⟨W6, hW6⟩ : ∃ W6, w5.alloc (.cells #[.int .i64 (b0 : Int), .int .i64 (b1 : Int), .int .i64 (b2 : Int), .int .i64 (b3 : Int)] 101) = W6 := ⟨_, rfl⟩
                rw [hW6] at HGM5 HF5 HGT ⊢
                rw [hgt] at HGT ⊢
                clear hW6 hgt HB5 AF c1 c2 c3 c4 hcv
                cases ra with
                | none =>
                  go_wp2
                  go_roundw
                  case rel => exact ⟨cc + 1, by go_num, by have := HLT2.out; omega, HGM5, ⟨by
                    rw [gos_succ, HRA.out]
                    simpa using HF5.out⟩⟩
                  case measure => simp [intOf]; have := HLT2.out; omega
                | some t =>
                  have ht : t = [b0, b1, b2, b3] := HB4.out t (by first | rfl | trivial)
                  have HTO := Aside0.mk (aft_ok HS8.out HMO.out HRA.out)
                  obtain ⟨T, hT⟩ : ∃ T, (acc L (fun m => gos (l.map bl) m k) V ++ (gos (l.map bl) m cc).flatMap fun t => List.replicate cm t) = T := ⟨_, rfl⟩
                  have HTL := Aside0.mk (show T.length ≤ 4611686018427387904 by
                    have h1 := acc_le L (fun m => gos (l.map bl) m k) 4 V (fun m _ => Nat.le_trans (gos_len _ _ _) HK4.out)
                    have h2 := gos_len (l.map bl) m cc
                    have h3 := Nat.mul_le_mul_left cm (Nat.le_trans h2 (Nat.le_of_lt hcc4))
                    rw [HS0.out] at h1
                    have h4 := HSB.out
                    rw [← hT, List.length_append, length_rep]
                    omega)
                  have HF6 := Aside0.mk (show FrR w B r0 nn D (fun z => left z && !z.sameKey (quadK m)) cnt1 B2 T A9 c9 xs W6.drew by rw [← hT]; exact HF5.out.below (below_drew (Below.refl _ _)))
                  have HTT := Aside0.mk (show ∀ V', FrR w B r0 nn D (fun z => left z && !z.sameKey (quadK m)) cnt1 B2 (T ++ List.replicate cm t) A9 c9 xs V' → FrR w B r0 nn D (fun z => left z && !z.sameKey (quadK m)) cnt1 B2 (acc L (fun m => gos (l.map bl) m k) V ++ (gos (l.map bl) m (cc + 1)).flatMap fun t => List.replicate cm t) A9 c9 xs V' from fun V' h => by
                    rw [gos_succ, HRA.out, List.flatMap_append, ← List.append_assoc, hT]
                    simpa using h)
                  obtain ⟨n2, f2, m2, hn2, hc2⟩ := HF6.out.mp
                  have hMk := HTO.out.mk'
                  obtain ⟨ct, hct⟩ : ∃ ct, T.count t = ct := ⟨_, rfl⟩
                  have hcl : ct ≤ T.length := by rw [← hct]; exact List.count_le_length
                  obtain ⟨st, W7, r7, m7, g7, hst⟩ := m2.entry (t := 99) (e := 3) law101 Try.underlying99 (by have := HTL.out; unfold maxLen; omega) zero3 (key101 t hMk.1 hMk.2)
                  obtain ⟨W8, r8, m8, g8⟩ := hst (.int .i64 ((ct : Int) + (cm : Int)))
                  have lk6 := m2.look (t := 99) (e := 3) keyed101 Try.underlying99 (zero3 _) (key101 t hMk.1 hMk.2)
                  have lk7 := m7.look (t := 99) (e := 3) keyed101 Try.underlying99 (zero3 _) (key101 t hMk.1 hMk.2)
                  rw [KMap.put_same f2 (keyed101.key (key101 t hMk.1 hMk.2))] at lk7
                  rw [hc2.getD hMk, hct] at lk6 r7 lk7
                  have HF8 := Aside0.mk (HF6.out.store g8 (T' := T ++ List.replicate cm t) ⟨n2 + 1, _, m8, by have := HCP.out; simp; omega, by rw [← hct]; exact hc2.push hMk HCP.out⟩)
                  have HGM8 := Aside0.mk (cells_past g8 (show W6.drew.heap[gm]? = _ from HGM5.out) m2.notCells)
                  have HGT7 := Aside0.mk (cells_past g7 (show W6.drew.heap[gt]? = _ from HGT.out) m2.notCells)
                  rw [ht] at r7 lk6 lk7
                  replace lk6 : (Instr.lookup 99 (.map (some B2)) (.agg #[.int .i64 (b0 : Int), .int .i64 (b1 : Int), .int .i64 (b2 : Int), .int .i64 (b3 : Int)]) false).run Try.prog W6.drew = .ok (.int .i64 (ct : Int)) W6.drew := lk6
                  replace lk7 : (Instr.lookup 99 (.map (some B2)) (.agg #[.int .i64 (b0 : Int), .int .i64 (b1 : Int), .int .i64 (b2 : Int), .int .i64 (b3 : Int)]) false).run Try.prog W7 = .ok (.int .i64 (ct : Int)) W7 := lk7
                  replace r7 : (Instr.mapEntry 99 (.map (some B2)) (.agg #[.int .i64 (b0 : Int), .int .i64 (b1 : Int), .int .i64 (b2 : Int), .int .i64 (b3 : Int)])).run Try.prog W6.drew = .ok (.tuple #[.int .i64 (ct : Int), st]) W7 := r7
                  have c9 : IntKind.i64.wrap ((ct : Int) + (cm : Int)) = (ct : Int) + (cm : Int) := IntWalk.i64_in _ (by have := HTL.out; have := HSB.out; omega)
                  have q0 : W6.drew.cell? ⟨gt, 0, none⟩ = some (.int .i64 (b0 : Int)) := (blk_cell (show W6.drew.heap[gt]? = _ from HGT.out) 0).trans rfl
                  have q1 : W6.drew.cell? ⟨gt, 1, none⟩ = some (.int .i64 (b1 : Int)) := (blk_cell (show W6.drew.heap[gt]? = _ from HGT.out) 1).trans rfl
                  have q2 : W6.drew.cell? ⟨gt, 2, none⟩ = some (.int .i64 (b2 : Int)) := (blk_cell (show W6.drew.heap[gt]? = _ from HGT.out) 2).trans rfl
                  have q3 : W6.drew.cell? ⟨gt, 3, none⟩ = some (.int .i64 (b3 : Int)) := (blk_cell (show W6.drew.heap[gt]? = _ from HGT.out) 3).trans rfl
                  have p0 : W7.cell? ⟨gt, 0, none⟩ = some (.int .i64 (b0 : Int)) := (blk_cell HGT7.out 0).trans rfl
                  have p1 : W7.cell? ⟨gt, 1, none⟩ = some (.int .i64 (b1 : Int)) := (blk_cell HGT7.out 1).trans rfl
                  have p2 : W7.cell? ⟨gt, 2, none⟩ = some (.int .i64 (b2 : Int)) := (blk_cell HGT7.out 2).trans rfl
                  have p3 : W7.cell? ⟨gt, 3, none⟩ = some (.int .i64 (b3 : Int)) := (blk_cell HGT7.out 3).trans rfl
                  clear hn2 hc2 m2 hMk hct hcl m7 g7 hst m8 g8 hT ht
                  go_upto_region 20 with (fail)
                  refine start_ (n := 8) (S := fun w' => (Instr.lookup 99 (.map (some B2)) (.agg #[.int .i64 (b0 : Int), .int .i64 (b1 : Int), .int .i64 (b2 : Int), .int .i64 (b3 : Int)]) false).run Try.prog w' = .ok (.int .i64 (ct : Int)) w' ∧ w'.cell? ⟨gt, 0, none⟩ = some (.int .i64 (b0 : Int)) ∧ w'.cell? ⟨gt, 1, none⟩ = some (.int .i64 (b1 : Int)) ∧ w'.cell? ⟨gt, 2, none⟩ = some (.int .i64 (b2 : Int)) ∧ w'.cell? ⟨gt, 3, none⟩ = some (.int .i64 (b3 : Int))) (ds := [7]) #[false, false, false, false, false, false, false, false] (by kernel_rfl) rfl rfl ⟨lk6, q0, q1, q2, q3⟩ (fun hHeld => ?_)
                  refine pure_ (i := 0) (N := (some 65)) (v := ?_) (a' := ?_) #[true, false, false, false, false, false, false, false] rfl rfl (by kernel_rfl) (fun _ _ _ h => h) (Or.inl ⟨by rfl, ?_⟩) ?_ ?_
                  rotate_left
                  · intro w'
                    go_simp
                    with_reducible rfl
                  rotate_left
                  · simp only [Act.put, List.setIfInBounds_toArray, List.set_cons_zero, List.set_cons_succ, i64_w, i32_w]
                    rfl
                  refine take_ (i := 1) (N := (some 66)) (v := ?_) (a' := ?_) #[true, true, false, false, false, false, false, false] rfl rfl (by kernel_rfl) (fun _ _ _ h => h) (Or.inl ⟨by rfl, ?_⟩) hHeld ?_ ?_
                  rotate_left
                  · rintro w' ⟨s0, s1, s2, s3, s4⟩
                    go_simp
                    with_reducible rfl
                  rotate_left
                  · simp only [Act.put, List.setIfInBounds_toArray, List.set_cons_zero, List.set_cons_succ, i64_w, i32_w]
                    rfl
                  refine take_ (i := 2) (N := (some 67)) (v := ?_) (a' := ?_) #[true, true, true, false, false, false, false, false] rfl rfl (by kernel_rfl) (fun _ _ _ h => h) (Or.inl ⟨by rfl, ?_⟩) hHeld ?_ ?_
                  rotate_left
                  · rintro w' ⟨s0, s1, s2, s3, s4⟩
                    go_simp
                    with_reducible rfl
                  rotate_left
                  · simp only [Act.put, List.setIfInBounds_toArray, List.set_cons_zero, List.set_cons_succ, i64_w, i32_w]
                    rfl
                  refine pure_ (i := 3) (N := (some 68)) (v := ?_) (a' := ?_) #[true, true, true, true, false, false, false, false] rfl rfl (by kernel_rfl) (fun _ _ _ h => h) (Or.inl ⟨by rfl, ?_⟩) ?_ ?_
                  rotate_left
                  · intro w'
                    go_simp
                    with_reducible rfl
                  rotate_left
                  · simp only [Act.put, List.setIfInBounds_toArray, List.set_cons_zero, List.set_cons_succ, i64_w, i32_w]
                    rfl
                  refine pure_ (i := 4) (N := (some 69)) (v := ?_) (a' := ?_) #[true, true, true, true, true, false, false, false] rfl rfl (by kernel_rfl) (fun _ _ _ h => h) (Or.inl ⟨by rfl, ?_⟩) ?_ ?_
                  rotate_left
                  · intro w'
                    go_simp
                    with_reducible rfl
                  rotate_left
                  · simp only [Act.put, List.setIfInBounds_toArray, List.set_cons_zero, List.set_cons_succ, i64_w, i32_w]
                    rfl
                  refine one_ (i := 5) (N := (some 70)) #[true, true, true, true, true, true, false, false] rfl rfl (by kernel_rfl) (by decide) (fun K hK => ?_)
                  refine value_ (w1 := ?_) (v := ?_) (by rfl) rfl ?_ ?_
                  rotate_left 2
                  · go_simp
                    constructor
                    · rfl
                    · rfl
                  refine hK.out _ _ ⟨lk7, p0, p1, p2, p3⟩ (fun hHeld => ?_)
                  clear hK K
                  refine norm_ (a' := ?_) ?_ ?_
                  rotate_left
                  · show Act.put _ (some 70) _ = _
                    simp only [Act.put, List.setIfInBounds_toArray, List.set_cons_zero, List.set_cons_succ, i64_w, i32_w]
                    rfl
                  refine pure_ (i := 6) (N := (some 71)) (v := ?_) (a' := ?_) #[true, true, true, true, true, true, true, false] rfl rfl (by kernel_rfl) (fun _ _ _ h => h) (Or.inl ⟨by rfl, ?_⟩) ?_ ?_
                  rotate_left
                  · intro w'
                    go_simp
                    with_reducible rfl
                  rotate_left
                  · simp only [Act.put, List.setIfInBounds_toArray, List.set_cons_zero, List.set_cons_succ, i64_w, i32_w]
                    rfl
                  refine last_ (i := 7) (N := none) #[true, true, true, true, true, true, true, true] rfl rfl (by kernel_rfl) (by decide) (fun K hK => ?_)
                  refine skip_ (w1 := ?_) (by rfl) rfl ?_ ?_
                  rotate_left
                  · go_simp
                    rfl
                  refine hK.out _ _ ?_
                  clear hK K
                  refine done_ (by kernel_rfl) ?_
                  go_wp2
                  go_roundw
                  case rel => exact ⟨cc + 1, by go_num, by have := HLT2.out; omega, HGM8, ⟨HTT.out _ HF8.out⟩⟩
                  case measure => simp [intOf]; have := HLT2.out; omega
              · have hltI : ¬ ((cc : Int) < (k : Int)) := by omega
                have hce : cc = k := by omega
                subst hce
                clear hlt
                go_wp2
                go_roundw
                case rel => exact ⟨V ++ [m], _, cnt1, by rw [List.map_append, List.sum_append, HS0.out]; simp [HCM.out], HVS, ⟨by
                  have h := HF2.out
                  rw [acc_snoc, HCM.out]
                  exact h⟩⟩
                case measure =>
                  rw [HF2.out.rg.left_eq, HFR.out.rg.left_eq]
                  exact HLT1.out
      · have hltI : ¬ ((i : Int) < (n : Int) + 1) := by omega
        have hin : i = n + 1 := by omega
        subst hin
        clear hlt
        go_wp2
        go_ret2
        have hxl : xs.length = (freeL (l.map bl) k n).length := by rw [HX.out]; simp [freeL]
        have hxm : xs = (freeL (l.map bl) k n).map fun (n : Nat) => (n : Int) := by rw [HX.out]; unfold freeL; rw [List.map_map]; rfl
        refine ⟨A9, c9, by rw [← hxl]; rfl, ?_, HA.out.bel⟩
        rw [← hxl, ← hxm]
        exact HA.out.row
  case false =>
    go_upto_region 5 with (go_at_call 65; (with_reducible refine (cont_any _ _ l _ _ (Kd.C_below HC.out HBW.out) HCC.out (by have := HL.out; omega) false HV.out).mono ?_); rintro e w4 ⟨rfl, HD⟩; have HB4 := Aside0.mk HD.below; clear HD)
    obtain ⟨Wx, st, m2, g2⟩ := (HM1.out.below HB4.out).store (t := 99) (e := 3) keyed101 Try.underlying99 (by decide) (val := .int .i64 1) (key101 [0, 0, 0, 0] rfl (by simp))
    replace st : (Instr.mapUpdate 99 (.map (some B0)) (.agg #[.int .i64 0, .int .i64 0, .int .i64 0, .int .i64 0]) (.int .i64 1)).run Try.prog w4 = .ok () Wx := st
    have bl0 := build101
    have HST := Aside0.mk (show FrAt w B0 (lev (l.map bl) k 0) none 0 [] Wx by
      refine ⟨⟨_, _, m2, ?_⟩, Kd.R_nil _ _ _ _ _, (below_step HBW.out HB4.out).grown g2 (below_step HBW.out HB4.out).size (fun j e => by injection e with e; subst e; exact HBB.out), HBB.out⟩
      unfold lev
      rw [if_neg (fun h => by have := HV.out.2 (nil_mem.2 h); simp at this)]
      exact CntOf.nil.push mk0 (n := 1) (by omega))
    clear m2 g2
    go_upto_region 6 with (fail)
    clear HM1 HBW HBB HV HB4 st bl0
    go_wp2
    go_loopw [8, 9, 38] (fun v8 v9 v38 wr => ∃ (i B : Nat) (A : Option Addr) (c : Nat) (xs : List Int), v38 = .int .i64 i ∧ v8 = .map (some B) ∧ v9 = .slice A xs.length c ∧ i ≤ n + 1 ∧ Aside0 (xs = (List.range i).map fun j => ((lev (l.map bl) k j).length : Int)) ∧ Aside0 (FrAt w B (lev (l.map bl) k i) A c xs wr)) (fun _ _ v38 _ => n + 1 - (intOf v38).toNat)
    case atStart => exact ⟨0, B0, none, 0, [], rfl, rfl, rfl, by omega, ⟨rfl⟩, HST⟩
    case round =>
      clear HST
      obtain ⟨i, B, A9, c9, xs, rfl, rfl, rfl, hi, HX, HA⟩ := hrel
      by_cases hlt : i < n + 1
      · have hltI : (i : Int) < (n : Int) + 1 := by omega
        have HLT := Aside0.mk hlt
        have HS8 := Aside0.mk (show ∀ x ∈ l.map bl, x.length ≤ 8 from fun x hx => by
          obtain ⟨s, h1, rfl⟩ := List.mem_map.1 hx
          rw [bl_length]; exact H8.out s h1)
        obtain ⟨L, hL⟩ : ∃ L, lev (l.map bl) k i = L := ⟨_, rfl⟩
        have HLO := Aside0.mk (show ∀ m ∈ L, MOk (l.map bl) m by rw [← hL]; exact lev_ok HS8.out k i)
        have HLN := Aside0.mk (show L.length ≤ 1152921504606846976 by
          rw [← hL]
          have h1 := lev_le (l.map bl) k HK4.out i
          have h2 : 4 ^ i ≤ 4 ^ 30 := Nat.pow_le_pow_right (by omega) (by have := HN.out; omega)
          exact Nat.le_trans h1 (Nat.le_trans h2 (by decide)))
        have HLE := Aside0.mk hL
        have HA1 := Aside0.mk (show FrAt w B L A9 c9 xs wr by rw [← hL]; exact HA.out)
        obtain ⟨nn, f, m1, hcnt⟩ := HA1.out.mp
        obtain ⟨D, hown, hhas, hat⟩ := m1.ex
        have HCN := Aside0.mk hcnt
        have HAT := Aside0.mk hat
        have HHA := Aside0.mk hhas
        have HOW := Aside0.mk hown
        clear hlt hL m1 hcnt hat hhas hown HA hi
        go_upto_region 11 with (fail)
        have HOW1 := Aside0.mk (HOW.out.alloc (.map #[] 0))
        have HM2 := Aside0.mk (MapIs.made wr Try.prog 101)
        have HB2 := Aside0.mk (show Below wr.heap.size wr (wr.alloc (.map #[] 0)) from below_alloc (Below.refl _ _) _)
        have HSZ := Aside0.mk (World.size_alloc wr (.map #[] 0))
        obtain ⟨B2, hB2⟩ : ∃ B2, wr.heap.size = B2 := ⟨_, rfl⟩
        obtain ⟨W1, hW1⟩ : ∃ W1, wr.alloc (.map #[] 0) = W1 := ⟨_, rfl⟩
        have HNE := Aside0.mk (show B2 ≠ B ∧ w.heap.size ≤ B2 ∧ B < W1.heap.size from ⟨by have := HOW.out.lt; omega, by rw [← hB2]; exact HA1.out.bel.size, by rw [← hW1]; have := HOW.out.lt; rw [HSZ.out]; omega⟩)
        rw [hW1] at HOW1 HM2 HB2 HSZ ⊢
        rw [hB2] at HM2 HSZ ⊢
        have HBL := Aside0.mk (show Below w.heap.size w W1 from below_step HA1.out.bel (by have := HB2.out; exact this))
        have HRW := Aside0.mk (Kd.R_below HA1.out.row (by have := HB2.out; exact this))
        clear hW1 hB2 HOW HB2
        go_wp2_with (at_range; refine wpList_range_own _ rfl (.tmp 41) 99 rfl 101 3 keyed101 Try.underlying99 anyElem B nn D rfl HOW1.out ?_; intro w0 hrg0 hg0 hs0; have HR0 := Aside0.mk hrg0; have HG0 := Aside0.mk hg0; clear hrg0 hg0 hs0)
        go_frame
        obtain ⟨r0, hr0⟩ : ∃ r0, W1.heap.size = r0 := ⟨_, rfl⟩
        have HR1 := Aside0.mk (show w0.ranges Try.prog 101 anyElem B r0 nn D (Maps.has D) (Maps.size D) by rw [← hr0]; exact HR0.out)
        have HNR := Aside0.mk (show B2 ≠ r0 ∧ w.heap.size ≤ r0 from ⟨by rw [← hr0, HSZ.out]; omega, by rw [← hr0]; exact HBL.out.size⟩)
        have H0 := Aside0.mk (show FrR w B r0 nn D (Maps.has D) (Maps.size D) B2 (acc L (fun m => gos (l.map bl) m k) []) A9 c9 xs w0 from
          ⟨HR1.out, ⟨0, KMap.empty, HM2.out.kept HG0.out (by simp), by omega, CntOf.nil⟩, Kd.R_grown HRW.out HG0.out (by simp), HBL.out.grown HG0.out HBL.out.size (fun j e => by cases e), ⟨HNE.out.1, HNR.out.1, HNE.out.2.1, HNR.out.2⟩⟩)
        have HV0 := Aside0.mk (show Vis L [] (Maps.has D) from ⟨by simp, by simp, fun m hm => by
          have hM := (HLO.out m hm).mk'
          rw [HHA.out, HCN.out.at_ m hM, if_neg (by have := List.count_pos_iff.2 hm; omega)]
          simp⟩)
        rw [hr0]
        clear hr0 HR0 HR1 HOW1 HM2 HG0 HBL HRW HNE HNR HSZ HHA
        go_loopw [10] (fun v10 wq => ∃ (V : List (List Nat)) (left : Lit → Bool) (cnt : Nat), v10 = .int .i64 (((V.map fun m => L.count m).sum : Nat) : Int) ∧ Aside0 (Vis L V left) ∧ Aside0 (FrR w B r0 nn D left cnt B2 (acc L (fun m => gos (l.map bl) m k) V) A9 c9 xs wq)) (fun _ wq => wq.rangeLeft B r0)
        case atStart => exact ⟨[], _, _, rfl, HV0, H0⟩
        case round =>
          clear H0 HV0
          obtain ⟨V, left, cnt, rfl, HVI, HFR⟩ := hrel
          obtain ⟨S0, hS0⟩ : ∃ S0, (V.map fun m => L.count m).sum = S0 := ⟨_, rfl⟩
          have HS0 := Aside0.mk hS0
          rw [hS0]
          clear hS0
          go_wp2_with (at_next; refine wpList_next_ranges _ rfl (.tmp 42) rfl 101 keyed101 anyElem (fun x : Value => x) (fun x : Value => x) (fun key _ _ => ⟨key, rfl⟩) (fun v _ _ => ⟨v, rfl⟩) B r0 nn D left cnt rfl HFR.out.rg ?_ ?_)
          · intro hc0 hl0
            have hall : ∀ m ∈ L, m ∈ V := fun m hm => Classical.byContradiction fun hn => by
              have := (HVI.out.lf m hm).2 hn
              rw [hl0] at this
              cases this
            have HLV := Aside0.mk (show ∀ a, (acc L (fun m => gos (l.map bl) m k) V).count a = (lev (l.map bl) k (i + 1)).count a from fun a => by
              rw [acc_count HVI.out.nd hall, ← HLE.out]
              rfl)
            have HSL := Aside0.mk (show S0 = L.length by
              have h := sum_cover HVI.out.nd (fun _ => 1) L hall
              rw [ones] at h
              rw [← HS0.out, ← h]
              simp)
            have hxl : xs.length = i := by rw [HX.out]; simp
            have KEY := Aside0.mk (app_int (x := (S0 : Int)) HFR.out.row HFR.out.bel HFR.out.bel.size (fun _ _ => trivial) (by rw [hxl]; have := HLT.out; have := HN.out; omega) 73 75)
            have HXL := Aside0.mk hxl
            clear hc0 hl0 hall hxl
            go_wp2_with (at_builtin; refine KEY.out _ _ _ _ _ rfl rfl rfl rfl ?_; intro A3 c3 w3 hr3 hb3 hg3 hat3; have HR3 := Aside0.mk hr3; have HB3 := Aside0.mk hb3; have HG3 := Aside0.mk hg3; clear hr3 hb3 hg3 hat3)
            go_roundw
            case rel => exact ⟨i + 1, B2, A3, c3, xs ++ [(S0 : Int)], by go_num, rfl, by simp, by have := HLT.out; omega, ⟨by
              rw [List.range_succ, List.map_append, ← HX.out]
              simp only [List.map_cons, List.map_nil]
              rw [HLE.out, HSL.out]⟩, ⟨by
              obtain ⟨n2, f2, m2, _, h2⟩ := HFR.out.mp
              refine ⟨⟨n2, f2, m2.kept HG3.out (fun e => ?_), h2.perm HLV.out⟩, by rw [List.length_append]; exact HR3.out, HB3.out, HFR.out.ne.2.2.1⟩
              obtain ⟨cells, hc⟩ := Kd.R_typed HFR.out.row _ e.symm
              exact m2.notCells _ _ _ hc⟩⟩
            case measure => simp [intOf]; have := HLT.out; omega
          · intro x cv kl y1 y2 w1 cnt1 hkey hlk hv hat1 hrg1 hlt1 hg1 hs1 hen
            obtain ⟨m, hm, hM, rfl, rfl, rfl⟩ := visit (y := (y1, y2)) HCN.out HAT.out hkey hv hat1
            have HMM := Aside0.mk hm
            have HMO := Aside0.mk (HLO.out m hm)
            obtain ⟨hvs, hnv⟩ := HVI.out.step (fun m hm => (HLO.out m hm).mk') hm hlk
            have HVS := Aside0.mk hvs
            have HLT1 := Aside0.mk hlt1
            have HF1 := Aside0.mk (HFR.out.iter hg1 hrg1)
            obtain ⟨cm, hcm⟩ : ∃ cm, L.count m = cm := ⟨_, rfl⟩
            have HCM := Aside0.mk hcm
            have HCP := Aside0.mk (show 0 < cm by rw [← hcm]; exact List.count_pos_iff.2 hm)
            have HSB := Aside0.mk (show S0 + cm ≤ 1152921504606846976 by
              have h := sum_sub hvs.nd L
              rw [List.map_append, List.sum_append, HS0.out] at h
              have := HLN.out
              simp [hcm] at h
              omega)
            have hsb : (S0 : Int) + (cm : Int) ≤ 1152921504606846976 := by have := HSB.out; omega
            obtain ⟨m0, m1, m2, m3, e4⟩ := four HMO.out.len
            have HE4 := Aside0.mk e4
            have mc : mcells [m0, m1, m2, m3] = #[.int .i64 (m0 : Int), .int .i64 (m1 : Int), .int .i64 (m2 : Int), .int .i64 (m3 : Int)] := rfl
            rw [hcm, e4, mc] at hen
            rw [hcm, e4, mc]
            clear hkey hlk hv hat1 hrg1 hlt1 hg1 hs1 hm hM mc hvs hnv hcm e4
            go_wp2
            obtain ⟨gm, hgm⟩ : ∃ gm, w1.heap.size = gm := ⟨_, rfl⟩
            obtain ⟨W2, hW2⟩ : ∃ W2, w1.alloc (.cells #[.int .i64 (m0 : Int), .int .i64 (m1 : Int), .int .i64 (m2 : Int), .int .i64 (m3 : Int)] 101) = W2 := ⟨_, rfl⟩
            have HGM := Aside0.mk (show W2.heap[gm]? = some (.cells #[.int .i64 (m0 : Int), .int .i64 (m1 : Int), .int .i64 (m2 : Int), .int .i64 (m3 : Int)] 101 (0, 0)) by rw [← hW2, ← hgm]; exact blk_new _ _)
            have HF2 := Aside0.mk (show FrR w B r0 nn D (fun z => left z && !z.sameKey (quadK m)) cnt1 B2 (acc L (fun m => gos (l.map bl) m k) V ++ (gos (l.map bl) m 0).flatMap fun t => List.replicate cm t) A9 c9 xs W2 by
              have h := HF1.out.below (V' := W2) (by rw [← hW2]; exact below_alloc (Below.refl _ _) _)
              simpa [gos] using h)
            rw [hW2, hgm]
            clear hW2 hgm hen
            go_loopw [52] (fun v52 wz => ∃ cc : Nat, v52 = .int .i64 cc ∧ cc ≤ k ∧ Aside0 (wz.heap[gm]? = some (.cells #[.int .i64 (m0 : Int), .int .i64 (m1 : Int), .int .i64 (m2 : Int), .int .i64 (m3 : Int)] 101 (0, 0))) ∧ Aside0 (FrR w B r0 nn D (fun z => left z && !z.sameKey (quadK m)) cnt1 B2 (acc L (fun m => gos (l.map bl) m k) V ++ (gos (l.map bl) m cc).flatMap fun t => List.replicate cm t) A9 c9 xs wz)) (fun v52 _ => k - (intOf v52).toNat)
            case atStart => exact ⟨0, rfl, by omega, HGM, HF2⟩
            case round =>
              clear HGM HF2
              obtain ⟨cc, rfl, hcc, HGM, HF2⟩ := hrel
              by_cases hlt : cc < k
              · have hltI : (cc : Int) < (k : Int) := by omega
                have c1 : wr.cell? ⟨gm, 0, none⟩ = some (.int .i64 (m0 : Int)) := (blk_cell HGM.out 0).trans rfl
                have c2 : wr.cell? ⟨gm, 1, none⟩ = some (.int .i64 (m1 : Int)) := (blk_cell HGM.out 1).trans rfl
                have c3 : wr.cell? ⟨gm, 2, none⟩ = some (.int .i64 (m2 : Int)) := (blk_cell HGM.out 2).trans rfl
                have c4 : wr.cell? ⟨gm, 3, none⟩ = some (.int .i64 (m3 : Int)) := (blk_cell HGM.out 3).trans rfl
                have hcv : IntKind.u8.wrap (97 + (cc : Int)) = 97 + (cc : Int) := by
                  have h1 : (cc : Int) < 4 := by omega
                  have h0 : (0 : Int) ≤ (cc : Int) := by omega
                  show (97 + (cc : Int)) % 256 = 97 + (cc : Int)
                  omega
                have hcc4 : cc < 4 := by have := HK4.out; omega
                obtain ⟨ra, hra⟩ : ∃ ra, aft (l.map bl) m (97 + cc) = ra := ⟨_, rfl⟩
                have HRA := Aside0.mk hra
                have HLT2 := Aside0.mk hlt
                have AF := Aside0.mk (show Calls Try.prog 66 #[.agg #[.int .i64 (m0 : Int), .int .i64 (m1 : Int), .int .i64 (m2 : Int), .int .i64 (m3 : Int)], .slice A l.length c, .int .u8 (97 + (cc : Int))] wr (AfPost ra wr) from by
                  have h := after_m A c l wr (Kd.C_below HC.out HF2.out.bel) HL.out H8.out m HMO.out cc hcc4 ra hra
                  rw [HE4.out] at h
                  exact h)
                clear hlt hra hcc
                go_upto_region 19 with (go_at_call 66; (with_reducible refine AF.out.mono ?_); rintro e w5 ⟨b0, b1, b2, b3, rfl, hb4, hb⟩; have HB4 := Aside0.mk hb4; have HB5 := Aside0.mk hb; clear hb4 hb)
                have HGM5 := Aside0.mk (blk_alloc (blk_below HGM.out HB5.out) (.cells #[.int .i64 (b0 : Int), .int .i64 (b1 : Int), .int .i64 (b2 : Int), .int .i64 (b3 : Int)] 101))
                have HF5 := Aside0.mk (HF2.out.below (V' := w5.alloc (.cells #[.int .i64 (b0 : Int), .int .i64 (b1 : Int), .int .i64 (b2 : Int), .int .i64 (b3 : Int)] 101)) (below_alloc HB5.out _))
                have HGT := Aside0.mk (blk_new w5 (.cells #[.int .i64 (b0 : Int), .int .i64 (b1 : Int), .int .i64 (b2 : Int), .int .i64 (b3 : Int)] 101))
                obtain ⟨gt, hgt⟩ : ∃ gt, w5.heap.size = gt := ⟨_, rfl⟩
                obtain ⟨W6, hW6⟩ : ∃ W6, w5.alloc (.cells #[.int .i64 (b0 : Int), .int .i64 (b1 : Int), .int .i64 (b2 : Int), .int .i64 (b3 : Int)] 101) = W6 := ⟨_, rfl⟩
                rw [hW6] at HGM5 HF5 HGT ⊢
                rw [hgt] at HGT ⊢
                clear hW6 hgt HB5 AF c1 c2 c3 c4 hcv
                cases ra with
                | none =>
                  go_wp2
                  go_roundw
                  case rel => exact ⟨cc + 1, by go_num, by have := HLT2.out; omega, HGM5, ⟨by
                    rw [gos_succ, HRA.out]
                    simpa using HF5.out⟩⟩
                  case measure => simp [intOf]; have := HLT2.out; omega
                | some t =>
                  have ht : t = [b0, b1, b2, b3] := HB4.out t (by first | rfl | trivial)
                  have HTO := Aside0.mk (aft_ok HS8.out HMO.out HRA.out)
                  obtain ⟨T, hT⟩ : ∃ T, (acc L (fun m => gos (l.map bl) m k) V ++ (gos (l.map bl) m cc).flatMap fun t => List.replicate cm t) = T := ⟨_, rfl⟩
                  have HTL := Aside0.mk (show T.length ≤ 4611686018427387904 by
                    have h1 := acc_le L (fun m => gos (l.map bl) m k) 4 V (fun m _ => Nat.le_trans (gos_len _ _ _) HK4.out)
                    have h2 := gos_len (l.map bl) m cc
                    have h3 := Nat.mul_le_mul_left cm (Nat.le_trans h2 (Nat.le_of_lt hcc4))
                    rw [HS0.out] at h1
                    have h4 := HSB.out
                    rw [← hT, List.length_append, length_rep]
                    omega)
                  have HF6 := Aside0.mk (show FrR w B r0 nn D (fun z => left z && !z.sameKey (quadK m)) cnt1 B2 T A9 c9 xs W6.drew by rw [← hT]; exact HF5.out.below (below_drew (Below.refl _ _)))
                  have HTT := Aside0.mk (show ∀ V', FrR w B r0 nn D (fun z => left z && !z.sameKey (quadK m)) cnt1 B2 (T ++ List.replicate cm t) A9 c9 xs V' → FrR w B r0 nn D (fun z => left z && !z.sameKey (quadK m)) cnt1 B2 (acc L (fun m => gos (l.map bl) m k) V ++ (gos (l.map bl) m (cc + 1)).flatMap fun t => List.replicate cm t) A9 c9 xs V' from fun V' h => by
                    rw [gos_succ, HRA.out, List.flatMap_append, ← List.append_assoc, hT]
                    simpa using h)
                  obtain ⟨n2, f2, m2, hn2, hc2⟩ := HF6.out.mp
                  have hMk := HTO.out.mk'
                  obtain ⟨ct, hct⟩ : ∃ ct, T.count t = ct := ⟨_, rfl⟩
                  have hcl : ct ≤ T.length := by rw [← hct]; exact List.count_le_length
                  obtain ⟨st, W7, r7, m7, g7, hst⟩ := m2.entry (t := 99) (e := 3) law101 Try.underlying99 (by have := HTL.out; unfold maxLen; omega) zero3 (key101 t hMk.1 hMk.2)
                  obtain ⟨W8, r8, m8, g8⟩ := hst (.int .i64 ((ct : Int) + (cm : Int)))
                  have lk6 := m2.look (t := 99) (e := 3) keyed101 Try.underlying99 (zero3 _) (key101 t hMk.1 hMk.2)
                  have lk7 := m7.look (t := 99) (e := 3) keyed101 Try.underlying99 (zero3 _) (key101 t hMk.1 hMk.2)
                  rw [KMap.put_same f2 (keyed101.key (key101 t hMk.1 hMk.2))] at lk7
                  rw [hc2.getD hMk, hct] at lk6 r7 lk7
                  have HF8 := Aside0.mk (HF6.out.store g8 (T' := T ++ List.replicate cm t) ⟨n2 + 1, _, m8, by have := HCP.out; simp; omega, by rw [← hct]; exact hc2.push hMk HCP.out⟩)
                  have HGM8 := Aside0.mk (cells_past g8 (show W6.drew.heap[gm]? = _ from HGM5.out) m2.notCells)
                  have HGT7 := Aside0.mk (cells_past g7 (show W6.drew.heap[gt]? = _ from HGT.out) m2.notCells)
                  rw [ht] at r7 lk6 lk7
                  replace lk6 : (Instr.lookup 99 (.map (some B2)) (.agg #[.int .i64 (b0 : Int), .int .i64 (b1 : Int), .int .i64 (b2 : Int), .int .i64 (b3 : Int)]) false).run Try.prog W6.drew = .ok (.int .i64 (ct : Int)) W6.drew := lk6
                  replace lk7 : (Instr.lookup 99 (.map (some B2)) (.agg #[.int .i64 (b0 : Int), .int .i64 (b1 : Int), .int .i64 (b2 : Int), .int .i64 (b3 : Int)]) false).run Try.prog W7 = .ok (.int .i64 (ct : Int)) W7 := lk7
                  replace r7 : (Instr.mapEntry 99 (.map (some B2)) (.agg #[.int .i64 (b0 : Int), .int .i64 (b1 : Int), .int .i64 (b2 : Int), .int .i64 (b3 : Int)])).run Try.prog W6.drew = .ok (.tuple #[.int .i64 (ct : Int), st]) W7 := r7
                  have c9 : IntKind.i64.wrap ((ct : Int) + (cm : Int)) = (ct : Int) + (cm : Int) := IntWalk.i64_in _ (by have := HTL.out; have := HSB.out; omega)
                  have q0 : W6.drew.cell? ⟨gt, 0, none⟩ = some (.int .i64 (b0 : Int)) := (blk_cell (show W6.drew.heap[gt]? = _ from HGT.out) 0).trans rfl
                  have q1 : W6.drew.cell? ⟨gt, 1, none⟩ = some (.int .i64 (b1 : Int)) := (blk_cell (show W6.drew.heap[gt]? = _ from HGT.out) 1).trans rfl
                  have q2 : W6.drew.cell? ⟨gt, 2, none⟩ = some (.int .i64 (b2 : Int)) := (blk_cell (show W6.drew.heap[gt]? = _ from HGT.out) 2).trans rfl
                  have q3 : W6.drew.cell? ⟨gt, 3, none⟩ = some (.int .i64 (b3 : Int)) := (blk_cell (show W6.drew.heap[gt]? = _ from HGT.out) 3).trans rfl
                  have p0 : W7.cell? ⟨gt, 0, none⟩ = some (.int .i64 (b0 : Int)) := (blk_cell HGT7.out 0).trans rfl
                  have p1 : W7.cell? ⟨gt, 1, none⟩ = some (.int .i64 (b1 : Int)) := (blk_cell HGT7.out 1).trans rfl
                  have p2 : W7.cell? ⟨gt, 2, none⟩ = some (.int .i64 (b2 : Int)) := (blk_cell HGT7.out 2).trans rfl
                  have p3 : W7.cell? ⟨gt, 3, none⟩ = some (.int .i64 (b3 : Int)) := (blk_cell HGT7.out 3).trans rfl
                  clear hn2 hc2 m2 hMk hct hcl m7 g7 hst m8 g8 hT ht
                  go_upto_region 20 with (fail)
                  refine start_ (n := 8) (S := fun w' => (Instr.lookup 99 (.map (some B2)) (.agg #[.int .i64 (b0 : Int), .int .i64 (b1 : Int), .int .i64 (b2 : Int), .int .i64 (b3 : Int)]) false).run Try.prog w' = .ok (.int .i64 (ct : Int)) w' ∧ w'.cell? ⟨gt, 0, none⟩ = some (.int .i64 (b0 : Int)) ∧ w'.cell? ⟨gt, 1, none⟩ = some (.int .i64 (b1 : Int)) ∧ w'.cell? ⟨gt, 2, none⟩ = some (.int .i64 (b2 : Int)) ∧ w'.cell? ⟨gt, 3, none⟩ = some (.int .i64 (b3 : Int))) (ds := [7]) #[false, false, false, false, false, false, false, false] (by kernel_rfl) rfl rfl ⟨lk6, q0, q1, q2, q3⟩ (fun hHeld => ?_)
                  refine pure_ (i := 0) (N := (some 65)) (v := ?_) (a' := ?_) #[true, false, false, false, false, false, false, false] rfl rfl (by kernel_rfl) (fun _ _ _ h => h) (Or.inl ⟨by rfl, ?_⟩) ?_ ?_
                  rotate_left
                  · intro w'
                    go_simp
                    with_reducible rfl
                  rotate_left
                  · simp only [Act.put, List.setIfInBounds_toArray, List.set_cons_zero, List.set_cons_succ, i64_w, i32_w]
                    rfl
                  refine take_ (i := 1) (N := (some 66)) (v := ?_) (a' := ?_) #[true, true, false, false, false, false, false, false] rfl rfl (by kernel_rfl) (fun _ _ _ h => h) (Or.inl ⟨by rfl, ?_⟩) hHeld ?_ ?_
                  rotate_left
                  · rintro w' ⟨s0, s1, s2, s3, s4⟩
                    go_simp
                    with_reducible rfl
                  rotate_left
                  · simp only [Act.put, List.setIfInBounds_toArray, List.set_cons_zero, List.set_cons_succ, i64_w, i32_w]
                    rfl
                  refine take_ (i := 2) (N := (some 67)) (v := ?_) (a' := ?_) #[true, true, true, false, false, false, false, false] rfl rfl (by kernel_rfl) (fun _ _ _ h => h) (Or.inl ⟨by rfl, ?_⟩) hHeld ?_ ?_
                  rotate_left
                  · rintro w' ⟨s0, s1, s2, s3, s4⟩
                    go_simp
                    with_reducible rfl
                  rotate_left
                  · simp only [Act.put, List.setIfInBounds_toArray, List.set_cons_zero, List.set_cons_succ, i64_w, i32_w]
                    rfl
                  refine pure_ (i := 3) (N := (some 68)) (v := ?_) (a' := ?_) #[true, true, true, true, false, false, false, false] rfl rfl (by kernel_rfl) (fun _ _ _ h => h) (Or.inl ⟨by rfl, ?_⟩) ?_ ?_
                  rotate_left
                  · intro w'
                    go_simp
                    with_reducible rfl
                  rotate_left
                  · simp only [Act.put, List.setIfInBounds_toArray, List.set_cons_zero, List.set_cons_succ, i64_w, i32_w]
                    rfl
                  refine pure_ (i := 4) (N := (some 69)) (v := ?_) (a' := ?_) #[true, true, true, true, true, false, false, false] rfl rfl (by kernel_rfl) (fun _ _ _ h => h) (Or.inl ⟨by rfl, ?_⟩) ?_ ?_
                  rotate_left
                  · intro w'
                    go_simp
                    with_reducible rfl
                  rotate_left
                  · simp only [Act.put, List.setIfInBounds_toArray, List.set_cons_zero, List.set_cons_succ, i64_w, i32_w]
                    rfl
                  refine one_ (i := 5) (N := (some 70)) #[true, true, true, true, true, true, false, false] rfl rfl (by kernel_rfl) (by decide) (fun K hK => ?_)
                  refine value_ (w1 := ?_) (v := ?_) (by rfl) rfl ?_ ?_
                  rotate_left 2
                  · go_simp
                    constructor
                    · rfl
                    · rfl
                  refine hK.out _ _ ⟨lk7, p0, p1, p2, p3⟩ (fun hHeld => ?_)
                  clear hK K
                  refine norm_ (a' := ?_) ?_ ?_
                  rotate_left
                  · show Act.put _ (some 70) _ = _
                    simp only [Act.put, List.setIfInBounds_toArray, List.set_cons_zero, List.set_cons_succ, i64_w, i32_w]
                    rfl
                  refine pure_ (i := 6) (N := (some 71)) (v := ?_) (a' := ?_) #[true, true, true, true, true, true, true, false] rfl rfl (by kernel_rfl) (fun _ _ _ h => h) (Or.inl ⟨by rfl, ?_⟩) ?_ ?_
                  rotate_left
                  · intro w'
                    go_simp
                    with_reducible rfl
                  rotate_left
                  · simp only [Act.put, List.setIfInBounds_toArray, List.set_cons_zero, List.set_cons_succ, i64_w, i32_w]
                    rfl
                  refine last_ (i := 7) (N := none) #[true, true, true, true, true, true, true, true] rfl rfl (by kernel_rfl) (by decide) (fun K hK => ?_)
                  refine skip_ (w1 := ?_) (by rfl) rfl ?_ ?_
                  rotate_left
                  · go_simp
                    rfl
                  refine hK.out _ _ ?_
                  clear hK K
                  refine done_ (by kernel_rfl) ?_
                  go_wp2
                  go_roundw
                  case rel => exact ⟨cc + 1, by go_num, by have := HLT2.out; omega, HGM8, ⟨HTT.out _ HF8.out⟩⟩
                  case measure => simp [intOf]; have := HLT2.out; omega
              · have hltI : ¬ ((cc : Int) < (k : Int)) := by omega
                have hce : cc = k := by omega
                subst hce
                clear hlt
                go_wp2
                go_roundw
                case rel => exact ⟨V ++ [m], _, cnt1, by rw [List.map_append, List.sum_append, HS0.out]; simp [HCM.out], HVS, ⟨by
                  have h := HF2.out
                  rw [acc_snoc, HCM.out]
                  exact h⟩⟩
                case measure =>
                  rw [HF2.out.rg.left_eq, HFR.out.rg.left_eq]
                  exact HLT1.out
      · have hltI : ¬ ((i : Int) < (n : Int) + 1) := by omega
        have hin : i = n + 1 := by omega
        subst hin
        clear hlt
        go_wp2
        go_ret2
        have hxl : xs.length = (freeL (l.map bl) k n).length := by rw [HX.out]; simp [freeL]
        have hxm : xs = (freeL (l.map bl) k n).map fun (n : Nat) => (n : Int) := by rw [HX.out]; unfold freeL; rw [List.map_map]; rfl
        refine ⟨A9, c9, by rw [← hxl]; rfl, ?_, HA.out.bel⟩
        rw [← hxl, ← hxm]
        exact HA.out.row
end Go.Proofs.Ytagdbadljcongaa.X
end

section
/- Arches, and the first word that is no subsequence. -/
set_option linter.unusedVariables false
set_option linter.unusedSimpArgs false
namespace Go.Proofs.Ytagdbadljcongaa.X
open Go.RowKit Go.Proofs.YtagdbadljcongaaW.PrintWords
/-- The greatest of f 0, .., f k. -/
def maxF (f : Nat → Nat) : Nat → Nat
  | 0 => f 0
  | k + 1 => max (maxF f k) (f (k + 1))
theorem maxF_ge (f : Nat → Nat) : ∀ (k j : Nat), j ≤ k → f j ≤ maxF f k
  | 0, j, h => by obtain rfl : j = 0 := by omega
                  exact Nat.le_refl _
  | k + 1, j, h => by
    show f j ≤ max (maxF f k) (f (k + 1))
    by_cases e : j = k + 1
    · subst e; omega
    · have := maxF_ge f k j (by omega); omega
theorem maxF_le (f : Nat → Nat) (m : Nat) : ∀ k : Nat, (∀ j, j ≤ k → f j ≤ m) → maxF f k ≤ m
  | 0, h => h 0 (Nat.le_refl _)
  | k + 1, h => by
    show max (maxF f k) (f (k + 1)) ≤ m
    have h1 := maxF_le f m k (fun j hj => h j (by omega))
    have h2 := h (k + 1) (Nat.le_refl _)
    omega
theorem maxF_mem (f : Nat → Nat) : ∀ k : Nat, ∃ j, j ≤ k ∧ maxF f k = f j
  | 0 => ⟨0, Nat.le_refl _, rfl⟩
  | k + 1 => by
    show ∃ j, j ≤ k + 1 ∧ max (maxF f k) (f (k + 1)) = f j
    obtain ⟨j, h1, h2⟩ := maxF_mem f k
    by_cases h : maxF f k ≤ f (k + 1)
    · exact ⟨k + 1, Nat.le_refl _, by omega⟩
    · exact ⟨j, by omega, by omega⟩
/-- Where the arch that begins at place i ends: the length, if there is none. -/
def amx (l : List Nat) (k i : Nat) : Nat := maxF (fun c => nx l i (97 + c)) (k - 1)
theorem amx_le {l : List Nat} {k i : Nat} (h : i ≤ l.length) : i ≤ amx l k i ∧ amx l k i ≤ l.length :=
  ⟨Nat.le_trans (nx_le l i (97 + 0) h).1 (maxF_ge (fun c => nx l i (97 + c)) (k - 1) 0 (Nat.zero_le _)), maxF_le _ _ _ (fun j _ => (nx_le l i (97 + j) h).2)⟩
/-- The ends of the arches from place i on. -/
def archF (l : List Nat) (k : Nat) : Nat → Nat → List Nat
  | 0, _ => []
  | f + 1, i => if amx l k i < l.length then amx l k i :: archF l k f (amx l k i + 1) else []
def arch (l : List Nat) (k i : Nat) : List Nat := archF l k (l.length + 1 - i) i
theorem archF_enough (l : List Nat) (k : Nat) : ∀ (f i : Nat), i ≤ l.length → l.length + 1 - i ≤ f → archF l k f i = archF l k (l.length + 1 - i) i
  | 0, i, h, hf => by omega
  | f + 1, i, h, hf => by
    have h1 := amx_le (k := k) h
    obtain ⟨g, hg⟩ : ∃ g, l.length + 1 - i = g + 1 := ⟨l.length - i, by omega⟩
    rw [hg]
    unfold archF
    split
    · rw [archF_enough l k f _ (by omega) (by omega), archF_enough l k g _ (by omega) (by omega)]
    · rfl
theorem arch_eq {l : List Nat} {k i : Nat} (h : i ≤ l.length) : arch l k i = if amx l k i < l.length then amx l k i :: arch l k (amx l k i + 1) else [] := by
  have h1 := amx_le (k := k) h
  unfold arch
  obtain ⟨g, hg⟩ : ∃ g, l.length + 1 - i = g + 1 := ⟨l.length - i, by omega⟩
  rw [hg]
  show (if amx l k i < l.length then _ else _) = _
  split
  · rw [archF_enough l k g _ (by omega) (by omega)]
  · rfl
end Go.Proofs.Ytagdbadljcongaa.X
end

section
/- slices.Max at a row of whole numbers. -/
set_option linter.unusedVariables false
set_option linter.unusedSimpArgs false
namespace Go.Proofs.Ytagdbadljcongaa.X
open Go Go.RowKit Go.Proofs.YtagdbadljcongaaW.PrintWords Go.Proofs.YtagdbadljcongaaW.PrintLast Go.Proofs.YtagdbadljcongaaW.PrintMore
set_option maxHeartbeats 2000000 in
set_option maxRecDepth 100000 in
theorem max_any (w : World) (b off k c : Nat) (f : Nat → Nat) (hk : 1 ≤ k) (hk4 : k ≤ 4) (hf : ∀ j, j < k → w.cell? ⟨b, off + j, none⟩ = some (.int .i64 (f j))) (hb : ∀ j, j < k → f j ≤ 1000000) :
    Calls Try.prog 51 #[.slice (some ⟨b, off, none⟩) k c] w fun e w' => e = .returned (.int .i64 (maxF f (k - 1) : Nat)) ∧ w = w' := by
  have HF := Aside0.mk hf
  have HB := Aside0.mk hb
  have h0 : w.cell? ⟨b, off, none⟩ = some (.int .i64 (f 0)) := hf 0 (by omega)
  have hI : ((k : Int) < 1) = False := eq_false (by omega)
  have hI2 : (0 : Int) < (k : Int) := by omega
  have hk5 : (k : Int) ≤ 4 := by omega
  clear hf hb
  go_enter Try.func51, Try.ntmps51
  go_wp2
  go_loop [3, 4] (fun v3 v4 => ∃ j : Nat, v4 = .int .i64 ((j : Int) + 1) ∧ v3 = .int .i64 (maxF f j : Nat) ∧ j < k) (fun _ v4 => k - (intOf v4).toNat)
  case atStart => exact ⟨0, rfl, rfl, by omega⟩
  case round =>
    obtain ⟨j, rfl, rfl, hj⟩ := hrel
    by_cases hlt : j + 1 < k
    · have h1 := HF.out (j + 1) hlt
      have h2 : ((j : Int) + 1) < (k : Int) := by omega
      have h3 : (0 : Int) ≤ (j : Int) + 1 := by omega
      have h4 : ((j : Int) + 1).toNat = j + 1 := by omega
      have HLT := Aside0.mk hlt
      clear hlt
      go_wp2
      go_round
      case rel => exact ⟨j + 1, by go_num, by show _ = Value.int .i64 ((max (maxF f j) (f (j + 1)) : Nat) : Int); congr 1; omega, HLT.out⟩
      case measure => simp [intOf]; have := HLT.out; omega
    · have h2 : ¬ (((j : Int) + 1) < (k : Int)) := by omega
      have e : j = k - 1 := by omega
      clear hlt hj
      go_wp2
      go_ret
      exact ⟨rfl, rfl⟩
end Go.Proofs.Ytagdbadljcongaa.X
end
