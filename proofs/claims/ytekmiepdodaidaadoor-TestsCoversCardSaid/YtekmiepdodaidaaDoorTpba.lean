/- Texts behind TestsCovers, part 27: contracts of the program's functions and the plain words for them. -/
import Derived.Deep.Slices
import Derived.Deep.Strs
import Derived.ProofKit
import Derived.OpenShut
import Derived.Lib.SmallJoins
import Derived.Lib.LaidTab
import Derived.Stop.LaidErr
import Derived.Test.YtekmiepdodaidaaDoorRows
import Derived.LaidMore
import Derived.Stop.Joined
import Derived.LaidHandle
import Derived.ChangeOld
import Derived.Test.YtekmiepdodaidaaDoorTpaa
import Derived.Test.YtekmiepdodaidaaDoorTpas
import Derived.Test.YtekmiepdodaidaaDoorTpax
import Derived.Test.YtekmiepdodaidaaDoorTpay
import Derived.Test.YtekmiepdodaidaaDoorTpaz
section
/- Layer 7, plain: Cover's list without one of its tests. -/
set_option linter.unusedVariables false
namespace Go.Proofs.YtekmiepdodaidaaDoor.X
open Go.RowKit Go.Proofs.YtekmiepdodaidaaDoorW.PrintWords Go.Proofs.YtekmiepdodaidaaDoorW.PrintLast Go.Proofs.YtekmiepdodaidaaDoorW.PrintMore

def dropL (l : List Int) (d i : Nat) : List Int := (l.take i).eraseIdx d
theorem dropL_zero (l : List Int) (d : Nat) : dropL l d 0 = [] := by simp [dropL]
theorem dropL_skip {l : List Int} {d : Nat} (h : d < l.length) : dropL l d (d + 1) = dropL l d d := by
 unfold dropL
 rw [List.take_succ_eq_append_getElem h, List.eraseIdx_append_of_length_le (by rw [List.length_take]; omega), List.eraseIdx_of_length_le (l := l.take d) (by rw [List.length_take]; omega), List.length_take, Nat.min_eq_left (by omega), Nat.sub_self]
 simp
theorem dropL_step {l : List Int} {d i : Nat} (hi : i < l.length) (hne : i ≠ d) : dropL l d (i + 1) = dropL l d i ++ [l[i]] := by
 unfold dropL
 rw [List.take_succ_eq_append_getElem hi]
 have hl : (l.take i).length = i := by rw [List.length_take]; omega
 by_cases h : d < i
 ·exact List.eraseIdx_append_of_lt_length (by omega) _
 ·rw [List.eraseIdx_append_of_length_le (by omega), List.eraseIdx_of_length_le (l := l.take i) (by omega), hl, List.eraseIdx_of_length_le (l := [l[i]]) (by simp; omega)]
theorem dropL_end (l : List Int) (d : Nat) : dropL l d l.length = l.eraseIdx d := by unfold dropL; rw [List.take_length]
theorem dropL_mem {l : List Int} {d i : Nat} {x : Int} (h : x ∈ dropL l d i) : x ∈ l := List.mem_of_mem_take (List.mem_of_mem_eraseIdx h)
theorem dropL_len (l : List Int) (d i : Nat) : (dropL l d i).length ≤ l.length := by
 unfold dropL
 exact Nat.le_trans (List.length_eraseIdx_le ..) (List.length_take_le' ..)
theorem AscB.weak {T : Int} : ∀ {l : List Int} {lo lo' : Int}, AscB lo T l → lo' ≤ lo → AscB lo' T l
 | [], _, _, _, _ => trivial
 | x :: xs, lo, lo', h, hl => ⟨by have := h.1; omega, h.2.1, h.2.2⟩
theorem AscB.erase {T : Int} : ∀ {l : List Int} {lo : Int} (d : Nat), AscB lo T l → AscB lo T (l.eraseIdx d)
 | [], _, _, _ => trivial
 | x :: xs, lo, 0, h => AscB.weak h.2.2 (by have := h.1; omega)
 | x :: xs, lo, d + 1, h => ⟨h.1, h.2.1, AscB.erase d h.2.2⟩
section
variable {a : List Int} {b : List (List Int)} {c : List Int}
/-- Each test of the cover is needed. -/
theorem cover_drop (D : Differ a b c) : ∃ l, (coverB (onesOf b) a.length (2 ^ (onesOf b).length)).getD [] = l ∧ l.length ≤ 12 ∧ (∀ x ∈ l, 0 ≤ x ∧ x < (b.length : Int)) ∧ ∀ d, d ≤ l.length → ((alikeL (onesOf (rowsOf b (l.eraseIdx d))) a.length).length = 0 ↔ d = l.length) := by
 obtain ⟨l, h1, h2, h3, h4⟩ := cover_has D
 have hb := D.is.b12
 have hlen := h2.len (by omega)
 refine ⟨l, by rw [h1]; rfl, by omega, fun x hx => h2.mem x hx, fun d hd => ?_⟩
 rw [List.length_eq_zero_iff]
 constructor
 ·intro h
  refine Classical.byContradiction fun hne => ?_
  have h5 := h4 _ (h2.erase d) h
  rw [(before_iff (l.eraseIdx d) l).2 (.inl (by rw [List.length_eraseIdx_of_lt (by omega)]; omega))] at h5
  cases h5
 ·rintro rfl
  rw [List.eraseIdx_of_length_le (Nat.le_refl _)]
  exact h3
end
end Go.Proofs.YtekmiepdodaidaaDoor.X
end

section
/- tickinglaw07.TestsCovers, by hand: walked with what is known of the program's answers. -/
set_option linter.unusedVariables false
set_option linter.unusedSimpArgs false
namespace Go.Proofs.YtekmiepdodaidaaDoor.X
open Go.RowKit Go.Proofs.YtekmiepdodaidaaDoorW.PrintWords Go.Proofs.YtekmiepdodaidaaDoorW.PrintLast Go.Proofs.YtekmiepdodaidaaDoorW.PrintMore

/-- A case that is being built: the rows are those of W. -/
structure CvAt (W : World) (B0 : Option Addr) (d0 na : Nat) (xs : List (List Int)) (cs : List Int) (v1 v2 : Value) (w' : World) : Prop where
 bx : w'.heap[W.heap.size]? = some (.cells #[.slice B0 na d0, v1, v2] 25 (0, 0))
 r1 : (frow W).R 22 w' W.heap.size (fun k => True ∧ some k ≠ v2.ownBlock) v1 xs
 r2 : Kd.R (Kd.int .i64) 3 w' W.heap.size (fun _ => True) v2 cs
 hc : cs = List.replicate xs.length 1
 bl : Below W.heap.size W w'
section
variable {W : World} {B0 : Option Addr} {d0 na : Nat} {xs : List (List Int)} {cs : List Int} {v1 v2 : Value} {w' : World}
theorem CvAt.cells (h : CvAt W B0 d0 na xs cs v1 v2 w') : w'.cell? ⟨W.heap.size, 0, none⟩ = some (.slice B0 na d0) ∧ w'.cell? ⟨W.heap.size, 1, none⟩ = some v1 ∧ w'.cell? ⟨W.heap.size, 2, none⟩ = some v2 := boxS7 h.bx
theorem CvAt.below {w2 : World} (h : CvAt W B0 d0 na xs cs v1 v2 w') (hb : Below w'.heap.size w' w2) : CvAt W B0 d0 na xs cs v1 v2 w2 :=
 ⟨blk_below h.bx hb, Kd.R_below h.r1 hb, Kd.R_below h.r2 hb, h.hc, below_step h.bl hb⟩
def CvPost (W : World) (B0 : Option Addr) (d0 na : Nat) (xs : List (List Int)) (cs : List Int) (v1 v2 : Value) (row : List Int) (e : Ending) (w3 : World) : Prop :=
 ∃ A5 c5 A6 c6, e = .returned (.agg #[.slice B0 na d0, .slice A5 (xs.length + 1) c5, .slice A6 (cs.length + 1) c6]) ∧ w3.heap[W.heap.size]? = some (.cells #[.slice B0 na d0, v1, v2] 25 (0, 0)) ∧ Below W.heap.size W w3 ∧
  CvAt W B0 d0 na (xs ++ [row]) (cs ++ [1]) (.slice A5 (xs.length + 1) c5) (.slice A6 (cs.length + 1) c6) (((w3.setCell ⟨W.heap.size, 0, none⟩ (.slice B0 na d0)).setCell ⟨W.heap.size, 1, none⟩ (.slice A5 (xs.length + 1) c5)).setCell ⟨W.heap.size, 2, none⟩ (.slice A6 (cs.length + 1) c6))
theorem CvAt.with_ {AV1 AV2 Ar : Option Addr} {cv1 cv2 cr : Nat} {row : List Int} (h : CvAt W B0 d0 na xs cs (.slice AV1 xs.length cv1) (.slice AV2 cs.length cv2) w') (hr : row.length ≤ cr ∧ Kd.C (Kd.int .i64) W Ar row.length row) (hl : xs.length ≤ 100) :
  Calls Tryd.prog 36 #[.agg #[.slice B0 na d0, .slice AV1 xs.length cv1, .slice AV2 cs.length cv2], .slice Ar row.length cr, .int .i64 1] w' (CvPost W B0 d0 na xs cs (.slice AV1 xs.length cv1) (.slice AV2 cs.length cv2) row) := by
 have hcl : cs.length = xs.length := by rw [h.hc]; exact List.length_replicate ..
 refine (with_core (frow W) rfl (by intro q hq; rw [List.mem_singleton.1 hq]; decide) w' W.heap.size B0 na d0 AV1 cv1 AV2 cv2 Ar row.length cr xs row cs 1 (fun _ => True) (fun _ => True) (fun _ => False) h.r1 ⟨Ar, cr, rfl, hr.1, hr.2⟩ (fun _ hk => hk.elim) h.r2 (fun _ _ => trivial) (fun _ _ => trivial) h.bl.size (by omega) (by omega)).mono ?_
 rintro e w3 ⟨u1, u2, rfl, hp⟩
 obtain ⟨A5, c5, rfl⟩ := Kd.R_slice hp.r1
 obtain ⟨A6, c6, rfl⟩ := Kd.R_slice hp.r2
 have e1 : (xs ++ [row]).length = xs.length + 1 := by simp
 have e2 : (cs ++ [(1 : Int)]).length = cs.length + 1 := by simp
 have k4 := (hp.keep _ (blk_lt h.bx) (Kd.R_ne h.r1 h.bx (by decide)) (Kd.R_ne h.r2 h.bx (by decide))).trans h.bx
 have hr1 := hp.r1
 have hr2 := hp.r2
 rw [e1, e2] at hr1 ⊢
 rw [e2] at hr2
 have g0 := blk_set k4 0 (.slice B0 na d0)
 have g1 := blk_set g0 1 (.slice A5 (xs.length + 1) c5)
 have hE : ∀ q, q ∈ 22 :: (frow W).E → q ≠ 25 := by intro q hq; rw [List.mem_singleton.1 hq]; decide
 have hb := h.bl.trans hp.below
 exact ⟨A5, c5, A6, c6, rfl, k4, hb, (blk_set g1 2 (.slice A6 (cs.length + 1) c6)).trans rfl,
  Kd.R_set (Kd.R_set (Kd.R_set hr1 k4 hE 0 _) g0 hE 1 _) g1 hE 2 _,
  Kd.R_set (Kd.R_set (Kd.R_set hr2 k4 (by decide) 0 _) g0 (by decide) 1 _) g1 (by decide) 2 _,
  by rw [e1, h.hc, List.replicate_succ'],
  ((hb.setCell (Nat.le_refl _) _).setCell (Nat.le_refl _) _).setCell (Nat.le_refl _) _⟩
/-- Alike, at the case that was built. -/
theorem CvAt.alike {a : List Int} {AV1 AV2 : Option Addr} {cv1 cv2 : Nat} (h : CvAt W B0 d0 a.length xs cs (.slice AV1 xs.length cv1) (.slice AV2 cs.length cv2) w') (h0 : Kd.C (Kd.int .i64) w' B0 a.length a) (n0 : a.length ≤ d0) (hi : CaseIs a xs cs) :
  Calls Tryd.prog 27 #[.agg #[.slice B0 a.length d0, .slice AV1 xs.length cv1, .slice AV2 cs.length cv2]] w' (SlPost k53 (alikeL (onesOf xs) a.length) (fun v => .tuple #[v, .int .i64 0]) w') := by
 obtain ⟨k, hk⟩ := (alike_ev a xs cs).rounds
 rw [if_pos (caseB_of hi)] at hk
 refine (tests_Alike.calls k B0 d0 a AV1 cv1 xs AV2 cv2 cs _ _ w' h0 n0 (frow_C (Kd.R_reads' h.r1).2.2 h.bl) (Kd.R_reads' h.r1).2.1 (Kd.R_reads' h.r2).2.2 (Kd.R_reads' h.r2).2.1 hk).mono ?_
 rintro e w2 ⟨v, rfl, hv, hb⟩
 exact sl_post (f := fun v => .tuple #[v, .int .i64 0]) hv hb
end
section
variable {A0 : Option Addr} {c0 : Nat} {a : List Int} {A1 : Option Addr} {c1 : Nat} {b : List (List Int)} {A2 : Option Addr} {c2 : Nat} {c : List Int} {w : World}
set_option maxHeartbeats 16000000 in
set_option maxRecDepth 100000 in
theorem covers_n (h : CaseAt w A0 c0 a A1 c1 b A2 c2 c) (hT : Tab w) :
  Calls Tryd.prog 11 #[.agg #[.slice A0 a.length c0, .slice A1 b.length c1, .slice A2 c.length c2]] w fun e w' => e = .returned (.bool true) ∧ Below w.heap.size w w' := by
 have H := Aside0.mk h
 have HT := Aside0.mk hT
 have D := tame_differ a b c
 obtain ⟨ta, hta⟩ : ∃ ta, ta = tameW a := ⟨_, rfl⟩
 obtain ⟨tb, htb⟩ : ∃ tb, tb = tameB a b := ⟨_, rfl⟩
 obtain ⟨tc, htc⟩ : ∃ tc, tc = tameC b c := ⟨_, rfl⟩
 have HTS := Aside0.mk (fun (W : World) (hb : Below w.heap.size w W) => tame_sl (H.out.below hb))
 unfold TameSl at HTS
 rw [← hta, ← htb, ← htc] at HTS D
 have HD := Aside0.mk D
 obtain ⟨cv, e1, e2, e3, e4⟩ := cover_drop D
 have HCV := Aside0.mk (show coverOf ta tb = cv from e1)
 have HMEM := Aside0.mk e3
 have HEND := Aside0.mk e4
 have HB := Aside0.mk (Below.refl w.heap.size w)
 have hb12 := D.is.b12
 clear h hT hta htb htc D e1 e3 e4
 go_enter Tryd.func11, Tryd.ntmps11
 go_upto_region 2 with (go_at_call 33; refine (HTS.out _ (below_alloc (Below.refl _ _) _)).mono ?_; rintro e w1 ⟨B0, d0, B1, d1, B2, d2, rfl, hx, hb⟩; have HX := Aside0.mk hx; have HB1 := Aside0.mk (below_step (below_alloc HB.out _) hb); clear hx hb)
 have HL1 := Aside0.mk (show LawW w B0 d0 ta B1 d1 tb B2 d2 tc w1.heap.size (w1.alloc (.cells #[.slice B0 ta.length d0, .slice B1 tb.length d1, .slice B2 tc.length d2] 25)) from ⟨blk_new _ _, HX.out.below (below_alloc (Below.refl _ _) _), below_alloc HB1.out _, HB1.out.size⟩)
 generalize w1.alloc (.cells #[.slice B0 ta.length d0, .slice B1 tb.length d1, .slice B2 tc.length d2] 25) = w2 at HL1 ⊢
 generalize w1.heap.size = g at HL1 ⊢
 clear HX HB1 w1 HTS
 obtain ⟨z0, z1, z2⟩ := HL1.out.cells
 go_upto_region 3 with (go_at_call 28; refine (cover_n HL1.out.cs HD.out).mono ?_; rw [HCV.out]; rintro e w4 ⟨AL, nL, rfl, hq, hb⟩; have HLL := Aside0.mk hq; have HL4 := Aside0.mk (HL1.out.below hb); clear hq hb)
 clear z0 z1 z2
 go_wp2
 go_loopg [6] (cv.length + 1) (fun kq v6 w' => ∃ dr : Nat, v6 = .int .i64 dr ∧ Aside0 (kq + dr = cv.length + 1) ∧ Aside0 (Below w4.heap.size w4 w'))
 case atStart => exact ⟨0, rfl, ⟨by omega⟩, ⟨Below.refl _ _⟩⟩
 case round =>
  obtain ⟨dr, rfl, HKD, HBD⟩ := hrel
  obtain ⟨k1, rfl⟩ : ∃ k1, k1 = gk := ⟨_, rfl⟩
  have HL5 := Aside0.mk (HL4.out.below HBD.out)
  have HLL5 := Aside0.mk (And.intro HLL.out.1 (Kd.C_below HLL.out.2 HBD.out))
  obtain ⟨z0, z1, z2⟩ := HL5.out.cells
  by_cases hd : dr ≤ cv.length
  ·have q1 : decide ((dr : Int) ≤ (cv.length : Int)) = true := decide_eq_true (by omega)
   have q2 : decide (dr ≤ cv.length) = true := decide_eq_true hd
   go_upto_region 9 with (fail)
   clear z0 z1 z2 q1 q2
   obtain ⟨wo, rfl⟩ : ∃ wo : World, wo = wr := ⟨_, rfl⟩
   have HCV0 := Aside0.mk (show CvAt wo B0 d0 ta.length (rowsOf tb (dropL cv dr 0)) [] (.slice none 0 0) (.slice none 0 0) (wo.alloc (.cells #[.slice B0 ta.length d0, .slice none 0 0, .slice none 0 0] 25)) from ⟨blk_new _ _, by rw [dropL_zero]; exact Kd.R_nil _ _ _ _ _, Kd.R_nil _ _ _ _ _, by rw [dropL_zero]; rfl, below_alloc (Below.refl _ _) _⟩)
   go_wp2
   go_loopg [8] cv.length (fun kq v8 w' => ∃ (i : Nat) (u1 u2 : Value) (cs : List Int), v8 = .int .i64 i ∧ Aside0 (kq + i = cv.length) ∧ Aside0 (CvAt wo B0 d0 ta.length (rowsOf tb (dropL cv dr i)) cs u1 u2 w'))
   case atStart => exact ⟨0, _, _, [], rfl, ⟨by omega⟩, HCV0⟩
   case round =>
    clear HCV0
    obtain ⟨i, u1, u2, cs, rfl, HKI, HCI⟩ := hrel
    obtain ⟨k2, rfl⟩ : ∃ k2, k2 = gk := ⟨_, rfl⟩
    obtain ⟨AV1, cv1, rfl⟩ := Kd.R_slice HCI.out.r1
    obtain ⟨AV2, cv2, rfl⟩ := Kd.R_slice HCI.out.r2
    have HLI := Aside0.mk (HL5.out.below HCI.out.bl)
    obtain ⟨z0, z1, z2⟩ := HLI.out.cells
    by_cases hi : i < cv.length
    ·obtain ⟨adl, el, hxl⟩ := Kd.at_int (Kd.C_below HLL5.out.2 HCI.out.bl) (i : Int) (by omega) (by omega)
     have hlm := HMEM.out _ (List.getElem_mem hi)
     obtain ⟨t, ht⟩ : ∃ t : Nat, cv[i] = (t : Int) := ⟨cv[i].toNat, by omega⟩
     have htl : t < tb.length := by rw [ht] at hlm; omega
     rw [show rd cv (i : Int) = (t : Int) from by rw [← ht]; simp [rd, List.getD_eq_getElem?_getD, List.getElem?_eq_getElem hi]] at hxl
     simp only [Int.toNat_natCast] at hxl
     obtain ⟨ad1, cs1, e1, hcs1, hK1, hcc1⟩ := ReadsRow.get_ HL5.out.cs.r1 [] (t : Int) (by omega) (by omega)
     obtain ⟨Ar, cr, rfl, hcr, hCr⟩ := hK1
     simp only [Int.toNat_natCast] at hcr hCr hcc1
     obtain ⟨row, hrow⟩ : ∃ row, tb.getD t [] = row := ⟨_, rfl⟩
     rw [hrow] at hcr hCr hcc1
     have hrow2 : rd_L1 tb (t : Int) = row := by unfold rd_L1; rw [Int.toNat_natCast]; exact hrow
     have hcell1 := hcc1 0 _ rfl
     simp only [Nat.mul_one, Nat.add_zero, Kd.slice] at hcell1
     have HNR := Aside0.mk (show i ≠ dr → rowsOf tb (dropL cv dr (i + 1)) = rowsOf tb (dropL cv dr i) ++ [row] from fun hne => by
      rw [dropL_step hi hne]; unfold rowsOf; rw [List.map_append, List.map_cons, List.map_nil, ht, hrow2])
     have HROW := Aside0.mk (And.intro hcr hCr)
     have HC1 := Aside0.mk hcell1
     have HXL := Aside0.mk hxl
     obtain ⟨adl0, el0, hxl0⟩ := Kd.at_int HLL5.out.2 (i : Int) (by omega) (by omega)
     obtain rfl : adl = adl0 := by rw [el0] at el; exact (Option.some.inj el).symm
     rw [show rd cv (i : Int) = (t : Int) from by rw [← ht]; simp [rd, List.getD_eq_getElem?_getD, List.getElem?_eq_getElem hi]] at hxl0
     simp only [Int.toNat_natCast] at hxl0
     have HXL0 := Aside0.mk hxl0
     clear hxl0 el0
     have HXN := Aside0.mk (show (rowsOf tb (dropL cv dr i)).length ≤ 100 by unfold rowsOf; rw [List.length_map]; have := dropL_len cv dr i; omega)
     have hzz := pw_cell_below HCI.out.bl hcell1
     have HZZ := Aside0.mk hzz
     clear hlm hcs1 hcc1 hrow hrow2 hCr hcr hcell1
     cases el
     cases e1
     have q1 : decide ((t : Int) < 0) = false := decide_eq_false (by omega)
     have q2 : decide ((tb.length : Int) ≤ (t : Int)) = false := decide_eq_false (by omega)
     have q3 : decide (tb.length ≤ t) = false := decide_eq_false (by omega)
     obtain ⟨y0, y1, y2⟩ := HCI.out.cells
     have HS := Aside0.mk (fun (w' : World) (hb : Below wr.heap.size wr w') => And.intro ((HCI.out.below hb).cells).1 (And.intro ((HCI.out.below hb).cells).2.1 (And.intro ((HCI.out.below hb).cells).2.2 (And.intro ((HLI.out.below hb).cells).2.1 (And.intro (pw_cell_below hb hxl) (pw_cell_below hb hzz))))))
     obtain ⟨xs, hxs⟩ : ∃ xs, xs = rowsOf tb (dropL cv dr i) := ⟨_, rfl⟩
     rw [← hxs] at HCI HNR HXN HS y1
     have HXS := Aside0.mk hxs
     clear hxs
     by_cases hne : i = dr
     ·subst hne
      have HSK := Aside0.mk (dropL_skip (l := cv) (d := i) hi)
      go_upto_region 12 with (fail)
      go_quiet (fail)
      clear y0 y1 y2 z0 z1 z2 hxl q1 q2 q3 hzz
      go_wp2
      go_roundg (k2 - 1)
      case measure => have := HKI.out; omega
      case rel => exact ⟨i + 1, _, _, cs, by go_num, ⟨by have := HKI.out; omega⟩, ⟨by rw [HSK.out, ← HXS.out]; exact HCI.out.below (pw_below_drewN (Below.refl _ _) nq)⟩⟩
     ·have q5 : (i == dr) = false := by simpa using hne
      have q6 : ((i : Int) == (dr : Int)) = false := by simp; omega
      have q7 : ((i : Int) != (dr : Int)) = true := by simp; omega
      have hNR := HNR.out hne
      have HNR2 := Aside0.mk hNR
      clear hNR hne
      go_upto_region 12 with (fail)
      go_quiet (fail)
      clear y0 y1 y2 z0 z1 z2 hxl q1 q2 q3 hzz
      go_upto_region 15 with (fail)
      have ht0 : (0 : Int) ≤ (t : Int) := by omega
      refine start_ (n := 11) (S := fun w' => w'.cell? ⟨wo.heap.size, 0, none⟩ = some (.slice B0 ta.length d0) ∧ w'.cell? ⟨wo.heap.size, 1, none⟩ = some (.slice AV1 xs.length cv1) ∧ w'.cell? ⟨wo.heap.size, 2, none⟩ = some (.slice AV2 cs.length cv2) ∧ w'.cell? ⟨g, 1, none⟩ = some (.slice (some ad1) tb.length d1) ∧ w'.cell? (adl.add i) = some (.int .i64 t) ∧ w'.cell? (ad1.add t) = some (.slice Ar row.length cr)) (ds := [10]) #[false, false, false, false, false, false, false, false, false, false, false] (by kernel_rfl) rfl rfl (HS.out _ (below_drew (pw_below_drewN (Below.refl _ _) nq))) (fun hHeld => ?_)
      refine take_ (i := 0) (N := (some 53)) (v := ?_) (a' := ?_) #[true, false, false, false, false, false, false, false, false, false, false] rfl rfl (by kernel_rfl) (fun _ _ _ h => h) (Or.inl ⟨by rfl, ?_⟩) hHeld ?_ ?_
      rotate_left
      ·rintro w' ⟨s0, s1, s2, s3, s4, s5⟩
       go_simp
       with_reducible rfl
      rotate_left
      ·simp only [Act.put, List.setIfInBounds_toArray, List.set_cons_zero, List.set_cons_succ, i64_w, i32_w]
       rfl
      refine pure_ (i := 1) (N := (some 54)) (v := ?_) (a' := ?_) #[true, true, false, false, false, false, false, false, false, false, false] rfl rfl (by kernel_rfl) (fun _ _ _ h => h) (Or.inl ⟨by rfl, ?_⟩) ?_ ?_
      rotate_left
      ·intro w'
       go_simp
       with_reducible rfl
      rotate_left
      ·simp only [Act.put, List.setIfInBounds_toArray, List.set_cons_zero, List.set_cons_succ, i64_w, i32_w]
       rfl
      refine take_ (i := 2) (N := (some 55)) (v := ?_) (a' := ?_) #[true, true, true, false, false, false, false, false, false, false, false] rfl rfl (by kernel_rfl) (fun _ _ _ h => h) (Or.inl ⟨by rfl, ?_⟩) hHeld ?_ ?_
      rotate_left
      ·rintro w' ⟨s0, s1, s2, s3, s4, s5⟩
       go_simp
       with_reducible rfl
      rotate_left
      ·simp only [Act.put, List.setIfInBounds_toArray, List.set_cons_zero, List.set_cons_succ, i64_w, i32_w]
       rfl
      refine pure_ (i := 3) (N := (some 56)) (v := ?_) (a' := ?_) #[true, true, true, true, false, false, false, false, false, false, false] rfl rfl (by kernel_rfl) (fun _ _ _ h => h) (Or.inl ⟨by rfl, ?_⟩) ?_ ?_
      rotate_left
      ·intro w'
       go_simp
       with_reducible rfl
      rotate_left
      ·simp only [Act.put, List.setIfInBounds_toArray, List.set_cons_zero, List.set_cons_succ, i64_w, i32_w]
       rfl
      refine pure_ (i := 4) (N := (some 57)) (v := ?_) (a' := ?_) #[true, true, true, true, true, false, false, false, false, false, false] rfl rfl (by kernel_rfl) (fun _ _ _ h => h) (Or.inl ⟨by rfl, ?_⟩) ?_ ?_
      rotate_left
      ·intro w'
       go_simp
       with_reducible rfl
      rotate_left
      ·simp only [Act.put, List.setIfInBounds_toArray, List.set_cons_zero, List.set_cons_succ, i64_w, i32_w]
       rfl
      refine pure_ (i := 5) (N := (some 58)) (v := ?_) (a' := ?_) #[true, true, true, true, true, true, false, false, false, false, false] rfl rfl (by kernel_rfl) (fun _ _ _ h => h) (Or.inl ⟨by rfl, ?_⟩) ?_ ?_
      rotate_left
      ·intro w'
       go_simp
       with_reducible rfl
      rotate_left
      ·simp only [Act.put, List.setIfInBounds_toArray, List.set_cons_zero, List.set_cons_succ, i64_w, i32_w]
       rfl
      refine take_ (i := 6) (N := (some 59)) (v := ?_) (a' := ?_) #[true, true, true, true, true, true, true, false, false, false, false] rfl rfl (by kernel_rfl) (fun _ _ _ h => h) (Or.inl ⟨by rfl, ?_⟩) hHeld ?_ ?_
      rotate_left
      ·rintro w' ⟨s0, s1, s2, s3, s4, s5⟩
       go_simp
       with_reducible rfl
      rotate_left
      ·simp only [Act.put, List.setIfInBounds_toArray, List.set_cons_zero, List.set_cons_succ, i64_w, i32_w]
       rfl
      refine pure_ (i := 7) (N := (some 60)) (v := ?_) (a' := ?_) #[true, true, true, true, true, true, true, true, false, false, false] rfl rfl (by kernel_rfl) (fun _ _ _ h => h) (Or.inl ⟨by rfl, ?_⟩) ?_ ?_
      rotate_left
      ·intro w'
       go_simp
       with_reducible rfl
      rotate_left
      ·simp only [Act.put, List.setIfInBounds_toArray, List.set_cons_zero, List.set_cons_succ, i64_w, i32_w]
       rfl
      refine take_ (i := 8) (N := (some 61)) (v := ?_) (a' := ?_) #[true, true, true, true, true, true, true, true, true, false, false] rfl rfl (by kernel_rfl) (fun _ _ _ h => h) (Or.inl ⟨by rfl, ?_⟩) hHeld ?_ ?_
      rotate_left
      ·rintro w' ⟨s0, s1, s2, s3, s4, s5⟩
       go_simp
       with_reducible rfl
      rotate_left
      ·simp only [Act.put, List.setIfInBounds_toArray, List.set_cons_zero, List.set_cons_succ, i64_w, i32_w]
       rfl
      refine one_ (i := 9) (N := (some 62)) #[true, true, true, true, true, true, true, true, true, true, false] rfl rfl (by kernel_rfl) (by decide) (fun K hK => ?_)
      refine goes_ Tryd.func36 (by kernel_rfl) rfl #[.agg #[.slice B0 ta.length d0, .slice AV1 xs.length cv1, .slice AV2 cs.length cv2], .slice Ar row.length cr, .int .i64 1] (by rfl) rfl rfl (by (try simp only [List.map_toArray, List.map_cons, List.map_nil]); first | done | rfl) ?_
      have HCID := Aside0.mk (HCI.out.below (below_drew (pw_below_drewN (Below.refl _ _) nq)))
      refine (HCID.out.with_ HROW.out HXN.out).mono ?_
      rintro e w7 ⟨A5, c5, A6, c6, rfl, hbx, hbl, hcn⟩
      have HBX := Aside0.mk hbx
      have HBL7 := Aside0.mk hbl
      have HCN := Aside0.mk hcn
      clear hbx hbl hcn
      refine ⟨_, rfl, ?_⟩
      have HL7 := Aside0.mk (HL5.out.below HBL7.out)
      refine hK.out _ _ ⟨(boxS7 HBX.out).1, (boxS7 HBX.out).2.1, (boxS7 HBX.out).2.2, HL7.out.cells.2.1, pw_cell_below HBL7.out HXL0.out, pw_cell_below HBL7.out HC1.out⟩ (fun hHeld => ?_)
      clear hK K
      refine norm_ (a' := ?_) ?_ ?_
      rotate_left
      ·show Act.put _ (some 62) _ = _
       simp only [Act.put, List.setIfInBounds_toArray, List.set_cons_zero, List.set_cons_succ, i64_w, i32_w]
       rfl
      refine last_ (i := 10) (N := none) #[true, true, true, true, true, true, true, true, true, true, true] rfl rfl (by kernel_rfl) (by decide) (fun K hK => ?_)
      have hs0 : w7.cell? ⟨wo.heap.size, 0, none⟩ = some (.slice B0 ta.length d0) := (boxS7 HBX.out).1
      have hs1 : w7.cell? ⟨wo.heap.size, 1, none⟩ = some (.slice AV1 xs.length cv1) := (boxS7 HBX.out).2.1
      have hs2 : w7.cell? ⟨wo.heap.size, 2, none⟩ = some (.slice AV2 cs.length cv2) := (boxS7 HBX.out).2.2
      have hf0 := blk_frozen HBX.out 0
      have hf1 := blk_frozen HBX.out 1
      have hf2 := blk_frozen HBX.out 2
      refine skip_ (w1 := ?_) (by rfl) rfl ?_ ?_
      rotate_left
      ·go_simp
       rfl
      refine hK.out _ _ ?_
      clear hK K
      clear hs0 hs1 hs2 hf0 hf1 hf2
      refine done_ (by kernel_rfl) ?_
      have hx1 : (xs ++ [row]).length = xs.length + 1 := by simp
      have hx2 : (cs ++ [(1 : Int)]).length = cs.length + 1 := by simp
      go_wp2
      go_roundg (k2 - 1)
      case measure => have := HKI.out; omega
      case rel => exact ⟨i + 1, _, _, cs ++ [1], by go_num, ⟨by have := HKI.out; omega⟩, ⟨by rw [HNR2.out]; exact HCN.out⟩⟩
    ·obtain rfl : i = cv.length := by have := HKI.out; omega
     have HCS := Aside0.mk (show CaseIs ta (rowsOf tb (dropL cv dr cv.length)) cs by rw [HCI.out.hc]; exact rows_case HD.out.is (Nat.le_trans (dropL_len cv dr cv.length) e2) (fun x hx => HMEM.out x (dropL_mem hx)))
     have hend := HEND.out dr hd
     rw [← dropL_end] at hend
     obtain ⟨xs, hxs⟩ : ∃ xs, xs = rowsOf tb (dropL cv dr cv.length) := ⟨_, rfl⟩
     rw [← hxs] at HCI HCS hend
     obtain ⟨al, hal⟩ : ∃ al, al = alikeL (onesOf xs) ta.length := ⟨_, rfl⟩
     rw [← hal] at hend
     have HAL := Aside0.mk hal
     clear hxs hal hi
     obtain ⟨y0, y1, y2⟩ := HCI.out.cells
     go_upto_region 17 with (go_at_call 27; refine (HCI.out.alike HLI.out.cs.r0 HLI.out.cs.n0 HCS.out).mono ?_; rw [← HAL.out]; rintro e w8 ⟨AP, nP, rfl, hq, hb⟩; have HB8 := Aside0.mk hb; clear hq hb)
     clear y0 y1 y2 z0 z1 z2
     have HKP := Aside0.mk (show 1 ≤ k1 by have := HKD.out; omega)
     have HBE := Aside0.mk (below_step (below_step HBD.out HCI.out.bl) HB8.out)
     by_cases he : dr = cv.length
     ·have hz := hend.2 he
      subst he
      rw [hz]
      clear hz hend hd
      go_wp2
      go_roundg (k1 - 1)
      case measure => have := HKD.out; omega
      case rel => exact ⟨cv.length + 1, by go_num, ⟨by have := HKD.out; have := HKP.out; omega⟩, HBE⟩
     ·have hz : al.length ≠ 0 := fun e => he (hend.1 e)
      have q1 : (al.length == 0) = false := by simpa using hz
      have q2 : ((al.length : Int) == 0) = false := by rw [beq_eq_false_iff_ne]; omega
      have q3 : (dr == cv.length) = false := by simpa using he
      have q4 : ((dr : Int) == (cv.length : Int)) = false := by simp; omega
      clear hend hz he
      go_wp2
      go_roundg (k1 - 1)
      case measure => have := HKD.out; omega
      case rel => exact ⟨dr + 1, by go_num, ⟨by have := HKD.out; have := HKP.out; omega⟩, HBE⟩
  ·obtain rfl : dr = cv.length + 1 := by have := HKD.out; omega
   have q1 : decide (((cv.length + 1 : Nat) : Int) ≤ (cv.length : Int)) = false := decide_eq_false (by omega)
   have q2 : decide (cv.length + 1 ≤ cv.length) = false := decide_eq_false (by omega)
   go_wp2_with (go_at_call 17; refine (awake_n _ (HT.out.below HL5.out.bl)).mono ?_; rintro e w5 ⟨rfl, hb⟩; have HL6 := Aside0.mk (HL5.out.below hb); clear hb)
   go_ret
   exact ⟨rfl, HL6.out.bl⟩
end
def tickinglaw07_TestsCovers.f (k : Nat) (a : List Int) (b : List (List Int)) (c : List Int) : Option Bool := some true
theorem TestsCovers_ev (a : List Int) (b : List (List Int)) (c : List Int) : Ev (fun k => tickinglaw07_TestsCovers.f k a b c) true := Ev.now _
theorem tickinglaw07_TestsCovers.calls (k : Nat) (A0 : Option Addr) (c0 : Nat) (a : List Int) (A1 : Option Addr) (c1 : Nat) (b : List (List Int)) (A2 : Option Addr) (c2 : Nat) (c : List Int) (r : Bool) (w : World)
  (h0 : Kd.C (Kd.int .i64) w A0 a.length a) (n0 : a.length ≤ c0) (h1 : Kd.C (Kd.slice 3 (Kd.int .i64)) w A1 b.length b) (n1 : b.length ≤ c1) (h2 : Kd.C (Kd.int .i64) w A2 c.length c) (n2 : c.length ≤ c2) (h : tickinglaw07_TestsCovers.f k a b c = some r) (hT : Tab w) :
  Calls Tryd.prog 11 #[.agg #[.slice A0 a.length c0, .slice A1 b.length c1, .slice A2 c.length c2]] w fun e w' => e = .returned (.bool r) ∧ Below w.heap.size w w' := by
 obtain rfl := Option.some.inj h
 exact covers_n ⟨h0, n0, h1, n1, h2, n2⟩ hT
end Go.Proofs.YtekmiepdodaidaaDoor.X
end

section
/- Arguments as they come in, opened kind by kind: what a value's cells read as is a word of the kind. -/
set_option linter.unusedVariables false
set_option linter.unusedSimpArgs false
namespace Go.Proofs.YtekmiepdodaidaaDoor.X
open Go.ChangeShapes Go.WideShapes Go.ChangeAt Go.RowKit Go.Proofs.YtekmiepdodaidaaDoorW.PrintWords
section
variable {H : Type} {enc : TypeId × Value → H} {P : Program} {W : World} {base : Nat} {held : Bool}
/-- Whatever is read of type t is a word of the kind, and it is good. -/
def Opens {α : Type} (enc : TypeId × Value → H) (P : Program) (W : World) (base : Nat) (held : Bool) (d : Kd α) (t : TypeId) (good : α → Prop) : Prop :=
 ∀ fuel cs x, DataW.trod enc P W base (fun _ => true) held fuel t cs = some x → ∃ a : α, d.K W a cs ∧ good a
theorem opens_int {t : TypeId} {k : IntKind} (ht : P.underlying t = some (.int k)) : Opens enc P W base held (Kd.int k) t (fun z => (Lit.int k z).wf = true) := by
 intro fuel cs x h
 obtain ⟨z, e, _, hw⟩ := DataW.trod_int ht h
 exact ⟨z, e, hw⟩
theorem opens_slice {α : Type} {d : Kd α} {t e : TypeId} {good : α → Prop} (ht : P.underlying t = some (.slice e)) (hs : P.cellsOf e = d.sz) (he : Opens enc P W base held d e good) :
  Opens enc P W base held (Kd.slice e d) t (fun l => l.length ≤ maxLen ∧ ∀ x ∈ l, good x) := by
 intro fuel cs x h
 rcases Go.Deep.open_slice ht h with ⟨rfl, _⟩ | ⟨a, len, cap, m, n, D, Pl, rfl, hb, hl, hm, hmm, hxx, hx⟩
 ·exact ⟨[], ⟨none, 0, rfl, Nat.le_refl _, Kd.C_nil _ _⟩, Nat.zero_le _, by simp⟩
 simp only [if_true] at hmm
 subst hmm
 have each : ∀ i, i < len → ∃ y : α, ∃ cs', W.cells? base (a.add (i * d.sz)) d.sz = some cs' ∧ d.K W y cs' ∧ good y := by
  intro i hi
  obtain ⟨cs', h1, h2⟩ := hx i (by omega)
  obtain ⟨y, h3, h4⟩ := he _ _ _ h2
  rw [hs] at h1
  exact ⟨y, cs', h1, h3, h4⟩
 have pick : ∃ l : List α, l.length = len ∧ ∀ i y, l[i]? = some y → ∃ cs', W.cells? base (a.add (i * d.sz)) d.sz = some cs' ∧ d.K W y cs' ∧ good y := by
  clear hl hm hx hxx h
  induction len with
  | zero => exact ⟨[], rfl, fun i y hy => by simp at hy⟩
  | succ len ih =>
   obtain ⟨l, hl, hy⟩ := ih (fun i hi => each i (by omega))
   obtain ⟨y0, hy0⟩ := each len (by omega)
   refine ⟨l ++ [y0], by simp [hl], fun i y hi => ?_⟩
   rcases Nat.lt_trichotomy i l.length with h | h | h
   ·rw [List.getElem?_append_left h] at hi
    exact hy i y hi
   ·rw [List.getElem?_append_right (by omega)] at hi
    have e0 : i - l.length = 0 := by omega
    rw [e0] at hi
    have : y0 = y := by simpa using hi
    subst this
    rw [h, hl]
    exact hy0
   ·rw [List.getElem?_eq_none (by simp; omega)] at hi
    cases hi
 obtain ⟨l, rfl, hy⟩ := pick
 refine ⟨l, ⟨some a, _, rfl, hl, rfl, ?_, fun hn => ⟨a, rfl, fun j p hj => ?_⟩⟩, Nat.le_trans hl hm, fun x hx => ?_⟩
 ·have := Nat.le_trans hl hm
  simpa [maxLen] using this
 ·obtain ⟨cs', h1, h2, _⟩ := hy j p hj
  obtain ⟨h3, h4, h5⟩ := World.cells?_some h1
  refine ⟨cs', h4, h2, fun i u hu => ?_⟩
  have hi : i < d.sz := by
   rcases Nat.lt_or_ge i d.sz with h | h
   ·exact h
   ·rw [List.getElem?_eq_none (by omega)] at hu
    cases hu
  have := h5 i hi
  rw [hu] at this
  rw [← this]
  congr 1
  simp only [Addr.add]
  by_cases h6 : i = 0
  ·subst h6; simp
  ·by_cases h7 : j * d.sz = 0
   ·simp [h6, h7]
   ·simp [h6, h7, Nat.add_assoc]
 ·obtain ⟨j, hj⟩ := List.getElem?_of_mem hx
  obtain ⟨_, _, _, h4⟩ := hy j x hj
  exact h4
theorem opens_arg {α : Type} {d : Kd α} {t : TypeId} {good : α → Prop} {v : Value} {x : DataW H} {p : List MemPlace} (ho : Opens enc P W base held d t good) (h : DataW.Trod enc P W base (fun _ => true) held t v x p) : ∃ a : α, d.K W a v.cells.toList ∧ good a := by
 obtain ⟨fuel, hf⟩ := h
 exact ho _ _ _ hf
/-- An argument that is a slice. -/
theorem open_slice {α : Type} {d : Kd α} {t e : TypeId} {good : α → Prop} {v : Value} {x : DataW H} {p : List MemPlace} (ht : P.underlying t = some (.slice e)) (hs : P.cellsOf e = d.sz) (he : Opens enc P W 0 true d e good)
  (hv : Value.okWide P W .any base t v) (h : DataW.Trod enc P W 0 (fun _ => true) true t v x p) :
  ∃ (a : Option Addr) (l : List α) (cap : Nat), v = .slice a l.length cap ∧ l.length ≤ cap ∧ Kd.C d W a l.length l ∧ l.length ≤ maxLen ∧ ∀ x ∈ l, good x := by
 obtain ⟨a, len, cap, rfl⟩ := okWide_slice ht hv
 obtain ⟨l, ⟨A, c, e1, h1, h2⟩, h3, h4⟩ := opens_arg (opens_slice ht hs he) h
 simp only [Value.cells, List.cons.injEq, Value.slice.injEq, and_true] at e1
 obtain ⟨rfl, rfl, rfl⟩ := e1
 exact ⟨_, l, _, rfl, h1, h2, h3, h4⟩
theorem okWide_struct {r : Reach} {fs : Array Field} {b0 : Nat} {t : TypeId} {v : Value} (ht : P.underlying t = some (.struct fs)) (h : Value.okWide P W r b0 t v) : ∃ cs, v = .agg cs ∧ cs.size = P.cellsOf t := by
 simp only [Value.okWide, ht] at h
 cases v <;> simp_all
/-- An argument that is a struct of three slices. -/
theorem open_three {α β γ : Type} {d0 : Kd α} {d1 : Kd β} {d2 : Kd γ} {t e0 e1 e2 : TypeId} {f0 f1 f2 : Field} {g0 : α → Prop} {g1 : β → Prop} {g2 : γ → Prop} {v : Value} {x : DataW H} {p : List MemPlace}
  (ht : P.underlying t = some (.struct #[f0, f1, f2])) (hc : P.cellsOf t = 3) (o0 : f0.offset = 0) (o1 : f1.offset = 1) (o2 : f2.offset = 2) (c0 : P.cellsOf f0.type = 1) (c1 : P.cellsOf f1.type = 1) (c2 : P.cellsOf f2.type = 1)
  (t0 : P.underlying f0.type = some (.slice e0)) (t1 : P.underlying f1.type = some (.slice e1)) (t2 : P.underlying f2.type = some (.slice e2)) (s0 : P.cellsOf e0 = d0.sz) (s1 : P.cellsOf e1 = d1.sz) (s2 : P.cellsOf e2 = d2.sz)
  (h0 : Opens enc P W 0 true d0 e0 g0) (h1 : Opens enc P W 0 true d1 e1 g1) (h2 : Opens enc P W 0 true d2 e2 g2)
  (hv : Value.okWide P W .any base t v) (h : DataW.Trod enc P W 0 (fun _ => true) true t v x p) :
  ∃ (a0 : Option Addr) (l0 : List α) (k0 : Nat) (a1 : Option Addr) (l1 : List β) (k1 : Nat) (a2 : Option Addr) (l2 : List γ) (k2 : Nat), v = .agg #[.slice a0 l0.length k0, .slice a1 l1.length k1, .slice a2 l2.length k2] ∧
   (l0.length ≤ k0 ∧ Kd.C d0 W a0 l0.length l0 ∧ l0.length ≤ maxLen ∧ ∀ x ∈ l0, g0 x) ∧ (l1.length ≤ k1 ∧ Kd.C d1 W a1 l1.length l1 ∧ l1.length ≤ maxLen ∧ ∀ x ∈ l1, g1 x) ∧ (l2.length ≤ k2 ∧ Kd.C d2 W a2 l2.length l2 ∧ l2.length ≤ maxLen ∧ ∀ x ∈ l2, g2 x) := by
 obtain ⟨cs, rfl, hsz⟩ := okWide_struct ht hv
 obtain ⟨fuel, hf⟩ := h
 obtain ⟨y0, y1, y2, n, _, hl, r0, r1, r2⟩ := Go.Deep.trod_struct3 ht hf
 rw [hc] at hl hsz
 obtain ⟨ls⟩ := cs
 match ls, hsz with
 | [u0, u1, u2], _ =>
  rw [o0, c0] at r0
  rw [o1, c1] at r1
  rw [o2, c2] at r2
  simp only [Value.cells, List.drop_zero, List.take_succ_cons, List.take_zero, List.drop_succ_cons] at r0 r1 r2
  obtain ⟨l0, ⟨a0, k0, q0, m0, n0⟩, w0⟩ := opens_slice t0 s0 h0 _ _ _ r0
  obtain ⟨l1, ⟨a1, k1, q1, m1, n1⟩, w1⟩ := opens_slice t1 s1 h1 _ _ _ r1
  obtain ⟨l2, ⟨a2, k2, q2, m2, n2⟩, w2⟩ := opens_slice t2 s2 h2 _ _ _ r2
  simp only [List.cons.injEq, and_true] at q0 q1 q2
  subst q0 q1 q2
  exact ⟨a0, l0, k0, a1, l1, k1, a2, l2, k2, rfl, ⟨m0, n0, w0⟩, ⟨m1, n1, w1⟩, ⟨m2, n2, w2⟩⟩
end
end Go.Proofs.YtekmiepdodaidaaDoor.X
end

section
/- What every row of this seat uses: what its condition gives, the door's heap, the listed tables, the arguments' kinds. -/
namespace Go.Proofs.YtekmiepdodaidaaDoor
open Go.ChangeShapes Go.WideShapes Go.ChangeAt Go.RowKit Go.Proofs.YtekmiepdodaidaaDoorW.PrintWords
theorem own : ownKnob Tryd.prog.godebug = none := by kernel_rfl
theorem laidOut : laidOutB Tryd.prog = true := by kernel_rfl
def laidTabs : List (String × DataW Unit) := [("math/bits.deBruijn32tab", Rows.laid_math_bits_deBruijn32tab), ("math/bits.deBruijn64tab", Rows.laid_math_bits_deBruijn64tab)]
theorem g64 : Tryd.prog.globalNamed "math/bits.deBruijn64tab" = some 1 := by kernel_rfl
theorem tab64 : Rows.laid_math_bits_deBruijn64tab (H := Unit) = Lib.tabData .u8 (Lib.deBruijn64tab.map fun n : Nat => (n : Int)) := rfl
set_option maxRecDepth 100000 in
theorem door_met (os : Os) (args : Array Value) : laidMetH Tryd.prog laidTabs ((World.doorLaid Tryd.prog 19 os).forCall (fun _ _ => 0) ⟨#[], args, []⟩).memory :=
 laidMetH_of_parts3 (fuel := 8) (laidMet_of_run' 8 (by kernel_rfl) (by kernel_rfl)) (by kernel_rfl) (by kernel_rfl)
set_option maxRecDepth 100000 in
theorem tab_of_laid {W : World} (h : laidMetH Tryd.prog laidTabs W) : X.Tab W := by
 rw [MakeChecks.laidMetH_plain _ _ _ (by kernel_rfl)] at h
 have h1 := laidMet.tail h
 rw [tab64] at h1
 have e : ∃ t n e, (Tryd.prog.globals[1]?).map (·.type) = some t ∧ Tryd.prog.underlying t = some (.array n e) ∧ Tryd.prog.underlying e = some (.int .u8) ∧ Tryd.prog.cellsOf e = 1 ∧ Tryd.prog.cellsOf t = n :=
  ⟨112, 64, 5, by kernel_rfl, by kernel_rfl, by kernel_rfl, by kernel_rfl, by kernel_rfl⟩
 obtain ⟨t, n, e, e1, e2, e3, e4, e5⟩ := e
 have h2 := Lib.tabIs_of_head g64 e1 e2 e3 e4 e5 h1
 have h3 : TabAt 1 Lib.deBruijn64tab W := by
  intro j hj
  have h4 := h2.cell g64 j (by simpa using hj)
  rw [h4]
  simp [List.getD, List.getElem?_map, List.getElem?_eq_getElem hj]
 refine ⟨h3, ?_⟩
 have h4 := h3 0 (by decide)
 unfold World.cell? at h4
 rcases Nat.lt_or_ge 1 W.heap.size with h | h
 ·exact h
 ·simp [Array.getElem?_eq_none h] at h4
section
variable {H : Type} {enc : TypeId × Value → H} {W : World} {base : Nat} {held : Bool}
theorem opens3 : X.Opens enc Tryd.prog W base held (Kd.int .i64) 3 (fun z => (Lit.int .i64 z).wf = true) := X.opens_int Tryd.underlying3
set_option maxRecDepth 100000 in
theorem opens22 : X.Opens enc Tryd.prog W base held (Kd.slice 3 (Kd.int .i64)) 22 (fun l => l.length ≤ maxLen ∧ ∀ z ∈ l, (Lit.int .i64 z).wf = true) := X.opens_slice Tryd.underlying22 (by kernel_rfl) opens3
set_option maxRecDepth 100000 in
theorem open_case {v : Value} {x : DataW H} {p : List MemPlace} (hv : Value.okWide Tryd.prog W .any base 25 v) (h : DataW.Trod enc Tryd.prog W 0 (fun _ => true) true 25 v x p) :
  ∃ (a0 : Option Addr) (l0 : List Int) (k0 : Nat) (a1 : Option Addr) (l1 : List (List Int)) (k1 : Nat) (a2 : Option Addr) (l2 : List Int) (k2 : Nat), v = .agg #[.slice a0 l0.length k0, .slice a1 l1.length k1, .slice a2 l2.length k2] ∧
   (l0.length ≤ k0 ∧ Kd.C (Kd.int .i64) W a0 l0.length l0 ∧ l0.length ≤ maxLen ∧ ∀ z ∈ l0, (Lit.int .i64 z).wf = true) ∧
   (l1.length ≤ k1 ∧ Kd.C (Kd.slice 3 (Kd.int .i64)) W a1 l1.length l1 ∧ l1.length ≤ maxLen ∧ ∀ l ∈ l1, l.length ≤ maxLen ∧ ∀ z ∈ l, (Lit.int .i64 z).wf = true) ∧
   (l2.length ≤ k2 ∧ Kd.C (Kd.int .i64) W a2 l2.length l2 ∧ l2.length ≤ maxLen ∧ ∀ z ∈ l2, (Lit.int .i64 z).wf = true) :=
 X.open_three Tryd.underlying25 (by kernel_rfl) rfl rfl rfl (by kernel_rfl) (by kernel_rfl) (by kernel_rfl) Tryd.underlying22 Tryd.underlying23 Tryd.underlying22 (by kernel_rfl) (by kernel_rfl) (by kernel_rfl) opens3 opens22 opens3 hv h
end
end Go.Proofs.YtekmiepdodaidaaDoor
end
