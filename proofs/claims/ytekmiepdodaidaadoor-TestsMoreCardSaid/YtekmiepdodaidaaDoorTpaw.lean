/- Texts behind TestsMore, part 23: contracts of the program's functions and the plain words for them. -/
import Derived.Test.YtekmiepdodaidaaDoorTpas
import Derived.Test.YtekmiepdodaidaaDoorTpat
import Derived.Test.YtekmiepdodaidaaDoorTpav
section
/- (trial).best's closure find, by hand: the step, with the measure of function 41. -/
set_option linter.unusedVariables false
set_option linter.unusedSimpArgs false
namespace Go.Proofs.YtekmiepdodaidaaDoor.X
open Go.RowKit Go.Proofs.YtekmiepdodaidaaDoorW.PrintWords Go.Proofs.YtekmiepdodaidaaDoorW.PrintLast Go.Proofs.YtekmiepdodaidaaDoorW.PrintMore

/-- What is asked of the measure. -/
def MOk41 (E : FEnv) (mf : Int → Int → Int → Int → Int) : Prop :=
 ∀ (W : World) (k : Nat) (s z o : Int), Below E.W0.heap.size E.W0 W → k < E.l3.length → SetB s → Calls Tryd.prog 41 #[.agg #[.slice E.A0 E.l0.length E.c0, .slice E.A1 E.l1.length E.c1, .slice E.A2 E.l2.length E.c2, .slice E.A3 E.l3.length E.c3, .int .u64 E.al], .int .i64 k, .int .u64 s, .int .i64 z, .int .i64 o] W fun e w' => e = .returned (.int .i64 (mf k s z o)) ∧ Below W.heap.size W w'
theorem fs_mk41 {E : FEnv} {ch : Int → Int × Int} {g : KMap} {w' : World} (h : FW E ch w' g) (hM : E.M = 41) :
  w'.cell? ⟨E.gm, 0, none⟩ = some (.func (.func 41) #[] #[]) ∧ w'.cell? ⟨E.gf, 0, none⟩ = some (.func (.func 72) #[] #[.pointer (some ⟨E.go, 0, none⟩), .pointer (some ⟨E.gt, 0, none⟩), .pointer (some ⟨E.gm, 0, none⟩), .pointer (some ⟨E.gf, 0, none⟩)]) ∧ w'.cell? ⟨E.gt, 0, none⟩ = some (.slice E.A0 E.l0.length E.c0) ∧ w'.cell? ⟨E.gt, 1, none⟩ = some (.slice E.A1 E.l1.length E.c1) ∧ w'.cell? ⟨E.gt, 2, none⟩ = some (.slice E.A2 E.l2.length E.c2) ∧ w'.cell? ⟨E.gt, 3, none⟩ = some (.slice E.A3 E.l3.length E.c3) ∧ w'.cell? ⟨E.gt, 4, none⟩ = some (.int .u64 E.al) := by
 obtain ⟨h1, h2, h3, h4, h5, h6, h7, h8⟩ := h.cells
 rw [hM] at h2
 exact ⟨h2, h3, h4, h5, h6, h7, h8⟩
set_option maxHeartbeats 8000000 in
set_option maxRecDepth 100000 in
theorem find_step41 (E : FEnv) (ch : Int → Int × Int) (mf : Int → Int → Int → Int → Int) (hE : FOk E) (hM : MOk41 E mf) (hMn : E.M = 41) (s : Int) (hs : SetB s) (hs1 : 1 ≤ s) (hp : pcount s ≠ 1) (hch : ch s = chsStep mf E.l3 ch s) (W : World) (f : KMap) (h : FW E ch W f) (hm : (f (ky s)).isSome = false)
  (ih : ∀ u, SetB u → 1 ≤ u → u < s → ∀ W f, FW E ch W f → Calls Tryd.prog 72 #[.int .u64 u, .pointer (some ⟨E.go, 0, none⟩), .pointer (some ⟨E.gt, 0, none⟩), .pointer (some ⟨E.gm, 0, none⟩), .pointer (some ⟨E.gf, 0, none⟩)] W (FPost E ch W f u)) :
  Calls Tryd.prog 72 #[.int .u64 s, .pointer (some ⟨E.go, 0, none⟩), .pointer (some ⟨E.gt, 0, none⟩), .pointer (some ⟨E.gm, 0, none⟩), .pointer (some ⟨E.gf, 0, none⟩)] W (FPost E ch W f s) := by
 have HW := Aside0.mk h
 have HE := Aside0.mk hE
 have HS := Aside0.mk hs
 have HS1 := Aside0.mk hs1
 have HP := Aside0.mk hp
 have HNM := Aside0.mk hm
 have HCH := Aside0.mk hch
 have hM' := hM
 unfold MOk41 at hM'
 have HMM := Aside0.mk hM'
 clear hM'
 have IH := Aside0.mk ih
 have c1 : (pcount s == 1) = false := by simp [hp]
 have hv : f (ky s) = none := by cases hf : f (ky s) with | none => rfl | some v => rw [hf] at hm; cases hm
 have hcz : W.cell? ⟨E.go, 0, none⟩ = some (.map (some E.B)) := (blk_cell h.bo 0).trans rfl
 have hct : W.cell? ⟨E.gt, 3, none⟩ = some (.slice E.A3 E.l3.length E.c3) := (blk_cell h.bt 3).trans rfl
 have hgo : E.go < W.heap.size := blk_lt h.bo
 have hgt : E.gt < W.heap.size := blk_lt h.bt
 have hlook := h.mp.look_ok (t := 93) (e := 96) keyed75 Tryd.underlying93 (zero96 W) (ky_of hs)
 rw [hv] at hlook
 simp only [Option.getD_none, Option.isSome_none] at hlook
 have hm3 := Kd.C_max hE.r3
 obtain ⟨a3, ha3⟩ : ∃ a, a = E.A3 := ⟨_, rfl⟩
 rw [← ha3] at hct
 have HA3 := Aside0.mk ha3
 clear ha3
 clear h hs hs1 hp hm hv hch hM ih
 go_enter Tryd.func72, Tryd.ntmps72
 go_wp2_with (go_at_call 69; refine (ones_n _ (u64_id HS.out) _).mono ?_; rintro e w' ⟨rfl, rfl⟩)
 go_loopg [29] E.l3.length (fun kq v29 w' => ∃ k : Nat, v29 = .int .i64 k ∧ Aside0 (kq + k = E.l3.length) ∧ Aside0 (FLoop E ch mf W f s k w'))
 case atStart =>
  refine ⟨0, rfl, ⟨by omega⟩, ⟨f, -1, 0, ⟨(HW.out.alloc HE.out _).alloc HE.out _, grown_alloc (World.grownBy_alloc _ _ _) _, KMap.le_refl f, ?_⟩, (by intro j hj; omega), HCH.out.symm⟩⟩
  have := blk_new (W.alloc (.cells #[.int .i64 0, .int .i64 0] 96)) (.cells #[.int .i64 (-1), .int .i64 0] 96 (0, 0))
  rwa [show (W.alloc (.cells #[.int .i64 0, .int .i64 0] 96)).heap.size = W.heap.size + 1 by simp] at this
 case round =>
  obtain ⟨k, rfl, HK, HL⟩ := hrel
  obtain ⟨k1, rfl⟩ : ∃ k1, k1 = gk := ⟨_, rfl⟩
  obtain ⟨g, b1, b2, hMid, hdone, hpick⟩ := HL.out
  clear HL hcz hct hlook hgo hgt
  by_cases hk : k < E.l3.length
  ·have HMid := Aside0.mk hMid
   have HDone := Aside0.mk hdone
   have HPick := Aside0.mk hpick
   have hC := Kd.C_below HE.out.r3 hMid.fw.bl
   obtain ⟨ad, e1, hx⟩ := Kd.at_int hC (k : Int) (by omega) (by omega)
   simp only [Int.toNat_natCast] at hx
   obtain ⟨x, hxn⟩ : ∃ x, rd E.l3 (k : Int) = x := ⟨_, rfl⟩
   have HX := Aside0.mk hxn
   rw [hxn] at hx
   have HSX := Aside0.mk (show SetB x by
    rw [← hxn]; refine HE.out.sets _ ?_
    simp only [rd, Int.toNat_natCast, List.getD_eq_getElem?_getD, List.getElem?_eq_getElem hk, Option.getD_some]; exact List.getElem_mem hk)
   have HDR := Aside0.mk (show E.l3.drop k = x :: E.l3.drop (k + 1) by
    rw [List.drop_eq_getElem_cons hk, ← hxn]; simp [rd, List.getD_eq_getElem?_getD, List.getElem?_eq_getElem hk])
   obtain ⟨sa, hsa⟩ : ∃ sa, Go.bits .and .u64 s x = sa := ⟨_, rfl⟩
   obtain ⟨sb, hsb⟩ : ∃ sb, Go.bits .andNot .u64 s x = sb := ⟨_, rfl⟩
   have HSA := Aside0.mk (show bAnd s x = sa from hsa)
   have HSB := Aside0.mk (show bSub s x = sb from hsb)
   rw [← HA3.out] at e1
   clear hMid hdone hpick hC hxn
   cases e1
   by_cases hz : sa = 0 ∨ sb = 0
   ·have hnot : splitB s x = false := by unfold splitB; rw [HSA.out, HSB.out]; rcases hz with h0 | h0 <;> simp [h0]
    have HNOT := Aside0.mk hnot
    have hrel2 : Aside0 (FLoop E ch mf W f s (k + 1) wr) := ⟨⟨g, b1, b2, HMid.out, (by
     intro j hj
     by_cases ej : j = k
     ·subst ej; rw [HX.out, HNOT.out]; intro hf; cases hf
     ·exact HDone.out j (by omega)), (by
     have hp := HPick.out
     rw [HDR.out] at hp
     unfold pickB at hp
     rw [if_neg (by rw [HNOT.out]; decide)] at hp
     exact hp)⟩⟩
    clear hnot HMid HDone HPick
    by_cases ha : sa = 0
    ·have ca : (sa == 0) = true := by simp [ha]
     clear ha hz
     go_wp2
     go_roundg (k1 - 1)
     case measure => have := HK.out; omega
     case rel => exact ⟨k + 1, by go_num, ⟨by have := HK.out; omega⟩, hrel2⟩
    ·have ca : (sa == 0) = false := by simp [ha]
     have cb : (sb == 0) = true := by simp; omega
     clear ha hz
     go_wp2
     go_roundg (k1 - 1)
     case measure => have := HK.out; omega
     case rel => exact ⟨k + 1, by go_num, ⟨by have := HK.out; omega⟩, hrel2⟩
   ·have ca : (sa == 0) = false := by simp; omega
    have cb : (sb == 0) = false := by simp; omega
    have hyes : splitB s x = true := by unfold splitB; rw [HSA.out, HSB.out, ca, cb]; rfl
    have HYES := Aside0.mk hyes
    have hparts := split_parts HS.out HSX.out hyes
    rw [HSA.out, HSB.out] at hparts
    have HPA := Aside0.mk hparts
    clear hz hyes hparts
    go_upto_region 11 with (fail)
    have HPb := Aside0.mk (show SetB sb ∧ 1 ≤ sb ∧ sb < s by have h1 := HPA.out; have h2 := HS.out; unfold SetB at h2 ⊢; omega)
    have HPa := Aside0.mk (show SetB sa ∧ 1 ≤ sa ∧ sa < s by have h1 := HPA.out; have h2 := HS.out; unfold SetB at h2 ⊢; omega)
    go_region_held3 (fun w' => w'.cell? ⟨E.gm, 0, none⟩ = some (.func (.func 41) #[] #[]) ∧ w'.cell? ⟨E.gf, 0, none⟩ = some (.func (.func 72) #[] #[.pointer (some ⟨E.go, 0, none⟩), .pointer (some ⟨E.gt, 0, none⟩), .pointer (some ⟨E.gm, 0, none⟩), .pointer (some ⟨E.gf, 0, none⟩)]) ∧ w'.cell? ⟨E.gt, 0, none⟩ = some (.slice E.A0 E.l0.length E.c0) ∧ w'.cell? ⟨E.gt, 1, none⟩ = some (.slice E.A1 E.l1.length E.c1) ∧ w'.cell? ⟨E.gt, 2, none⟩ = some (.slice E.A2 E.l2.length E.c2) ∧ w'.cell? ⟨E.gt, 3, none⟩ = some (.slice E.A3 E.l3.length E.c3) ∧ w'.cell? ⟨E.gt, 4, none⟩ = some (.int .u64 E.al)) (first | exact fs_mk41 (HMid.out.fw.full HE.out (below_drew (Below.refl _ _))) hMn | exact fs_mk41 HM9.out.fw hMn | exact fs_mk41 HM10.out.fw hMn | exact fs_mk41 HM11.out.fw hMn)
     (first | (go_at_call 72; (with_reducible refine (IH.out sb ?side1 ?side2 ?side3 _ g (HMid.out.fw.full HE.out (below_drew (Below.refl _ _)))).mono ?_); (case side1 => exact HPb.out.1); (case side2 => exact HPb.out.2.1); (case side3 => exact HPb.out.2.2); rintro e w9 ⟨g9, rfl, hfw, hgr, hle, hdn⟩; (have HM9 := Aside0.mk (FMid.call HE.out HW.out.tp (HMid.out.below HE.out (below_drew (Below.refl _ _))) hfw hgr hle)); (have HL9 := Aside0.mk hle); (have HDb := Aside0.mk hdn); clear hfw hgr hle hdn) | (go_at_call 72; (with_reducible refine (IH.out sa ?side1 ?side2 ?side3 _ g9 HM9.out.fw).mono ?_); (case side1 => exact HPa.out.1); (case side2 => exact HPa.out.2.1); (case side3 => exact HPa.out.2.2); rintro e w10 ⟨g10, rfl, hfw, hgr, hle, hdn⟩; (have HM10 := Aside0.mk (FMid.call HE.out HW.out.tp HM9.out hfw hgr hle)); (have HL10 := Aside0.mk (KMap.le_trans HL9.out hle)); (have HDa := Aside0.mk hdn); (have HDb2 := Aside0.mk (doneB_le hle HDb.out)); clear hfw hgr hle hdn) | (go_at_call 41; (with_reducible refine (HMM.out _ k s (cstB ch sb) (cstB ch sa) ?side1 ?side2 ?side3).mono ?_); (case side1 => exact HM10.out.fw.bl); (case side2 => exact hk); (case side3 => exact HS.out); rintro e w11 ⟨rfl, hb⟩; (have HM11 := Aside0.mk (HM10.out.below HE.out hb)); clear hb))
    obtain ⟨cc, hcc⟩ : ∃ cc, mf k s (cstB ch sb) (cstB ch sa) = cc := ⟨_, rfl⟩
    rw [hcc]
    have HCC := Aside0.mk hcc
    clear hcc
    have hb0 : w11.cell? ⟨W.heap.size + 1, 0, none⟩ = some (.int .i64 b1) := (blk_cell HM11.out.bx 0).trans rfl
    have hb1 : w11.cell? ⟨W.heap.size + 1, 1, none⟩ = some (.int .i64 b2) := (blk_cell HM11.out.bx 1).trans rfl
    have hf0 := blk_frozen HM11.out.bx 0
    have hf1 := blk_frozen HM11.out.bx 1
    have HB1 := Aside0.mk hb1
    clear hb1
    have hb1 := HB1.out
    by_cases ht : b1 < 0 ∨ cc < b2
    ·have HT := Aside0.mk ht
     have hrel2 : Aside0 (FLoop E ch mf W f s (k + 1) ((w11.setCell ⟨W.heap.size + 1, 0, none⟩ (.int .i64 k)).setCell ⟨W.heap.size + 1, 1, none⟩ (.int .i64 cc))) :=
      ⟨FLoop.next hk HX.out HSA.out HSB.out HYES.out HDone.out HPick.out HDR.out HL10.out HDa.out HDb2.out (FMid.put HE.out HW.out.tp HM11.out k cc) (by rw [HCC.out, if_pos HT.out])⟩
     by_cases h0 : b1 < 0
     ·have d0 : decide (b1 < 0) = true := decide_eq_true h0
      clear ht h0
      go_wp2
      go_roundg (k1 - 1)
      case measure => have := HK.out; omega
      case rel => exact ⟨k + 1, by go_num, ⟨by have := HK.out; omega⟩, hrel2⟩
     ·have d0 : decide (b1 < 0) = false := decide_eq_false h0
      have d1 : decide (cc < b2) = true := decide_eq_true (by omega)
      clear ht h0
      go_wp2
      go_roundg (k1 - 1)
      case measure => have := HK.out; omega
      case rel => exact ⟨k + 1, by go_num, ⟨by have := HK.out; omega⟩, hrel2⟩
    ·have HT := Aside0.mk ht
     have hrel2 : Aside0 (FLoop E ch mf W f s (k + 1) w11) :=
      ⟨FLoop.next hk HX.out HSA.out HSB.out HYES.out HDone.out HPick.out HDR.out HL10.out HDa.out HDb2.out HM11.out (by rw [HCC.out, if_neg HT.out])⟩
     have d0 : decide (b1 < 0) = false := decide_eq_false (fun h => ht (.inl h))
     have d1 : decide (cc < b2) = false := decide_eq_false (fun h => ht (.inr h))
     clear ht
     go_wp2
     go_roundg (k1 - 1)
     case measure => have := HK.out; omega
     case rel => exact ⟨k + 1, by go_num, ⟨by have := HK.out; omega⟩, hrel2⟩
  ·obtain rfl : k = E.l3.length := by have := HK.out; omega
   rw [List.drop_length] at hpick
   have hbe : (b1, b2) = ch s := hpick
   have HBE := Aside0.mk hbe
   have hdone2 : ∀ x ∈ E.l3, splitB s x = true → doneB g (bSub s x) ∧ doneB g (bAnd s x) := by
    intro x hx hsp
    obtain ⟨j, hj, rfl⟩ := List.getElem_of_mem hx
    have he : rd E.l3 j = E.l3[j] := by simp [rd, List.getD_eq_getElem?_getD, List.getElem?_eq_getElem hj]
    have := hdone j hj
    rw [he] at this
    exact this hsp
   have HD2 := Aside0.mk hdone2
   have HMid := Aside0.mk hMid
   have hb0 : wr.cell? ⟨W.heap.size + 1, 0, none⟩ = some (.int .i64 b1) := (blk_cell hMid.bx 0).trans rfl
   have hb1 : wr.cell? ⟨W.heap.size + 1, 1, none⟩ = some (.int .i64 b2) := (blk_cell hMid.bx 1).trans rfl
   have hcz2 : wr.cell? ⟨E.go, 0, none⟩ = some (.map (some E.B)) := (blk_cell hMid.fw.bo 0).trans rfl
   have hB : some (W.heap.size + 1) ≠ some E.B := by intro e; injection e with e; have h1 := HE.out.lt; have h2 := HW.out.tp; omega
   have HB := Aside0.mk hB
   clear hMid hdone hpick hbe hdone2 hk hB
   go_wp2_with (at_mapUpdate; refine wpList_put_is _ rfl _ _ _ 93 rfl 75 96 keyed75 Tryd.underlying93 E.B 1024 g rfl HMid.out.fw.mp (by decide) (.int .u64 s) _ (ky s) rfl rfl (ky_of HS.out) ?_; intro w1 hown1 hgrow1; have HO1 := Aside0.mk hown1; have HG1 := Aside0.mk hgrow1; have hb1' : w1.cell? ⟨W.heap.size + 1, 1, none⟩ = some (.int .i64 b2) := (blk_cell (blk_grown HMid.out.bx hgrow1 HB.out) 1).trans rfl; clear hown1 hgrow1)
   go_ret
   have e1 : b1 = (ch s).1 := by rw [← HBE.out]
   have e2 : b2 = (ch s).2 := by rw [← HBE.out]
   have ho := HO1.out
   rw [e1, e2] at ho
   obtain ⟨hfw, hle⟩ := FW.put HE.out HMid.out.fw HS.out HS1.out HD2.out ho HG1.out
   exact ⟨_, retI (by unfold cstB; rw [if_neg HP.out, e2]), hfw, grown_then HMid.out.gr HG1.out, KMap.le_trans HMid.out.le hle, .inr (by rw [KMap.put_same _ (ky_key s)]; rfl)⟩
theorem find_all41 (E : FEnv) (ch : Int → Int × Int) (mf : Int → Int → Int → Int → Int) (hE : FOk E) (hM : MOk41 E mf) (hMn : E.M = 41) (hch : ∀ s, SetB s → 1 ≤ s → ch s = chsStep mf E.l3 ch s) (d : Nat) :
  ∀ u, SetB u → 1 ≤ u → u.toNat ≤ d → ∀ W f, FW E ch W f → Calls Tryd.prog 72 #[.int .u64 u, .pointer (some ⟨E.go, 0, none⟩), .pointer (some ⟨E.gt, 0, none⟩), .pointer (some ⟨E.gm, 0, none⟩), .pointer (some ⟨E.gf, 0, none⟩)] W (FPost E ch W f u) := by
 induction d with
 | zero => intro u h1 h2 h3; unfold SetB at h1; omega
 | succ d ih =>
  intro u h1 h2 h3 W f h
  by_cases hp : pcount u = 1
  ·exact find_one E ch u h1 hp W f h
  ·by_cases hm : (f (ky u)).isSome = true
   ·exact find_memo E ch u h1 hp W f h hE hm
   ·exact find_step41 E ch mf hE hM hMn u h1 h2 hp (hch u h1 h2) W f h (by simpa using hm) (fun v v1 v2 v3 => ih v v1 v2 (by omega))
/-- What best returns: the map of the choices. -/
def BPost41 (l3 : List Int) (ch : Int → Int × Int) (al : Int) (W : World) (e : Ending) (w' : World) : Prop :=
 ∃ B f, e = .returned (.map (some B)) ∧ MapIs Tryd.prog 75 w' B 1024 f ∧ W.heap.size ≤ B ∧ Below W.heap.size W w' ∧ doneB f al ∧
  ∀ kl v, f kl = some v → ∃ s, SetB s ∧ 1 ≤ s ∧ kl = ky s ∧ v = .agg #[.int .i64 (ch s).1, .int .i64 (ch s).2] ∧ ∀ x ∈ l3, splitB s x = true → doneB f (bSub s x) ∧ doneB f (bAnd s x)
set_option maxHeartbeats 8000000 in
set_option maxRecDepth 100000 in
theorem best41 (A0 : Option Addr) (c0 : Nat) (l0 : List Int) (A1 : Option Addr) (c1 : Nat) (l1 : List (List Int)) (A2 : Option Addr) (c2 : Nat) (l2 : List Int) (A3 : Option Addr) (c3 : Nat) (l3 : List Int) (al : Int) (mf : Int → Int → Int → Int → Int) (W : World)
  (r0 : Kd.C (Kd.int .i64) W A0 l0.length l0) (n0 : l0.length ≤ c0) (r1 : Kd.C (Kd.slice 3 (Kd.int .i64)) W A1 l1.length l1) (n1 : l1.length ≤ c1) (r2 : Kd.C (Kd.int .i64) W A2 l2.length l2) (n2 : l2.length ≤ c2) (r3 : Kd.C (Kd.int .u64) W A3 l3.length l3) (n3 : l3.length ≤ c3)
  (hs : ∀ x ∈ l3, SetB x) (hf : l3.length ≤ 12) (ha : SetB al) (ha1 : 1 ≤ al)
  (hM : ∀ (w : World) (k : Nat) (s z o : Int), Below W.heap.size W w → k < l3.length → SetB s → Calls Tryd.prog 41 #[.agg #[.slice A0 l0.length c0, .slice A1 l1.length c1, .slice A2 l2.length c2, .slice A3 l3.length c3, .int .u64 al], .int .i64 k, .int .u64 s, .int .i64 z, .int .i64 o] w fun e w' => e = .returned (.int .i64 (mf k s z o)) ∧ Below w.heap.size w w') :
  Calls Tryd.prog 59 #[.agg #[.slice A0 l0.length c0, .slice A1 l1.length c1, .slice A2 l2.length c2, .slice A3 l3.length c3, .int .u64 al], .func (.func 41) #[] #[]] W (BPost41 l3 (chs mf l3) al W) := by
 have hE : ∀ go gt gm gf B top, W.heap.size ≤ B ∧ W.heap.size ≤ top → (go < top ∧ gt < top ∧ gm < top ∧ gf < top ∧ B < top) → FOk ⟨W, go, gt, gm, gf, B, top, A0, c0, l0, A1, c1, l1, A2, c2, l2, A3, c3, l3, al, 41⟩ :=
  fun go gt gm gf B top h1 h2 => ⟨r0, n0, r1, n1, r2, n2, r3, n3, h1, h2, hs, hf⟩
 have HE := Aside0.mk hE
 have HM := Aside0.mk hM
 have HA := Aside0.mk ha
 have HA1 := Aside0.mk ha1
 have HS := Aside0.mk hs
 have hmm := @run_makeMap Tryd.prog
 clear r0 r1 r2 r3 hs hf ha ha1 hM hE
 go_enter Tryd.func59, Tryd.ntmps59
 go_upto_region 4 with (fail)
 have hFW := FW.start ⟨W, W.heap.size + 1 + 1 + 1, W.heap.size, W.heap.size + 1, W.heap.size + 1 + 1 + 1 + 1, W.heap.size + 1 + 1, W.heap.size + 1 + 1 + 1 + 1 + 1, A0, c0, l0, A1, c1, l1, A2, c2, l2, A3, c3, l3, al, 41⟩ (chs mf l3) rfl rfl rfl rfl rfl rfl
 have HFW := Aside0.mk hFW
 clear hFW
 have HFA := Aside0.mk (find_all41 ⟨W, W.heap.size + 1 + 1 + 1, W.heap.size, W.heap.size + 1, W.heap.size + 1 + 1 + 1 + 1, W.heap.size + 1 + 1, W.heap.size + 1 + 1 + 1 + 1 + 1, A0, c0, l0, A1, c1, l1, A2, c2, l2, A3, c3, l3, al, 41⟩ (chs mf l3) mf (HE.out _ _ _ _ _ _ (by omega) (by omega)) HM.out rfl (fun s h1 _ => chs_eq mf l3 HS.out s h1) al.toNat al HA.out HA1.out (Nat.le_refl _) _ KMap.empty HFW.out)
 go_wp2_with (go_at_call 72; refine (HFA.out).mono ?_; rintro e w9 ⟨g9, rfl, hfw, hgr, hle, hdn⟩; have HFW9 := Aside0.mk hfw; have HDN := Aside0.mk hdn; have hcz : w9.cell? ⟨W.heap.size + 1 + 1 + 1, 0, none⟩ = some (.map (some (W.heap.size + 1 + 1))) := (blk_cell hfw.bo 0).trans rfl; clear hfw hgr hle hdn)
 go_ret
 exact ⟨_, g9, rfl, HFW9.out.mp, by show W.heap.size ≤ W.heap.size + 1 + 1; omega, HFW9.out.bl, HDN.out, HFW9.out.gd⟩
end Go.Proofs.YtekmiepdodaidaaDoor.X
end

section
/- tests.optimal, by hand, with the measure of function 41. -/
set_option linter.unusedVariables false
set_option linter.unusedSimpArgs false
namespace Go.Proofs.YtekmiepdodaidaaDoor.X
open Go.RowKit Go.Proofs.YtekmiepdodaidaaDoorW.PrintWords Go.Proofs.YtekmiepdodaidaaDoorW.PrintLast Go.Proofs.YtekmiepdodaidaaDoorW.PrintMore

section
variable {A0 : Option Addr} {c0 : Nat} {a : List Int} {A1 : Option Addr} {c1 : Nat} {b : List (List Int)} {A2 : Option Addr} {c2 : Nat} {c : List Int} {w : World}
def OptNone41 (er : Int) (w : World) (e : Ending) (w' : World) : Prop := e = .returned (.tuple #[.slice none 0 0, .int .i64 0, .int .i64 er]) ∧ Below w.heap.size w w'
set_option maxHeartbeats 4000000 in
set_option maxRecDepth 100000 in
theorem opt_bad41 (h : CaseAt w A0 c0 a A1 c1 b A2 c2 c) (hc : caseB a b c = false) : Calls Tryd.prog 39 #[.agg #[.slice A0 a.length c0, .slice A1 b.length c1, .slice A2 c.length c2], .func (.func 41) #[] #[]] w (OptNone41 2 w) := by
 have H := Aside0.mk h
 have HC := Aside0.mk hc
 have HB := Aside0.mk (Below.refl w.heap.size w)
 clear h hc
 go_enter Tryd.func39, Tryd.ntmps39
 go_wp2_with (go_at_call 45; refine (trial_bad (H.out.below ((Below.refl _ _).alloc (Nat.le_refl _) _)) HC.out).mono ?_; rintro e w5 ⟨A3, c3, rfl, hb⟩; have HB5 := Aside0.mk (below_step (below_alloc HB.out _) hb); clear hb)
 go_ret3
 exact ⟨rfl, below_alloc HB5.out _⟩
set_option maxHeartbeats 4000000 in
set_option maxRecDepth 100000 in
theorem opt_alike41 (h : CaseAt w A0 c0 a A1 c1 b A2 c2 c) (hc : caseB a b c = true) (hal : alikeL (onesOf b) a.length ≠ []) : Calls Tryd.prog 39 #[.agg #[.slice A0 a.length c0, .slice A1 b.length c1, .slice A2 c.length c2], .func (.func 41) #[] #[]] w (OptNone41 6 w) := by
 have H := Aside0.mk h
 have HC := Aside0.mk hc
 have HI := Aside0.mk (case_is hc)
 have HB := Aside0.mk (Below.refl w.heap.size w)
 obtain ⟨n, hn⟩ : ∃ n, n = (alikeL (onesOf b) a.length).length := ⟨_, rfl⟩
 have HN := Aside0.mk hn
 have hpos : (0 : Int) < (n : Int) := by have := List.length_pos_iff.2 hal; omega
 clear h hc hal hn
 go_enter Tryd.func39, Tryd.ntmps39
 go_wp2_with (first | (go_at_call 45; refine (trial_good (H.out.below ((Below.refl _ _).alloc (Nat.le_refl _) _)) HC.out).mono ?_; rintro e w5 ⟨A3, c3, rfl, hr3, hb⟩; have HR3 := Aside0.mk hr3; have HB5 := Aside0.mk (below_step (below_alloc HB.out _) hb); clear hr3 hb) | (go_at_call 49; refine (alike_n (H.out.below (below_alloc HB5.out _)) HI.out A3 c3 (onesOf b) _ (Kd.C_alloc HR3.out.1 _) HR3.out.2).mono ?_; rintro e w6 ⟨A4, c4, rfl, hb⟩; have HB6 := Aside0.mk (below_step (below_alloc HB5.out _) hb); rw [← HN.out]; clear hb))
 go_ret3
 exact ⟨rfl, HB6.out⟩
def OptGood41 (l : List S57) (co : Int) (w : World) (e : Ending) (w' : World) : Prop := ∃ v, e = .returned (.tuple #[v, .int .i64 co, .int .i64 0]) ∧ Kd.R k57 57 w' w.heap.size (fun _ => True) v l ∧ Below w.heap.size w w'
/-- What is asked of the measure. -/
def MeasOk41 (a : List Int) (b : List (List Int)) (c : List Int) (mf : Int → Int → Int → Int → Int) : Prop :=
 ∀ (A0 : Option Addr) (c0 : Nat) (A1 : Option Addr) (c1 : Nat) (A2 : Option Addr) (c2 : Nat) (A3 : Option Addr) (c3 : Nat) (w : World) (k : Nat) (s z o : Int), CaseAt w A0 c0 a A1 c1 b A2 c2 c → Kd.C (Kd.int .u64) w A3 (onesOf b).length (onesOf b) → (onesOf b).length ≤ c3 → k < (onesOf b).length → SetB s →
  Calls Tryd.prog 41 #[.agg #[.slice A0 a.length c0, .slice A1 b.length c1, .slice A2 c.length c2, .slice A3 (onesOf b).length c3, .int .u64 (allOf a)], .int .i64 k, .int .u64 s, .int .i64 z, .int .i64 o] w fun e w' => e = .returned (.int .i64 (mf k s z o)) ∧ Below w.heap.size w w'
set_option maxHeartbeats 8000000 in
set_option maxRecDepth 100000 in
theorem opt_good41 (mf : Int → Int → Int → Int → Int) (hM : MeasOk41 a b c mf) (h : CaseAt w A0 c0 a A1 c1 b A2 c2 c) (hc : caseB a b c = true) (hal : alikeL (onesOf b) a.length = []) (hT : Tab w) :
  Calls Tryd.prog 39 #[.agg #[.slice A0 a.length c0, .slice A1 b.length c1, .slice A2 c.length c2], .func (.func 41) #[] #[]] w (OptGood41 (treeB (fun s => (chs mf (onesOf b) s).1) (onesOf b) (allOf a) 0) (cstB (chs mf (onesOf b)) (allOf a)) w) := by
 have H := Aside0.mk h
 have HC := Aside0.mk hc
 have HI := Aside0.mk (case_is hc)
 have HM := Aside0.mk hM
 have HT := Aside0.mk hT
 have HAL := Aside0.mk hal
 have HB := Aside0.mk (Below.refl w.heap.size w)
 have HSET := Aside0.mk (onesOf_set HI.out.a10 HI.out.rows)
 have hpos : (alikeL (onesOf b) a.length).length = 0 := by rw [hal]; rfl
 have HP := Aside0.mk hpos
 have hall : ((2 ^ a.length : Nat) : Int) - 1 = allOf a := rfl
 have HALL := Aside0.mk hall
 clear h hc hal hM hT hpos hall
 go_enter Tryd.func39, Tryd.ntmps39
 go_upto_region 6 with (first | (go_at_call 45; refine (trial_good (H.out.below ((Below.refl _ _).alloc (Nat.le_refl _) _)) HC.out).mono ?_; rintro e w5 ⟨A3, c3, rfl, hr3, hb⟩; rw [HALL.out]; have HR3 := Aside0.mk hr3; have HB5 := Aside0.mk (below_step (below_alloc HB.out _) hb); clear hr3 hb) | (go_at_call 49; refine (alike_n (H.out.below (below_alloc HB5.out _)) HI.out A3 c3 (onesOf b) _ (Kd.C_alloc HR3.out.1 _) HR3.out.2).mono ?_; rintro e w6 ⟨A4, c4, rfl, hb⟩; have HB6 := Aside0.mk (below_step (below_alloc HB5.out _) hb); have HR6 := Aside0.mk (Kd.C_below (Kd.C_alloc HR3.out.1 _) hb); have HX6 := Aside0.mk ((hb.block _ (by rw [size_alloc']; omega)).trans (blk_new w5 _)); rw [HP.out]; clear hb))
 have hz0 : w6.cell? ⟨w5.heap.size, 0, none⟩ = some (.slice A0 a.length c0) := (blk_cell HX6.out 0).trans rfl
 have hz1 : w6.cell? ⟨w5.heap.size, 1, none⟩ = some (.slice A1 b.length c1) := (blk_cell HX6.out 1).trans rfl
 have hz2 : w6.cell? ⟨w5.heap.size, 2, none⟩ = some (.slice A2 c.length c2) := (blk_cell HX6.out 2).trans rfl
 have hz3 : w6.cell? ⟨w5.heap.size, 3, none⟩ = some (.slice A3 (onesOf b).length c3) := (blk_cell HX6.out 3).trans rfl
 have hz4 : w6.cell? ⟨w5.heap.size, 4, none⟩ = some (.int .u64 (allOf a)) := (blk_cell HX6.out 4).trans rfl
 have HC6 := Aside0.mk (H.out.below HB6.out)
 have HN3 := Aside0.mk HR3.out.2
 have H12 := Aside0.mk (show (onesOf b).length ≤ 12 by rw [onesOf_len]; exact HI.out.b12)
 have HBEST := Aside0.mk (best41 A0 c0 a A1 c1 b A2 c2 c A3 c3 (onesOf b) (allOf a) mf w6 HC6.out.r0 HC6.out.n0 HC6.out.r1 HC6.out.n1 HC6.out.r2 HC6.out.n2 HR6.out HN3.out HSET.out H12.out (allOf_set HI.out).1 (allOf_set HI.out).2
  (fun w' k s z o hb hk hs => HM.out A0 c0 A1 c1 A2 c2 A3 c3 w' k s z o (HC6.out.below hb) (Kd.C_below HR6.out hb) HN3.out hk hs))
 go_upto_region 7 with (go_at_call 59; refine HBEST.out.mono ?_; rintro e w7 ⟨B, f, rfl, hmp, hlo, hb, hdn, hgd⟩; have HMP := Aside0.mk hmp; have HLO := Aside0.mk hlo; have HDN := Aside0.mk hdn; have HGD := Aside0.mk hgd; have HB7 := Aside0.mk (below_step HB6.out hb); have HB67 := Aside0.mk hb; clear hmp hlo hb hdn hgd)
 clear hz0 hz1 hz2 hz3 hz4 HBEST
 obtain ⟨t1, ht1⟩ := val_at HSET.out (allOf_set HI.out).1 (allOf_set HI.out).2 HDN.out HGD.out
 obtain ⟨co, hco⟩ : ∃ co, co = cstB (chs mf (onesOf b)) (allOf a) := ⟨_, rfl⟩
 rw [← hco] at ht1
 have HCO := Aside0.mk hco
 have HT1 := Aside0.mk ht1
 obtain ⟨w8, hw8⟩ : ∃ w8, w8 = w7.alloc (.cells #[.map (some B)] 93 (0, 0)) := ⟨_, rfl⟩
 have h78 : Below w7.heap.size w7 w8 := by rw [hw8]; exact below_alloc (Below.refl _ _) _
 have hgq : w8.heap[w7.heap.size]? = some (.cells #[.map (some B)] 93 (0, 0)) := by rw [hw8]; exact blk_new _ _
 have hbx : w8.heap[w5.heap.size]? = some (.cells #[.slice A0 a.length c0, .slice A1 b.length c1, .slice A2 c.length c2, .slice A3 (onesOf b).length c3, .int .u64 (allOf a)] 77 (0, 0)) := blk_below (blk_below HX6.out HB67.out) h78
 have HS : ∀ w', Below w8.heap.size w8 w' → (w'.cell? ⟨w5.heap.size, 0, none⟩ = some (.slice A0 a.length c0) ∧ w'.cell? ⟨w5.heap.size, 1, none⟩ = some (.slice A1 b.length c1) ∧ w'.cell? ⟨w5.heap.size, 2, none⟩ = some (.slice A2 c.length c2) ∧ w'.cell? ⟨w5.heap.size, 3, none⟩ = some (.slice A3 (onesOf b).length c3) ∧ w'.cell? ⟨w5.heap.size, 4, none⟩ = some (.int .u64 (allOf a)) ∧ w'.cell? ⟨w7.heap.size, 0, none⟩ = some (.map (some B)) ∧ (Instr.lookup 93 (.map (some B)) (.int .u64 (allOf a)) false).run Tryd.prog w' = .ok (.agg #[.int .i64 t1, .int .i64 co]) w') := by
  intro w' hb
  have e1 := blk_below hbx hb
  have e2 := blk_below hgq hb
  refine ⟨(blk_cell e1 0).trans rfl, (blk_cell e1 1).trans rfl, (blk_cell e1 2).trans rfl, (blk_cell e1 3).trans rfl, (blk_cell e1 4).trans rfl, (blk_cell e2 0).trans rfl, ?_⟩
  have hl := ((HMP.out.below h78).below hb).look (t := 93) (e := 96) keyed75 Tryd.underlying93 (zero96 w') (ky_of (allOf_set HI.out).1)
  rw [HT1.out] at hl
  exact hl
 have HSS := Aside0.mk HS
 have HP50 := Aside0.mk (fun (w9 : World) (hb : Below w8.heap.size w8 w9) => plan60 A0 c0 a A1 c1 b A2 c2 c A3 c3 (onesOf b) (allOf a) w7.heap.size (fun s => (chs mf (onesOf b) s).1) (bestR a.length f) w9 (Kd.C_below (Kd.C_below (Kd.C_below HR6.out HB67.out) h78) hb) HN3.out ((HT.out.below HB7.out).below h78 |>.below hb) (best_runs HI.out.a10 HSET.out HAL.out HGD.out) ⟨(allOf_set HI.out).1, (allOf_set HI.out).2, (by unfold allOf; omega), HDN.out⟩
  (fun W' hb2 s hR hp => test60 (hR.1) ((blk_cell (blk_below (blk_below hgq hb) hb2) 0).trans rfl) (((HMP.out.below h78).below hb).below hb2) (best_val HGD.out hR hp)))
 have HB8 := Aside0.mk (below_step HB7.out h78)
 have hfd := fun w => (field96 w t1 co).2
 clear HS ht1 h78 hgq hbx hco
 rw [← hw8]
 clear hw8
 go_region_held3 (fun w' => w'.cell? ⟨w5.heap.size, 0, none⟩ = some (.slice A0 a.length c0) ∧ w'.cell? ⟨w5.heap.size, 1, none⟩ = some (.slice A1 b.length c1) ∧ w'.cell? ⟨w5.heap.size, 2, none⟩ = some (.slice A2 c.length c2) ∧ w'.cell? ⟨w5.heap.size, 3, none⟩ = some (.slice A3 (onesOf b).length c3) ∧ w'.cell? ⟨w5.heap.size, 4, none⟩ = some (.int .u64 (allOf a)) ∧ w'.cell? ⟨w7.heap.size, 0, none⟩ = some (.map (some B)) ∧ (Instr.lookup 93 (.map (some B)) (.int .u64 (allOf a)) false).run Tryd.prog w' = .ok (.agg #[.int .i64 t1, .int .i64 co]) w') (first | exact HSS.out _ (below_drew (Below.refl _ _)) | exact HSS.out _ HB9.out)
  ((go_at_call 50; (with_reducible refine (HP50.out _ ?side1).mono ?_); (case side1 => exact below_drew (Below.refl _ _)); rintro e w9 ⟨v9, rfl, hr9, hb9⟩; have HR9 := Aside0.mk hr9; have HB9 := Aside0.mk (below_step (below_drew (Below.refl _ _)) hb9); clear hr9 hb9))
 all_goals
  go_wp2
  go_ret3
  rw [← HCO.out]
  exact ⟨v9, rfl, Kd.R_lower HR9.out (below_size (below_drew HB8.out)), below_step HB8.out HB9.out⟩
end
end Go.Proofs.YtekmiepdodaidaaDoor.X
end

section
namespace Go.Proofs.YtekmiepdodaidaaDoor.X
open Go.RowKit Go.Proofs.YtekmiepdodaidaaDoorW.PrintWords Go.Proofs.YtekmiepdodaidaaDoorW.PrintLast Go.Proofs.YtekmiepdodaidaaDoorW.PrintMore
attribute [local go_sem] max2_int min2_int max_two min_two max_three min_three max_four min_four   -- for this text's walks alone
set_option linter.unusedVariables false
set_option linter.unusedSimpArgs false

def tests_trial_weight.l0 : Nat → Int → Int → List Int → Int → Int → Option (Int)
 | 0, _, _, _, _, _ => none
 | k + 1, x1, x5, x10, x11, x12 => if x12 < x11 then (if 0 ≤ x12 then (if x12 < (x10.length : Int) then ((tests_faults_has.f x1 x12).bind fun t131 => (if t131 = true then (tests_trial_weight.l0 k x1 (wrap64 (x5 + (rd x10 x12))) x10 x11 (wrap64 (x12 + 1))) else (tests_trial_weight.l0 k x1 x5 x10 x11 (wrap64 (x12 + 1))))) else (none)) else (none)) else (some x5)
def tests_trial_weight.f (k : Nat) (l0_0 : List Int) (l0_1 : List (List Int)) (l0_2 : List Int) (l0_3 : List Int) (a0_4 : Int) (a1 : Int) : Option (Int) := tests_trial_weight.l0 k a1 0 l0_0 (l0_0.length : Int) 0
set_option maxHeartbeats 8000000 in
set_option maxRecDepth 100000 in
theorem tests_trial_weight.calls (k : Nat) (A0_0 : Option Addr) (c0_0 : Nat) (l0_0 : List Int) (A0_1 : Option Addr) (c0_1 : Nat) (l0_1 : List (List Int)) (A0_2 : Option Addr) (c0_2 : Nat) (l0_2 : List Int) (A0_3 : Option Addr) (c0_3 : Nat) (l0_3 : List Int) (a0_4 : Int) (a1 : Int) (r : Int) (w : World) (hr0_0 : Kd.C (Kd.int .i64) w A0_0 l0_0.length l0_0) (hc0_0 : l0_0.length ≤ c0_0) (hr0_1 : Kd.C (Kd.slice 3 (Kd.int .i64)) w A0_1 l0_1.length l0_1) (hc0_1 : l0_1.length ≤ c0_1) (hr0_2 : Kd.C (Kd.int .i64) w A0_2 l0_2.length l0_2) (hc0_2 : l0_2.length ≤ c0_2) (hr0_3 : Kd.C (Kd.int .u64) w A0_3 l0_3.length l0_3) (hc0_3 : l0_3.length ≤ c0_3) (h : tests_trial_weight.f k l0_0 l0_1 l0_2 l0_3 a0_4 a1 = some r) :
  Calls Tryd.prog 52 #[.agg #[.slice A0_0 l0_0.length c0_0, .slice A0_1 l0_1.length c0_1, .slice A0_2 l0_2.length c0_2, .slice A0_3 l0_3.length c0_3, .int .u64 a0_4], .int .u64 a1] w fun e w' => e = .returned (.int .i64 r) ∧ Below w.heap.size w w' := by
 have hu77 := Tryd.underlying77
 have HR0_0 := Aside0.mk hr0_0
 have HC0_0 := Aside0.mk hc0_0
 clear hr0_0 hc0_0
 have HR0_1 := Aside0.mk hr0_1
 have HC0_1 := Aside0.mk hc0_1
 clear hr0_1 hc0_1
 have HR0_2 := Aside0.mk hr0_2
 have HC0_2 := Aside0.mk hc0_2
 clear hr0_2 hc0_2
 have HR0_3 := Aside0.mk hr0_3
 have HC0_3 := Aside0.mk hc0_3
 clear hr0_3 hc0_3
 have HB := Aside0.mk (Below.refl w.heap.size w)
 have H : (tests_trial_weight.l0 k a1 0 l0_0 (l0_0.length : Int) 0) = some r := h
 clear h
 have H' := Aside0.mk H
 clear H
 go_enter Tryd.func52, Tryd.ntmps52
 go_wp2_with (first | ((with_reducible refine gate_dst (N := 2) rfl ?_); refine box_event ?hg (N := 2) ?hd (cs := #[.slice A0_0 l0_0.length c0_0, .slice A0_1 l0_1.length c0_1, .slice A0_2 l0_2.length c0_2, .slice A0_3 l0_3.length c0_3, .int .u64 a0_4]) (t := 77) ?hr ?_; (case hd => rfl); (case hg => rfl); (case hr => first | (go_simp; done) | (go_simp; rfl)); intro gb129 hg w3 hbox hb; have n0_ := Aside0.mk (below_step bz hb); have n1_ := Aside0.mk (hbox); have n2_ := Aside0.mk ((by rw [hg]; exact (below_size bz) : w.heap.size ≤ gb129)); have n3_ := Aside0.mk ((by rw [hg]; exact (below_size bz) : w.heap.size ≤ gb129)); clear HB; have HB := n0_; have BK129 := n1_; have GW129 := n2_; have GE129 := n3_; clear n0_ n1_ n2_ n3_; clear hb hbox hg; have hcz4_0 : w3.cell? ⟨gb129, 0, none⟩ = some (.slice A0_0 l0_0.length c0_0) := (blk_cell BK129.out 0).trans rfl; have hcz4_1 : w3.cell? ⟨gb129, 1, none⟩ = some (.slice A0_1 l0_1.length c0_1) := (blk_cell BK129.out 1).trans rfl; have hcz4_2 : w3.cell? ⟨gb129, 2, none⟩ = some (.slice A0_2 l0_2.length c0_2) := (blk_cell BK129.out 2).trans rfl; have hcz4_3 : w3.cell? ⟨gb129, 3, none⟩ = some (.slice A0_3 l0_3.length c0_3) := (blk_cell BK129.out 3).trans rfl; have hcz4_4 : w3.cell? ⟨gb129, 4, none⟩ = some (.int .u64 a0_4) := (blk_cell BK129.out 4).trans rfl; have hfz4_0 := blk_frozen BK129.out 0; have hfz4_1 := blk_frozen BK129.out 1; have hfz4_2 := blk_frozen BK129.out 2; have hfz4_3 := blk_frozen BK129.out 3; have hfz4_4 := blk_frozen BK129.out 4))
 go_loopg [5, 12] k (fun kq v5 v12 w' => ∃ (x5_1 : Int) (x12_1 : Int), v5 = .int .i64 x5_1 ∧ v12 = .int .i64 x12_1 ∧ Aside0 (tests_trial_weight.l0 kq a1 x5_1 l0_0 (l0_0.length : Int) x12_1 = some r) ∧ Aside0 (kq ≤ k) ∧ Aside0 (w'.heap[gb129]? = some (.cells #[(.slice A0_0 l0_0.length c0_0), (.slice A0_1 l0_1.length c0_1), (.slice A0_2 l0_2.length c0_2), (.slice A0_3 l0_3.length c0_3), .int .u64 a0_4] 77 (0, 0))) ∧ Aside0 (Below w.heap.size w w'))
 case atStart => exact ⟨(0), (0), (by first | rfl | (simp; done) | (simp [*]; done)), (by first | rfl | (simp; done) | (simp [*]; done)), H', ⟨Nat.le_refl _⟩, ⟨by (with_reducible repeat (first | refine blk_drewN ?_ _ | refine blk_drew ?_ | refine blk_alloc ?_ _)); exact BK129.out⟩, ⟨by repeat (first | (with_reducible first | exact HB.out | apply below_alloc | apply pw_below_drewN | apply below_drew1 | refine below_set ?_ GE129.out) | exact HB.out)⟩⟩
 case round =>
  clear H'
  try clear p2
  try clear hcz4_0
  try clear hcz4_1
  try clear hcz4_2
  try clear hcz4_3
  try clear hcz4_4
  try clear hfz4_0
  try clear hfz4_1
  try clear hfz4_2
  try clear hfz4_3
  try clear hfz4_4
  obtain ⟨x5_1, x12_1, rfl, rfl, HA, HK1, BK129, HB⟩ := hrel
  cases gk with
  | zero => exact absurd HA.out (by simp [tests_trial_weight.l0])
  | succ k1 =>
   have H := HA.out
   clear HA
   simp only [tests_trial_weight.l0] at H
   by_cases c5 : x12_1 < (l0_0.length : Int)
   ·rw [if_pos c5] at H
    have c5b0 : decide (x12_1 < (l0_0.length : Int)) = true := decide_eq_true c5
    clear c5
    by_cases c6 : 0 ≤ x12_1
    ·rw [if_pos c6] at H
     have c6b0 : decide (0 ≤ x12_1) = true := decide_eq_true c6
     clear c6
     by_cases c7 : x12_1 < (l0_0.length : Int)
     ·rw [if_pos c7] at H
      have c7b0 : decide (x12_1 < (l0_0.length : Int)) = true := decide_eq_true c7
      clear c7
      replace H := Option.bind_eq_some_iff.mp H
      obtain ⟨t131, A80, H⟩ := H
      replace H : (if t131 = true then (tests_trial_weight.l0 k1 a1 (wrap64 (x5_1 + (rd l0_0 x12_1))) l0_0 (l0_0.length : Int) (wrap64 (x12_1 + 1))) else (tests_trial_weight.l0 k1 a1 x5_1 l0_0 (l0_0.length : Int) (wrap64 (x12_1 + 1)))) = some r := H
      have A8 := Aside0.mk A80
      clear A80
      by_cases c9 : t131 = true
      ·subst c9
       have H1 : (tests_trial_weight.l0 k1 a1 (wrap64 (x5_1 + (rd l0_0 x12_1))) l0_0 (l0_0.length : Int) (wrap64 (x12_1 + 1))) = some r := by rw [if_pos rfl] at H; exact H
       clear H
       have H := H1
       clear H1
       have H' := Aside0.mk H
       clear H
       have p130 : 0 ≤ (x12_1 : Int) := of_decide_eq_true az
       have q130 : x12_1 < (l0_0.length : Int) := of_decide_eq_true az
       obtain ⟨ad130, e130, hx130_0⟩ := Kd.at_int HR0_0.out x12_1 p130 q130
       cases e130
       replace hx130_0 := (HB.out.cell (World.block_lt_of_cell? w _ hx130_0)).trans hx130_0
       replace p130 := eq_true p130
       replace q130 := eq_true q130
       go_wp2_with (first | ((with_reducible refine gate_callee (f := 58) rfl ?_); refine goesL_ (some 19) rfl rfl Tryd.func58 (by kernel_rfl) rfl #[.int .u64 a1, .int .i64 x12_1] rfl dz ?_; (with_reducible refine (tests_faults_has.calls a1 x12_1 true _ A8.out).mono ?_); rintro e w' ⟨rfl, ⟨nd, rfl⟩⟩; refine ⟨_, rfl, ?_⟩))
       go_roundg k1
       case measure => have := HK1.out; omega
       case rel => exact ⟨(wrap64 (x5_1 + (rd l0_0 x12_1))), (wrap64 (x12_1 + 1)), (by first | rfl | (simp; done) | (simp [*]; done)), (by first | rfl | (simp; done) | (simp [*]; done)), H', ⟨by have := HK1.out; omega⟩, ⟨by (with_reducible repeat (first | refine blk_drewN ?_ _ | refine blk_drew ?_ | refine blk_alloc ?_ _)); exact BK129.out⟩, ⟨by repeat (first | (with_reducible first | exact HB.out | apply below_alloc | apply pw_below_drewN | apply below_drew1 | refine below_set ?_ GE129.out) | exact HB.out)⟩⟩
      ·replace c9 := Bool.eq_false_iff.mpr c9
       subst c9
       have H1 : (tests_trial_weight.l0 k1 a1 x5_1 l0_0 (l0_0.length : Int) (wrap64 (x12_1 + 1))) = some r := by rw [if_neg (show ¬ (false = true) by decide)] at H; exact H
       clear H
       have H := H1
       clear H1
       have H' := Aside0.mk H
       clear H
       have p130 : 0 ≤ (x12_1 : Int) := of_decide_eq_true az
       have q130 : x12_1 < (l0_0.length : Int) := of_decide_eq_true az
       obtain ⟨ad130, e130, hx130_0⟩ := Kd.at_int HR0_0.out x12_1 p130 q130
       cases e130
       replace hx130_0 := (HB.out.cell (World.block_lt_of_cell? w _ hx130_0)).trans hx130_0
       replace p130 := eq_true p130
       replace q130 := eq_true q130
       go_wp2_with (first | ((with_reducible refine gate_callee (f := 58) rfl ?_); refine goesL_ (some 19) rfl rfl Tryd.func58 (by kernel_rfl) rfl #[.int .u64 a1, .int .i64 x12_1] rfl dz ?_; (with_reducible refine (tests_faults_has.calls a1 x12_1 false _ A8.out).mono ?_); rintro e w' ⟨rfl, ⟨nd, rfl⟩⟩; refine ⟨_, rfl, ?_⟩))
       go_roundg k1
       case measure => have := HK1.out; omega
       case rel => exact ⟨(x5_1), (wrap64 (x12_1 + 1)), (by first | rfl | (simp; done) | (simp [*]; done)), (by first | rfl | (simp; done) | (simp [*]; done)), H', ⟨by have := HK1.out; omega⟩, ⟨by (with_reducible repeat (first | refine blk_drewN ?_ _ | refine blk_drew ?_ | refine blk_alloc ?_ _)); exact BK129.out⟩, ⟨by repeat (first | (with_reducible first | exact HB.out | apply below_alloc | apply pw_below_drewN | apply below_drew1 | refine below_set ?_ GE129.out) | exact HB.out)⟩⟩
     ·rw [if_neg c7] at H
      exact absurd H (by simp)
    ·rw [if_neg c6] at H
     exact absurd H (by simp)
   ·rw [if_neg c5] at H
    have c5b0 : decide (x12_1 < (l0_0.length : Int)) = false := decide_eq_false c5
    clear c5
    obtain rfl := Option.some.inj H
    go_wp2
    go_ret
    exact ⟨by first | rfl | (simp [errW_none, errW_some] <;> rfl) | (simp [*, errW_none, errW_some] <;> rfl), by repeat (first | (with_reducible first | exact HB.out | apply below_alloc | apply pw_below_drewN | apply below_drew1 | refine below_set ?_ GE129.out) | exact HB.out)⟩

end Go.Proofs.YtekmiepdodaidaaDoor.X
end

section
namespace Go.Proofs.YtekmiepdodaidaaDoor.X
open Go.RowKit Go.Proofs.YtekmiepdodaidaaDoorW.PrintWords Go.Proofs.YtekmiepdodaidaaDoorW.PrintLast Go.Proofs.YtekmiepdodaidaaDoorW.PrintMore
attribute [local go_sem] max2_int min2_int max_two min_two max_three min_three max_four min_four   -- for this text's walks alone
set_option linter.unusedVariables false
set_option linter.unusedSimpArgs false

def tests_mean.f (k : Nat) (l0_0 : List Int) (l0_1 : List (List Int)) (l0_2 : List Int) (l0_3 : List Int) (a0_4 : Int) (a1 : Int) (a2 : Int) (a3 : Int) (a4 : Int) : Option (Int) := if 0 ≤ a1 then (if a1 < (l0_2.length : Int) then ((tests_trial_weight.f k l0_0 l0_1 l0_2 l0_3 a0_4 a2).bind fun t134 => (some (wrap64 ((wrap64 ((wrap64 ((rd l0_2 a1) * t134)) + a3)) + a4)))) else (none)) else (none)
def tests_mean.T1 : Bool × List (List Nat × List Nat) := (true, [([], []), ([0], [0]), ([1], [1]), ([], []), ([2, 3], [2, 3]), ([4], [4]), ([], []), ([], []), ([6, 7], [6, 7]), ([5, 8], [5, 8]), ([], []), ([9, 10], [9, 10]), ([], []), ([11, 12], [11, 12]), ([13, 8, 0, 1, 2, 3, 4, 5, 6, 7, 8, 9, 10, 11, 12, 13], [13])])
def tests_mean.B1 : List Nat := [0, 1, 3, 0, 15, 31, 0, 0, 192, 511, 0, 2047, 0, 8191, 16383]
theorem tests_mean.tab1 : rtab .any (opsOf Tryd.f40 1) = tests_mean.T1 := by kernel_rfl
theorem tests_mean.bits1 : waitsOk tests_mean.T1.2 tests_mean.B1 = true := by kernel_rfl
set_option maxHeartbeats 8000000 in
set_option maxRecDepth 100000 in
theorem tests_mean.calls (k : Nat) (A0_0 : Option Addr) (c0_0 : Nat) (l0_0 : List Int) (A0_1 : Option Addr) (c0_1 : Nat) (l0_1 : List (List Int)) (A0_2 : Option Addr) (c0_2 : Nat) (l0_2 : List Int) (A0_3 : Option Addr) (c0_3 : Nat) (l0_3 : List Int) (a0_4 : Int) (a1 : Int) (a2 : Int) (a3 : Int) (a4 : Int) (r : Int) (w : World) (hr0_0 : Kd.C (Kd.int .i64) w A0_0 l0_0.length l0_0) (hc0_0 : l0_0.length ≤ c0_0) (hr0_1 : Kd.C (Kd.slice 3 (Kd.int .i64)) w A0_1 l0_1.length l0_1) (hc0_1 : l0_1.length ≤ c0_1) (hr0_2 : Kd.C (Kd.int .i64) w A0_2 l0_2.length l0_2) (hc0_2 : l0_2.length ≤ c0_2) (hr0_3 : Kd.C (Kd.int .u64) w A0_3 l0_3.length l0_3) (hc0_3 : l0_3.length ≤ c0_3) (h : tests_mean.f k l0_0 l0_1 l0_2 l0_3 a0_4 a1 a2 a3 a4 = some r) :
  Calls Tryd.prog 40 #[.agg #[.slice A0_0 l0_0.length c0_0, .slice A0_1 l0_1.length c0_1, .slice A0_2 l0_2.length c0_2, .slice A0_3 l0_3.length c0_3, .int .u64 a0_4], .int .i64 a1, .int .u64 a2, .int .i64 a3, .int .i64 a4] w fun e w' => e = .returned (.int .i64 r) ∧ Below w.heap.size w w' := by
 have hu77 := Tryd.underlying77
 have HR0_0 := Aside0.mk hr0_0
 have HC0_0 := Aside0.mk hc0_0
 clear hr0_0 hc0_0
 have HR0_1 := Aside0.mk hr0_1
 have HC0_1 := Aside0.mk hc0_1
 clear hr0_1 hc0_1
 have HR0_2 := Aside0.mk hr0_2
 have HC0_2 := Aside0.mk hc0_2
 clear hr0_2 hc0_2
 have HR0_3 := Aside0.mk hr0_3
 have HC0_3 := Aside0.mk hc0_3
 clear hr0_3 hc0_3
 have HB := Aside0.mk (Below.refl w.heap.size w)
 have H : (if 0 ≤ a1 then (if a1 < (l0_2.length : Int) then ((tests_trial_weight.f k l0_0 l0_1 l0_2 l0_3 a0_4 a2).bind fun t134 => (some (wrap64 ((wrap64 ((wrap64 ((rd l0_2 a1) * t134)) + a3)) + a4)))) else (none)) else (none)) = some r := h
 clear h
 by_cases c6 : 0 ≤ a1
 ·rw [if_pos c6] at H
  have c6b0 : decide (0 ≤ a1) = true := decide_eq_true c6
  clear c6
  by_cases c7 : a1 < (l0_2.length : Int)
  ·rw [if_pos c7] at H
   have c7b0 : decide (a1 < (l0_2.length : Int)) = true := decide_eq_true c7
   clear c7
   replace H := Option.bind_eq_some_iff.mp H
   obtain ⟨t134, A80, H⟩ := H
   replace H : (some (wrap64 ((wrap64 ((wrap64 ((rd l0_2 a1) * t134)) + a3)) + a4))) = some r := H
   have A8 := Aside0.mk A80
   clear A80
   obtain rfl := Option.some.inj H
   go_enter Tryd.func40, Tryd.ntmps40
   try go_wp2_with (first | ((with_reducible refine gate_dst (N := 5) rfl ?_); refine box_event ?hg (N := 5) ?hd (cs := #[.slice A0_0 l0_0.length c0_0, .slice A0_1 l0_1.length c0_1, .slice A0_2 l0_2.length c0_2, .slice A0_3 l0_3.length c0_3, .int .u64 a0_4]) (t := 77) ?hr ?_; (case hd => rfl); (case hg => rfl); (case hr => first | (go_simp; done) | (go_simp; rfl)); intro gb132 hg w9 hbox hb; have n0_ := Aside0.mk (below_step bz hb); have n1_ := Aside0.mk (hbox); have n2_ := Aside0.mk ((by rw [hg]; exact (below_size bz) : w.heap.size ≤ gb132)); have n3_ := Aside0.mk ((by rw [hg]; exact (below_size bz) : w.heap.size ≤ gb132)); clear HB; have HB := n0_; have BK132 := n1_; have GW132 := n2_; have GE132 := n3_; clear n0_ n1_ n2_ n3_; clear hb hbox hg))
   have n0_ := Aside0.mk (blk_drew BK132.out)
   have n1_ := Aside0.mk (below_drew1 HB.out)
   clear BK132
   clear HB
   have BK132 := n0_
   have HB := n1_
   clear n0_ n1_
   have p133 : 0 ≤ (a1 : Int) := of_decide_eq_true az
   have q133 : a1 < (l0_2.length : Int) := of_decide_eq_true az
   obtain ⟨ad133, e133, hx133_0⟩ := Kd.at_int HR0_2.out a1 p133 q133
   have hw133_0 := hx133_0
   cases e133
   replace hx133_0 := (HB.out.cell (World.block_lt_of_cell? w _ hx133_0)).trans hx133_0
   replace p133 := eq_true p133
   replace q133 := eq_true q133
   refine start_ (n := 15) (S := fun w' => w'.cell? ⟨gb132, 0, none⟩ = some (.slice A0_0 l0_0.length c0_0) ∧ w'.cell? ⟨gb132, 1, none⟩ = some (.slice A0_1 l0_1.length c0_1) ∧ w'.cell? ⟨gb132, 2, none⟩ = some (.slice (some ad133) l0_2.length c0_2) ∧ w'.cell? ⟨gb132, 3, none⟩ = some (.slice A0_3 l0_3.length c0_3) ∧ w'.cell? ⟨gb132, 4, none⟩ = some (.int .u64 a0_4) ∧ w'.cell? (ad133.add (a1).toNat) = some (.int .i64 (rd l0_2 a1))) (ds := []) #[false, false, false, false, false, false, false, false, false, false, false, false, false, false, false] (by kernel_rfl) rfl rfl ⟨(blk_cell BK132.out 0).trans rfl, (blk_cell BK132.out 1).trans rfl, (blk_cell BK132.out 2).trans rfl, (blk_cell BK132.out 3).trans rfl, (blk_cell BK132.out 4).trans rfl, ((HB.out.cell (World.block_lt_of_cell? w _ hw133_0)).trans hw133_0)⟩ (fun hHeld => ?_); refine with_tabW tests_mean.tab1 tests_mean.bits1 (fun HT_ HW_ => ?_)
   generalize w9.drew = w10 at BK132 HB hx133_0 hHeld ⊢
   refine pure_ (i := 0) (N := some 11) (v := ?_) (a' := ?_) #[true, false, false, false, false, false, false, false, false, false, false, false, false, false, false] rfl rfl (any_of HT_.out (by kernel_rfl)) (fun _ _ _ h => h) (Or.inl ⟨by rfl, ?_⟩) ?_ ?_
   rotate_left
   ·intro w'
    go_simp
    with_reducible rfl
   rotate_left
   ·simp only [Act.put, List.setIfInBounds_toArray, List.set_cons_zero, List.set_cons_succ, i64_w, i32_w]
    rfl
   refine pure_ (i := 1) (N := some 12) (v := ?_) (a' := ?_) #[true, true, false, false, false, false, false, false, false, false, false, false, false, false, false] rfl rfl (any_of HT_.out (by kernel_rfl)) (fun _ _ _ h => h) (Or.inl ⟨by rfl, ?_⟩) ?_ ?_
   rotate_left
   ·intro w'
    go_simp
    with_reducible rfl
   rotate_left
   ·simp only [Act.put, List.setIfInBounds_toArray, List.set_cons_zero, List.set_cons_succ, i64_w, i32_w]
    rfl
   refine pure_ (i := 3) (N := some 14) (v := ?_) (a' := ?_) #[true, true, false, true, false, false, false, false, false, false, false, false, false, false, false] rfl rfl (any_of HT_.out (by kernel_rfl)) (fun _ _ _ h => h) (Or.inl ⟨by rfl, ?_⟩) ?_ ?_
   rotate_left
   ·intro w'
    go_simp
    with_reducible rfl
   rotate_left
   ·simp only [Act.put, List.setIfInBounds_toArray, List.set_cons_zero, List.set_cons_succ, i64_w, i32_w]
    rfl
   refine pure_ (i := 7) (N := some 18) (v := ?_) (a' := ?_) #[true, true, false, true, false, false, false, true, false, false, false, false, false, false, false] rfl rfl (any_of HT_.out (by kernel_rfl)) (fun _ _ _ h => h) (Or.inl ⟨by rfl, ?_⟩) ?_ ?_
   rotate_left
   ·intro w'
    go_simp
    with_reducible rfl
   rotate_left
   ·simp only [Act.put, List.setIfInBounds_toArray, List.set_cons_zero, List.set_cons_succ, i64_w, i32_w]
    rfl
   refine pure_ (i := 10) (N := some 21) (v := ?_) (a' := ?_) #[true, true, false, true, false, false, false, true, false, false, true, false, false, false, false] rfl rfl (any_of HT_.out (by kernel_rfl)) (fun _ _ _ h => h) (Or.inl ⟨by rfl, ?_⟩) ?_ ?_
   rotate_left
   ·intro w'
    go_simp
    with_reducible rfl
   rotate_left
   ·simp only [Act.put, List.setIfInBounds_toArray, List.set_cons_zero, List.set_cons_succ, i64_w, i32_w]
    rfl
   refine pure_ (i := 12) (N := some 23) (v := ?_) (a' := ?_) #[true, true, false, true, false, false, false, true, false, false, true, false, true, false, false] rfl rfl (any_of HT_.out (by kernel_rfl)) (fun _ _ _ h => h) (Or.inl ⟨by rfl, ?_⟩) ?_ ?_
   rotate_left
   ·intro w'
    go_simp
    with_reducible rfl
   rotate_left
   ·simp only [Act.put, List.setIfInBounds_toArray, List.set_cons_zero, List.set_cons_succ, i64_w, i32_w]
    rfl
   refine take_ (i := 2) (N := some 13) (v := ?_) (a' := ?_) #[true, true, true, true, false, false, false, true, false, false, true, false, true, false, false] rfl rfl (take_ofW HT_.out HW_.out (by kernel_rfl)) (fun _ _ _ h => h) (Or.inl ⟨by rfl, ?_⟩) hHeld ?_ ?_
   rotate_left
   ·rintro w' ⟨s0, s1, s2, s3, s4, s5⟩
    go_simp
    with_reducible rfl
   rotate_left
   ·simp only [Act.put, List.setIfInBounds_toArray, List.set_cons_zero, List.set_cons_succ, i64_w, i32_w]
    rfl
   refine pure_ (i := 4) (N := some 15) (v := ?_) (a' := ?_) #[true, true, true, true, true, false, false, true, false, false, true, false, true, false, false] rfl rfl (any_of HT_.out (by kernel_rfl)) (fun _ _ _ h => h) (Or.inl ⟨by rfl, ?_⟩) ?_ ?_
   rotate_left
   ·intro w'
    go_simp
    with_reducible rfl
   rotate_left
   ·simp only [Act.put, List.setIfInBounds_toArray, List.set_cons_zero, List.set_cons_succ, i64_w, i32_w]
    rfl
   refine take_ (i := 5) (N := some 16) (v := ?_) (a' := ?_) #[true, true, true, true, true, true, false, true, false, false, true, false, true, false, false] rfl rfl (take_ofW HT_.out HW_.out (by kernel_rfl)) (fun _ _ _ h => h) (Or.inl ⟨by rfl, ?_⟩) hHeld ?_ ?_
   rotate_left
   ·rintro w' ⟨s0, s1, s2, s3, s4, s5⟩
    go_simp
    with_reducible rfl
   rotate_left
   ·simp only [Act.put, List.setIfInBounds_toArray, List.set_cons_zero, List.set_cons_succ, i64_w, i32_w]
    rfl
   refine take_ (i := 6) (N := some 17) (v := ?_) (a' := ?_) #[true, true, true, true, true, true, true, true, false, false, true, false, true, false, false] rfl rfl (take_ofW HT_.out HW_.out (by kernel_rfl)) (fun _ _ _ h => h) (Or.inl ⟨by rfl, ?_⟩) hHeld ?_ ?_
   rotate_left
   ·rintro w' ⟨s0, s1, s2, s3, s4, s5⟩
    go_simp
    with_reducible rfl
   rotate_left
   ·simp only [Act.put, List.setIfInBounds_toArray, List.set_cons_zero, List.set_cons_succ, i64_w, i32_w]
    rfl
   refine one_ (i := 8) (N := some 19) #[true, true, true, true, true, true, true, true, true, false, true, false, true, false, false] rfl rfl (one_of HT_.out (by kernel_rfl)) (by decide) (fun K hK => ?_)
   refine goes_ Tryd.func52 (by kernel_rfl) rfl #[.agg #[.slice A0_0 l0_0.length c0_0, .slice A0_1 l0_1.length c0_1, .slice (some ad133) l0_2.length c0_2, .slice A0_3 l0_3.length c0_3, .int .u64 a0_4], .int .u64 a2] (by rfl) rfl rfl dz ?_
   with_reducible refine (tests_trial_weight.calls k _ _ l0_0 _ _ l0_1 _ _ l0_2 _ _ l0_3 a0_4 a2 t134 _ ?side1 ?side2 ?side3 ?side4 ?side5 ?side6 ?side7 ?side8 A8.out).mono ?_
   (case side1 => exact cz ((Kd.C_below HR0_0.out HB.out)))
   (case side2 => exact HC0_0.out)
   (case side3 => exact cz ((Kd.C_below HR0_1.out HB.out)))
   (case side4 => exact HC0_1.out)
   (case side5 => exact cz ((Kd.C_below HR0_2.out HB.out)))
   (case side6 => exact HC0_2.out)
   (case side7 => exact cz ((Kd.C_below HR0_3.out HB.out)))
   (case side8 => exact HC0_3.out)
   rintro e w11 ⟨rfl, hb⟩
   refine ⟨_, rfl, ?_⟩
   have n0_ := Aside0.mk (kb BK132.out hb)
   have n1_ := Aside0.mk (below_step bz hb)
   clear BK132
   clear HB
   have BK132 := n0_
   have HB := n1_
   clear n0_ n1_
   (try clear hb)
   (try clear hb2)
   (try clear hk)
   (try clear hi)
   refine hK.out _ _ ⟨(blk_cell BK132.out 0).trans rfl, (blk_cell BK132.out 1).trans rfl, (blk_cell BK132.out 2).trans rfl, (blk_cell BK132.out 3).trans rfl, (blk_cell BK132.out 4).trans rfl, ((HB.out.cell (World.block_lt_of_cell? w _ hw133_0)).trans hw133_0)⟩ (fun hHeld => ?_)
   clear hK K
   refine norm_ (a' := ?_) ?_ ?_
   rotate_left
   ·show Act.put _ (some 19) _ = _
    simp only [Act.put, List.setIfInBounds_toArray, List.set_cons_zero, List.set_cons_succ, i64_w, i32_w]
    rfl
   refine pure_ (i := 9) (N := some 20) (v := ?_) (a' := ?_) #[true, true, true, true, true, true, true, true, true, true, true, false, true, false, false] rfl rfl (any_of HT_.out (by kernel_rfl)) (fun _ _ _ h => h) (Or.inl ⟨by rfl, ?_⟩) ?_ ?_
   rotate_left
   ·intro w'
    go_simp
    with_reducible rfl
   rotate_left
   ·simp only [Act.put, List.setIfInBounds_toArray, List.set_cons_zero, List.set_cons_succ, i64_w, i32_w]
    rfl
   refine pure_ (i := 11) (N := some 22) (v := ?_) (a' := ?_) #[true, true, true, true, true, true, true, true, true, true, true, true, true, false, false] rfl rfl (any_of HT_.out (by kernel_rfl)) (fun _ _ _ h => h) (Or.inl ⟨by rfl, ?_⟩) ?_ ?_
   rotate_left
   ·intro w'
    go_simp
    with_reducible rfl
   rotate_left
   ·simp only [Act.put, List.setIfInBounds_toArray, List.set_cons_zero, List.set_cons_succ, i64_w, i32_w]
    rfl
   refine pure_ (i := 13) (N := some 24) (v := ?_) (a' := ?_) #[true, true, true, true, true, true, true, true, true, true, true, true, true, true, false] rfl rfl (any_of HT_.out (by kernel_rfl)) (fun _ _ _ h => h) (Or.inl ⟨by rfl, ?_⟩) ?_ ?_
   rotate_left
   ·intro w'
    go_simp
    with_reducible rfl
   rotate_left
   ·simp only [Act.put, List.setIfInBounds_toArray, List.set_cons_zero, List.set_cons_succ, i64_w, i32_w]
    rfl
   refine pure_ (i := 14) (N := some 10) (v := ?_) (a' := ?_) #[true, true, true, true, true, true, true, true, true, true, true, true, true, true, true] rfl rfl (any_of HT_.out (by kernel_rfl)) (fun _ _ _ h => h) (Or.inl ⟨by rfl, ?_⟩) ?_ ?_
   rotate_left
   ·intro w'
    go_simp
    with_reducible rfl
   rotate_left
   ·simp only [Act.put, List.setIfInBounds_toArray, List.set_cons_zero, List.set_cons_succ, i64_w, i32_w]
    rfl
   refine done_ (done_of HT_.out (by kernel_rfl)) ?_
   try go_wp2
   go_ret
   exact ⟨by first | rfl | (simp [errW_none, errW_some] <;> rfl) | (simp [*, errW_none, errW_some] <;> rfl), by repeat (first | (with_reducible first | exact HB.out | apply below_alloc | apply pw_below_drewN | apply below_drew1 | refine below_set ?_ GE132.out) | exact HB.out)⟩
  ·rw [if_neg c7] at H
   exact absurd H (by simp)
 ·rw [if_neg c6] at H
  exact absurd H (by simp)

end Go.Proofs.YtekmiepdodaidaaDoor.X
end

section
namespace Go.Proofs.YtekmiepdodaidaaDoor.X
open Go.RowKit Go.Proofs.YtekmiepdodaidaaDoorW.PrintWords Go.Proofs.YtekmiepdodaidaaDoorW.PrintLast Go.Proofs.YtekmiepdodaidaaDoorW.PrintMore
attribute [local go_sem] max2_int min2_int max_two min_two max_three min_three max_four min_four   -- for this text's walks alone
set_option linter.unusedVariables false
set_option linter.unusedSimpArgs false

def tests_worst.f (l0_0 : List Int) (l0_1 : List (List Int)) (l0_2 : List Int) (l0_3 : List Int) (a0_4 : Int) (a1 : Int) (a2 : Int) (a3 : Int) (a4 : Int) : Option (Int) := if 0 ≤ a1 then (if a1 < (l0_2.length : Int) then (some (wrap64 ((rd l0_2 a1) + (mx a3 a4)))) else (none)) else (none)
set_option maxHeartbeats 8000000 in
set_option maxRecDepth 100000 in
theorem tests_worst.calls (A0_0 : Option Addr) (c0_0 : Nat) (l0_0 : List Int) (A0_1 : Option Addr) (c0_1 : Nat) (l0_1 : List (List Int)) (A0_2 : Option Addr) (c0_2 : Nat) (l0_2 : List Int) (A0_3 : Option Addr) (c0_3 : Nat) (l0_3 : List Int) (a0_4 : Int) (a1 : Int) (a2 : Int) (a3 : Int) (a4 : Int) (r : Int) (w : World) (hr0_0 : Kd.C (Kd.int .i64) w A0_0 l0_0.length l0_0) (hc0_0 : l0_0.length ≤ c0_0) (hr0_1 : Kd.C (Kd.slice 3 (Kd.int .i64)) w A0_1 l0_1.length l0_1) (hc0_1 : l0_1.length ≤ c0_1) (hr0_2 : Kd.C (Kd.int .i64) w A0_2 l0_2.length l0_2) (hc0_2 : l0_2.length ≤ c0_2) (hr0_3 : Kd.C (Kd.int .u64) w A0_3 l0_3.length l0_3) (hc0_3 : l0_3.length ≤ c0_3) (h : tests_worst.f l0_0 l0_1 l0_2 l0_3 a0_4 a1 a2 a3 a4 = some r) :
  Calls Tryd.prog 41 #[.agg #[.slice A0_0 l0_0.length c0_0, .slice A0_1 l0_1.length c0_1, .slice A0_2 l0_2.length c0_2, .slice A0_3 l0_3.length c0_3, .int .u64 a0_4], .int .i64 a1, .int .u64 a2, .int .i64 a3, .int .i64 a4] w fun e w' => e = .returned (.int .i64 r) ∧ Below w.heap.size w w' := by
 have hu77 := Tryd.underlying77
 have HR0_0 := Aside0.mk hr0_0
 have HC0_0 := Aside0.mk hc0_0
 clear hr0_0 hc0_0
 have HR0_1 := Aside0.mk hr0_1
 have HC0_1 := Aside0.mk hc0_1
 clear hr0_1 hc0_1
 have HR0_2 := Aside0.mk hr0_2
 have HC0_2 := Aside0.mk hc0_2
 clear hr0_2 hc0_2
 have HR0_3 := Aside0.mk hr0_3
 have HC0_3 := Aside0.mk hc0_3
 clear hr0_3 hc0_3
 have HB := Aside0.mk (Below.refl w.heap.size w)
 have H : (if 0 ≤ a1 then (if a1 < (l0_2.length : Int) then (some (wrap64 ((rd l0_2 a1) + (mx a3 a4)))) else (none)) else (none)) = some r := h
 clear h
 by_cases c6 : 0 ≤ a1
 ·rw [if_pos c6] at H
  have c6b0 : decide (0 ≤ a1) = true := decide_eq_true c6
  clear c6
  by_cases c7 : a1 < (l0_2.length : Int)
  ·rw [if_pos c7] at H
   have c7b0 : decide (a1 < (l0_2.length : Int)) = true := decide_eq_true c7
   clear c7
   obtain ⟨ji8, hji8⟩ : ∃ j_ : Int, (mx a3 a4) = j_ := ⟨_, rfl⟩
   replace H : (some (wrap64 ((rd l0_2 a1) + (ji8)))) = some r := by first | (rw [hji8] at H; exact H) | (simp only [hji8] at H ⊢; exact H)
   have hji8_ : (if a3 < a4 then a4 else a3) = ji8 := hji8
   obtain rfl := Option.some.inj H
   go_enter Tryd.func41, Tryd.ntmps41
   go_wp2_with (first | ((with_reducible refine gate_dst (N := 5) rfl ?_); refine box_event ?hg (N := 5) ?hd (cs := #[.slice A0_0 l0_0.length c0_0, .slice A0_1 l0_1.length c0_1, .slice A0_2 l0_2.length c0_2, .slice A0_3 l0_3.length c0_3, .int .u64 a0_4]) (t := 77) ?hr ?_; (case hd => rfl); (case hg => rfl); (case hr => first | (go_simp; done) | (go_simp; rfl)); intro gb135 hg w9 hbox hb; have n0_ := Aside0.mk (below_step bz hb); have n1_ := Aside0.mk (hbox); have n2_ := Aside0.mk ((by rw [hg]; exact (below_size bz) : w.heap.size ≤ gb135)); have n3_ := Aside0.mk ((by rw [hg]; exact (below_size bz) : w.heap.size ≤ gb135)); clear HB; have HB := n0_; have BK135 := n1_; have GW135 := n2_; have GE135 := n3_; clear n0_ n1_ n2_ n3_; clear hb hbox hg; have hcz10_0 : w9.cell? ⟨gb135, 0, none⟩ = some (.slice A0_0 l0_0.length c0_0) := (blk_cell BK135.out 0).trans rfl; have hcz10_1 : w9.cell? ⟨gb135, 1, none⟩ = some (.slice A0_1 l0_1.length c0_1) := (blk_cell BK135.out 1).trans rfl; have hcz10_2 : w9.cell? ⟨gb135, 2, none⟩ = some (.slice A0_2 l0_2.length c0_2) := (blk_cell BK135.out 2).trans rfl; have hcz10_3 : w9.cell? ⟨gb135, 3, none⟩ = some (.slice A0_3 l0_3.length c0_3) := (blk_cell BK135.out 3).trans rfl; have hcz10_4 : w9.cell? ⟨gb135, 4, none⟩ = some (.int .u64 a0_4) := (blk_cell BK135.out 4).trans rfl; have hfz10_0 := blk_frozen BK135.out 0; have hfz10_1 := blk_frozen BK135.out 1; have hfz10_2 := blk_frozen BK135.out 2; have hfz10_3 := blk_frozen BK135.out 3; have hfz10_4 := blk_frozen BK135.out 4; have p136 : 0 ≤ (a1 : Int) := of_decide_eq_true az; have q136 : a1 < (l0_2.length : Int) := of_decide_eq_true az; obtain ⟨ad136, e136, hx136_0⟩ := Kd.at_int HR0_2.out a1 p136 q136; cases e136; replace hx136_0 := (HB.out.cell (World.block_lt_of_cell? w _ hx136_0)).trans hx136_0; replace p136 := eq_true p136; replace q136 := eq_true q136))
   go_ret
   exact ⟨by first | rfl | (simp [errW_none, errW_some] <;> rfl) | (simp only [← hji8]; first | rfl | (simp [errW_none, errW_some] <;> rfl)) | (simp [*, errW_none, errW_some] <;> rfl), by repeat (first | (with_reducible first | exact HB.out | apply below_alloc | apply pw_below_drewN | apply below_drew1 | refine below_set ?_ GE135.out) | exact HB.out)⟩
  ·rw [if_neg c7] at H
   exact absurd H (by simp)
 ·rw [if_neg c6] at H
  exact absurd H (by simp)

end Go.Proofs.YtekmiepdodaidaaDoor.X
end

section
/- tests.Best and tests.Worst, by hand. -/
set_option linter.unusedVariables false
set_option linter.unusedSimpArgs false
namespace Go.Proofs.YtekmiepdodaidaaDoor.X
open Go.RowKit Go.Proofs.YtekmiepdodaidaaDoorW.PrintWords Go.Proofs.YtekmiepdodaidaaDoorW.PrintLast Go.Proofs.YtekmiepdodaidaaDoorW.PrintMore

/-- The measures, as the program reckons them. -/
def mfMean (a : List Int) (b : List (List Int)) (c : List Int) (k s z o : Int) : Int := (tests_mean.f 12 a b c (onesOf b) (allOf a) k s z o).getD 0
def mfWorst (a : List Int) (b : List (List Int)) (c : List Int) (k s z o : Int) : Int := (tests_worst.f a b c (onesOf b) (allOf a) k s z o).getD 0
theorem weight_some (a : List Int) (s : Int) (ha : a.length ≤ 10) (m : Nat) : ∀ (i k : Nat) (acc : Int), i + m = a.length → m < k → ∃ r, tests_trial_weight.l0 k s acc a (a.length : Int) (i : Int) = some r := by
 induction m with
 | zero =>
  intro i k acc hi hk
  obtain ⟨k, rfl⟩ : ∃ k', k = k' + 1 := ⟨k - 1, by omega⟩
  exact ⟨acc, by simp only [tests_trial_weight.l0]; rw [if_neg (by omega)]⟩
 | succ m ih =>
  intro i k acc hi hk
  obtain ⟨k, rfl⟩ : ∃ k', k = k' + 1 := ⟨k - 1, by omega⟩
  have hw : wrap64 ((i : Int) + 1) = ((i + 1 : Nat) : Int) := by unfold wrap64; omega
  simp only [tests_trial_weight.l0]
  rw [if_pos (by omega), if_pos (by omega), if_pos (by omega)]
  unfold tests_faults_has.f
  rw [if_pos (by omega), hw]
  simp only [Option.bind_some]
  split
  ·exact ih (i + 1) k _ (by omega) (by omega)
  ·exact ih (i + 1) k _ (by omega) (by omega)
section
variable {a : List Int} {b : List (List Int)} {c : List Int}
theorem mean_some (h : CaseIs a b c) (k : Nat) (s z o : Int) (hk : k < (onesOf b).length) : tests_mean.f 12 a b c (onesOf b) (allOf a) k s z o = some (mfMean a b c k s z o) := by
 unfold mfMean
 rw [onesOf_len, ← h.cb] at hk
 obtain ⟨r, hr⟩ := weight_some a s h.a10 a.length 0 12 0 (by omega) (by have := h.a10; omega)
 have hs : ∃ r, tests_mean.f 12 a b c (onesOf b) (allOf a) k s z o = some r := by
  unfold tests_mean.f tests_trial_weight.f
  rw [if_pos (by omega), if_pos (by omega), show tests_trial_weight.l0 12 s 0 a (a.length : Int) 0 = some r from hr]
  exact ⟨_, rfl⟩
 obtain ⟨q, hq⟩ := hs
 rw [hq]; rfl
theorem worst_some (h : CaseIs a b c) (k : Nat) (s z o : Int) (hk : k < (onesOf b).length) : tests_worst.f a b c (onesOf b) (allOf a) k s z o = some (mfWorst a b c k s z o) := by
 unfold mfWorst
 rw [onesOf_len, ← h.cb] at hk
 have hs : ∃ r, tests_worst.f a b c (onesOf b) (allOf a) k s z o = some r := by
  unfold tests_worst.f
  rw [if_pos (by omega), if_pos (by omega)]
  exact ⟨_, rfl⟩
 obtain ⟨q, hq⟩ := hs
 rw [hq]; rfl
theorem meas40 (h : CaseIs a b c) : MeasOk40 a b c (mfMean a b c) := by
 intro A0 c0 A1 c1 A2 c2 A3 c3 w k s z o hA r3 n3 hk hs
 refine (tests_mean.calls 12 A0 c0 a A1 c1 b A2 c2 c A3 c3 (onesOf b) (allOf a) k s z o _ w hA.r0 hA.n0 hA.r1 hA.n1 hA.r2 hA.n2 r3 n3 (mean_some h k s z o hk)).mono ?_
 exact fun e w' h => h
theorem meas41 (h : CaseIs a b c) : MeasOk41 a b c (mfWorst a b c) := by
 intro A0 c0 A1 c1 A2 c2 A3 c3 w k s z o hA r3 n3 hk hs
 refine (tests_worst.calls A0 c0 a A1 c1 b A2 c2 c A3 c3 (onesOf b) (allOf a) k s z o _ w hA.r0 hA.n0 hA.r1 hA.n1 hA.r2 hA.n2 r3 n3 (worst_some h k s z o hk)).mono ?_
 exact fun e w' h => h
end
/-- What Best and Worst answer, by the measure. -/
def optRes (mf : Int → Int → Int → Int → Int) (a : List Int) (b : List (List Int)) (c : List Int) : List S57 × Int × Int :=
 if caseB a b c = true then (if alikeL (onesOf b) a.length = [] then (treeB (fun s => (chs mf (onesOf b) s).1) (onesOf b) (allOf a) 0, cstB (chs mf (onesOf b)) (allOf a), 0) else ([], 0, 6)) else ([], 0, 2)
def tests_Best.f (a : List Int) (b : List (List Int)) (c : List Int) : Option (List S57 × Int × Int) := some (optRes (mfMean a b c) a b c)
def tests_Worst.f (a : List Int) (b : List (List Int)) (c : List Int) : Option (List S57 × Int × Int) := some (optRes (mfWorst a b c) a b c)
def OptPost (r : List S57 × Int × Int) (w : World) (e : Ending) (w' : World) : Prop := ∃ v, e = .returned (.tuple #[v, .int .i64 r.2.1, .int .i64 r.2.2]) ∧ Kd.R k57 57 w' w.heap.size (fun _ => True) v r.1 ∧ Below w.heap.size w w'
section
variable {A0 : Option Addr} {c0 : Nat} {a : List Int} {A1 : Option Addr} {c1 : Nat} {b : List (List Int)} {A2 : Option Addr} {c2 : Nat} {c : List Int} {w : World}
theorem opt40 (h : CaseAt w A0 c0 a A1 c1 b A2 c2 c) (hT : Tab w) : Calls Tryd.prog 39 #[.agg #[.slice A0 a.length c0, .slice A1 b.length c1, .slice A2 c.length c2], .func (.func 40) #[] #[]] w (OptPost (optRes (mfMean a b c) a b c) w) := by
 unfold optRes
 by_cases hc : caseB a b c = true
 ·rw [if_pos hc]
  by_cases hal : alikeL (onesOf b) a.length = []
  ·rw [if_pos hal]; exact opt_good40 _ (meas40 (case_is hc)) h hc hal hT
  ·rw [if_neg hal]; exact (opt_alike40 h hc hal).mono fun e w' ⟨h1, h2⟩ => ⟨_, h1, Kd.R_nil _ _ _ _ _, h2⟩
 ·rw [if_neg hc]; exact (opt_bad40 h (by simpa using hc)).mono fun e w' ⟨h1, h2⟩ => ⟨_, h1, Kd.R_nil _ _ _ _ _, h2⟩
theorem opt41 (h : CaseAt w A0 c0 a A1 c1 b A2 c2 c) (hT : Tab w) : Calls Tryd.prog 39 #[.agg #[.slice A0 a.length c0, .slice A1 b.length c1, .slice A2 c.length c2], .func (.func 41) #[] #[]] w (OptPost (optRes (mfWorst a b c) a b c) w) := by
 unfold optRes
 by_cases hc : caseB a b c = true
 ·rw [if_pos hc]
  by_cases hal : alikeL (onesOf b) a.length = []
  ·rw [if_pos hal]; exact opt_good41 _ (meas41 (case_is hc)) h hc hal hT
  ·rw [if_neg hal]; exact (opt_alike41 h hc hal).mono fun e w' ⟨h1, h2⟩ => ⟨_, h1, Kd.R_nil _ _ _ _ _, h2⟩
 ·rw [if_neg hc]; exact (opt_bad41 h (by simpa using hc)).mono fun e w' ⟨h1, h2⟩ => ⟨_, h1, Kd.R_nil _ _ _ _ _, h2⟩
end
set_option maxRecDepth 100000 in
theorem tests_Best.calls (A0 : Option Addr) (c0 : Nat) (a : List Int) (A1 : Option Addr) (c1 : Nat) (b : List (List Int)) (A2 : Option Addr) (c2 : Nat) (c : List Int) (r1 : List S57) (r2 r3 : Int) (w : World)
  (h0 : Kd.C (Kd.int .i64) w A0 a.length a) (n0 : a.length ≤ c0) (h1 : Kd.C (Kd.slice 3 (Kd.int .i64)) w A1 b.length b) (n1 : b.length ≤ c1) (h2 : Kd.C (Kd.int .i64) w A2 c.length c) (n2 : c.length ≤ c2) (h : tests_Best.f a b c = some (r1, r2, r3)) (hT : Tab w) :
  Calls Tryd.prog 14 #[.agg #[.slice A0 a.length c0, .slice A1 b.length c1, .slice A2 c.length c2]] w fun e w' => ∃ v0_ : Value, e = .returned (.tuple #[v0_, .int .i64 r2, .int .i64 r3]) ∧ Kd.R k57 57 w' w.heap.size (fun _ => True) v0_ r1 ∧ Below w.heap.size w w' := by
 have H := Aside0.mk (show CaseAt w A0 c0 a A1 c1 b A2 c2 c from ⟨h0, n0, h1, n1, h2, n2⟩)
 have HT := Aside0.mk hT
 have HB := Aside0.mk (below_alloc (Below.refl w.heap.size w) (.cells #[.slice A0 a.length c0, .slice A1 b.length c1, .slice A2 c.length c2] 25 (0, 0)))
 have hr := Option.some.inj h
 obtain ⟨r, hr'⟩ : ∃ r, r = optRes (mfMean a b c) a b c := ⟨_, rfl⟩
 have HO := Aside0.mk (opt40 (H.out.below HB.out) (HT.out.below HB.out))
 rw [← hr'] at HO hr
 subst hr
 clear h0 h1 h2 h hT hr'
 go_enter Tryd.func14, Tryd.ntmps14
 go_wp2_with (go_at_call 39; refine HO.out.mono ?_; rintro e w9 ⟨v9, rfl, hr9, hb9⟩; have HR9 := Aside0.mk hr9; have HB9 := Aside0.mk (below_step HB.out hb9); clear hr9 hb9)
 go_ret3
 exact ⟨v9, rfl, Kd.R_lower HR9.out (below_size HB.out), HB9.out⟩
set_option maxRecDepth 100000 in
theorem tests_Worst.calls (A0 : Option Addr) (c0 : Nat) (a : List Int) (A1 : Option Addr) (c1 : Nat) (b : List (List Int)) (A2 : Option Addr) (c2 : Nat) (c : List Int) (r1 : List S57) (r2 r3 : Int) (w : World)
  (h0 : Kd.C (Kd.int .i64) w A0 a.length a) (n0 : a.length ≤ c0) (h1 : Kd.C (Kd.slice 3 (Kd.int .i64)) w A1 b.length b) (n1 : b.length ≤ c1) (h2 : Kd.C (Kd.int .i64) w A2 c.length c) (n2 : c.length ≤ c2) (h : tests_Worst.f a b c = some (r1, r2, r3)) (hT : Tab w) :
  Calls Tryd.prog 15 #[.agg #[.slice A0 a.length c0, .slice A1 b.length c1, .slice A2 c.length c2]] w fun e w' => ∃ v0_ : Value, e = .returned (.tuple #[v0_, .int .i64 r2, .int .i64 r3]) ∧ Kd.R k57 57 w' w.heap.size (fun _ => True) v0_ r1 ∧ Below w.heap.size w w' := by
 have H := Aside0.mk (show CaseAt w A0 c0 a A1 c1 b A2 c2 c from ⟨h0, n0, h1, n1, h2, n2⟩)
 have HT := Aside0.mk hT
 have HB := Aside0.mk (below_alloc (Below.refl w.heap.size w) (.cells #[.slice A0 a.length c0, .slice A1 b.length c1, .slice A2 c.length c2] 25 (0, 0)))
 have hr := Option.some.inj h
 obtain ⟨r, hr'⟩ : ∃ r, r = optRes (mfWorst a b c) a b c := ⟨_, rfl⟩
 have HO := Aside0.mk (opt41 (H.out.below HB.out) (HT.out.below HB.out))
 rw [← hr'] at HO hr
 subst hr
 clear h0 h1 h2 h hT hr'
 go_enter Tryd.func15, Tryd.ntmps15
 go_wp2_with (go_at_call 39; refine HO.out.mono ?_; rintro e w9 ⟨v9, rfl, hr9, hb9⟩; have HR9 := Aside0.mk hr9; have HB9 := Aside0.mk (below_step HB.out hb9); clear hr9 hb9)
 go_ret3
 exact ⟨v9, rfl, Kd.R_lower HR9.out (below_size HB.out), HB9.out⟩
end Go.Proofs.YtekmiepdodaidaaDoor.X
end

section
/- (trial).divides, by hand: do the tests of a list tell all faults apart? -/
set_option linter.unusedVariables false
set_option linter.unusedSimpArgs false
namespace Go.Proofs.YtekmiepdodaidaaDoor.X
open Go.RowKit Go.Proofs.YtekmiepdodaidaaDoorW.PrintWords Go.Proofs.YtekmiepdodaidaaDoorW.PrintLast Go.Proofs.YtekmiepdodaidaaDoorW.PrintMore
open Go.Maps (Keyed)

theorem keyed3 : Keyed Tryd.prog 3 := Maps.int_keyed Tryd.underlying3
theorem zero4 (w : World) : (zeroValue 4).run Tryd.prog w = .ok (.bool false) w := by kernel_rfl
def ki (s : Int) : Lit := .int .i64 s
theorem ki_of {s : Int} (h : 0 ≤ s ∧ s ≤ 1000000) : keyOf Tryd.prog 3 (.int .i64 s) = some (ki s) := Maps.keyOf_int_mk Tryd.underlying3 (WalkArith.wf_i64 (by omega))
theorem ki_inj {s u : Int} (h : ki s = ki u) : s = u := by unfold ki at h; injection h
/-- The results of a fault in the tests of a list, as one number. -/
def resB (ones : List Int) (f : Nat) : List Int → Nat → Nat
 | [], r => r
 | k :: l, r => resB ones f l (2 * r + (if hasB (rd ones k) f = true then 1 else 0))
/-- No two of the first m faults have the same results. -/
def apartB (ones : List Int) (l : List Int) (m : Nat) : Bool := decide (((List.range m).map fun f => resB ones f l 0).Nodup)
theorem resB_lt (ones : List Int) (f : Nat) : ∀ (l : List Int) (r n : Nat), r < 2 ^ n → resB ones f l r < 2 ^ (n + l.length)
 | [], r, n, h => by simpa [resB] using h
 | k :: l, r, n, h => by
  have := resB_lt ones f l (2 * r + (if hasB (rd ones k) f = true then 1 else 0)) (n + 1) (by rw [Nat.pow_succ]; split <;> omega)
  rw [List.length_cons, show n + (l.length + 1) = n + 1 + l.length by omega]
  exact this
theorem resB_snoc (ones : List Int) (f : Nat) : ∀ (l : List Int) (k : Int) (r : Nat), resB ones f (l ++ [k]) r = 2 * resB ones f l r + (if hasB (rd ones k) f = true then 1 else 0)
 | [], k, r => rfl
 | x :: l, k, r => by
  show resB ones f (l ++ [k]) _ = _
  rw [resB_snoc ones f l k]; rfl
theorem apartB_zero (ones l : List Int) : apartB ones l 0 = true := rfl
theorem apartB_snoc (ones l : List Int) (m : Nat) : apartB ones l (m + 1) = (apartB ones l m && decide (∀ f, f < m → resB ones f l 0 ≠ resB ones m l 0)) := by
 unfold apartB
 rw [List.range_succ, List.map_append, List.map_cons, List.map_nil]
 rw [Bool.eq_iff_iff]
 simp only [Bool.and_eq_true, decide_eq_true_eq, List.nodup_append, List.mem_map, List.mem_range, List.mem_singleton]
 constructor
 ·rintro ⟨h1, _, h3⟩
  exact ⟨h1, fun f hf e => h3 _ ⟨f, hf, rfl⟩ _ rfl e⟩
 ·rintro ⟨h1, h2⟩
  refine ⟨h1, by simp, ?_⟩
  rintro x ⟨f, hf, rfl⟩ y rfl
  exact h2 f hf
theorem apartB_le (ones l : List Int) {m n : Nat} (h : m ≤ n) (hf : apartB ones l m = false) : apartB ones l n = false := by
 obtain ⟨d, rfl⟩ : ∃ d, n = m + d := ⟨n - m, by omega⟩
 clear h
 induction d with
 | zero => exact hf
 | succ d ih => rw [show m + (d + 1) = (m + d) + 1 by omega, apartB_snoc, ih]; rfl
theorem or_step (x : Int) (hx : SetB x) (r f : Nat) (hr : r < 4096) (hf : f < 10) : Go.bits .or .i64 (wrap64 ((r : Int) * 2)) (wrap64 (Go.bits .and .u64 (x / 2 ^ f) 1)) = ((2 * r + (if hasB x f = true then 1 else 0) : Nat) : Int) := by
 unfold SetB at hx
 obtain ⟨v, rfl⟩ : ∃ v : Nat, x = v := ⟨x.toNat, by omega⟩
 rw [hasB_nat v f (by omega), Nat.testBit_eq_decide_div_mod_eq]
 have hq : (v : Int) / 2 ^ f = ((v / 2 ^ f : Nat) : Int) := by simp
 have hle : v / 2 ^ f ≤ v := Nat.div_le_self _ _
 rw [hq]
 generalize v / 2 ^ f = q at hle ⊢
 clear hq
 rw [u64_and (q : Int) 1 (by omega) (by omega) (by omega) (by omega)]
 simp only [Int.toNat_natCast, Int.toNat_one]
 rw [Nat.and_one_is_mod]
 have e1 : wrap64 ((r : Int) * 2) = ((2 * r : Nat) : Int) := by unfold wrap64; omega
 have e2 : wrap64 ((q % 2 : Nat) : Int) = ((q % 2 : Nat) : Int) := by unfold wrap64; omega
 rw [e1, e2, (bits_nat .i64 20 (by decide) (fun n h0 h1 => by rw [IntKind.wrap_i64]; omega) (2 * r) (q % 2) (by omega) (by omega)).2]
 have h2 := Nat.two_pow_add_eq_or_of_lt (b := q % 2) (i := 1) (by omega) r
 rw [Nat.pow_one] at h2
 rw [← h2]
 by_cases h1 : q % 2 = 1
 ·simp [h1]
 ·have h0 : q % 2 = 0 := by omega
  simp [h0]
/-- The map of what was seen, when f faults are done. -/
structure SeenAt (ones l : List Int) (w w' : World) (B f : Nat) : Prop where mk ::
 ex : ∃ g, MapIs Tryd.prog 3 w' B f g ∧ (∀ r : Nat, r < 4096 → (g (ki r) = some (.bool true) ∨ g (ki r) = none) ∧ (g (ki r) = some (.bool true) ↔ ∃ f', f' < f ∧ resB ones f' l 0 = r)) ∧ Below w.heap.size w w' ∧ w.heap.size ≤ B
theorem seen_next {ones l : List Int} {w w1 : World} {B f r : Nat} {g : KMap} (hm : MapIs Tryd.prog 3 w1 B (f + 1) (g.put (ki r) (.bool true))) (hg : ∀ r : Nat, r < 4096 → (g (ki r) = some (.bool true) ∨ g (ki r) = none) ∧ (g (ki r) = some (.bool true) ↔ ∃ f', f' < f ∧ resB ones f' l 0 = r)) (hr : resB ones f l 0 = r) (hb : Below w.heap.size w w1) (hB : w.heap.size ≤ B) : SeenAt ones l w w1 B (f + 1) := by
 refine ⟨⟨_, hm, fun q hq => ?_, hb, hB⟩⟩
 by_cases e : q = r
 ·subst e
  have hp : g.put (ki q) (.bool true) (ki q) = some (.bool true) := KMap.put_same g (show WideAt.IsKeyLit (ki q) from trivial) _
  exact ⟨.inl hp, fun _ => ⟨f, Nat.lt_succ_self _, hr⟩, fun _ => hp⟩
 ·have hp : g.put (ki r) (.bool true) (ki q) = g (ki q) := KMap.put_other g (fun h => e (by have := ki_inj h; omega)) _
  rw [hp]
  refine ⟨(hg q hq).1, ?_⟩
  rw [(hg q hq).2]
  constructor
  ·rintro ⟨f', h1, h2⟩; exact ⟨f', by omega, h2⟩
  ·rintro ⟨f', h1, h2⟩
   by_cases ef : f' = f
   ·subst ef; exact absurd (h2.symm.trans hr) (fun h => e h)
   ·exact ⟨f', by omega, h2⟩
set_option maxHeartbeats 8000000 in
set_option maxRecDepth 100000 in
theorem divides_n {A0 : Option Addr} {c0 : Nat} {a : List Int} {A1 : Option Addr} {c1 : Nat} {b : List (List Int)} {A2 : Option Addr} {c2 : Nat} {c : List Int} {w : World} (h : CaseAt w A0 c0 a A1 c1 b A2 c2 c) (ha : a.length ≤ 10) (A3 : Option Addr) (c3 : Nat) (ones : List Int) (al : Int)
  (r3 : Kd.C (Kd.int .u64) w A3 ones.length ones) (n3 : ones.length ≤ c3) (ho : ∀ x ∈ ones, SetB x) (AL : Option Addr) (cl : Nat) (l : List Int) (rl : Kd.C (Kd.int .i64) w AL l.length l) (hl : l.length ≤ 12) (hk : ∀ k ∈ l, 0 ≤ k ∧ k < ones.length) :
  Calls Tryd.prog 53 #[.agg #[.slice A0 a.length c0, .slice A1 b.length c1, .slice A2 c.length c2, .slice A3 ones.length c3, .int .u64 al], .slice AL l.length cl] w fun e w' => e = .returned (.bool (apartB ones l a.length)) ∧ Below w.heap.size w w' := by
 have H := Aside0.mk h
 have R3 := Aside0.mk r3
 have HO := Aside0.mk ho
 have RL := Aside0.mk rl
 have HK := Aside0.mk hk
 have hm3 := Kd.C_max r3
 have hml := Kd.C_max rl
 have hmm := @run_makeMap Tryd.prog
 clear h r3 ho rl hk
 go_enter Tryd.func53, Tryd.ntmps53
 go_wp2
 go_loopg [15] a.length (fun kq v15 w' => ∃ f : Nat, v15 = .int .i64 f ∧ Aside0 (kq + f = a.length) ∧ Aside0 (apartB ones l f = true) ∧ Aside0 (SeenAt ones l (w.alloc (.cells #[.slice A0 a.length c0, .slice A1 b.length c1, .slice A2 c.length c2, .slice A3 ones.length c3, .int .u64 al] 77 (0, 0))) w' (w.heap.size + 1) f))
 case atStart =>
  refine ⟨0, rfl, ⟨by omega⟩, ⟨apartB_zero ones l⟩, ⟨⟨⟨KMap.empty, ?_, fun r _ => ⟨.inr rfl, ⟨fun h => (by cases h), fun ⟨_, h, _⟩ => absurd h (Nat.not_lt_zero _)⟩⟩, below_alloc (Below.refl _ _) _, (by rw [size_alloc']; omega)⟩⟩⟩⟩
  have := MapIs.made (w.alloc (.cells #[.slice A0 a.length c0, .slice A1 b.length c1, .slice A2 c.length c2, .slice A3 ones.length c3, .int .u64 al] 77 (0, 0))) Tryd.prog 3
  rwa [size_alloc'] at this
 case round =>
  obtain ⟨f, rfl, HKQ, HAP, HSE⟩ := hrel
  obtain ⟨k1, rfl⟩ : ∃ k1, k1 = gk := ⟨_, rfl⟩
  by_cases hf : f < a.length
  ·have hbx : wr.heap[w.heap.size]? = some (.cells #[.slice A0 a.length c0, .slice A1 b.length c1, .slice A2 c.length c2, .slice A3 ones.length c3, .int .u64 al] 77 (0, 0)) := by
    obtain ⟨g, _, _, hb, _⟩ := HSE.out.ex
    exact blk_below (blk_new w _) hb
   have HBX := Aside0.mk hbx
   have hcz : wr.cell? ⟨w.heap.size, 3, none⟩ = some (.slice A3 ones.length c3) := (blk_cell hbx 3).trans rfl
   have R3W := Aside0.mk (show Kd.C (Kd.int .u64) wr A3 ones.length ones by obtain ⟨g, _, _, hb, _⟩ := HSE.out.ex; exact Kd.C_below (Kd.C_alloc R3.out _) hb)
   have RLW := Aside0.mk (show Kd.C (Kd.int .i64) wr AL l.length l by obtain ⟨g, _, _, hb, _⟩ := HSE.out.ex; exact Kd.C_below (Kd.C_alloc RL.out _) hb)
   clear hbx
   go_upto_region 7 with (fail)
   go_loopg [20, 7] l.length (fun kq v20 v7 w' => ∃ j r : Nat, v20 = .int .i64 j ∧ v7 = .int .i64 r ∧ w' = wr ∧ Aside0 (kq + j = l.length) ∧ Aside0 (resB ones f (l.take j) 0 = r))
   case atStart => exact ⟨0, 0, rfl, rfl, rfl, ⟨by omega⟩, ⟨rfl⟩⟩
   case round =>
    obtain ⟨j, r, rfl, rfl, rfl, HJ, HR⟩ := hrel
    obtain ⟨k2, rfl⟩ : ∃ k2, k2 = gk := ⟨_, rfl⟩
    by_cases hj : j < l.length
    ·obtain ⟨adl, e1, hx⟩ := Kd.at_int RLW.out (j : Int) (by omega) (by omega)
     cases e1
     simp only [Int.toNat_natCast] at hx
     have hmem : rd l (j : Int) ∈ l := by simp [rd, List.getD_eq_getElem?_getD, List.getElem?_eq_getElem hj]
     obtain ⟨hk0, hk1⟩ := HK.out _ hmem
     obtain ⟨kn, hkn⟩ : ∃ kn : Nat, rd l (j : Int) = kn := ⟨(rd l (j : Int)).toNat, by omega⟩
     have HKN := Aside0.mk hkn
     rw [hkn] at hx hk1
     clear hmem hk0 hkn
     have hkn' : kn < ones.length := by omega
     obtain ⟨ad3, e3, hx3⟩ := Kd.at_int R3W.out (kn : Int) (by omega) (by omega)
     cases e3
     simp only [Int.toNat_natCast] at hx3
     obtain ⟨x, hxn⟩ : ∃ x, rd ones (kn : Int) = x := ⟨_, rfl⟩
     rw [hxn] at hx3
     have hSX : SetB x := by
      rw [← hxn]; refine HO.out _ ?_
      simp only [rd, Int.toNat_natCast, List.getD_eq_getElem?_getD, List.getElem?_eq_getElem hkn', Option.getD_some]; exact List.getElem_mem hkn'
     have hlt : (l.take j).length = j := by rw [List.length_take]; omega
     have hr4 : r < 4096 := by
      have h1 := resB_lt ones f (l.take j) 0 0 (by simp)
      rw [HR.out, hlt, Nat.zero_add] at h1
      have h2 : 2 ^ j ≤ 2 ^ 11 := Nat.pow_le_pow_right (by omega) (by omega)
      omega
     have HST := Aside0.mk (or_step x hSX r f hr4 (by omega))
     have hts : l.take (j + 1) = l.take j ++ [rd l (j : Int)] := by
      rw [List.take_succ_eq_append_getElem hj]; simp [rd, List.getD_eq_getElem?_getD, List.getElem?_eq_getElem hj]
     have HR2 := Aside0.mk (show resB ones f (l.take (j + 1)) 0 = 2 * r + (if hasB x f = true then 1 else 0) by rw [hts, resB_snoc, HR.out, HKN.out, hxn])
     clear hSX hlt hr4 hts hxn
     go_wp2
     go_roundg (k2 - 1)
     case measure => have := HJ.out; omega
     case rel => exact ⟨j + 1, 2 * r + (if hasB x f = true then 1 else 0), by go_num, by rw [HST.out], rfl, ⟨by have := HJ.out; omega⟩, HR2⟩
    ·obtain rfl : j = l.length := by have := HJ.out; omega
     have hR := HR.out
     rw [List.take_length] at hR
     have HRR := Aside0.mk hR
     have hr4 : r < 4096 := by
      have h1 := resB_lt ones f l 0 0 (by simp)
      rw [hR, Nat.zero_add] at h1
      have h2 : 2 ^ l.length ≤ 2 ^ 12 := Nat.pow_le_pow_right (by omega) (by omega)
      omega
     obtain ⟨g, hmp, hg, hb, hB⟩ := HSE.out.ex
     have HMP := Aside0.mk hmp
     have HG := Aside0.mk hg
     have HBL := Aside0.mk hb
     have HBB := Aside0.mk hB
     obtain ⟨hg1, hg2⟩ := hg r hr4
     have HG2 := Aside0.mk hg2
     have hlook := hmp.look (t := 102) (e := 4) keyed3 Tryd.underlying102 (zero4 _) (ki_of (s := (r : Int)) (by omega))
     have HKY := Aside0.mk (ki_of (s := (r : Int)) (by omega))
     have hfl : f < maxLen := by unfold maxLen; omega
     clear hR hmp hg hb hB hg2 hj
     rcases hg1 with hg1 | hg1
     ·rw [hg1] at hlook
      simp only [Option.getD_some] at hlook
      have hno : apartB ones l a.length = false := by
       obtain ⟨f', hf', he⟩ := HG2.out.1 hg1
       refine apartB_le ones l (show f + 1 ≤ a.length by omega) ?_
       rw [apartB_snoc, decide_eq_false (fun h => h f' hf' (by rw [he, HRR.out])), Bool.and_false]
      have HNO := Aside0.mk hno
      clear hg1 hno
      go_wp2
      go_ret
      exact ⟨by rw [HNO.out]; rfl, below_step (below_alloc (Below.refl _ _) _) HBL.out⟩
     ·rw [hg1] at hlook
      simp only [Option.getD_none] at hlook
      have hnew : ∀ f', f' < f → resB ones f' l 0 ≠ r := fun f' hf' he => by
       have := HG2.out.2 ⟨f', hf', he⟩
       rw [hg1] at this; cases this
      have hap : apartB ones l (f + 1) = true := by rw [apartB_snoc, HAP.out, Bool.true_and]; exact decide_eq_true (fun f' hf' e => hnew f' hf' (e.trans HRR.out))
      have HAP2 := Aside0.mk hap
      clear hg1 hnew hap
      go_wp2_with (at_mapUpdate; refine wpList_put_is _ rfl _ _ _ 102 rfl 3 4 keyed3 Tryd.underlying102 (w.heap.size + 1) f g rfl HMP.out hfl (.int .i64 r) _ (ki r) rfl rfl HKY.out ?_; intro w1 hown1 hgrow1; have HO1 := Aside0.mk hown1; have HG1 := Aside0.mk hgrow1; clear hown1 hgrow1)
      go_roundg (k1 - 1)
      case measure => have := HKQ.out; omega
      case rel => exact ⟨f + 1, by go_num, ⟨by have := HKQ.out; omega⟩, HAP2, ⟨seen_next HO1.out HG.out HRR.out (HBL.out.grown HG1.out HBL.out.size (fun k e => by injection e with e; subst e; exact HBB.out)) HBB.out⟩⟩
  ·obtain rfl : f = a.length := by have := HKQ.out; omega
   have HBL := Aside0.mk (show Below w.heap.size w wr by obtain ⟨g, _, _, hb, _⟩ := HSE.out.ex; exact below_step (below_alloc (Below.refl _ _) _) hb)
   go_wp2
   go_ret
   exact ⟨by rw [HAP.out]; rfl, HBL.out⟩
end Go.Proofs.YtekmiepdodaidaaDoor.X
end

section
namespace Go.Proofs.YtekmiepdodaidaaDoor.X
open Go.RowKit Go.Proofs.YtekmiepdodaidaaDoorW.PrintWords Go.Proofs.YtekmiepdodaidaaDoorW.PrintLast Go.Proofs.YtekmiepdodaidaaDoorW.PrintMore
attribute [local go_sem] max2_int min2_int max_two min_two max_three min_three max_four min_four   -- for this text's walks alone
set_option linter.unusedVariables false
set_option linter.unusedSimpArgs false

def cmp_Or_int.l0 : Nat → Int → List Int → Int → Int → Option (Int)
 | 0, _, _, _, _ => none
 | k + 1, x3, x6, x7, x8 => if x8 < x7 then (if 0 ≤ x8 then (if x8 < (x6.length : Int) then (if (rd x6 x8) = x3 then (cmp_Or_int.l0 k x3 x6 x7 (wrap64 (x8 + 1))) else (some (rd x6 x8))) else (none)) else (none)) else (some x3)
def cmp_Or_int.f (k : Nat) (l0 : List Int) : Option (Int) := cmp_Or_int.l0 k 0 l0 (l0.length : Int) 0
set_option maxHeartbeats 8000000 in
set_option maxRecDepth 100000 in
theorem cmp_Or_int.calls (k : Nat) (A0 : Option Addr) (c0 : Nat) (l0 : List Int) (r : Int) (w : World) (hr0 : Kd.C (Kd.int .i64) w A0 l0.length l0) (hc0 : l0.length ≤ c0) (h : cmp_Or_int.f k l0 = some r) :
  Calls Tryd.prog 54 #[.slice A0 l0.length c0] w fun e w' => e = .returned (.int .i64 r) ∧ Drawn0 w w' := by
 have HR0 := Aside0.mk hr0
 have HC0 := Aside0.mk hc0
 clear hr0 hc0
 have H : (cmp_Or_int.l0 k 0 l0 (l0.length : Int) 0) = some r := h
 clear h
 have H' := Aside0.mk H
 clear H
 go_enter Tryd.func54, Tryd.ntmps54
 go_wp2
 go_loopg [8] k (fun kq v8 w' => ∃ (x8_1 : Int), v8 = .int .i64 x8_1 ∧ Aside0 (cmp_Or_int.l0 kq 0 l0 (l0.length : Int) x8_1 = some r) ∧ Aside0 (kq ≤ k) ∧ Drawn0 w w')
 case atStart => exact ⟨(0), (by first | rfl | (simp; done) | (simp [*]; done)), H', ⟨Nat.le_refl _⟩, by repeat (first | exact Drawn0.refl _ | apply Drawn0.step)⟩
 case round =>
  clear H'
  obtain ⟨x8_1, rfl, HA, HK1, ⟨m1, rfl⟩⟩ := hrel
  cases gk with
  | zero => exact absurd HA.out (by simp [cmp_Or_int.l0])
  | succ k1 =>
   have H := HA.out
   clear HA
   simp only [cmp_Or_int.l0] at H
   by_cases c2 : x8_1 < (l0.length : Int)
   ·rw [if_pos c2] at H
    have c2b0 : decide (x8_1 < (l0.length : Int)) = true := decide_eq_true c2
    clear c2
    by_cases c3 : 0 ≤ x8_1
    ·rw [if_pos c3] at H
     have c3b0 : decide (0 ≤ x8_1) = true := decide_eq_true c3
     clear c3
     by_cases c4 : x8_1 < (l0.length : Int)
     ·rw [if_pos c4] at H
      have c4b0 : decide (x8_1 < (l0.length : Int)) = true := decide_eq_true c4
      clear c4
      by_cases c5 : (rd l0 x8_1) = 0
      ·rw [if_pos c5] at H
       have c5b0 : ((rd l0 x8_1) == 0) = true := beq_iff_eq.mpr c5
       have c5b1 : ((rd l0 x8_1) != 0) = false := bne_eq_false_iff_eq.mpr c5
       clear c5
       have H' := Aside0.mk H
       clear H
       have p168 : 0 ≤ (x8_1 : Int) := of_decide_eq_true az
       have q168 : x8_1 < (l0.length : Int) := of_decide_eq_true az
       obtain ⟨ad168, e168, hx168_0⟩ := Kd.at_int HR0.out x8_1 p168 q168
       cases e168
       replace p168 := eq_true p168
       replace q168 := eq_true q168
       go_wp2
       go_roundg k1
       case measure => have := HK1.out; omega
       case rel => exact ⟨(wrap64 (x8_1 + 1)), (by first | rfl | (simp; done) | (simp [*]; done)), H', ⟨by have := HK1.out; omega⟩, by repeat (first | exact Drawn0.refl _ | apply Drawn0.step)⟩
      ·rw [if_neg c5] at H
       have c5b0 : ((rd l0 x8_1) == 0) = false := beq_eq_false_iff_ne.mpr c5
       have c5b1 : ((rd l0 x8_1) != 0) = true := bne_iff_ne.mpr c5
       obtain rfl := Option.some.inj H
       have p168 : 0 ≤ (x8_1 : Int) := of_decide_eq_true az
       have q168 : x8_1 < (l0.length : Int) := of_decide_eq_true az
       obtain ⟨ad168, e168, hx168_0⟩ := Kd.at_int HR0.out x8_1 p168 q168
       cases e168
       replace p168 := eq_true p168
       replace q168 := eq_true q168
       go_wp2
       go_ret
       exact ⟨by first | rfl | (simp; done) | (simp [*]; done), by repeat (first | exact Drawn0.refl _ | apply Drawn0.step)⟩
     ·rw [if_neg c4] at H
      exact absurd H (by simp)
    ·rw [if_neg c3] at H
     exact absurd H (by simp)
   ·rw [if_neg c2] at H
    have c2b0 : decide (x8_1 < (l0.length : Int)) = false := decide_eq_false c2
    clear c2
    obtain rfl := Option.some.inj H
    go_wp2
    go_ret
    exact ⟨by first | rfl | (simp; done) | (simp [*]; done), by repeat (first | exact Drawn0.refl _ | apply Drawn0.step)⟩

end Go.Proofs.YtekmiepdodaidaaDoor.X
end

section
namespace Go.Proofs.YtekmiepdodaidaaDoor.X
open Go.RowKit Go.Proofs.YtekmiepdodaidaaDoorW.PrintWords Go.Proofs.YtekmiepdodaidaaDoorW.PrintLast Go.Proofs.YtekmiepdodaidaaDoorW.PrintMore
attribute [local go_sem] max2_int min2_int max_two min_two max_three min_three max_four min_four   -- for this text's walks alone
set_option linter.unusedVariables false
set_option linter.unusedSimpArgs false

def cmp_isNaN_int.f (a0 : Int) : Option (Bool) := some (a0 != a0)
set_option maxHeartbeats 8000000 in
set_option maxRecDepth 100000 in
theorem cmp_isNaN_int.calls (a0 : Int) (r : Bool) (w : World) (h : cmp_isNaN_int.f a0 = some r) :
  Calls Tryd.prog 71 #[.int .i64 a0] w fun e w' => e = .returned (.bool r) ∧ Drawn0 w w' := by
 have H : (some (a0 != a0)) = some r := h
 clear h
 obtain rfl := Option.some.inj H
 go_enter Tryd.func71, Tryd.ntmps71
 go_wp2
 go_ret
 exact ⟨by first | rfl | (simp; done) | (simp [*]; done), by repeat (first | exact Drawn0.refl _ | apply Drawn0.step)⟩

end Go.Proofs.YtekmiepdodaidaaDoor.X
end
