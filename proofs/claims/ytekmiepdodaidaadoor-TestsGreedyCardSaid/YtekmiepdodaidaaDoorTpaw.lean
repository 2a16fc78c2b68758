/- Texts behind TestsGreedy, part 23: contracts of the program's functions and the plain words for them. -/
import Derived.Test.YtekmiepdodaidaaDoorTpas
import Derived.Test.YtekmiepdodaidaaDoorTpau
import Derived.Test.YtekmiepdodaidaaDoorTpav
section
/- (trial).best's closure find, by hand: the step, with the measure of function 40. -/
set_option linter.unusedVariables false
set_option linter.unusedSimpArgs false
namespace Go.Proofs.YtekmiepdodaidaaDoor.X
open Go.RowKit Go.Proofs.YtekmiepdodaidaaDoorW.PrintWords Go.Proofs.YtekmiepdodaidaaDoorW.PrintLast Go.Proofs.YtekmiepdodaidaaDoorW.PrintMore

/-- What is asked of the measure. -/
def MOk40 (E : FEnv) (mf : Int → Int → Int → Int → Int) : Prop :=
 ∀ (W : World) (k : Nat) (s z o : Int), Below E.W0.heap.size E.W0 W → k < E.l3.length → SetB s → Calls Tryd.prog 40 #[.agg #[.slice E.A0 E.l0.length E.c0, .slice E.A1 E.l1.length E.c1, .slice E.A2 E.l2.length E.c2, .slice E.A3 E.l3.length E.c3, .int .u64 E.al], .int .i64 k, .int .u64 s, .int .i64 z, .int .i64 o] W fun e w' => e = .returned (.int .i64 (mf k s z o)) ∧ Below W.heap.size W w'
theorem fs_mk40 {E : FEnv} {ch : Int → Int × Int} {g : KMap} {w' : World} (h : FW E ch w' g) (hM : E.M = 40) :
  w'.cell? ⟨E.gm, 0, none⟩ = some (.func (.func 40) #[] #[]) ∧ w'.cell? ⟨E.gf, 0, none⟩ = some (.func (.func 72) #[] #[.pointer (some ⟨E.go, 0, none⟩), .pointer (some ⟨E.gt, 0, none⟩), .pointer (some ⟨E.gm, 0, none⟩), .pointer (some ⟨E.gf, 0, none⟩)]) ∧ w'.cell? ⟨E.gt, 0, none⟩ = some (.slice E.A0 E.l0.length E.c0) ∧ w'.cell? ⟨E.gt, 1, none⟩ = some (.slice E.A1 E.l1.length E.c1) ∧ w'.cell? ⟨E.gt, 2, none⟩ = some (.slice E.A2 E.l2.length E.c2) ∧ w'.cell? ⟨E.gt, 3, none⟩ = some (.slice E.A3 E.l3.length E.c3) ∧ w'.cell? ⟨E.gt, 4, none⟩ = some (.int .u64 E.al) := by
 obtain ⟨h1, h2, h3, h4, h5, h6, h7, h8⟩ := h.cells
 rw [hM] at h2
 exact ⟨h2, h3, h4, h5, h6, h7, h8⟩
set_option maxHeartbeats 8000000 in
set_option maxRecDepth 100000 in
theorem find_step40 (E : FEnv) (ch : Int → Int × Int) (mf : Int → Int → Int → Int → Int) (hE : FOk E) (hM : MOk40 E mf) (hMn : E.M = 40) (s : Int) (hs : SetB s) (hs1 : 1 ≤ s) (hp : pcount s ≠ 1) (hch : ch s = chsStep mf E.l3 ch s) (W : World) (f : KMap) (h : FW E ch W f) (hm : (f (ky s)).isSome = false)
  (ih : ∀ u, SetB u → 1 ≤ u → u < s → ∀ W f, FW E ch W f → Calls Tryd.prog 72 #[.int .u64 u, .pointer (some ⟨E.go, 0, none⟩), .pointer (some ⟨E.gt, 0, none⟩), .pointer (some ⟨E.gm, 0, none⟩), .pointer (some ⟨E.gf, 0, none⟩)] W (FPost E ch W f u)) :
  Calls Tryd.prog 72 #[.int .u64 s, .pointer (some ⟨E.go, 0, none⟩), .pointer (some ⟨E.gt, 0, none⟩), .pointer (some ⟨E.gm, 0, none⟩), .pointer (some ⟨E.gf, 0, none⟩)] W (FPost E ch W f s) := by
 have HW := Aside0.mk h
 have HE := Aside0.mk hE
 have HS := Aside0.mk hs
 have HS1 := Aside0.mk hs1
 have HP := Aside0.mk hp
 have HNM := Aside0.mk hm
 have HCH := Aside0.mk hch
 have hM' := hM
 unfold MOk40 at hM'
 have HMM := Aside0.mk hM'
 clear hM'
 have IH := Aside0.mk ih
 have c1 : (pcount s == 1) = false := by simp [hp]
 have hv : f (ky s) = none := by cases hf : f (ky s) with | none => rfl | some v => rw [hf] at hm; cases hm
 have hcz : W.cell? ⟨E.go, 0, none⟩ = some (.map (some E.B)) := (blk_cell h.bo 0).trans rfl
 have hct : W.cell? ⟨E.gt, 3, none⟩ = some (.slice E.A3 E.l3.length E.c3) := (blk_cell h.bt 3).trans rfl
 have hgo : E.go < W.heap.size := blk_lt h.bo
 have hgt : E.gt < W.heap.size := blk_lt h.bt
 have hlook := h.mp.look_ok (t := 93) (e := 96) keyed75 Tryd.underlying93 (zero96 W) (ky_of hs)
 rw [hv] at hlook
 simp only [Option.getD_none, Option.isSome_none] at hlook
 have hm3 := Kd.C_max hE.r3
 obtain ⟨a3, ha3⟩ : ∃ a, a = E.A3 := ⟨_, rfl⟩
 rw [← ha3] at hct
 have HA3 := Aside0.mk ha3
 clear ha3
 clear h hs hs1 hp hm hv hch hM ih
 go_enter Tryd.func72, Tryd.ntmps72
 go_wp2_with (go_at_call 69; refine (ones_n _ (u64_id HS.out) _).mono ?_; rintro e w' ⟨rfl, rfl⟩)
 go_loopg [29] E.l3.length (fun kq v29 w' => ∃ k : Nat, v29 = .int .i64 k ∧ Aside0 (kq + k = E.l3.length) ∧ Aside0 (FLoop E ch mf W f s k w'))
 case atStart =>
  refine ⟨0, rfl, ⟨by omega⟩, ⟨f, -1, 0, ⟨(HW.out.alloc HE.out _).alloc HE.out _, grown_alloc (World.grownBy_alloc _ _ _) _, KMap.le_refl f, ?_⟩, (by intro j hj; omega), HCH.out.symm⟩⟩
  have := blk_new (W.alloc (.cells #[.int .i64 0, .int .i64 0] 96)) (.cells #[.int .i64 (-1), .int .i64 0] 96 (0, 0))
  rwa [show (W.alloc (.cells #[.int .i64 0, .int .i64 0] 96)).heap.size = W.heap.size + 1 by simp] at this
 case round =>
  obtain ⟨k, rfl, HK, HL⟩ := hrel
  obtain ⟨k1, rfl⟩ : ∃ k1, k1 = gk := ⟨_, rfl⟩
  obtain ⟨g, b1, b2, hMid, hdone, hpick⟩ := HL.out
  clear HL hcz hct hlook hgo hgt
  by_cases hk : k < E.l3.length
  ·have HMid := Aside0.mk hMid
   have HDone := Aside0.mk hdone
   have HPick := Aside0.mk hpick
   have hC := Kd.C_below HE.out.r3 hMid.fw.bl
   obtain ⟨ad, e1, hx⟩ := Kd.at_int hC (k : Int) (by omega) (by omega)
   simp only [Int.toNat_natCast] at hx
   obtain ⟨x, hxn⟩ : ∃ x, rd E.l3 (k : Int) = x := ⟨_, rfl⟩
   have HX := Aside0.mk hxn
   rw [hxn] at hx
   have HSX := Aside0.mk (show SetB x by
    rw [← hxn]; refine HE.out.sets _ ?_
    simp only [rd, Int.toNat_natCast, List.getD_eq_getElem?_getD, List.getElem?_eq_getElem hk, Option.getD_some]; exact List.getElem_mem hk)
   have HDR := Aside0.mk (show E.l3.drop k = x :: E.l3.drop (k + 1) by
    rw [List.drop_eq_getElem_cons hk, ← hxn]; simp [rd, List.getD_eq_getElem?_getD, List.getElem?_eq_getElem hk])
   obtain ⟨sa, hsa⟩ : ∃ sa, Go.bits .and .u64 s x = sa := ⟨_, rfl⟩
   obtain ⟨sb, hsb⟩ : ∃ sb, Go.bits .andNot .u64 s x = sb := ⟨_, rfl⟩
   have HSA := Aside0.mk (show bAnd s x = sa from hsa)
   have HSB := Aside0.mk (show bSub s x = sb from hsb)
   rw [← HA3.out] at e1
   clear hMid hdone hpick hC hxn
   cases e1
   by_cases hz : sa = 0 ∨ sb = 0
   ·have hnot : splitB s x = false := by unfold splitB; rw [HSA.out, HSB.out]; rcases hz with h0 | h0 <;> simp [h0]
    have HNOT := Aside0.mk hnot
    have hrel2 : Aside0 (FLoop E ch mf W f s (k + 1) wr) := ⟨⟨g, b1, b2, HMid.out, (by
     intro j hj
     by_cases ej : j = k
     ·subst ej; rw [HX.out, HNOT.out]; intro hf; cases hf
     ·exact HDone.out j (by omega)), (by
     have hp := HPick.out
     rw [HDR.out] at hp
     unfold pickB at hp
     rw [if_neg (by rw [HNOT.out]; decide)] at hp
     exact hp)⟩⟩
    clear hnot HMid HDone HPick
    by_cases ha : sa = 0
    ·have ca : (sa == 0) = true := by simp [ha]
     clear ha hz
     go_wp2
     go_roundg (k1 - 1)
     case measure => have := HK.out; omega
     case rel => exact ⟨k + 1, by go_num, ⟨by have := HK.out; omega⟩, hrel2⟩
    ·have ca : (sa == 0) = false := by simp [ha]
     have cb : (sb == 0) = true := by simp; omega
     clear ha hz
     go_wp2
     go_roundg (k1 - 1)
     case measure => have := HK.out; omega
     case rel => exact ⟨k + 1, by go_num, ⟨by have := HK.out; omega⟩, hrel2⟩
   ·have ca : (sa == 0) = false := by simp; omega
    have cb : (sb == 0) = false := by simp; omega
    have hyes : splitB s x = true := by unfold splitB; rw [HSA.out, HSB.out, ca, cb]; rfl
    have HYES := Aside0.mk hyes
    have hparts := split_parts HS.out HSX.out hyes
    rw [HSA.out, HSB.out] at hparts
    have HPA := Aside0.mk hparts
    clear hz hyes hparts
    go_upto_region 11 with (fail)
    have HPb := Aside0.mk (show SetB sb ∧ 1 ≤ sb ∧ sb < s by have h1 := HPA.out; have h2 := HS.out; unfold SetB at h2 ⊢; omega)
    have HPa := Aside0.mk (show SetB sa ∧ 1 ≤ sa ∧ sa < s by have h1 := HPA.out; have h2 := HS.out; unfold SetB at h2 ⊢; omega)
    go_region_held3 (fun w' => w'.cell? ⟨E.gm, 0, none⟩ = some (.func (.func 40) #[] #[]) ∧ w'.cell? ⟨E.gf, 0, none⟩ = some (.func (.func 72) #[] #[.pointer (some ⟨E.go, 0, none⟩), .pointer (some ⟨E.gt, 0, none⟩), .pointer (some ⟨E.gm, 0, none⟩), .pointer (some ⟨E.gf, 0, none⟩)]) ∧ w'.cell? ⟨E.gt, 0, none⟩ = some (.slice E.A0 E.l0.length E.c0) ∧ w'.cell? ⟨E.gt, 1, none⟩ = some (.slice E.A1 E.l1.length E.c1) ∧ w'.cell? ⟨E.gt, 2, none⟩ = some (.slice E.A2 E.l2.length E.c2) ∧ w'.cell? ⟨E.gt, 3, none⟩ = some (.slice E.A3 E.l3.length E.c3) ∧ w'.cell? ⟨E.gt, 4, none⟩ = some (.int .u64 E.al)) (first | exact fs_mk40 (HMid.out.fw.full HE.out (below_drew (Below.refl _ _))) hMn | exact fs_mk40 HM9.out.fw hMn | exact fs_mk40 HM10.out.fw hMn | exact fs_mk40 HM11.out.fw hMn)
     (first | (go_at_call 72; (with_reducible refine (IH.out sb ?side1 ?side2 ?side3 _ g (HMid.out.fw.full HE.out (below_drew (Below.refl _ _)))).mono ?_); (case side1 => exact HPb.out.1); (case side2 => exact HPb.out.2.1); (case side3 => exact HPb.out.2.2); rintro e w9 ⟨g9, rfl, hfw, hgr, hle, hdn⟩; (have HM9 := Aside0.mk (FMid.call HE.out HW.out.tp (HMid.out.below HE.out (below_drew (Below.refl _ _))) hfw hgr hle)); (have HL9 := Aside0.mk hle); (have HDb := Aside0.mk hdn); clear hfw hgr hle hdn) | (go_at_call 72; (with_reducible refine (IH.out sa ?side1 ?side2 ?side3 _ g9 HM9.out.fw).mono ?_); (case side1 => exact HPa.out.1); (case side2 => exact HPa.out.2.1); (case side3 => exact HPa.out.2.2); rintro e w10 ⟨g10, rfl, hfw, hgr, hle, hdn⟩; (have HM10 := Aside0.mk (FMid.call HE.out HW.out.tp HM9.out hfw hgr hle)); (have HL10 := Aside0.mk (KMap.le_trans HL9.out hle)); (have HDa := Aside0.mk hdn); (have HDb2 := Aside0.mk (doneB_le hle HDb.out)); clear hfw hgr hle hdn) | (go_at_call 40; (with_reducible refine (HMM.out _ k s (cstB ch sb) (cstB ch sa) ?side1 ?side2 ?side3).mono ?_); (case side1 => exact HM10.out.fw.bl); (case side2 => exact hk); (case side3 => exact HS.out); rintro e w11 ⟨rfl, hb⟩; (have HM11 := Aside0.mk (HM10.out.below HE.out hb)); clear hb))
    obtain ⟨cc, hcc⟩ : ∃ cc, mf k s (cstB ch sb) (cstB ch sa) = cc := ⟨_, rfl⟩
    rw [hcc]
    have HCC := Aside0.mk hcc
    clear hcc
    have hb0 : w11.cell? ⟨W.heap.size + 1, 0, none⟩ = some (.int .i64 b1) := (blk_cell HM11.out.bx 0).trans rfl
    have hb1 : w11.cell? ⟨W.heap.size + 1, 1, none⟩ = some (.int .i64 b2) := (blk_cell HM11.out.bx 1).trans rfl
    have hf0 := blk_frozen HM11.out.bx 0
    have hf1 := blk_frozen HM11.out.bx 1
    have HB1 := Aside0.mk hb1
    clear hb1
    have hb1 := HB1.out
    by_cases ht : b1 < 0 ∨ cc < b2
    ·have HT := Aside0.mk ht
     have hrel2 : Aside0 (FLoop E ch mf W f s (k + 1) ((w11.setCell ⟨W.heap.size + 1, 0, none⟩ (.int .i64 k)).setCell ⟨W.heap.size + 1, 1, none⟩ (.int .i64 cc))) :=
      ⟨FLoop.next hk HX.out HSA.out HSB.out HYES.out HDone.out HPick.out HDR.out HL10.out HDa.out HDb2.out (FMid.put HE.out HW.out.tp HM11.out k cc) (by rw [HCC.out, if_pos HT.out])⟩
     by_cases h0 : b1 < 0
     ·have d0 : decide (b1 < 0) = true := decide_eq_true h0
      clear ht h0
      go_wp2
      go_roundg (k1 - 1)
      case measure => have := HK.out; omega
      case rel => exact ⟨k + 1, by go_num, ⟨by have := HK.out; omega⟩, hrel2⟩
     ·have d0 : decide (b1 < 0) = false := decide_eq_false h0
      have d1 : decide (cc < b2) = true := decide_eq_true (by omega)
      clear ht h0
      go_wp2
      go_roundg (k1 - 1)
      case measure => have := HK.out; omega
      case rel => exact ⟨k + 1, by go_num, ⟨by have := HK.out; omega⟩, hrel2⟩
    ·have HT := Aside0.mk ht
     have hrel2 : Aside0 (FLoop E ch mf W f s (k + 1) w11) :=
      ⟨FLoop.next hk HX.out HSA.out HSB.out HYES.out HDone.out HPick.out HDR.out HL10.out HDa.out HDb2.out HM11.out (by rw [HCC.out, if_neg HT.out])⟩
     have d0 : decide (b1 < 0) = false := decide_eq_false (fun h => ht (.inl h))
     have d1 : decide (cc < b2) = false := decide_eq_false (fun h => ht (.inr h))
     clear ht
     go_wp2
     go_roundg (k1 - 1)
     case measure => have := HK.out; omega
     case rel => exact ⟨k + 1, by go_num, ⟨by have := HK.out; omega⟩, hrel2⟩
  ·obtain rfl : k = E.l3.length := by have := HK.out; omega
   rw [List.drop_length] at hpick
   have hbe : (b1, b2) = ch s := hpick
   have HBE := Aside0.mk hbe
   have hdone2 : ∀ x ∈ E.l3, splitB s x = true → doneB g (bSub s x) ∧ doneB g (bAnd s x) := by
    intro x hx hsp
    obtain ⟨j, hj, rfl⟩ := List.getElem_of_mem hx
    have he : rd E.l3 j = E.l3[j] := by simp [rd, List.getD_eq_getElem?_getD, List.getElem?_eq_getElem hj]
    have := hdone j hj
    rw [he] at this
    exact this hsp
   have HD2 := Aside0.mk hdone2
   have HMid := Aside0.mk hMid
   have hb0 : wr.cell? ⟨W.heap.size + 1, 0, none⟩ = some (.int .i64 b1) := (blk_cell hMid.bx 0).trans rfl
   have hb1 : wr.cell? ⟨W.heap.size + 1, 1, none⟩ = some (.int .i64 b2) := (blk_cell hMid.bx 1).trans rfl
   have hcz2 : wr.cell? ⟨E.go, 0, none⟩ = some (.map (some E.B)) := (blk_cell hMid.fw.bo 0).trans rfl
   have hB : some (W.heap.size + 1) ≠ some E.B := by intro e; injection e with e; have h1 := HE.out.lt; have h2 := HW.out.tp; omega
   have HB := Aside0.mk hB
   clear hMid hdone hpick hbe hdone2 hk hB
   go_wp2_with (at_mapUpdate; refine wpList_put_is _ rfl _ _ _ 93 rfl 75 96 keyed75 Tryd.underlying93 E.B 1024 g rfl HMid.out.fw.mp (by decide) (.int .u64 s) _ (ky s) rfl rfl (ky_of HS.out) ?_; intro w1 hown1 hgrow1; have HO1 := Aside0.mk hown1; have HG1 := Aside0.mk hgrow1; have hb1' : w1.cell? ⟨W.heap.size + 1, 1, none⟩ = some (.int .i64 b2) := (blk_cell (blk_grown HMid.out.bx hgrow1 HB.out) 1).trans rfl; clear hown1 hgrow1)
   go_ret
   have e1 : b1 = (ch s).1 := by rw [← HBE.out]
   have e2 : b2 = (ch s).2 := by rw [← HBE.out]
   have ho := HO1.out
   rw [e1, e2] at ho
   obtain ⟨hfw, hle⟩ := FW.put HE.out HMid.out.fw HS.out HS1.out HD2.out ho HG1.out
   exact ⟨_, retI (by unfold cstB; rw [if_neg HP.out, e2]), hfw, grown_then HMid.out.gr HG1.out, KMap.le_trans HMid.out.le hle, .inr (by rw [KMap.put_same _ (ky_key s)]; rfl)⟩
theorem find_all40 (E : FEnv) (ch : Int → Int × Int) (mf : Int → Int → Int → Int → Int) (hE : FOk E) (hM : MOk40 E mf) (hMn : E.M = 40) (hch : ∀ s, SetB s → 1 ≤ s → ch s = chsStep mf E.l3 ch s) (d : Nat) :
  ∀ u, SetB u → 1 ≤ u → u.toNat ≤ d → ∀ W f, FW E ch W f → Calls Tryd.prog 72 #[.int .u64 u, .pointer (some ⟨E.go, 0, none⟩), .pointer (some ⟨E.gt, 0, none⟩), .pointer (some ⟨E.gm, 0, none⟩), .pointer (some ⟨E.gf, 0, none⟩)] W (FPost E ch W f u) := by
 induction d with
 | zero => intro u h1 h2 h3; unfold SetB at h1; omega
 | succ d ih =>
  intro u h1 h2 h3 W f h
  by_cases hp : pcount u = 1
  ·exact find_one E ch u h1 hp W f h
  ·by_cases hm : (f (ky u)).isSome = true
   ·exact find_memo E ch u h1 hp W f h hE hm
   ·exact find_step40 E ch mf hE hM hMn u h1 h2 hp (hch u h1 h2) W f h (by simpa using hm) (fun v v1 v2 v3 => ih v v1 v2 (by omega))
/-- What best returns: the map of the choices. -/
def BPost40 (l3 : List Int) (ch : Int → Int × Int) (al : Int) (W : World) (e : Ending) (w' : World) : Prop :=
 ∃ B f, e = .returned (.map (some B)) ∧ MapIs Tryd.prog 75 w' B 1024 f ∧ W.heap.size ≤ B ∧ Below W.heap.size W w' ∧ doneB f al ∧
  ∀ kl v, f kl = some v → ∃ s, SetB s ∧ 1 ≤ s ∧ kl = ky s ∧ v = .agg #[.int .i64 (ch s).1, .int .i64 (ch s).2] ∧ ∀ x ∈ l3, splitB s x = true → doneB f (bSub s x) ∧ doneB f (bAnd s x)
set_option maxHeartbeats 8000000 in
set_option maxRecDepth 100000 in
theorem best40 (A0 : Option Addr) (c0 : Nat) (l0 : List Int) (A1 : Option Addr) (c1 : Nat) (l1 : List (List Int)) (A2 : Option Addr) (c2 : Nat) (l2 : List Int) (A3 : Option Addr) (c3 : Nat) (l3 : List Int) (al : Int) (mf : Int → Int → Int → Int → Int) (W : World)
  (r0 : Kd.C (Kd.int .i64) W A0 l0.length l0) (n0 : l0.length ≤ c0) (r1 : Kd.C (Kd.slice 3 (Kd.int .i64)) W A1 l1.length l1) (n1 : l1.length ≤ c1) (r2 : Kd.C (Kd.int .i64) W A2 l2.length l2) (n2 : l2.length ≤ c2) (r3 : Kd.C (Kd.int .u64) W A3 l3.length l3) (n3 : l3.length ≤ c3)
  (hs : ∀ x ∈ l3, SetB x) (hf : l3.length ≤ 12) (ha : SetB al) (ha1 : 1 ≤ al)
  (hM : ∀ (w : World) (k : Nat) (s z o : Int), Below W.heap.size W w → k < l3.length → SetB s → Calls Tryd.prog 40 #[.agg #[.slice A0 l0.length c0, .slice A1 l1.length c1, .slice A2 l2.length c2, .slice A3 l3.length c3, .int .u64 al], .int .i64 k, .int .u64 s, .int .i64 z, .int .i64 o] w fun e w' => e = .returned (.int .i64 (mf k s z o)) ∧ Below w.heap.size w w') :
  Calls Tryd.prog 59 #[.agg #[.slice A0 l0.length c0, .slice A1 l1.length c1, .slice A2 l2.length c2, .slice A3 l3.length c3, .int .u64 al], .func (.func 40) #[] #[]] W (BPost40 l3 (chs mf l3) al W) := by
 have hE : ∀ go gt gm gf B top, W.heap.size ≤ B ∧ W.heap.size ≤ top → (go < top ∧ gt < top ∧ gm < top ∧ gf < top ∧ B < top) → FOk ⟨W, go, gt, gm, gf, B, top, A0, c0, l0, A1, c1, l1, A2, c2, l2, A3, c3, l3, al, 40⟩ :=
  fun go gt gm gf B top h1 h2 => ⟨r0, n0, r1, n1, r2, n2, r3, n3, h1, h2, hs, hf⟩
 have HE := Aside0.mk hE
 have HM := Aside0.mk hM
 have HA := Aside0.mk ha
 have HA1 := Aside0.mk ha1
 have HS := Aside0.mk hs
 have hmm := @run_makeMap Tryd.prog
 clear r0 r1 r2 r3 hs hf ha ha1 hM hE
 go_enter Tryd.func59, Tryd.ntmps59
 go_upto_region 4 with (fail)
 have hFW := FW.start ⟨W, W.heap.size + 1 + 1 + 1, W.heap.size, W.heap.size + 1, W.heap.size + 1 + 1 + 1 + 1, W.heap.size + 1 + 1, W.heap.size + 1 + 1 + 1 + 1 + 1, A0, c0, l0, A1, c1, l1, A2, c2, l2, A3, c3, l3, al, 40⟩ (chs mf l3) rfl rfl rfl rfl rfl rfl
 have HFW := Aside0.mk hFW
 clear hFW
 have HFA := Aside0.mk (find_all40 ⟨W, W.heap.size + 1 + 1 + 1, W.heap.size, W.heap.size + 1, W.heap.size + 1 + 1 + 1 + 1, W.heap.size + 1 + 1, W.heap.size + 1 + 1 + 1 + 1 + 1, A0, c0, l0, A1, c1, l1, A2, c2, l2, A3, c3, l3, al, 40⟩ (chs mf l3) mf (HE.out _ _ _ _ _ _ (by omega) (by omega)) HM.out rfl (fun s h1 _ => chs_eq mf l3 HS.out s h1) al.toNat al HA.out HA1.out (Nat.le_refl _) _ KMap.empty HFW.out)
 go_wp2_with (go_at_call 72; refine (HFA.out).mono ?_; rintro e w9 ⟨g9, rfl, hfw, hgr, hle, hdn⟩; have HFW9 := Aside0.mk hfw; have HDN := Aside0.mk hdn; have hcz : w9.cell? ⟨W.heap.size + 1 + 1 + 1, 0, none⟩ = some (.map (some (W.heap.size + 1 + 1))) := (blk_cell hfw.bo 0).trans rfl; clear hfw hgr hle hdn)
 go_ret
 exact ⟨_, g9, rfl, HFW9.out.mp, by show W.heap.size ≤ W.heap.size + 1 + 1; omega, HFW9.out.bl, HDN.out, HFW9.out.gd⟩
end Go.Proofs.YtekmiepdodaidaaDoor.X
end

section
/- (trial).plan's closure add, by hand: where its variables lie, and what it does to the list of nodes. -/
set_option linter.unusedVariables false
set_option linter.unusedSimpArgs false
namespace Go.Proofs.YtekmiepdodaidaaDoor.X
open Go.RowKit Go.Proofs.YtekmiepdodaidaaDoorW.PrintWords Go.Proofs.YtekmiepdodaidaaDoorW.PrintLast Go.Proofs.YtekmiepdodaidaaDoorW.PrintMore

structure PEnv where
 W0 : World
 go : Nat
 gs : Nat
 ga : Nat
 gt : Nat
 gq : Nat
 A0 : Option Addr
 c0 : Nat
 l0 : List Int
 A1 : Option Addr
 c1 : Nat
 l1 : List (List Int)
 A2 : Option Addr
 c2 : Nat
 l2 : List Int
 A3 : Option Addr
 c3 : Nat
 l3 : List Int
 al : Int
 F : Nat
def PEnv.cells (E : PEnv) : Array Value := #[.slice E.A0 E.l0.length E.c0, .slice E.A1 E.l1.length E.c1, .slice E.A2 E.l2.length E.c2, .slice E.A3 E.l3.length E.c3, .int .u64 E.al]
def PEnv.ptrs (E : PEnv) : Array Value := #[.pointer (some ⟨E.go, 0, none⟩), .pointer (some ⟨E.gs, 0, none⟩), .pointer (some ⟨E.ga, 0, none⟩), .pointer (some ⟨E.gt, 0, none⟩)]
def PEnv.fv (E : PEnv) : Value := .func (.func E.F) #[] #[.pointer (some ⟨E.gq, 0, none⟩)]
structure POk (E : PEnv) : Prop where
 r3 : Kd.C (Kd.int .u64) E.W0 E.A3 E.l3.length E.l3
 n3 : E.l3.length ≤ E.c3
 lt : E.W0.heap.size ≤ E.go
 tab : Tab E.W0
/-- The nodes so far are xs. -/
structure PW (E : PEnv) (W : World) (v : Value) (xs : List S57) : Prop where
 bo : W.heap[E.go]? = some (.cells #[v] 27 (0, 0))
 bs : W.heap[E.gs]? = some (.cells #[E.fv] 86 (0, 0))
 ba : W.heap[E.ga]? = some (.cells #[.func (.func 68) #[] E.ptrs] 86 (0, 0))
 bt : W.heap[E.gt]? = some (.cells E.cells 77 (0, 0))
 rw : Kd.R k57 57 W E.W0.heap.size (fun _ => True) v xs
 bl : Below E.W0.heap.size E.W0 W
theorem PW.below {E : PEnv} {W W' : World} {v : Value} {xs : List S57} (h : PW E W v xs) (hb : Below W.heap.size W W') : PW E W' v xs :=
 ⟨(hb.block _ (blk_lt h.bo)).trans h.bo, (hb.block _ (blk_lt h.bs)).trans h.bs, (hb.block _ (blk_lt h.ba)).trans h.ba, (hb.block _ (blk_lt h.bt)).trans h.bt, Kd.R_below h.rw hb, h.bl.trans (hb.mono h.bl.size)⟩
theorem PW.tab {E : PEnv} {W : World} {v : Value} {xs : List S57} (hE : POk E) (h : PW E W v xs) : Tab W := hE.tab.below h.bl
/-- The new list is stored. -/
theorem PW.put {E : PEnv} {W w1 : World} {v v1 : Value} {xs ys : List S57} (hE : POk E) (h : PW E W v xs) (hr : Kd.R k57 57 w1 E.W0.heap.size (fun _ => True) v1 ys) (hb : Below E.W0.heap.size E.W0 w1) (hg : W.grownBy w1 v.ownBlock) : PW E (w1.setCell ⟨E.go, 0, none⟩ v1) v1 ys := by
 have e1 := blk_grown h.bo hg (Kd.R_ne h.rw h.bo (by decide))
 have e2 := blk_grown h.bs hg (Kd.R_ne h.rw h.bs (by decide))
 have e3 := blk_grown h.ba hg (Kd.R_ne h.rw h.ba (by decide))
 have e4 := blk_grown h.bt hg (Kd.R_ne h.rw h.bt (by decide))
 exact ⟨(blk_set e1 0 v1).trans rfl, blk_far e2 (blk_ne h.bs h.bo (by decide)) _, blk_far e3 (blk_ne h.ba h.bo (by decide)) _, blk_far e4 (blk_ne h.bt h.bo (by decide)) _, Kd.R_set hr e1 (by decide) 0 v1, hb.setCell hE.lt _⟩
/-- What add returns at a set: its first node's place; its nodes are added. -/
def APost (E : PEnv) (tf : Int → Int) (s : Int) (xs : List S57) (e : Ending) (w' : World) : Prop :=
 ∃ v', e = .returned (.int .i64 (xs.length : Nat)) ∧ PW E w' v' (xs ++ treeB tf E.l3 s xs.length)
theorem info57t : (Tryd.prog.info? 57).map (fun i => (i.zero, i.size, i.bytes)) = some (some (.agg #[(.int .i64 0), (.int .i64 0), (.int .i64 0), (.int .i64 0)]), 4, 32) := by kernel_rfl
set_option maxHeartbeats 4000000 in
set_option maxRecDepth 100000 in
theorem add_one (E : PEnv) (tf : Int → Int) (s : Int) (hs : SetB s) (hs1 : 1 ≤ s) (hp : pcount s = 1) (W : World) (v : Value) (xs : List S57) (hE : POk E) (h : PW E W v xs) (hl : xs.length ≤ 4096) :
  Calls Tryd.prog 68 #[.int .u64 s, .pointer (some ⟨E.go, 0, none⟩), .pointer (some ⟨E.gs, 0, none⟩), .pointer (some ⟨E.ga, 0, none⟩), .pointer (some ⟨E.gt, 0, none⟩)] W (APost E tf s xs) := by
 have HW := Aside0.mk h
 have HE := Aside0.mk hE
 have HS := Aside0.mk hs
 have HS1 := Aside0.mk hs1
 have HP := Aside0.mk hp
 have c1 : (pcount s == 1) = true := by simp [hp]
 obtain ⟨A, c, rfl⟩ := Kd.R_slice h.rw
 have hcz : W.cell? ⟨E.go, 0, none⟩ = some (.slice A xs.length c) := (blk_cell h.bo 0).trans rfl
 clear h hs hs1 hp
 go_enter Tryd.func68, Tryd.ntmps68
 go_upto_region 3 with (go_at_call 69; refine (ones_n _ (u64_id HS.out) _).mono ?_; rintro e w' ⟨rfl, rfl⟩)
 obtain ⟨x, hx⟩ : ∃ x : Nat, s = x := ⟨s.toNat, by have := HS1.out; omega⟩
 subst hx
 have HX := Aside0.mk (show x < 18446744073709551616 ∧ x ≠ 0 by have h1 := HS1.out; have h2 := HS.out; unfold SetB at h2; omega)
 have HL := Aside0.mk hl
 clear hl
 refine start_ (n := 7) (S := fun w' => w'.cell? ⟨E.go, 0, none⟩ = some (.slice A xs.length c)) (ds := [5, 6]) #[false, false, false, false, false, false, false] (by kernel_rfl) rfl rfl hcz (fun hHeld => ?_)
 refine take_ (i := 0) (N := (some 16)) (v := ?_) (a' := ?_) #[true, false, false, false, false, false, false] rfl rfl (by kernel_rfl) (fun _ _ _ h => h) (Or.inl ⟨by rfl, ?_⟩) hHeld ?_ ?_
 rotate_left
 ·rintro w' s0
  go_simp
  with_reducible rfl
 rotate_left
 ·simp only [Act.put, List.setIfInBounds_toArray, List.set_cons_zero, List.set_cons_succ, i64_w, i32_w]
  rfl
 refine pure_ (i := 1) (N := (some 17)) (v := ?_) (a' := ?_) #[true, true, false, false, false, false, false] rfl rfl (by kernel_rfl) (fun _ _ _ h => h) (Or.inl ⟨by rfl, ?_⟩) ?_ ?_
 rotate_left
 ·intro w'
  go_simp
  with_reducible rfl
 rotate_left
 ·simp only [Act.put, List.setIfInBounds_toArray, List.set_cons_zero, List.set_cons_succ, i64_w, i32_w]
  rfl
 refine one_ (i := 2) (N := (some 18)) #[true, true, true, false, false, false, false] rfl rfl (by kernel_rfl) (by decide) (fun K hK => ?_)
 refine goes_ Tryd.func70 (by kernel_rfl) rfl #[.int .u64 (x : Int)] (by rfl) rfl rfl (by (try simp only [List.map_toArray, List.map_cons, List.map_nil]); first | done | rfl) ?_
 refine (tz_n x HX.out.1 HX.out.2 _ ((HW.out.tab HE.out).below (below_drew (Below.refl _ _)))).mono ?_
 rintro e w' ⟨rfl, rfl⟩
 refine ⟨_, rfl, ?_⟩
 refine hK.out _ _ hHeld (fun hHeld => ?_)
 clear hK K
 refine norm_ (a' := ?_) ?_ ?_
 rotate_left
 ·show Act.put _ (some 18) _ = _
  simp only [Act.put, List.setIfInBounds_toArray, List.set_cons_zero, List.set_cons_succ, i64_w, i32_w]
  rfl
 refine pure_ (i := 3) (N := (some 19)) (v := ?_) (a' := ?_) #[true, true, true, true, false, false, false] rfl rfl (by kernel_rfl) (fun _ _ _ h => h) (Or.inl ⟨by rfl, ?_⟩) ?_ ?_
 rotate_left
 ·intro w'
  go_simp
  with_reducible rfl
 rotate_left
 ·simp only [Act.put, List.setIfInBounds_toArray, List.set_cons_zero, List.set_cons_succ, i64_w, i32_w]
  rfl
 refine one_ (i := 4) (N := (some 20)) #[true, true, true, true, true, false, false] rfl rfl (by kernel_rfl) (by decide) (fun K hK => ?_)
 refine value_ (w1 := ?_) (v := ?_) (by rfl) rfl ?_ ?_
 rotate_left 2
 ·go_simp
  constructor
  ·rfl
  ·rfl
 refine hK.out _ _ (pw_cell_below (below_alloc (Below.refl _ _) _) hHeld) (fun hHeld => ?_)
 clear hK K
 refine norm_ (a' := ?_) ?_ ?_
 rotate_left
 ·show Act.put _ (some 20) _ = _
  simp only [Act.put, List.setIfInBounds_toArray, List.set_cons_zero, List.set_cons_succ, i64_w, i32_w]
  rfl
 refine last_ (i := 5) (N := (some 21)) #[true, true, true, true, true, true, false] rfl rfl (by kernel_rfl) (by decide) (fun K hK => ?_)
 refine Kd.R_append_step k57 (w0 := E.W0) E.W0.heap.size (by rfl) (.tmp 16) (.tmp 20) 27 57 (.agg #[(.int .i64 0), (.int .i64 0), (.int .i64 0), (.int .i64 0)]) 32 rfl Tryd.underlying27 info57t rfl (by decide) (by omega) (.slice A xs.length c) xs (⟨-1, (Lib.ctz 64 x : Nat), 0, 0⟩ : S57) [.int .i64 (-1), .int .i64 (Lib.ctz 64 x : Nat), .int .i64 0, .int .i64 0] (fun _ => True) (fun _ => False) rfl rfl (k57_mkM _ _ _ _) (fun _ hk => hk.elim) (fun _ _ => trivial) (Kd.R_drew HW.out.rw) (below_drew HW.out.bl) HW.out.bl.size (by have := HL.out; omega) ?_
 intro v1 w1 ho hb hg hat
 obtain ⟨A1, c1', rfl⟩ := Kd.R_slice ho
 have HPW := Aside0.mk (PW.put HE.out (HW.out.below (below_drew (Below.refl _ _))) ho hb hg)
 have e1 := blk_grown (HW.out.below (below_drew (Below.refl _ _))).bo hg (Kd.R_ne (HW.out.below (below_drew (Below.refl _ _))).rw (HW.out.below (below_drew (Below.refl _ _))).bo (by decide))
 have hcz1 : w1.cell? ⟨E.go, 0, none⟩ = some (.slice A xs.length c) := (blk_cell e1 0).trans rfl
 have hfz1 := blk_frozen e1 0
 have HPF := Aside0.mk (show PW E _ _ (xs ++ treeB tf E.l3 (x : Int) xs.length) by rw [treeB_one _ _ HP.out]; exact HPW.out)
 have hlen : ∀ z : S57, (xs ++ [z]).length = xs.length + 1 := fun z => by simp
 rw [hlen] at HPF
 clear HPW hlen
 clear ho hb hg hat e1
 refine hK.out _ _ ?_
 clear hK K
 refine norm_ (a' := ?_) ?_ ?_
 rotate_left
 ·show Act.put _ (some 21) _ = _
  simp only [Act.put, List.setIfInBounds_toArray, List.set_cons_zero, List.set_cons_succ, i64_w, i32_w]
  rfl
 refine last_ (i := 6) (N := none) #[true, true, true, true, true, true, true] rfl rfl (by kernel_rfl) (by decide) (fun K hK => ?_)
 refine skip_ (w1 := ?_) (by rfl) rfl ?_ ?_
 rotate_left
 ·go_simp
  rfl
 refine hK.out _ _ ?_
 clear hK K
 refine done_ (by kernel_rfl) ?_
 go_wp2
 go_ret
 exact ⟨_, rfl, HPF.out⟩
theorem keepGo {w : World} {a g i : Nat} {v u : Value} (h : w.cell? ⟨a, 0, none⟩ = some v) (hne : a ≠ g) : (w.setCell ⟨g, i, none⟩ u).drew.cell? ⟨a, 0, none⟩ = some v :=
 (World.cell?_of_block (w := w) (w' := (w.setCell ⟨g, i, none⟩ u).drew) (a := ⟨a, 0, none⟩) (Below.heap_setCell w ⟨g, i, none⟩ u a hne)).trans h
theorem keepGo2 {w : World} {a g i j : Nat} {v u u2 : Value} (h : w.cell? ⟨a, 0, none⟩ = some v) (hne : a ≠ g) : ((w.setCell ⟨g, i, none⟩ u).setCell ⟨g, j, none⟩ u2).drew.cell? ⟨a, 0, none⟩ = some v := keepGo (keepGo (w := w) h hne) hne
theorem node_put {base : Nat} {W : World} {g n cap : Nat} {ys : List S57} {i : Nat} (h : Kd.R k57 57 W base (fun _ => True) (.slice (some ⟨g, 0, none⟩) n cap) ys) (hi : i < ys.length) (f : S57) (hf : ys.getD i z57 = f) (z o : Int) :
  (W.cell? ⟨g, i * 4 + 2, none⟩ = some (.int .i64 f.f2) ∧ W.cell? ⟨g, i * 4 + 3, none⟩ = some (.int .i64 f.f3) ∧ W.frozen? ⟨g, i * 4 + 2, none⟩ = false ∧ W.frozen? ⟨g, i * 4 + 3, none⟩ = false) ∧
   Kd.R k57 57 ((W.setCell ⟨g, i * 4 + 2, none⟩ (.int .i64 z)).setCell ⟨g, i * 4 + 3, none⟩ (.int .i64 o)) base (fun _ => True) (.slice (some ⟨g, 0, none⟩) n cap) (ys.set i ⟨f.f0, f.f1, z, o⟩) ∧ W.grownBy ((W.setCell ⟨g, i * 4 + 2, none⟩ (.int .i64 z)).setCell ⟨g, i * 4 + 3, none⟩ (.int .i64 o)) (some g) := by
 obtain ⟨hn, _, _⟩ := Kd.R_reads' h
 obtain ⟨c, hcl, hM, hcc, hfz⟩ := Kd.R_elem h z57 (i : Int) (by omega) (by omega)
 simp only [Int.toNat_natCast] at hM hcc hfz
 rw [hf] at hM
 have hc := k57_openM hM
 subst hc
 refine ⟨⟨hcc 2 _ rfl, hcc 3 _ rfl, hfz 2, hfz 3⟩, ?_⟩
 have := Kd.R_seg (okp := fun _ => False) h (i : Int) (by omega) (by omega) (c := [.int .i64 f.f0, .int .i64 f.f1, .int .i64 f.f2, .int .i64 f.f3]) (seg := [.int .i64 z, .int .i64 o]) (j := 2) hcl (by simpa only [Int.toNat_natCast] using hcc) (by show 2 + 2 ≤ 4; omega) (x' := ⟨f.f0, f.f1, z, o⟩) (k57_mkM _ _ _ ⟨f.f0, f.f1, z, o⟩) (fun _ hk => hk.elim)
 simp only [Int.toNat_natCast] at this
 exact this
/-- The two links of a node are stored. -/
theorem PW.node {E : PEnv} {W W' : World} {v : Value} {xs ys : List S57} {g : Nat} (hE : POk E) (h : PW E W v xs) (hg : v.ownBlock = some g) (hr : Kd.R k57 57 W' E.W0.heap.size (fun _ => True) v ys) (hG : W.grownBy W' (some g)) : PW E W' v ys := by
 have hne : ∀ {b : Nat} {t : Nat} {cs : Array Value}, W.heap[b]? = some (.cells cs t (0, 0)) → 57 ≠ t → some b ≠ some g := fun hb ht => by rw [← hg]; exact Kd.R_ne h.rw hb ht
 exact ⟨blk_grown h.bo hG (hne h.bo (by decide)), blk_grown h.bs hG (hne h.bs (by decide)), blk_grown h.ba hG (hne h.ba (by decide)), blk_grown h.bt hG (hne h.bt (by decide)), hr, h.bl.grown hG h.bl.size (fun k e => by injection e with e; subst e; exact Kd.R_base h.rw _ hg)⟩
theorem blk_4 (w : World) (o1 o2 o3 o4 : Obj) : ((((w.alloc o1).alloc o2).alloc o3).alloc o4).heap[w.heap.size]? = some o1 ∧ ((((w.alloc o1).alloc o2).alloc o3).alloc o4).heap[w.heap.size + 1]? = some o2 ∧ ((((w.alloc o1).alloc o2).alloc o3).alloc o4).heap[w.heap.size + 1 + 1]? = some o3 ∧ ((((w.alloc o1).alloc o2).alloc o3).alloc o4).heap[w.heap.size + 1 + 1 + 1]? = some o4 := by
 refine ⟨blk_alloc (blk_alloc (blk_alloc (blk_new w o1) o2) o3) o4, ?_, ?_, ?_⟩
 ·have := blk_alloc (blk_alloc (blk_new (w.alloc o1) o2) o3) o4
  rwa [size_alloc'] at this
 ·have := blk_alloc (blk_new ((w.alloc o1).alloc o2) o3) o4
  rwa [size_alloc', size_alloc'] at this
 ·have := blk_new (((w.alloc o1).alloc o2).alloc o3) o4
  rwa [size_alloc', size_alloc', size_alloc'] at this
theorem PW.start (E : PEnv) (h1 : E.gt = E.W0.heap.size) (h2 : E.gs = E.W0.heap.size + 1) (h3 : E.go = E.W0.heap.size + 1 + 1) (h4 : E.ga = E.W0.heap.size + 1 + 1 + 1) :
  PW E ((((E.W0.alloc (.cells E.cells 77 (0, 0))).alloc (.cells #[E.fv] 86 (0, 0))).alloc (.cells #[.slice none 0 0] 27 (0, 0))).alloc (.cells #[.func (.func 68) #[] E.ptrs] 86 (0, 0))) (.slice none 0 0) [] := by
 obtain ⟨b1, b2, b3, b4⟩ := blk_4 E.W0 (.cells E.cells 77 (0, 0)) (.cells #[E.fv] 86 (0, 0)) (.cells #[.slice none 0 0] 27 (0, 0)) (.cells #[.func (.func 68) #[] E.ptrs] 86 (0, 0))
 exact ⟨by rw [h3]; exact b3, by rw [h2]; exact b2, by rw [h4]; exact b4, by rw [h1]; exact b1, Kd.R_nil _ _ _ _ _, below_alloc (below_alloc (below_alloc (below_alloc (Below.refl _ _) _) _) _) _⟩
/-- What plan returns: the nodes, in memory of their own. -/
def PPost (l : List S57) (W : World) (e : Ending) (w' : World) : Prop := ∃ v, e = .returned v ∧ Kd.R k57 57 w' W.heap.size (fun _ => True) v l ∧ Below W.heap.size W w'
def AllPost (l : List S57) (W : World) (e : Ending) (w' : World) : Prop := ∃ v, e = .returned (.int .i64 0) ∧ w'.heap[W.heap.size + 1 + 1]? = some (.cells #[v] 27 (0, 0)) ∧ Kd.R k57 57 w' W.heap.size (fun _ => True) v l ∧ Below W.heap.size W w'
theorem all_post {E : PEnv} {tf : Int → Int} {al : Int} {e : Ending} {w' : World} (h : APost E tf al [] e w') (hgo : E.go = E.W0.heap.size + 1 + 1 := by rfl) : AllPost (treeB tf E.l3 al 0) E.W0 e w' := by
 obtain ⟨v, h1, h2⟩ := h
 have h3 := h2.rw
 rw [List.nil_append, List.length_nil] at h3
 rw [List.length_nil] at h1
 have h4 := h2.bo
 rw [hgo] at h4
 exact ⟨v, h1, h4, h3, h2.bl⟩
end Go.Proofs.YtekmiepdodaidaaDoor.X
end

section
/- (trial).plan's closure add, by hand: the step, with the test that function 60 selects; and plan itself. -/
set_option linter.unusedVariables false
set_option linter.unusedSimpArgs false
namespace Go.Proofs.YtekmiepdodaidaaDoor.X
open Go.RowKit Go.Proofs.YtekmiepdodaidaaDoorW.PrintWords Go.Proofs.YtekmiepdodaidaaDoorW.PrintLast Go.Proofs.YtekmiepdodaidaaDoorW.PrintMore

theorem adds_mk60 {E : PEnv} {W : World} {v : Value} {xs : List S57} {ad : Addr} {k : Nat} {x : Int} (hE : POk E) (h : PW E W v xs) (e1 : E.A3 = some ad) (hx : E.W0.cell? (ad.add k) = some (.int .u64 x)) :
  W.cell? ⟨E.ga, 0, none⟩ = some (.func (.func 68) #[] #[.pointer (some ⟨E.go, 0, none⟩), .pointer (some ⟨E.gs, 0, none⟩), .pointer (some ⟨E.ga, 0, none⟩), .pointer (some ⟨E.gt, 0, none⟩)]) ∧ W.cell? ⟨E.gt, 3, none⟩ = some (.slice (some ad) E.l3.length E.c3) ∧ W.cell? (ad.add k) = some (.int .u64 x) :=
 ⟨(blk_cell h.ba 0).trans rfl, by rw [← e1]; exact (blk_cell h.bt 3).trans rfl, pw_cell_below h.bl hx⟩
set_option maxHeartbeats 8000000 in
set_option maxRecDepth 100000 in
theorem add_step60 (E : PEnv) (tf : Int → Int) (R : Int → Prop) (H : Runs tf E.l3 R) (hF : E.F = 60) (s : Int) (hR : R s) (hp : pcount s ≠ 1) (W : World) (v : Value) (xs : List S57) (hE : POk E) (h : PW E W v xs) (hl : xs.length + 2 * s.toNat ≤ 4096)
  (hT : ∀ W, Below E.W0.heap.size E.W0 W → Calls Tryd.prog 60 #[.int .u64 s, .pointer (some ⟨E.gq, 0, none⟩)] W fun e w' => e = .returned (.int .i64 (tf s)) ∧ Below W.heap.size W w')
  (ih : ∀ u, R u → u < s → ∀ W v xs, PW E W v xs → xs.length + 2 * u.toNat ≤ 4096 → Calls Tryd.prog 68 #[.int .u64 u, .pointer (some ⟨E.go, 0, none⟩), .pointer (some ⟨E.gs, 0, none⟩), .pointer (some ⟨E.ga, 0, none⟩), .pointer (some ⟨E.gt, 0, none⟩)] W (APost E tf u xs)) :
  Calls Tryd.prog 68 #[.int .u64 s, .pointer (some ⟨E.go, 0, none⟩), .pointer (some ⟨E.gs, 0, none⟩), .pointer (some ⟨E.ga, 0, none⟩), .pointer (some ⟨E.gt, 0, none⟩)] W (APost E tf s xs) := by
 have HW := Aside0.mk h
 have HE := Aside0.mk hE
 have HH := Aside0.mk H
 have HR := Aside0.mk hR
 have HS := Aside0.mk (H.set s hR).1
 have HS1 := Aside0.mk (H.set s hR).2
 have HP := Aside0.mk hp
 have HT := Aside0.mk hT
 have IH := Aside0.mk ih
 have HL := Aside0.mk hl
 have c1 : (pcount s == 1) = false := by simp [hp]
 obtain ⟨t0, t1, t2, t3, t4, t5⟩ := H.test s hR hp
 obtain ⟨tk, htk⟩ : ∃ tk : Nat, tf s = tk := ⟨(tf s).toNat, by omega⟩
 obtain ⟨x, hx⟩ : ∃ x, rd E.l3 (tk : Int) = x := ⟨_, rfl⟩
 rw [htk, hx] at t2 t3 t4 t5
 have hparts := split_parts (H.set s hR).1 t2 t3
 have hadd := bSub_add (H.set s hR).1 t2
 obtain ⟨ad, e1, hcx⟩ := Kd.at_int hE.r3 (tk : Int) (by omega) (by omega)
 simp only [Int.toNat_natCast] at hcx
 rw [hx] at hcx
 obtain ⟨sa, hsa⟩ : ∃ sa, Go.bits .and .u64 s x = sa := ⟨_, rfl⟩
 obtain ⟨sb, hsb⟩ : ∃ sb, Go.bits .andNot .u64 s x = sb := ⟨_, rfl⟩
 have HSA := Aside0.mk (show bAnd s x = sa from hsa)
 have HSB := Aside0.mk (show bSub s x = sb from hsb)
 rw [HSA.out, HSB.out] at hparts hadd
 rw [HSA.out] at t5
 rw [HSB.out] at t4
 have HPA := Aside0.mk hparts
 have HAD := Aside0.mk hadd
 have HRA := Aside0.mk t5
 have HRB := Aside0.mk t4
 have HTK := Aside0.mk htk
 have HX := Aside0.mk hx
 have HCX := Aside0.mk hcx
 have E1 := Aside0.mk e1
 have htl : (tk : Int) < E.l3.length := by omega
 have htl' : tk < E.l3.length := by omega
 have hm3 := Kd.C_max hE.r3
 obtain ⟨A, c, rfl⟩ := Kd.R_slice h.rw
 have hcz : W.cell? ⟨E.go, 0, none⟩ = some (.slice A xs.length c) := (blk_cell h.bo 0).trans rfl
 have hcs : W.cell? ⟨E.gs, 0, none⟩ = some (.func (.func 60) #[] #[.pointer (some ⟨E.gq, 0, none⟩)]) := by rw [← hF]; exact (blk_cell h.bs 0).trans rfl
 have hT' := hT
 rw [htk] at hT'
 have HT := Aside0.mk hT'
 clear h H hR hp hT hT' ih hl t0 t1 t2 t3 t4 t5 htk hx hparts hadd hcx e1
 go_enter Tryd.func68, Tryd.ntmps68
 go_upto_region 6 with (first | (go_at_call 69; refine (ones_n _ (u64_id HS.out) _).mono ?_; rintro e w' ⟨rfl, rfl⟩) | (go_at_call 60; refine (HT.out _ HW.out.bl).mono ?_; rintro e w1 ⟨rfl, hb⟩; have HW1 := Aside0.mk (HW.out.below hb); clear hb))
 clear hcz
 have hcz : w1.cell? ⟨E.go, 0, none⟩ = some (.slice A xs.length c) := (blk_cell HW1.out.bo 0).trans rfl
 obtain ⟨x1, hx1⟩ : ∃ x1, x1 = xs ++ [(⟨tk, 0, 0, 0⟩ : S57)] := ⟨_, rfl⟩
 have hlen1 : x1.length = xs.length + 1 := by rw [hx1]; simp
 have HX1 := Aside0.mk hx1
 have HLEN1 := Aside0.mk hlen1
 clear hlen1
 go_upto_region 7 with (at_builtin; go_loud (refine Kd.R_append k57 (w0 := E.W0) E.W0.heap.size rfl (.tmp 26) (.tmp 29) 27 57 (.agg #[(.int .i64 0), (.int .i64 0), (.int .i64 0), (.int .i64 0)]) 32 rfl Tryd.underlying27 info57t rfl (by decide) (by omega) (.slice A xs.length c) xs (⟨tk, 0, 0, 0⟩ : S57) [.int .i64 tk, .int .i64 0, .int .i64 0, .int .i64 0] (fun _ => True) (fun _ => False) rfl rfl ?aP (fun _ hk => hk.elim) (fun _ _ => trivial) ?aO ?aB ?aS ?aL ?_); go_loud (case aP => exact k57_mkM _ _ _ _); go_loud (case aO => exact HW1.out.rw); go_loud (case aB => exact HW1.out.bl); go_loud (case aS => exact HW1.out.bl.size); go_loud (case aL => have h1 := HL.out; omega); intro v1 w2 ho hb hg hat; obtain ⟨A1, n1, rfl⟩ := Kd.R_slice ho; rw [← hx1] at ho; rw [← hx1]; have HPW := Aside0.mk (PW.put HE.out HW1.out ho hb hg); have e1 := blk_grown HW1.out.bo hg (Kd.R_ne HW1.out.rw HW1.out.bo (by decide)); clear hcz; have hcz1 : w2.cell? ⟨E.go, 0, none⟩ = some (.slice A xs.length c) := (blk_cell e1 0).trans rfl; have hfz1 := blk_frozen e1 0; clear ho hb hg hat e1 hx1)
 clear hcz1 hfz1
 generalize (w2.setCell ⟨E.go, 0, none⟩ (.slice A1 x1.length n1)) = w3 at HPW ⊢
 have hS := adds_mk60 HE.out HPW.out E1.out HCX.out
 have HLB := Aside0.mk (show x1.length + 2 * sb.toNat ≤ 4096 by have h1 := HL.out; have h2 := HLEN1.out; have h3 := HPA.out; have h4 := HAD.out; omega)
 have HDW := Aside0.mk (HPW.out.below (below_drew (Below.refl _ _)))
 go_region_held3 (fun w' => w'.cell? ⟨E.ga, 0, none⟩ = some (.func (.func 68) #[] #[.pointer (some ⟨E.go, 0, none⟩), .pointer (some ⟨E.gs, 0, none⟩), .pointer (some ⟨E.ga, 0, none⟩), .pointer (some ⟨E.gt, 0, none⟩)]) ∧ w'.cell? ⟨E.gt, 3, none⟩ = some (.slice (some ad) E.l3.length E.c3) ∧ w'.cell? (ad.add tk) = some (.int .u64 x)) (first | exact hS | exact adds_mk60 HE.out HDW.out E1.out HCX.out | exact adds_mk60 HE.out HP9.out E1.out HCX.out)
  ((go_at_call 68; (with_reducible refine (IH.out sb ?side1 ?side2 _ (.slice A1 x1.length n1) x1 ?side3 ?side4).mono ?_); (case side1 => exact HRB.out); (case side2 => exact HPA.out.2.2); (case side3 => exact HDW.out); (case side4 => exact HLB.out); rintro e w9 ⟨v9, rfl, hp9⟩; have HP9 := Aside0.mk hp9; clear hp9))
 obtain ⟨zs, hzs⟩ : ∃ zs, zs = treeB tf E.l3 sb x1.length := ⟨_, rfl⟩
 rw [← hzs] at HP9
 have HZS := Aside0.mk hzs
 have hzl : zs.length + 1 ≤ 2 * sb.toNat := by rw [hzs]; exact treeB_len HH.out sb.toNat sb x1.length HRB.out (Nat.le_refl _)
 obtain ⟨x2, hx2⟩ : ∃ x2, x2 = x1 ++ zs := ⟨_, rfl⟩
 rw [← hx2] at HP9
 have HX2 := Aside0.mk hx2
 have HLEN2 := Aside0.mk (show x2.length = x1.length + zs.length by rw [hx2]; simp)
 have HLA := Aside0.mk (show x2.length + 2 * sa.toNat ≤ 4096 by have h1 := HL.out; have h2 := HLEN1.out; have h3 := HPA.out; have h4 := HAD.out; have h5 := HLEN2.out; omega)
 have HZL := Aside0.mk hzl
 clear hzs hx2 hzl
 obtain ⟨A2, n2, rfl⟩ := Kd.R_slice HP9.out.rw
 go_wp2
 clear hS
 have hS := adds_mk60 HE.out HP9.out E1.out HCX.out
 have HDV := Aside0.mk (HP9.out.below (below_drew (Below.refl _ _)))
 go_region_held3 (fun w' => w'.cell? ⟨E.ga, 0, none⟩ = some (.func (.func 68) #[] #[.pointer (some ⟨E.go, 0, none⟩), .pointer (some ⟨E.gs, 0, none⟩), .pointer (some ⟨E.ga, 0, none⟩), .pointer (some ⟨E.gt, 0, none⟩)]) ∧ w'.cell? ⟨E.gt, 3, none⟩ = some (.slice (some ad) E.l3.length E.c3) ∧ w'.cell? (ad.add tk) = some (.int .u64 x)) (first | exact hS | exact adds_mk60 HE.out HDV.out E1.out HCX.out | exact adds_mk60 HE.out HP10.out E1.out HCX.out)
  ((go_at_call 68; (with_reducible refine (IH.out sa ?side1 ?side2 _ (.slice A2 x2.length n2) x2 ?side3 ?side4).mono ?_); (case side1 => exact HRA.out); (case side2 => exact HPA.out.1.2); (case side3 => exact HDV.out); (case side4 => exact HLA.out); rintro e w10 ⟨v10, rfl, hp10⟩; have HP10 := Aside0.mk hp10; clear hp10))
 obtain ⟨os, hos⟩ : ∃ os, os = treeB tf E.l3 sa x2.length := ⟨_, rfl⟩
 rw [← hos] at HP10
 have HOS := Aside0.mk hos
 obtain ⟨x3, hx3⟩ : ∃ x3, x3 = x2 ++ os := ⟨_, rfl⟩
 rw [← hx3] at HP10
 have HX3 := Aside0.mk hx3
 have hl3 : xs.length < x3.length := by have h1 := HLEN1.out; have h2 := HLEN2.out; rw [hx3]; simp; omega
 have HL3 := Aside0.mk hl3
 obtain ⟨g, n3, rfl, hgb, hgl, cells, hgc⟩ := Kd.R_form HP10.out.rw (by omega)
 have hget : x3.getD xs.length z57 = (⟨tk, 0, 0, 0⟩ : S57) := by
  rw [hx3, HX2.out, HX1.out]; simp [List.getD_eq_getElem?_getD, List.append_assoc]
 obtain ⟨⟨hc2, hc3, hf2, hf3⟩, hRN, hGN⟩ := node_put HP10.out.rw hl3 (⟨tk, 0, 0, 0⟩ : S57) hget (x1.length : Nat) (x2.length : Nat)
 have hfin : x3.set xs.length ⟨tk, 0, ((x1.length : Nat) : Int), ((x2.length : Nat) : Int)⟩ = xs ++ treeB tf E.l3 s xs.length := by
  have h1 := HLEN1.out
  have h2 := HLEN2.out
  rw [treeB_two HH.out s xs.length HR.out HP.out, HTK.out, HX.out, HSA.out, HSB.out, show xs.length + 1 = x1.length by omega, ← HZS.out, show x1.length + zs.length = x2.length by omega, ← hos, hx3, HX2.out, HX1.out]
  simp [List.append_assoc]
 rw [hfin] at hRN
 have HPN := Aside0.mk (PW.node HE.out HP10.out (g := g) rfl hRN hGN)
 have HRN := Aside0.mk hRN
 have HGN := Aside0.mk hGN
 have hcz : w10.cell? ⟨E.go, 0, none⟩ = some (.slice (some ⟨g, 0, none⟩) x3.length n3) := (blk_cell HP10.out.bo 0).trans rfl
 have hgo : E.go ≠ g := fun e => by have := HP10.out.bo; rw [e, hgc] at this; cases this
 have hli : (0 : Int) ≤ (xs.length : Int) := by omega
 have hli3 : (xs.length : Int) < (x3.length : Int) := by omega
 clear hos hx3 hS hRN hGN hget hfin
 go_wp2
 go_region_held3 (fun w' => w'.cell? ⟨E.go, 0, none⟩ = some (.slice (some ⟨g, 0, none⟩) x3.length n3)) (first | exact hcz | exact keepGo hcz hgo | exact keepGo2 hcz hgo)
  (fail)
 go_wp2
 go_ret
 exact ⟨_, rfl, HPN.out.below (below_drew (Below.refl _ _))⟩
theorem add_all60 (E : PEnv) (tf : Int → Int) (R : Int → Prop) (H : Runs tf E.l3 R) (hF : E.F = 60) (hE : POk E)
  (hT : ∀ W, Below E.W0.heap.size E.W0 W → ∀ s, R s → pcount s ≠ 1 → Calls Tryd.prog 60 #[.int .u64 s, .pointer (some ⟨E.gq, 0, none⟩)] W fun e w' => e = .returned (.int .i64 (tf s)) ∧ Below W.heap.size W w') (d : Nat) :
  ∀ u, R u → u.toNat ≤ d → ∀ W v xs, PW E W v xs → xs.length + 2 * u.toNat ≤ 4096 → Calls Tryd.prog 68 #[.int .u64 u, .pointer (some ⟨E.go, 0, none⟩), .pointer (some ⟨E.gs, 0, none⟩), .pointer (some ⟨E.ga, 0, none⟩), .pointer (some ⟨E.gt, 0, none⟩)] W (APost E tf u xs) := by
 induction d with
 | zero => intro u h1 h2; have h3 := H.set u h1; omega
 | succ d ih =>
  intro u h1 h2 W v xs h hl
  have h3 := H.set u h1
  by_cases hp : pcount u = 1
  ·exact add_one E tf u h3.1 h3.2 hp W v xs hE h (by omega)
  ·exact add_step60 E tf R H hF u h1 hp W v xs hE h hl (fun W hb => hT W hb u h1 hp) (fun q q1 q2 W v xs hq => by
    have h4 := H.set q q1
    exact ih q q1 (by omega) W v xs hq)
set_option maxHeartbeats 8000000 in
set_option maxRecDepth 100000 in
theorem plan60 (A0 : Option Addr) (c0 : Nat) (l0 : List Int) (A1 : Option Addr) (c1 : Nat) (l1 : List (List Int)) (A2 : Option Addr) (c2 : Nat) (l2 : List Int) (A3 : Option Addr) (c3 : Nat) (l3 : List Int) (al : Int) (gq : Nat) (tf : Int → Int) (R : Int → Prop) (W : World)
  (r3 : Kd.C (Kd.int .u64) W A3 l3.length l3) (n3 : l3.length ≤ c3) (hTab : Tab W) (H : Runs tf l3 R) (hR : R al)
  (hT : ∀ W', Below W.heap.size W W' → ∀ s, R s → pcount s ≠ 1 → Calls Tryd.prog 60 #[.int .u64 s, .pointer (some ⟨gq, 0, none⟩)] W' fun e w' => e = .returned (.int .i64 (tf s)) ∧ Below W'.heap.size W' w') :
  Calls Tryd.prog 50 #[.agg #[.slice A0 l0.length c0, .slice A1 l1.length c1, .slice A2 l2.length c2, .slice A3 l3.length c3, .int .u64 al], .func (.func 60) #[] #[.pointer (some ⟨gq, 0, none⟩)]] W (PPost (treeB tf l3 al 0) W) := by
 have hE : POk ⟨W, W.heap.size + 1 + 1, W.heap.size + 1, W.heap.size + 1 + 1 + 1, W.heap.size, gq, A0, c0, l0, A1, c1, l1, A2, c2, l2, A3, c3, l3, al, 60⟩ := ⟨r3, n3, (by show W.heap.size ≤ W.heap.size + 1 + 1; omega), hTab⟩
 have hal := H.set al hR
 have hal2 : 2 * al.toNat ≤ 4096 := by have h1 := hal.1; unfold SetB at h1; omega
 have hA := add_all60 ⟨W, W.heap.size + 1 + 1, W.heap.size + 1, W.heap.size + 1 + 1 + 1, W.heap.size, gq, A0, c0, l0, A1, c1, l1, A2, c2, l2, A3, c3, l3, al, 60⟩ tf R H rfl hE hT al.toNat al hR (Nat.le_refl _) _ _ [] (PW.start ⟨W, W.heap.size + 1 + 1, W.heap.size + 1, W.heap.size + 1 + 1 + 1, W.heap.size, gq, A0, c0, l0, A1, c1, l1, A2, c2, l2, A3, c3, l3, al, 60⟩ rfl rfl rfl rfl) (by simpa using hal2)
 have HA := Aside0.mk (hA.mono (R' := AllPost (treeB tf l3 al 0) W) (fun e w' h => all_post h))
 clear hA
 clear r3 hTab H hR hT hE hal hal2
 go_enter Tryd.func50, Tryd.ntmps50
 go_wp2_with (go_at_call 68; refine (HA.out).mono ?_; rintro e w9 ⟨v9, rfl, hp0, hp1, hp2⟩; have HP9 := Aside0.mk (And.intro hp1 hp2); have hcz : w9.cell? ⟨W.heap.size + 1 + 1, 0, none⟩ = some v9 := (blk_cell hp0 0).trans rfl; clear hp0 hp1 hp2)
 go_ret
 exact ⟨_, rfl, HP9.out.1, HP9.out.2⟩
end Go.Proofs.YtekmiepdodaidaaDoor.X
end

section
/- tests.optimal, by hand, with the measure of function 40. -/
set_option linter.unusedVariables false
set_option linter.unusedSimpArgs false
namespace Go.Proofs.YtekmiepdodaidaaDoor.X
open Go.RowKit Go.Proofs.YtekmiepdodaidaaDoorW.PrintWords Go.Proofs.YtekmiepdodaidaaDoorW.PrintLast Go.Proofs.YtekmiepdodaidaaDoorW.PrintMore

section
variable {A0 : Option Addr} {c0 : Nat} {a : List Int} {A1 : Option Addr} {c1 : Nat} {b : List (List Int)} {A2 : Option Addr} {c2 : Nat} {c : List Int} {w : World}
def OptNone40 (er : Int) (w : World) (e : Ending) (w' : World) : Prop := e = .returned (.tuple #[.slice none 0 0, .int .i64 0, .int .i64 er]) ∧ Below w.heap.size w w'
set_option maxHeartbeats 4000000 in
set_option maxRecDepth 100000 in
theorem opt_bad40 (h : CaseAt w A0 c0 a A1 c1 b A2 c2 c) (hc : caseB a b c = false) : Calls Tryd.prog 39 #[.agg #[.slice A0 a.length c0, .slice A1 b.length c1, .slice A2 c.length c2], .func (.func 40) #[] #[]] w (OptNone40 2 w) := by
 have H := Aside0.mk h
 have HC := Aside0.mk hc
 have HB := Aside0.mk (Below.refl w.heap.size w)
 clear h hc
 go_enter Tryd.func39, Tryd.ntmps39
 go_wp2_with (go_at_call 45; refine (trial_bad (H.out.below ((Below.refl _ _).alloc (Nat.le_refl _) _)) HC.out).mono ?_; rintro e w5 ⟨A3, c3, rfl, hb⟩; have HB5 := Aside0.mk (below_step (below_alloc HB.out _) hb); clear hb)
 go_ret3
 exact ⟨rfl, below_alloc HB5.out _⟩
set_option maxHeartbeats 4000000 in
set_option maxRecDepth 100000 in
theorem opt_alike40 (h : CaseAt w A0 c0 a A1 c1 b A2 c2 c) (hc : caseB a b c = true) (hal : alikeL (onesOf b) a.length ≠ []) : Calls Tryd.prog 39 #[.agg #[.slice A0 a.length c0, .slice A1 b.length c1, .slice A2 c.length c2], .func (.func 40) #[] #[]] w (OptNone40 6 w) := by
 have H := Aside0.mk h
 have HC := Aside0.mk hc
 have HI := Aside0.mk (case_is hc)
 have HB := Aside0.mk (Below.refl w.heap.size w)
 obtain ⟨n, hn⟩ : ∃ n, n = (alikeL (onesOf b) a.length).length := ⟨_, rfl⟩
 have HN := Aside0.mk hn
 have hpos : (0 : Int) < (n : Int) := by have := List.length_pos_iff.2 hal; omega
 clear h hc hal hn
 go_enter Tryd.func39, Tryd.ntmps39
 go_wp2_with (first | (go_at_call 45; refine (trial_good (H.out.below ((Below.refl _ _).alloc (Nat.le_refl _) _)) HC.out).mono ?_; rintro e w5 ⟨A3, c3, rfl, hr3, hb⟩; have HR3 := Aside0.mk hr3; have HB5 := Aside0.mk (below_step (below_alloc HB.out _) hb); clear hr3 hb) | (go_at_call 49; refine (alike_n (H.out.below (below_alloc HB5.out _)) HI.out A3 c3 (onesOf b) _ (Kd.C_alloc HR3.out.1 _) HR3.out.2).mono ?_; rintro e w6 ⟨A4, c4, rfl, hb⟩; have HB6 := Aside0.mk (below_step (below_alloc HB5.out _) hb); rw [← HN.out]; clear hb))
 go_ret3
 exact ⟨rfl, HB6.out⟩
def OptGood40 (l : List S57) (co : Int) (w : World) (e : Ending) (w' : World) : Prop := ∃ v, e = .returned (.tuple #[v, .int .i64 co, .int .i64 0]) ∧ Kd.R k57 57 w' w.heap.size (fun _ => True) v l ∧ Below w.heap.size w w'
/-- What is asked of the measure. -/
def MeasOk40 (a : List Int) (b : List (List Int)) (c : List Int) (mf : Int → Int → Int → Int → Int) : Prop :=
 ∀ (A0 : Option Addr) (c0 : Nat) (A1 : Option Addr) (c1 : Nat) (A2 : Option Addr) (c2 : Nat) (A3 : Option Addr) (c3 : Nat) (w : World) (k : Nat) (s z o : Int), CaseAt w A0 c0 a A1 c1 b A2 c2 c → Kd.C (Kd.int .u64) w A3 (onesOf b).length (onesOf b) → (onesOf b).length ≤ c3 → k < (onesOf b).length → SetB s →
  Calls Tryd.prog 40 #[.agg #[.slice A0 a.length c0, .slice A1 b.length c1, .slice A2 c.length c2, .slice A3 (onesOf b).length c3, .int .u64 (allOf a)], .int .i64 k, .int .u64 s, .int .i64 z, .int .i64 o] w fun e w' => e = .returned (.int .i64 (mf k s z o)) ∧ Below w.heap.size w w'
set_option maxHeartbeats 8000000 in
set_option maxRecDepth 100000 in
theorem opt_good40 (mf : Int → Int → Int → Int → Int) (hM : MeasOk40 a b c mf) (h : CaseAt w A0 c0 a A1 c1 b A2 c2 c) (hc : caseB a b c = true) (hal : alikeL (onesOf b) a.length = []) (hT : Tab w) :
  Calls Tryd.prog 39 #[.agg #[.slice A0 a.length c0, .slice A1 b.length c1, .slice A2 c.length c2], .func (.func 40) #[] #[]] w (OptGood40 (treeB (fun s => (chs mf (onesOf b) s).1) (onesOf b) (allOf a) 0) (cstB (chs mf (onesOf b)) (allOf a)) w) := by
 have H := Aside0.mk h
 have HC := Aside0.mk hc
 have HI := Aside0.mk (case_is hc)
 have HM := Aside0.mk hM
 have HT := Aside0.mk hT
 have HAL := Aside0.mk hal
 have HB := Aside0.mk (Below.refl w.heap.size w)
 have HSET := Aside0.mk (onesOf_set HI.out.a10 HI.out.rows)
 have hpos : (alikeL (onesOf b) a.length).length = 0 := by rw [hal]; rfl
 have HP := Aside0.mk hpos
 have hall : ((2 ^ a.length : Nat) : Int) - 1 = allOf a := rfl
 have HALL := Aside0.mk hall
 clear h hc hal hM hT hpos hall
 go_enter Tryd.func39, Tryd.ntmps39
 go_upto_region 6 with (first | (go_at_call 45; refine (trial_good (H.out.below ((Below.refl _ _).alloc (Nat.le_refl _) _)) HC.out).mono ?_; rintro e w5 ⟨A3, c3, rfl, hr3, hb⟩; rw [HALL.out]; have HR3 := Aside0.mk hr3; have HB5 := Aside0.mk (below_step (below_alloc HB.out _) hb); clear hr3 hb) | (go_at_call 49; refine (alike_n (H.out.below (below_alloc HB5.out _)) HI.out A3 c3 (onesOf b) _ (Kd.C_alloc HR3.out.1 _) HR3.out.2).mono ?_; rintro e w6 ⟨A4, c4, rfl, hb⟩; have HB6 := Aside0.mk (below_step (below_alloc HB5.out _) hb); have HR6 := Aside0.mk (Kd.C_below (Kd.C_alloc HR3.out.1 _) hb); have HX6 := Aside0.mk ((hb.block _ (by rw [size_alloc']; omega)).trans (blk_new w5 _)); rw [HP.out]; clear hb))
 have hz0 : w6.cell? ⟨w5.heap.size, 0, none⟩ = some (.slice A0 a.length c0) := (blk_cell HX6.out 0).trans rfl
 have hz1 : w6.cell? ⟨w5.heap.size, 1, none⟩ = some (.slice A1 b.length c1) := (blk_cell HX6.out 1).trans rfl
 have hz2 : w6.cell? ⟨w5.heap.size, 2, none⟩ = some (.slice A2 c.length c2) := (blk_cell HX6.out 2).trans rfl
 have hz3 : w6.cell? ⟨w5.heap.size, 3, none⟩ = some (.slice A3 (onesOf b).length c3) := (blk_cell HX6.out 3).trans rfl
 have hz4 : w6.cell? ⟨w5.heap.size, 4, none⟩ = some (.int .u64 (allOf a)) := (blk_cell HX6.out 4).trans rfl
 have HC6 := Aside0.mk (H.out.below HB6.out)
 have HN3 := Aside0.mk HR3.out.2
 have H12 := Aside0.mk (show (onesOf b).length ≤ 12 by rw [onesOf_len]; exact HI.out.b12)
 have HBEST := Aside0.mk (best40 A0 c0 a A1 c1 b A2 c2 c A3 c3 (onesOf b) (allOf a) mf w6 HC6.out.r0 HC6.out.n0 HC6.out.r1 HC6.out.n1 HC6.out.r2 HC6.out.n2 HR6.out HN3.out HSET.out H12.out (allOf_set HI.out).1 (allOf_set HI.out).2
  (fun w' k s z o hb hk hs => HM.out A0 c0 A1 c1 A2 c2 A3 c3 w' k s z o (HC6.out.below hb) (Kd.C_below HR6.out hb) HN3.out hk hs))
 go_upto_region 7 with (go_at_call 59; refine HBEST.out.mono ?_; rintro e w7 ⟨B, f, rfl, hmp, hlo, hb, hdn, hgd⟩; have HMP := Aside0.mk hmp; have HLO := Aside0.mk hlo; have HDN := Aside0.mk hdn; have HGD := Aside0.mk hgd; have HB7 := Aside0.mk (below_step HB6.out hb); have HB67 := Aside0.mk hb; clear hmp hlo hb hdn hgd)
 clear hz0 hz1 hz2 hz3 hz4 HBEST
 obtain ⟨t1, ht1⟩ := val_at HSET.out (allOf_set HI.out).1 (allOf_set HI.out).2 HDN.out HGD.out
 obtain ⟨co, hco⟩ : ∃ co, co = cstB (chs mf (onesOf b)) (allOf a) := ⟨_, rfl⟩
 rw [← hco] at ht1
 have HCO := Aside0.mk hco
 have HT1 := Aside0.mk ht1
 obtain ⟨w8, hw8⟩ : ∃ w8, w8 = w7.alloc (.cells #[.map (some B)] 93 (0, 0)) := ⟨_, rfl⟩
 have h78 : Below w7.heap.size w7 w8 := by rw [hw8]; exact below_alloc (Below.refl _ _) _
 have hgq : w8.heap[w7.heap.size]? = some (.cells #[.map (some B)] 93 (0, 0)) := by rw [hw8]; exact blk_new _ _
 have hbx : w8.heap[w5.heap.size]? = some (.cells #[.slice A0 a.length c0, .slice A1 b.length c1, .slice A2 c.length c2, .slice A3 (onesOf b).length c3, .int .u64 (allOf a)] 77 (0, 0)) := blk_below (blk_below HX6.out HB67.out) h78
 have HS : ∀ w', Below w8.heap.size w8 w' → (w'.cell? ⟨w5.heap.size, 0, none⟩ = some (.slice A0 a.length c0) ∧ w'.cell? ⟨w5.heap.size, 1, none⟩ = some (.slice A1 b.length c1) ∧ w'.cell? ⟨w5.heap.size, 2, none⟩ = some (.slice A2 c.length c2) ∧ w'.cell? ⟨w5.heap.size, 3, none⟩ = some (.slice A3 (onesOf b).length c3) ∧ w'.cell? ⟨w5.heap.size, 4, none⟩ = some (.int .u64 (allOf a)) ∧ w'.cell? ⟨w7.heap.size, 0, none⟩ = some (.map (some B)) ∧ (Instr.lookup 93 (.map (some B)) (.int .u64 (allOf a)) false).run Tryd.prog w' = .ok (.agg #[.int .i64 t1, .int .i64 co]) w') := by
  intro w' hb
  have e1 := blk_below hbx hb
  have e2 := blk_below hgq hb
  refine ⟨(blk_cell e1 0).trans rfl, (blk_cell e1 1).trans rfl, (blk_cell e1 2).trans rfl, (blk_cell e1 3).trans rfl, (blk_cell e1 4).trans rfl, (blk_cell e2 0).trans rfl, ?_⟩
  have hl := ((HMP.out.below h78).below hb).look (t := 93) (e := 96) keyed75 Tryd.underlying93 (zero96 w') (ky_of (allOf_set HI.out).1)
  rw [HT1.out] at hl
  exact hl
 have HSS := Aside0.mk HS
 have HP50 := Aside0.mk (fun (w9 : World) (hb : Below w8.heap.size w8 w9) => plan60 A0 c0 a A1 c1 b A2 c2 c A3 c3 (onesOf b) (allOf a) w7.heap.size (fun s => (chs mf (onesOf b) s).1) (bestR a.length f) w9 (Kd.C_below (Kd.C_below (Kd.C_below HR6.out HB67.out) h78) hb) HN3.out ((HT.out.below HB7.out).below h78 |>.below hb) (best_runs HI.out.a10 HSET.out HAL.out HGD.out) ⟨(allOf_set HI.out).1, (allOf_set HI.out).2, (by unfold allOf; omega), HDN.out⟩
  (fun W' hb2 s hR hp => test60 (hR.1) ((blk_cell (blk_below (blk_below hgq hb) hb2) 0).trans rfl) (((HMP.out.below h78).below hb).below hb2) (best_val HGD.out hR hp)))
 have HB8 := Aside0.mk (below_step HB7.out h78)
 have hfd := fun w => (field96 w t1 co).2
 clear HS ht1 h78 hgq hbx hco
 rw [← hw8]
 clear hw8
 go_region_held3 (fun w' => w'.cell? ⟨w5.heap.size, 0, none⟩ = some (.slice A0 a.length c0) ∧ w'.cell? ⟨w5.heap.size, 1, none⟩ = some (.slice A1 b.length c1) ∧ w'.cell? ⟨w5.heap.size, 2, none⟩ = some (.slice A2 c.length c2) ∧ w'.cell? ⟨w5.heap.size, 3, none⟩ = some (.slice A3 (onesOf b).length c3) ∧ w'.cell? ⟨w5.heap.size, 4, none⟩ = some (.int .u64 (allOf a)) ∧ w'.cell? ⟨w7.heap.size, 0, none⟩ = some (.map (some B)) ∧ (Instr.lookup 93 (.map (some B)) (.int .u64 (allOf a)) false).run Tryd.prog w' = .ok (.agg #[.int .i64 t1, .int .i64 co]) w') (first | exact HSS.out _ (below_drew (Below.refl _ _)) | exact HSS.out _ HB9.out)
  ((go_at_call 50; (with_reducible refine (HP50.out _ ?side1).mono ?_); (case side1 => exact below_drew (Below.refl _ _)); rintro e w9 ⟨v9, rfl, hr9, hb9⟩; have HR9 := Aside0.mk hr9; have HB9 := Aside0.mk (below_step (below_drew (Below.refl _ _)) hb9); clear hr9 hb9))
 all_goals
  go_wp2
  go_ret3
  rw [← HCO.out]
  exact ⟨v9, rfl, Kd.R_lower HR9.out (below_size (below_drew HB8.out)), below_step HB8.out HB9.out⟩
end
end Go.Proofs.YtekmiepdodaidaaDoor.X
end

section
/- (trial).best's closure find, by hand: the step, with the measure of function 41. -/
set_option linter.unusedVariables false
set_option linter.unusedSimpArgs false
namespace Go.Proofs.YtekmiepdodaidaaDoor.X
open Go.RowKit Go.Proofs.YtekmiepdodaidaaDoorW.PrintWords Go.Proofs.YtekmiepdodaidaaDoorW.PrintLast Go.Proofs.YtekmiepdodaidaaDoorW.PrintMore

/-- What is asked of the measure. -/
def MOk41 (E : FEnv) (mf : Int → Int → Int → Int → Int) : Prop :=
 ∀ (W : World) (k : Nat) (s z o : Int), Below E.W0.heap.size E.W0 W → k < E.l3.length → SetB s → Calls Tryd.prog 41 #[.agg #[.slice E.A0 E.l0.length E.c0, .slice E.A1 E.l1.length E.c1, .slice E.A2 E.l2.length E.c2, .slice E.A3 E.l3.length E.c3, .int .u64 E.al], .int .i64 k, .int .u64 s, .int .i64 z, .int .i64 o] W fun e w' => e = .returned (.int .i64 (mf k s z o)) ∧ Below W.heap.size W w'
theorem fs_mk41 {E : FEnv} {ch : Int → Int × Int} {g : KMap} {w' : World} (h : FW E ch w' g) (hM : E.M = 41) :
  w'.cell? ⟨E.gm, 0, none⟩ = some (.func (.func 41) #[] #[]) ∧ w'.cell? ⟨E.gf, 0, none⟩ = some (.func (.func 72) #[] #[.pointer (some ⟨E.go, 0, none⟩), .pointer (some ⟨E.gt, 0, none⟩), .pointer (some ⟨E.gm, 0, none⟩), .pointer (some ⟨E.gf, 0, none⟩)]) ∧ w'.cell? ⟨E.gt, 0, none⟩ = some (.slice E.A0 E.l0.length E.c0) ∧ w'.cell? ⟨E.gt, 1, none⟩ = some (.slice E.A1 E.l1.length E.c1) ∧ w'.cell? ⟨E.gt, 2, none⟩ = some (.slice E.A2 E.l2.length E.c2) ∧ w'.cell? ⟨E.gt, 3, none⟩ = some (.slice E.A3 E.l3.length E.c3) ∧ w'.cell? ⟨E.gt, 4, none⟩ = some (.int .u64 E.al) := by
 obtain ⟨h1, h2, h3, h4, h5, h6, h7, h8⟩ := h.cells
 rw [hM] at h2
 exact ⟨h2, h3, h4, h5, h6, h7, h8⟩
set_option maxHeartbeats 8000000 in
set_option maxRecDepth 100000 in
theorem find_step41 (E : FEnv) (ch : Int → Int × Int) (mf : Int → Int → Int → Int → Int) (hE : FOk E) (hM : MOk41 E mf) (hMn : E.M = 41) (s : Int) (hs : SetB s) (hs1 : 1 ≤ s) (hp : pcount s ≠ 1) (hch : ch s = chsStep mf E.l3 ch s) (W : World) (f : KMap) (h : FW E ch W f) (hm : (f (ky s)).isSome = false)
  (ih : ∀ u, SetB u → 1 ≤ u → u < s → ∀ W f, FW E ch W f → Calls Tryd.prog 72 #[.int .u64 u, .pointer (some ⟨E.go, 0, none⟩), .pointer (some ⟨E.gt, 0, none⟩), .pointer (some ⟨E.gm, 0, none⟩), .pointer (some ⟨E.gf, 0, none⟩)] W (FPost E ch W f u)) :
  Calls Tryd.prog 72 #[.int .u64 s, .pointer (some ⟨E.go, 0, none⟩), .pointer (some ⟨E.gt, 0, none⟩), .pointer (some ⟨E.gm, 0, none⟩), .pointer (some ⟨E.gf, 0, none⟩)] W (FPost E ch W f s) := by
 have HW := Aside0.mk h
 have HE := Aside0.mk hE
 have HS := Aside0.mk hs
 have HS1 := Aside0.mk hs1
 have HP := Aside0.mk hp
 have HNM := Aside0.mk hm
 have HCH := Aside0.mk hch
 have hM' := hM
 unfold MOk41 at hM'
 have HMM := Aside0.mk hM'
 clear hM'
 have IH := Aside0.mk ih
 have c1 : (pcount s == 1) = false := by simp [hp]
 have hv : f (ky s) = none := by cases hf : f (ky s) with | none => rfl | some v => rw [hf] at hm; cases hm
 have hcz : W.cell? ⟨E.go, 0, none⟩ = some (.map (some E.B)) := (blk_cell h.bo 0).trans rfl
 have hct : W.cell? ⟨E.gt, 3, none⟩ = some (.slice E.A3 E.l3.length E.c3) := (blk_cell h.bt 3).trans rfl
 have hgo : E.go < W.heap.size := blk_lt h.bo
 have hgt : E.gt < W.heap.size := blk_lt h.bt
 have hlook := h.mp.look_ok (t := 93) (e := 96) keyed75 Tryd.underlying93 (zero96 W) (ky_of hs)
 rw [hv] at hlook
 simp only [Option.getD_none, Option.isSome_none] at hlook
 have hm3 := Kd.C_max hE.r3
 obtain ⟨a3, ha3⟩ : ∃ a, a = E.A3 := ⟨_, rfl⟩
 rw [← ha3] at hct
 have HA3 := Aside0.mk ha3
 clear ha3
 clear h hs hs1 hp hm hv hch hM ih
 go_enter Tryd.func72, Tryd.ntmps72
 go_wp2_with (go_at_call 69; refine (ones_n _ (u64_id HS.out) _).mono ?_; rintro e w' ⟨rfl, rfl⟩)
 go_loopg [29] E.l3.length (fun kq v29 w' => ∃ k : Nat, v29 = .int .i64 k ∧ Aside0 (kq + k = E.l3.length) ∧ Aside0 (FLoop E ch mf W f s k w'))
 case atStart =>
  refine ⟨0, rfl, ⟨by omega⟩, ⟨f, -1, 0, ⟨(HW.out.alloc HE.out _).alloc HE.out _, grown_alloc (World.grownBy_alloc _ _ _) _, KMap.le_refl f, ?_⟩, (by intro j hj; omega), HCH.out.symm⟩⟩
  have := blk_new (W.alloc (.cells #[.int .i64 0, .int .i64 0] 96)) (.cells #[.int .i64 (-1), .int .i64 0] 96 (0, 0))
  rwa [show (W.alloc (.cells #[.int .i64 0, .int .i64 0] 96)).heap.size = W.heap.size + 1 by simp] at this
 case round =>
  obtain ⟨k, rfl, HK, HL⟩ := hrel
  obtain ⟨k1, rfl⟩ : ∃ k1, k1 = gk := ⟨_, rfl⟩
  obtain ⟨g, b1, b2, hMid, hdone, hpick⟩ := HL.out
  clear HL hcz hct hlook hgo hgt
  by_cases hk : k < E.l3.length
  ·have HMid := Aside0.mk hMid
   have HDone := Aside0.mk hdone
   have HPick := Aside0.mk hpick
   have hC := Kd.C_below HE.out.r3 hMid.fw.bl
   obtain ⟨ad, e1, hx⟩ := Kd.at_int hC (k : Int) (by omega) (by omega)
   simp only [Int.toNat_natCast] at hx
   obtain ⟨x, hxn⟩ : ∃ x, rd E.l3 (k : Int) = x := ⟨_, rfl⟩
   have HX := Aside0.mk hxn
   rw [hxn] at hx
   have HSX := Aside0.mk (show SetB x by
    rw [← hxn]; refine HE.out.sets _ ?_
    simp only [rd, Int.toNat_natCast, List.getD_eq_getElem?_getD, List.getElem?_eq_getElem hk, Option.getD_some]; exact List.getElem_mem hk)
   have HDR := Aside0.mk (show E.l3.drop k = x :: E.l3.drop (k + 1) by
    rw [List.drop_eq_getElem_cons hk, ← hxn]; simp [rd, List.getD_eq_getElem?_getD, List.getElem?_eq_getElem hk])
   obtain ⟨sa, hsa⟩ : ∃ sa, Go.bits .and .u64 s x = sa := ⟨_, rfl⟩
   obtain ⟨sb, hsb⟩ : ∃ sb, Go.bits .andNot .u64 s x = sb := ⟨_, rfl⟩
   have HSA := Aside0.mk (show bAnd s x = sa from hsa)
   have HSB := Aside0.mk (show bSub s x = sb from hsb)
   rw [← HA3.out] at e1
   clear hMid hdone hpick hC hxn
   cases e1
   by_cases hz : sa = 0 ∨ sb = 0
   ·have hnot : splitB s x = false := by unfold splitB; rw [HSA.out, HSB.out]; rcases hz with h0 | h0 <;> simp [h0]
    have HNOT := Aside0.mk hnot
    have hrel2 : Aside0 (FLoop E ch mf W f s (k + 1) wr) := ⟨⟨g, b1, b2, HMid.out, (by
     intro j hj
     by_cases ej : j = k
     ·subst ej; rw [HX.out, HNOT.out]; intro hf; cases hf
     ·exact HDone.out j (by omega)), (by
     have hp := HPick.out
     rw [HDR.out] at hp
     unfold pickB at hp
     rw [if_neg (by rw [HNOT.out]; decide)] at hp
     exact hp)⟩⟩
    clear hnot HMid HDone HPick
    by_cases ha : sa = 0
    ·have ca : (sa == 0) = true := by simp [ha]
     clear ha hz
     go_wp2
     go_roundg (k1 - 1)
     case measure => have := HK.out; omega
     case rel => exact ⟨k + 1, by go_num, ⟨by have := HK.out; omega⟩, hrel2⟩
    ·have ca : (sa == 0) = false := by simp [ha]
     have cb : (sb == 0) = true := by simp; omega
     clear ha hz
     go_wp2
     go_roundg (k1 - 1)
     case measure => have := HK.out; omega
     case rel => exact ⟨k + 1, by go_num, ⟨by have := HK.out; omega⟩, hrel2⟩
   ·have ca : (sa == 0) = false := by simp; omega
    have cb : (sb == 0) = false := by simp; omega
    have hyes : splitB s x = true := by unfold splitB; rw [HSA.out, HSB.out, ca, cb]; rfl
    have HYES := Aside0.mk hyes
    have hparts := split_parts HS.out HSX.out hyes
    rw [HSA.out, HSB.out] at hparts
    have HPA := Aside0.mk hparts
    clear hz hyes hparts
    go_upto_region 11 with (fail)
    have HPb := Aside0.mk (show SetB sb ∧ 1 ≤ sb ∧ sb < s by have h1 := HPA.out; have h2 := HS.out; unfold SetB at h2 ⊢; omega)
    have HPa := Aside0.mk (show SetB sa ∧ 1 ≤ sa ∧ sa < s by have h1 := HPA.out; have h2 := HS.out; unfold SetB at h2 ⊢; omega)
    go_region_held3 (fun w' => w'.cell? ⟨E.gm, 0, none⟩ = some (.func (.func 41) #[] #[]) ∧ w'.cell? ⟨E.gf, 0, none⟩ = some (.func (.func 72) #[] #[.pointer (some ⟨E.go, 0, none⟩), .pointer (some ⟨E.gt, 0, none⟩), .pointer (some ⟨E.gm, 0, none⟩), .pointer (some ⟨E.gf, 0, none⟩)]) ∧ w'.cell? ⟨E.gt, 0, none⟩ = some (.slice E.A0 E.l0.length E.c0) ∧ w'.cell? ⟨E.gt, 1, none⟩ = some (.slice E.A1 E.l1.length E.c1) ∧ w'.cell? ⟨E.gt, 2, none⟩ = some (.slice E.A2 E.l2.length E.c2) ∧ w'.cell? ⟨E.gt, 3, none⟩ = some (.slice E.A3 E.l3.length E.c3) ∧ w'.cell? ⟨E.gt, 4, none⟩ = some (.int .u64 E.al)) (first | exact fs_mk41 (HMid.out.fw.full HE.out (below_drew (Below.refl _ _))) hMn | exact fs_mk41 HM9.out.fw hMn | exact fs_mk41 HM10.out.fw hMn | exact fs_mk41 HM11.out.fw hMn)
     (first | (go_at_call 72; (with_reducible refine (IH.out sb ?side1 ?side2 ?side3 _ g (HMid.out.fw.full HE.out (below_drew (Below.refl _ _)))).mono ?_); (case side1 => exact HPb.out.1); (case side2 => exact HPb.out.2.1); (case side3 => exact HPb.out.2.2); rintro e w9 ⟨g9, rfl, hfw, hgr, hle, hdn⟩; (have HM9 := Aside0.mk (FMid.call HE.out HW.out.tp (HMid.out.below HE.out (below_drew (Below.refl _ _))) hfw hgr hle)); (have HL9 := Aside0.mk hle); (have HDb := Aside0.mk hdn); clear hfw hgr hle hdn) | (go_at_call 72; (with_reducible refine (IH.out sa ?side1 ?side2 ?side3 _ g9 HM9.out.fw).mono ?_); (case side1 => exact HPa.out.1); (case side2 => exact HPa.out.2.1); (case side3 => exact HPa.out.2.2); rintro e w10 ⟨g10, rfl, hfw, hgr, hle, hdn⟩; (have HM10 := Aside0.mk (FMid.call HE.out HW.out.tp HM9.out hfw hgr hle)); (have HL10 := Aside0.mk (KMap.le_trans HL9.out hle)); (have HDa := Aside0.mk hdn); (have HDb2 := Aside0.mk (doneB_le hle HDb.out)); clear hfw hgr hle hdn) | (go_at_call 41; (with_reducible refine (HMM.out _ k s (cstB ch sb) (cstB ch sa) ?side1 ?side2 ?side3).mono ?_); (case side1 => exact HM10.out.fw.bl); (case side2 => exact hk); (case side3 => exact HS.out); rintro e w11 ⟨rfl, hb⟩; (have HM11 := Aside0.mk (HM10.out.below HE.out hb)); clear hb))
    obtain ⟨cc, hcc⟩ : ∃ cc, mf k s (cstB ch sb) (cstB ch sa) = cc := ⟨_, rfl⟩
    rw [hcc]
    have HCC := Aside0.mk hcc
    clear hcc
    have hb0 : w11.cell? ⟨W.heap.size + 1, 0, none⟩ = some (.int .i64 b1) := (blk_cell HM11.out.bx 0).trans rfl
    have hb1 : w11.cell? ⟨W.heap.size + 1, 1, none⟩ = some (.int .i64 b2) := (blk_cell HM11.out.bx 1).trans rfl
    have hf0 := blk_frozen HM11.out.bx 0
    have hf1 := blk_frozen HM11.out.bx 1
    have HB1 := Aside0.mk hb1
    clear hb1
    have hb1 := HB1.out
    by_cases ht : b1 < 0 ∨ cc < b2
    ·have HT := Aside0.mk ht
     have hrel2 : Aside0 (FLoop E ch mf W f s (k + 1) ((w11.setCell ⟨W.heap.size + 1, 0, none⟩ (.int .i64 k)).setCell ⟨W.heap.size + 1, 1, none⟩ (.int .i64 cc))) :=
      ⟨FLoop.next hk HX.out HSA.out HSB.out HYES.out HDone.out HPick.out HDR.out HL10.out HDa.out HDb2.out (FMid.put HE.out HW.out.tp HM11.out k cc) (by rw [HCC.out, if_pos HT.out])⟩
     by_cases h0 : b1 < 0
     ·have d0 : decide (b1 < 0) = true := decide_eq_true h0
      clear ht h0
      go_wp2
      go_roundg (k1 - 1)
      case measure => have := HK.out; omega
      case rel => exact ⟨k + 1, by go_num, ⟨by have := HK.out; omega⟩, hrel2⟩
     ·have d0 : decide (b1 < 0) = false := decide_eq_false h0
      have d1 : decide (cc < b2) = true := decide_eq_true (by omega)
      clear ht h0
      go_wp2
      go_roundg (k1 - 1)
      case measure => have := HK.out; omega
      case rel => exact ⟨k + 1, by go_num, ⟨by have := HK.out; omega⟩, hrel2⟩
    ·have HT := Aside0.mk ht
     have hrel2 : Aside0 (FLoop E ch mf W f s (k + 1) w11) :=
      ⟨FLoop.next hk HX.out HSA.out HSB.out HYES.out HDone.out HPick.out HDR.out HL10.out HDa.out HDb2.out HM11.out (by rw [HCC.out, if_neg HT.out])⟩
     have d0 : decide (b1 < 0) = false := decide_eq_false (fun h => ht (.inl h))
     have d1 : decide (cc < b2) = false := decide_eq_false (fun h => ht (.inr h))
     clear ht
     go_wp2
     go_roundg (k1 - 1)
     case measure => have := HK.out; omega
     case rel => exact ⟨k + 1, by go_num, ⟨by have := HK.out; omega⟩, hrel2⟩
  ·obtain rfl : k = E.l3.length := by have := HK.out; omega
   rw [List.drop_length] at hpick
   have hbe : (b1, b2) = ch s := hpick
   have HBE := Aside0.mk hbe
   have hdone2 : ∀ x ∈ E.l3, splitB s x = true → doneB g (bSub s x) ∧ doneB g (bAnd s x) := by
    intro x hx hsp
    obtain ⟨j, hj, rfl⟩ := List.getElem_of_mem hx
    have he : rd E.l3 j = E.l3[j] := by simp [rd, List.getD_eq_getElem?_getD, List.getElem?_eq_getElem hj]
    have := hdone j hj
    rw [he] at this
    exact this hsp
   have HD2 := Aside0.mk hdone2
   have HMid := Aside0.mk hMid
   have hb0 : wr.cell? ⟨W.heap.size + 1, 0, none⟩ = some (.int .i64 b1) := (blk_cell hMid.bx 0).trans rfl
   have hb1 : wr.cell? ⟨W.heap.size + 1, 1, none⟩ = some (.int .i64 b2) := (blk_cell hMid.bx 1).trans rfl
   have hcz2 : wr.cell? ⟨E.go, 0, none⟩ = some (.map (some E.B)) := (blk_cell hMid.fw.bo 0).trans rfl
   have hB : some (W.heap.size + 1) ≠ some E.B := by intro e; injection e with e; have h1 := HE.out.lt; have h2 := HW.out.tp; omega
   have HB := Aside0.mk hB
   clear hMid hdone hpick hbe hdone2 hk hB
   go_wp2_with (at_mapUpdate; refine wpList_put_is _ rfl _ _ _ 93 rfl 75 96 keyed75 Tryd.underlying93 E.B 1024 g rfl HMid.out.fw.mp (by decide) (.int .u64 s) _ (ky s) rfl rfl (ky_of HS.out) ?_; intro w1 hown1 hgrow1; have HO1 := Aside0.mk hown1; have HG1 := Aside0.mk hgrow1; have hb1' : w1.cell? ⟨W.heap.size + 1, 1, none⟩ = some (.int .i64 b2) := (blk_cell (blk_grown HMid.out.bx hgrow1 HB.out) 1).trans rfl; clear hown1 hgrow1)
   go_ret
   have e1 : b1 = (ch s).1 := by rw [← HBE.out]
   have e2 : b2 = (ch s).2 := by rw [← HBE.out]
   have ho := HO1.out
   rw [e1, e2] at ho
   obtain ⟨hfw, hle⟩ := FW.put HE.out HMid.out.fw HS.out HS1.out HD2.out ho HG1.out
   exact ⟨_, retI (by unfold cstB; rw [if_neg HP.out, e2]), hfw, grown_then HMid.out.gr HG1.out, KMap.le_trans HMid.out.le hle, .inr (by rw [KMap.put_same _ (ky_key s)]; rfl)⟩
theorem find_all41 (E : FEnv) (ch : Int → Int × Int) (mf : Int → Int → Int → Int → Int) (hE : FOk E) (hM : MOk41 E mf) (hMn : E.M = 41) (hch : ∀ s, SetB s → 1 ≤ s → ch s = chsStep mf E.l3 ch s) (d : Nat) :
  ∀ u, SetB u → 1 ≤ u → u.toNat ≤ d → ∀ W f, FW E ch W f → Calls Tryd.prog 72 #[.int .u64 u, .pointer (some ⟨E.go, 0, none⟩), .pointer (some ⟨E.gt, 0, none⟩), .pointer (some ⟨E.gm, 0, none⟩), .pointer (some ⟨E.gf, 0, none⟩)] W (FPost E ch W f u) := by
 induction d with
 | zero => intro u h1 h2 h3; unfold SetB at h1; omega
 | succ d ih =>
  intro u h1 h2 h3 W f h
  by_cases hp : pcount u = 1
  ·exact find_one E ch u h1 hp W f h
  ·by_cases hm : (f (ky u)).isSome = true
   ·exact find_memo E ch u h1 hp W f h hE hm
   ·exact find_step41 E ch mf hE hM hMn u h1 h2 hp (hch u h1 h2) W f h (by simpa using hm) (fun v v1 v2 v3 => ih v v1 v2 (by omega))
/-- What best returns: the map of the choices. -/
def BPost41 (l3 : List Int) (ch : Int → Int × Int) (al : Int) (W : World) (e : Ending) (w' : World) : Prop :=
 ∃ B f, e = .returned (.map (some B)) ∧ MapIs Tryd.prog 75 w' B 1024 f ∧ W.heap.size ≤ B ∧ Below W.heap.size W w' ∧ doneB f al ∧
  ∀ kl v, f kl = some v → ∃ s, SetB s ∧ 1 ≤ s ∧ kl = ky s ∧ v = .agg #[.int .i64 (ch s).1, .int .i64 (ch s).2] ∧ ∀ x ∈ l3, splitB s x = true → doneB f (bSub s x) ∧ doneB f (bAnd s x)
set_option maxHeartbeats 8000000 in
set_option maxRecDepth 100000 in
theorem best41 (A0 : Option Addr) (c0 : Nat) (l0 : List Int) (A1 : Option Addr) (c1 : Nat) (l1 : List (List Int)) (A2 : Option Addr) (c2 : Nat) (l2 : List Int) (A3 : Option Addr) (c3 : Nat) (l3 : List Int) (al : Int) (mf : Int → Int → Int → Int → Int) (W : World)
  (r0 : Kd.C (Kd.int .i64) W A0 l0.length l0) (n0 : l0.length ≤ c0) (r1 : Kd.C (Kd.slice 3 (Kd.int .i64)) W A1 l1.length l1) (n1 : l1.length ≤ c1) (r2 : Kd.C (Kd.int .i64) W A2 l2.length l2) (n2 : l2.length ≤ c2) (r3 : Kd.C (Kd.int .u64) W A3 l3.length l3) (n3 : l3.length ≤ c3)
  (hs : ∀ x ∈ l3, SetB x) (hf : l3.length ≤ 12) (ha : SetB al) (ha1 : 1 ≤ al)
  (hM : ∀ (w : World) (k : Nat) (s z o : Int), Below W.heap.size W w → k < l3.length → SetB s → Calls Tryd.prog 41 #[.agg #[.slice A0 l0.length c0, .slice A1 l1.length c1, .slice A2 l2.length c2, .slice A3 l3.length c3, .int .u64 al], .int .i64 k, .int .u64 s, .int .i64 z, .int .i64 o] w fun e w' => e = .returned (.int .i64 (mf k s z o)) ∧ Below w.heap.size w w') :
  Calls Tryd.prog 59 #[.agg #[.slice A0 l0.length c0, .slice A1 l1.length c1, .slice A2 l2.length c2, .slice A3 l3.length c3, .int .u64 al], .func (.func 41) #[] #[]] W (BPost41 l3 (chs mf l3) al W) := by
 have hE : ∀ go gt gm gf B top, W.heap.size ≤ B ∧ W.heap.size ≤ top → (go < top ∧ gt < top ∧ gm < top ∧ gf < top ∧ B < top) → FOk ⟨W, go, gt, gm, gf, B, top, A0, c0, l0, A1, c1, l1, A2, c2, l2, A3, c3, l3, al, 41⟩ :=
  fun go gt gm gf B top h1 h2 => ⟨r0, n0, r1, n1, r2, n2, r3, n3, h1, h2, hs, hf⟩
 have HE := Aside0.mk hE
 have HM := Aside0.mk hM
 have HA := Aside0.mk ha
 have HA1 := Aside0.mk ha1
 have HS := Aside0.mk hs
 have hmm := @run_makeMap Tryd.prog
 clear r0 r1 r2 r3 hs hf ha ha1 hM hE
 go_enter Tryd.func59, Tryd.ntmps59
 go_upto_region 4 with (fail)
 have hFW := FW.start ⟨W, W.heap.size + 1 + 1 + 1, W.heap.size, W.heap.size + 1, W.heap.size + 1 + 1 + 1 + 1, W.heap.size + 1 + 1, W.heap.size + 1 + 1 + 1 + 1 + 1, A0, c0, l0, A1, c1, l1, A2, c2, l2, A3, c3, l3, al, 41⟩ (chs mf l3) rfl rfl rfl rfl rfl rfl
 have HFW := Aside0.mk hFW
 clear hFW
 have HFA := Aside0.mk (find_all41 ⟨W, W.heap.size + 1 + 1 + 1, W.heap.size, W.heap.size + 1, W.heap.size + 1 + 1 + 1 + 1, W.heap.size + 1 + 1, W.heap.size + 1 + 1 + 1 + 1 + 1, A0, c0, l0, A1, c1, l1, A2, c2, l2, A3, c3, l3, al, 41⟩ (chs mf l3) mf (HE.out _ _ _ _ _ _ (by omega) (by omega)) HM.out rfl (fun s h1 _ => chs_eq mf l3 HS.out s h1) al.toNat al HA.out HA1.out (Nat.le_refl _) _ KMap.empty HFW.out)
 go_wp2_with (go_at_call 72; refine (HFA.out).mono ?_; rintro e w9 ⟨g9, rfl, hfw, hgr, hle, hdn⟩; have HFW9 := Aside0.mk hfw; have HDN := Aside0.mk hdn; have hcz : w9.cell? ⟨W.heap.size + 1 + 1 + 1, 0, none⟩ = some (.map (some (W.heap.size + 1 + 1))) := (blk_cell hfw.bo 0).trans rfl; clear hfw hgr hle hdn)
 go_ret
 exact ⟨_, g9, rfl, HFW9.out.mp, by show W.heap.size ≤ W.heap.size + 1 + 1; omega, HFW9.out.bl, HDN.out, HFW9.out.gd⟩
end Go.Proofs.YtekmiepdodaidaaDoor.X
end

section
/- tests.optimal, by hand, with the measure of function 41. -/
set_option linter.unusedVariables false
set_option linter.unusedSimpArgs false
namespace Go.Proofs.YtekmiepdodaidaaDoor.X
open Go.RowKit Go.Proofs.YtekmiepdodaidaaDoorW.PrintWords Go.Proofs.YtekmiepdodaidaaDoorW.PrintLast Go.Proofs.YtekmiepdodaidaaDoorW.PrintMore

section
variable {A0 : Option Addr} {c0 : Nat} {a : List Int} {A1 : Option Addr} {c1 : Nat} {b : List (List Int)} {A2 : Option Addr} {c2 : Nat} {c : List Int} {w : World}
def OptNone41 (er : Int) (w : World) (e : Ending) (w' : World) : Prop := e = .returned (.tuple #[.slice none 0 0, .int .i64 0, .int .i64 er]) ∧ Below w.heap.size w w'
set_option maxHeartbeats 4000000 in
set_option maxRecDepth 100000 in
theorem opt_bad41 (h : CaseAt w A0 c0 a A1 c1 b A2 c2 c) (hc : caseB a b c = false) : Calls Tryd.prog 39 #[.agg #[.slice A0 a.length c0, .slice A1 b.length c1, .slice A2 c.length c2], .func (.func 41) #[] #[]] w (OptNone41 2 w) := by
 have H := Aside0.mk h
 have HC := Aside0.mk hc
 have HB := Aside0.mk (Below.refl w.heap.size w)
 clear h hc
 go_enter Tryd.func39, Tryd.ntmps39
 go_wp2_with (go_at_call 45; refine (trial_bad (H.out.below ((Below.refl _ _).alloc (Nat.le_refl _) _)) HC.out).mono ?_; rintro e w5 ⟨A3, c3, rfl, hb⟩; have HB5 := Aside0.mk (below_step (below_alloc HB.out _) hb); clear hb)
 go_ret3
 exact ⟨rfl, below_alloc HB5.out _⟩
set_option maxHeartbeats 4000000 in
set_option maxRecDepth 100000 in
theorem opt_alike41 (h : CaseAt w A0 c0 a A1 c1 b A2 c2 c) (hc : caseB a b c = true) (hal : alikeL (onesOf b) a.length ≠ []) : Calls Tryd.prog 39 #[.agg #[.slice A0 a.length c0, .slice A1 b.length c1, .slice A2 c.length c2], .func (.func 41) #[] #[]] w (OptNone41 6 w) := by
 have H := Aside0.mk h
 have HC := Aside0.mk hc
 have HI := Aside0.mk (case_is hc)
 have HB := Aside0.mk (Below.refl w.heap.size w)
 obtain ⟨n, hn⟩ : ∃ n, n = (alikeL (onesOf b) a.length).length := ⟨_, rfl⟩
 have HN := Aside0.mk hn
 have hpos : (0 : Int) < (n : Int) := by have := List.length_pos_iff.2 hal; omega
 clear h hc hal hn
 go_enter Tryd.func39, Tryd.ntmps39
 go_wp2_with (first | (go_at_call 45; refine (trial_good (H.out.below ((Below.refl _ _).alloc (Nat.le_refl _) _)) HC.out).mono ?_; rintro e w5 ⟨A3, c3, rfl, hr3, hb⟩; have HR3 := Aside0.mk hr3; have HB5 := Aside0.mk (below_step (below_alloc HB.out _) hb); clear hr3 hb) | (go_at_call 49; refine (alike_n (H.out.below (below_alloc HB5.out _)) HI.out A3 c3 (onesOf b) _ (Kd.C_alloc HR3.out.1 _) HR3.out.2).mono ?_; rintro e w6 ⟨A4, c4, rfl, hb⟩; have HB6 := Aside0.mk (below_step (below_alloc HB5.out _) hb); rw [← HN.out]; clear hb))
 go_ret3
 exact ⟨rfl, HB6.out⟩
def OptGood41 (l : List S57) (co : Int) (w : World) (e : Ending) (w' : World) : Prop := ∃ v, e = .returned (.tuple #[v, .int .i64 co, .int .i64 0]) ∧ Kd.R k57 57 w' w.heap.size (fun _ => True) v l ∧ Below w.heap.size w w'
/-- What is asked of the measure. -/
def MeasOk41 (a : List Int) (b : List (List Int)) (c : List Int) (mf : Int → Int → Int → Int → Int) : Prop :=
 ∀ (A0 : Option Addr) (c0 : Nat) (A1 : Option Addr) (c1 : Nat) (A2 : Option Addr) (c2 : Nat) (A3 : Option Addr) (c3 : Nat) (w : World) (k : Nat) (s z o : Int), CaseAt w A0 c0 a A1 c1 b A2 c2 c → Kd.C (Kd.int .u64) w A3 (onesOf b).length (onesOf b) → (onesOf b).length ≤ c3 → k < (onesOf b).length → SetB s →
  Calls Tryd.prog 41 #[.agg #[.slice A0 a.length c0, .slice A1 b.length c1, .slice A2 c.length c2, .slice A3 (onesOf b).length c3, .int .u64 (allOf a)], .int .i64 k, .int .u64 s, .int .i64 z, .int .i64 o] w fun e w' => e = .returned (.int .i64 (mf k s z o)) ∧ Below w.heap.size w w'
set_option maxHeartbeats 8000000 in
set_option maxRecDepth 100000 in
theorem opt_good41 (mf : Int → Int → Int → Int → Int) (hM : MeasOk41 a b c mf) (h : CaseAt w A0 c0 a A1 c1 b A2 c2 c) (hc : caseB a b c = true) (hal : alikeL (onesOf b) a.length = []) (hT : Tab w) :
  Calls Tryd.prog 39 #[.agg #[.slice A0 a.length c0, .slice A1 b.length c1, .slice A2 c.length c2], .func (.func 41) #[] #[]] w (OptGood41 (treeB (fun s => (chs mf (onesOf b) s).1) (onesOf b) (allOf a) 0) (cstB (chs mf (onesOf b)) (allOf a)) w) := by
 have H := Aside0.mk h
 have HC := Aside0.mk hc
 have HI := Aside0.mk (case_is hc)
 have HM := Aside0.mk hM
 have HT := Aside0.mk hT
 have HAL := Aside0.mk hal
 have HB := Aside0.mk (Below.refl w.heap.size w)
 have HSET := Aside0.mk (onesOf_set HI.out.a10 HI.out.rows)
 have hpos : (alikeL (onesOf b) a.length).length = 0 := by rw [hal]; rfl
 have HP := Aside0.mk hpos
 have hall : ((2 ^ a.length : Nat) : Int) - 1 = allOf a := rfl
 have HALL := Aside0.mk hall
 clear h hc hal hM hT hpos hall
 go_enter Tryd.func39, Tryd.ntmps39
 go_upto_region 6 with (first | (go_at_call 45; refine (trial_good (H.out.below ((Below.refl _ _).alloc (Nat.le_refl _) _)) HC.out).mono ?_; rintro e w5 ⟨A3, c3, rfl, hr3, hb⟩; rw [HALL.out]; have HR3 := Aside0.mk hr3; have HB5 := Aside0.mk (below_step (below_alloc HB.out _) hb); clear hr3 hb) | (go_at_call 49; refine (alike_n (H.out.below (below_alloc HB5.out _)) HI.out A3 c3 (onesOf b) _ (Kd.C_alloc HR3.out.1 _) HR3.out.2).mono ?_; rintro e w6 ⟨A4, c4, rfl, hb⟩; have HB6 := Aside0.mk (below_step (below_alloc HB5.out _) hb); have HR6 := Aside0.mk (Kd.C_below (Kd.C_alloc HR3.out.1 _) hb); have HX6 := Aside0.mk ((hb.block _ (by rw [size_alloc']; omega)).trans (blk_new w5 _)); rw [HP.out]; clear hb))
 have hz0 : w6.cell? ⟨w5.heap.size, 0, none⟩ = some (.slice A0 a.length c0) := (blk_cell HX6.out 0).trans rfl
 have hz1 : w6.cell? ⟨w5.heap.size, 1, none⟩ = some (.slice A1 b.length c1) := (blk_cell HX6.out 1).trans rfl
 have hz2 : w6.cell? ⟨w5.heap.size, 2, none⟩ = some (.slice A2 c.length c2) := (blk_cell HX6.out 2).trans rfl
 have hz3 : w6.cell? ⟨w5.heap.size, 3, none⟩ = some (.slice A3 (onesOf b).length c3) := (blk_cell HX6.out 3).trans rfl
 have hz4 : w6.cell? ⟨w5.heap.size, 4, none⟩ = some (.int .u64 (allOf a)) := (blk_cell HX6.out 4).trans rfl
 have HC6 := Aside0.mk (H.out.below HB6.out)
 have HN3 := Aside0.mk HR3.out.2
 have H12 := Aside0.mk (show (onesOf b).length ≤ 12 by rw [onesOf_len]; exact HI.out.b12)
 have HBEST := Aside0.mk (best41 A0 c0 a A1 c1 b A2 c2 c A3 c3 (onesOf b) (allOf a) mf w6 HC6.out.r0 HC6.out.n0 HC6.out.r1 HC6.out.n1 HC6.out.r2 HC6.out.n2 HR6.out HN3.out HSET.out H12.out (allOf_set HI.out).1 (allOf_set HI.out).2
  (fun w' k s z o hb hk hs => HM.out A0 c0 A1 c1 A2 c2 A3 c3 w' k s z o (HC6.out.below hb) (Kd.C_below HR6.out hb) HN3.out hk hs))
 go_upto_region 7 with (go_at_call 59; refine HBEST.out.mono ?_; rintro e w7 ⟨B, f, rfl, hmp, hlo, hb, hdn, hgd⟩; have HMP := Aside0.mk hmp; have HLO := Aside0.mk hlo; have HDN := Aside0.mk hdn; have HGD := Aside0.mk hgd; have HB7 := Aside0.mk (below_step HB6.out hb); have HB67 := Aside0.mk hb; clear hmp hlo hb hdn hgd)
 clear hz0 hz1 hz2 hz3 hz4 HBEST
 obtain ⟨t1, ht1⟩ := val_at HSET.out (allOf_set HI.out).1 (allOf_set HI.out).2 HDN.out HGD.out
 obtain ⟨co, hco⟩ : ∃ co, co = cstB (chs mf (onesOf b)) (allOf a) := ⟨_, rfl⟩
 rw [← hco] at ht1
 have HCO := Aside0.mk hco
 have HT1 := Aside0.mk ht1
 obtain ⟨w8, hw8⟩ : ∃ w8, w8 = w7.alloc (.cells #[.map (some B)] 93 (0, 0)) := ⟨_, rfl⟩
 have h78 : Below w7.heap.size w7 w8 := by rw [hw8]; exact below_alloc (Below.refl _ _) _
 have hgq : w8.heap[w7.heap.size]? = some (.cells #[.map (some B)] 93 (0, 0)) := by rw [hw8]; exact blk_new _ _
 have hbx : w8.heap[w5.heap.size]? = some (.cells #[.slice A0 a.length c0, .slice A1 b.length c1, .slice A2 c.length c2, .slice A3 (onesOf b).length c3, .int .u64 (allOf a)] 77 (0, 0)) := blk_below (blk_below HX6.out HB67.out) h78
 have HS : ∀ w', Below w8.heap.size w8 w' → (w'.cell? ⟨w5.heap.size, 0, none⟩ = some (.slice A0 a.length c0) ∧ w'.cell? ⟨w5.heap.size, 1, none⟩ = some (.slice A1 b.length c1) ∧ w'.cell? ⟨w5.heap.size, 2, none⟩ = some (.slice A2 c.length c2) ∧ w'.cell? ⟨w5.heap.size, 3, none⟩ = some (.slice A3 (onesOf b).length c3) ∧ w'.cell? ⟨w5.heap.size, 4, none⟩ = some (.int .u64 (allOf a)) ∧ w'.cell? ⟨w7.heap.size, 0, none⟩ = some (.map (some B)) ∧ (Instr.lookup 93 (.map (some B)) (.int .u64 (allOf a)) false).run Tryd.prog w' = .ok (.agg #[.int .i64 t1, .int .i64 co]) w') := by
  intro w' hb
  have e1 := blk_below hbx hb
  have e2 := blk_below hgq hb
  refine ⟨(blk_cell e1 0).trans rfl, (blk_cell e1 1).trans rfl, (blk_cell e1 2).trans rfl, (blk_cell e1 3).trans rfl, (blk_cell e1 4).trans rfl, (blk_cell e2 0).trans rfl, ?_⟩
  have hl := ((HMP.out.below h78).below hb).look (t := 93) (e := 96) keyed75 Tryd.underlying93 (zero96 w') (ky_of (allOf_set HI.out).1)
  rw [HT1.out] at hl
  exact hl
 have HSS := Aside0.mk HS
 have HP50 := Aside0.mk (fun (w9 : World) (hb : Below w8.heap.size w8 w9) => plan60 A0 c0 a A1 c1 b A2 c2 c A3 c3 (onesOf b) (allOf a) w7.heap.size (fun s => (chs mf (onesOf b) s).1) (bestR a.length f) w9 (Kd.C_below (Kd.C_below (Kd.C_below HR6.out HB67.out) h78) hb) HN3.out ((HT.out.below HB7.out).below h78 |>.below hb) (best_runs HI.out.a10 HSET.out HAL.out HGD.out) ⟨(allOf_set HI.out).1, (allOf_set HI.out).2, (by unfold allOf; omega), HDN.out⟩
  (fun W' hb2 s hR hp => test60 (hR.1) ((blk_cell (blk_below (blk_below hgq hb) hb2) 0).trans rfl) (((HMP.out.below h78).below hb).below hb2) (best_val HGD.out hR hp)))
 have HB8 := Aside0.mk (below_step HB7.out h78)
 have hfd := fun w => (field96 w t1 co).2
 clear HS ht1 h78 hgq hbx hco
 rw [← hw8]
 clear hw8
 go_region_held3 (fun w' => w'.cell? ⟨w5.heap.size, 0, none⟩ = some (.slice A0 a.length c0) ∧ w'.cell? ⟨w5.heap.size, 1, none⟩ = some (.slice A1 b.length c1) ∧ w'.cell? ⟨w5.heap.size, 2, none⟩ = some (.slice A2 c.length c2) ∧ w'.cell? ⟨w5.heap.size, 3, none⟩ = some (.slice A3 (onesOf b).length c3) ∧ w'.cell? ⟨w5.heap.size, 4, none⟩ = some (.int .u64 (allOf a)) ∧ w'.cell? ⟨w7.heap.size, 0, none⟩ = some (.map (some B)) ∧ (Instr.lookup 93 (.map (some B)) (.int .u64 (allOf a)) false).run Tryd.prog w' = .ok (.agg #[.int .i64 t1, .int .i64 co]) w') (first | exact HSS.out _ (below_drew (Below.refl _ _)) | exact HSS.out _ HB9.out)
  ((go_at_call 50; (with_reducible refine (HP50.out _ ?side1).mono ?_); (case side1 => exact below_drew (Below.refl _ _)); rintro e w9 ⟨v9, rfl, hr9, hb9⟩; have HR9 := Aside0.mk hr9; have HB9 := Aside0.mk (below_step (below_drew (Below.refl _ _)) hb9); clear hr9 hb9))
 all_goals
  go_wp2
  go_ret3
  rw [← HCO.out]
  exact ⟨v9, rfl, Kd.R_lower HR9.out (below_size (below_drew HB8.out)), below_step HB8.out HB9.out⟩
end
end Go.Proofs.YtekmiepdodaidaaDoor.X
end
