/- Texts behind TestsDoubles, part 28: contracts of the program's functions and the plain words for them. -/
import Derived.Deep.Slices
import Derived.Deep.Strs
import Derived.ProofKit
import Derived.OpenShut
import Derived.Lib.SmallJoins
import Derived.Lib.LaidTab
import Derived.Stop.LaidErr
import Derived.Test.YtekmiepdodaidaaDoorRows
import Derived.LaidMore
import Derived.Stop.Joined
import Derived.LaidHandle
import Derived.ChangeOld
import Derived.Test.YtekmiepdodaidaaDoorTpaa
import Derived.Test.YtekmiepdodaidaaDoorTpas
import Derived.Test.YtekmiepdodaidaaDoorTpax
import Derived.Test.YtekmiepdodaidaaDoorTpba
section
/- tickinglaw07.TestsDoubles, by hand: walked with what is known of the program's answers. -/
set_option linter.unusedVariables false
set_option linter.unusedSimpArgs false
namespace Go.Proofs.YtekmiepdodaidaaDoor.X
open Go.RowKit Go.Proofs.YtekmiepdodaidaaDoorW.PrintWords Go.Proofs.YtekmiepdodaidaaDoorW.PrintLast Go.Proofs.YtekmiepdodaidaaDoorW.PrintMore

/-- The first i costs are 1. -/
def fillC (l : List Int) (i : Nat) : List Int := List.replicate i 1 ++ l.drop i
theorem fillC_set {l : List Int} {i : Nat} (h : i < l.length) : (fillC l i).set i 1 = fillC l (i + 1) := by
 unfold fillC
 rw [List.set_append_right _ _ (by simp), List.drop_eq_getElem_cons h, List.replicate_succ', List.length_replicate, Nat.sub_self, List.set_cons_zero, List.append_assoc]
 rfl
theorem fillC_end (l : List Int) : fillC l l.length = onesC l.length := by unfold fillC onesC; simp
/-- A tame case whose costs are being set. -/
structure DbAt (u : World) (B0 : Option Addr) (d0 : Nat) (a : List Int) (B1 : Option Addr) (d1 : Nat) (b : List (List Int)) (B2 : Option Addr) (d2 n : Nat) (l : List Int) (g : Nat) (w' : World) : Prop where
 bx : w'.heap[g]? = some (.cells #[.slice B0 a.length d0, .slice B1 b.length d1, .slice B2 n d2] 25 (0, 0))
 r0 : Kd.R (Kd.int .i64) 3 w' u.heap.size (fun k => some k ≠ (Value.slice B2 n d2).ownBlock) (.slice B0 a.length d0) a
 r1 : Kd.R (Kd.slice 3 (Kd.int .i64)) 22 w' u.heap.size (fun k => some k ≠ (Value.slice B2 n d2).ownBlock) (.slice B1 b.length d1) b
 r2 : Kd.R (Kd.int .i64) 3 w' u.heap.size (fun _ => True) (.slice B2 n d2) l
 bl : Below u.heap.size u w'
section
variable {u : World} {B0 : Option Addr} {d0 : Nat} {a : List Int} {B1 : Option Addr} {d1 : Nat} {b : List (List Int)} {B2 : Option Addr} {d2 n : Nat} {l : List Int} {g : Nat} {w' : World}
theorem DbAt.put (h : DbAt u B0 d0 a B1 d1 b B2 d2 n l g w') (i : Nat) (hi : i < n) : ∃ q x, B2 = some ⟨q, 0, none⟩ ∧ w'.cell? ⟨q, i, none⟩ = some (.int .i64 x) ∧ w'.frozen? ⟨q, i, none⟩ = false ∧ DbAt u B0 d0 a B1 d1 b B2 d2 n (l.set i 1) g (w'.setCell ⟨q, i, none⟩ (.int .i64 1)) := by
 have hn : n = l.length := (Kd.R_reads' h.r2).1
 obtain ⟨q, n3, e, hgb, _⟩ := Kd.R_form h.r2 (by omega)
 injection e with e1 e2 e3
 subst e1
 have hc := Kd.R_celln (enc := Value.int .i64) (h1 := fun _ => rfl) (0 : Int) h.r2 (i : Int) (by omega) (by omega)
 have hp := Kd.R_putg (enc := Value.int .i64) (h1 := fun _ => rfl) h.r2 (i : Int) 1
 simp only [Int.toNat_natCast] at hc hp
 refine ⟨q, _, rfl, hc.1, hc.2, blk_far h.bx ?_ _, Kd.R_grown h.r0 hp.2 (fun k hk => hk), Kd.R_grown h.r1 hp.2 (fun k hk => hk), hp.1, h.bl.setCell hgb _⟩
 intro e
 exact Kd.R_ne h.r2 h.bx (by decide) (by rw [e]; rfl)
theorem DbAt.cells (h : DbAt u B0 d0 a B1 d1 b B2 d2 n l g w') : w'.cell? ⟨g, 0, none⟩ = some (.slice B0 a.length d0) ∧ w'.cell? ⟨g, 1, none⟩ = some (.slice B1 b.length d1) ∧ w'.cell? ⟨g, 2, none⟩ = some (.slice B2 n d2) := boxS7 h.bx
theorem DbAt.case {w : World} (h : DbAt u B0 d0 a B1 d1 b B2 d2 n (onesC n) g w') (hu : Below w.heap.size w u) (hg : w.heap.size ≤ g) : LawW w B0 d0 a B1 d1 b B2 d2 (onesC n) g w' := by
 have hl : (onesC n).length = n := List.length_replicate ..
 refine ⟨by rw [hl]; exact h.bx, ⟨(Kd.R_reads' h.r0).2.2, (Kd.R_reads' h.r0).2.1, (Kd.R_reads' h.r1).2.2, (Kd.R_reads' h.r1).2.1, (Kd.R_reads' h.r2).2.2, ?_⟩, below_step hu h.bl, hg⟩
 rw [hl]; exact (Kd.R_reads' h.r2).2.1
end
theorem need_lt {k : Nat} (h : 2 ^ k < 10) : k < 4 := by
 refine Classical.byContradiction fun hn => ?_
 have : 2 ^ 4 ≤ 2 ^ k := Nat.pow_le_pow_right (by omega) (by omega)
 omega
section
variable {A0 : Option Addr} {c0 : Nat} {a : List Int} {A1 : Option Addr} {c1 : Nat} {b : List (List Int)} {A2 : Option Addr} {c2 : Nat} {c : List Int} {w : World}
set_option maxHeartbeats 16000000 in
set_option maxRecDepth 100000 in
theorem doubles_n (h : CaseAt w A0 c0 a A1 c1 b A2 c2 c) (hT : Tab w) :
  Calls Tryd.prog 10 #[.agg #[.slice A0 a.length c0, .slice A1 b.length c1, .slice A2 c.length c2]] w fun e w' => e = .returned (.bool true) ∧ Below w.heap.size w w' := by
 have H := Aside0.mk h
 have HT := Aside0.mk hT
 have D := tame_differ a b c
 obtain ⟨ta, hta⟩ : ∃ ta, ta = tameW a := ⟨_, rfl⟩
 obtain ⟨tb, htb⟩ : ∃ tb, tb = tameB a b := ⟨_, rfl⟩
 obtain ⟨tc, htc⟩ : ∃ tc, tc = tameC b c := ⟨_, rfl⟩
 have HTS := Aside0.mk (fun (W : World) (hb : Below w.heap.size w W) => tame_n (H.out.below hb))
 unfold TamePost at HTS
 rw [← hta, ← htb, ← htc] at HTS D
 have D1 := ones_differ D
 obtain ⟨u1, u2, u3, u4⟩ := unit_all D
 have hcb := D.is.cb
 have hn10 := D.is.a10
 have hn1 := D.is.a1
 have hb12 := D.is.b12
 obtain ⟨n, hn⟩ : ∃ n, n = tc.length := ⟨_, rfl⟩
 rw [← hcb, ← hn] at D1 u1 u2 u3 u4
 have hn12 : n ≤ 12 := by rw [hn, hcb]; exact hb12
 clear hb12
 obtain ⟨y, hy⟩ : ∃ y, y = valW ta tb (onesC n) := ⟨_, rfl⟩
 obtain ⟨cv, hcv⟩ : ∃ cv, cv = coverOf ta tb := ⟨_, rfl⟩
 have hy' : cN (mfWorst ta tb (onesC n)) tb (allOf ta) = y := hy.symm
 have hcv' : (coverB (onesOf tb) ta.length (2 ^ (onesOf tb).length)).getD [] = cv := hcv.symm
 rw [hy'] at u1 u2 u3 u4
 rw [hcv'] at u4
 have HD := Aside0.mk D1
 have HVY := Aside0.mk hy
 have HCV := Aside0.mk hcv
 have HU3 := Aside0.mk u3
 have HN := Aside0.mk hn
 have HB := Aside0.mk (Below.refl w.heap.size w)
 clear hn h hT hta htb htc D D1 hy hcv hy' hcv' u3 hcb
 go_enter Tryd.func10, Tryd.ntmps10
 go_upto_region 2 with (go_at_call 33; refine (HTS.out _ (below_alloc (Below.refl _ _) _)).mono ?_; rintro e w1 ⟨v0, v1, v2, rfl, h0, h1, h2, hb⟩; obtain ⟨B0, d0, rfl⟩ := Kd.R_slice h0; obtain ⟨B1, d1, rfl⟩ := Kd.R_slice h1; obtain ⟨B2, d2, rfl⟩ := Kd.R_slice h2; have HX := Aside0.mk (And.intro h0 (And.intro h1 h2)); have HB1 := Aside0.mk hb; clear h0 h1 h2 hb)
 obtain ⟨u, hu⟩ : ∃ u, u = w.alloc (.cells #[.slice A0 a.length c0, .slice A1 b.length c1, .slice A2 c.length c2] 25) := ⟨_, rfl⟩
 rw [← hu] at HX HB1
 have HUB := Aside0.mk (show Below w.heap.size w u by rw [hu]; exact below_alloc (Below.refl _ _) _)
 clear hu
 have HDB := Aside0.mk (show DbAt u B0 d0 ta B1 d1 tb B2 d2 tc.length (fillC tc 0) w1.heap.size (w1.alloc (.cells #[.slice B0 ta.length d0, .slice B1 tb.length d1, .slice B2 tc.length d2] 25)) from ⟨blk_new _ _, Kd.R_below HX.out.1 (below_alloc (Below.refl _ _) _), Kd.R_below HX.out.2.1 (below_alloc (Below.refl _ _) _), Kd.R_mono (Kd.R_below HX.out.2.2 (below_alloc (Below.refl _ _) _)) (fun _ _ => trivial), below_alloc HB1.out _⟩)
 have HG := Aside0.mk (show w.heap.size ≤ w1.heap.size from Nat.le_trans HUB.out.size HB1.out.size)
 rw [← HN.out] at HDB ⊢
 generalize w1.alloc (.cells #[.slice B0 ta.length d0, .slice B1 tb.length d1, .slice B2 n d2] 25) = w2 at HDB ⊢
 generalize w1.heap.size = g at HDB HG ⊢
 clear HX HB1 w1 HTS
 go_wp2
 go_loopg [4] n (fun kq v4 w' => ∃ i : Nat, v4 = .int .i64 i ∧ Aside0 (kq + i = n) ∧ Aside0 (DbAt u B0 d0 ta B1 d1 tb B2 d2 n (fillC tc i) g w'))
 case atStart => exact ⟨0, rfl, ⟨by omega⟩, HDB⟩
 case round =>
  clear HDB
  obtain ⟨i, rfl, HKI, HDI⟩ := hrel
  obtain ⟨k1, rfl⟩ : ∃ k1, k1 = gk := ⟨_, rfl⟩
  obtain ⟨z0, z1, z2⟩ := HDI.out.cells
  by_cases hi : i < n
  ·obtain ⟨q, x, e2, hcw, hfw, hnx⟩ := HDI.out.put i hi
   rw [fillC_set (by rw [← HN.out]; exact hi)] at hnx
   subst e2
   have HNX := Aside0.mk hnx
   clear hnx
   go_wp2
   clear hcw hfw z0 z1 z2
   go_roundg (k1 - 1)
   case measure => have := HKI.out; omega
   case rel => exact ⟨i + 1, by go_num, ⟨by have := HKI.out; omega⟩, HNX⟩
  ·obtain rfl : i = n := by have := HKI.out; omega
   have hfe := fillC_end tc
   rw [← HN.out] at hfe
   have hdi := HDI.out
   rw [hfe] at hdi
   have HL1 := Aside0.mk (hdi.case HUB.out HG.out)
   clear hfe hdi HDI HUB HG HN hi HKI
   go_upto_region 7 with (fail)
   clear z0 z1 z2
   go_wp2
   obtain ⟨wq, rfl⟩ : ∃ wq : World, wq = wr := ⟨_, rfl⟩
   go_loopg [6] 4 (fun kq v6 w' => ∃ k : Nat, v6 = .int .i64 k ∧ w' = wq ∧ Aside0 (kq + k = 4 ∧ ∀ j, j < k → 2 ^ j < ta.length))
   case atStart => exact ⟨0, rfl, rfl, ⟨by omega, fun j hj => by omega⟩⟩
   case round =>
    obtain ⟨k, rfl, rfl, HKK⟩ := hrel
    obtain ⟨k2, rfl⟩ : ∃ k2, k2 = gk := ⟨_, rfl⟩
    have hk4 : k ≤ 4 := by have := HKK.out.1; omega
    obtain ⟨m, hm⟩ : ∃ m : Nat, 2 ^ k = m := ⟨_, rfl⟩
    have HM := Aside0.mk hm
    have hm16 : m ≤ 16 := by rw [← hm]; exact Nat.pow_le_pow_right (by omega) hk4
    have hw : wrap64 ((2 : Int) ^ k) = (m : Int) := by
     have e : (2 : Int) ^ k = ((2 ^ k : Nat) : Int) := by simp
     rw [e, hm]; unfold wrap64; omega
    by_cases hlt : m < ta.length
    ·have q1 : decide ((m : Int) < (ta.length : Int)) = true := decide_eq_true (by omega)
     have q2 : decide (m < ta.length) = true := decide_eq_true hlt
     have HK1 := Aside0.mk (show k < 4 ∧ ∀ j, j < k + 1 → 2 ^ j < ta.length from ⟨need_lt (by rw [hm]; omega), fun j hj => by
      by_cases e : j = k
      ·rw [e, hm]; exact hlt
      ·exact HKK.out.2 j (by omega)⟩)
     clear hlt hm
     go_wp2
     go_roundg (k2 - 1)
     case measure => have := HKK.out.1; have := HK1.out.1; omega
     case rel => exact ⟨k + 1, by go_num, rfl, ⟨by have := HKK.out.1; have := HK1.out.1; omega, HK1.out.2⟩⟩
    ·have q1 : decide ((m : Int) < (ta.length : Int)) = false := decide_eq_false (by omega)
     have q2 : decide (m < ta.length) = false := decide_eq_false hlt
     have hneed : (k : Int) ≤ y := need_le HKK.out.2 u2 HU3.out
     clear hlt hm
     have hl : (onesC i).length = i := List.length_replicate ..
     obtain ⟨z0, z1, z2⟩ := HL1.out.cells
     rw [hl] at z2
     have HWN := Aside0.mk (worst_n HL1.out.cs HD.out (HT.out.below HL1.out.bl))
     rw [hl] at HWN
     go_upto_region 11 with (go_at_call 15; refine HWN.out.mono ?_; rintro e w3 ⟨AW, nW, rfl, hq, hb⟩; rw [← HVY.out]; have HL2 := Aside0.mk (HL1.out.below hb); clear hq hb)
     clear z0 z1 z2 q1 q2 hw
     obtain ⟨z0, z1, z2⟩ := HL2.out.cells
     rw [hl] at z2
     have HCN := Aside0.mk (cover_n HL2.out.cs HD.out)
     rw [hl] at HCN
     go_upto_region 12 with (go_at_call 28; refine HCN.out.mono ?_; rintro e w4 ⟨AC, nC, rfl, hq, hb⟩; rw [← HCV.out]; have HL3 := Aside0.mk (HL2.out.below hb); clear hq hb)
     clear z0 z1 z2
     have q1 : decide ((k : Int) ≤ y) = true := decide_eq_true hneed
     have q2 : decide (y ≤ (ta.length : Int) - 1) = true := decide_eq_true u1
     have q3 : decide ((k : Int) ≤ (cv.length : Int)) = true := decide_eq_true (Int.le_trans hneed u4)
     have q4 : decide (k ≤ cv.length) = true := decide_eq_true (by omega)
     have q5 : decide (y ≤ (cv.length : Int)) = true := decide_eq_true u4
     have hw : wrap64 ((ta.length : Int) - 1) = (ta.length : Int) - 1 := by unfold wrap64; omega
     go_wp2_with (go_at_call 17; refine (awake_n _ (HT.out.below HL3.out.bl)).mono ?_; rintro e w5 ⟨rfl, hb⟩; have HL4 := Aside0.mk (HL3.out.below hb); clear hb)
     go_ret
     exact ⟨rfl, HL4.out.bl⟩
end
def tickinglaw07_TestsDoubles.f (k : Nat) (a : List Int) (b : List (List Int)) (c : List Int) : Option Bool := some true
theorem TestsDoubles_ev (a : List Int) (b : List (List Int)) (c : List Int) : Ev (fun k => tickinglaw07_TestsDoubles.f k a b c) true := Ev.now _
theorem tickinglaw07_TestsDoubles.calls (k : Nat) (A0 : Option Addr) (c0 : Nat) (a : List Int) (A1 : Option Addr) (c1 : Nat) (b : List (List Int)) (A2 : Option Addr) (c2 : Nat) (c : List Int) (r : Bool) (w : World)
  (h0 : Kd.C (Kd.int .i64) w A0 a.length a) (n0 : a.length ≤ c0) (h1 : Kd.C (Kd.slice 3 (Kd.int .i64)) w A1 b.length b) (n1 : b.length ≤ c1) (h2 : Kd.C (Kd.int .i64) w A2 c.length c) (n2 : c.length ≤ c2) (h : tickinglaw07_TestsDoubles.f k a b c = some r) (hT : Tab w) :
  Calls Tryd.prog 10 #[.agg #[.slice A0 a.length c0, .slice A1 b.length c1, .slice A2 c.length c2]] w fun e w' => e = .returned (.bool r) ∧ Below w.heap.size w w' := by
 obtain rfl := Option.some.inj h
 exact doubles_n ⟨h0, n0, h1, n1, h2, n2⟩ hT
end Go.Proofs.YtekmiepdodaidaaDoor.X
end

section
/- Arguments as they come in, opened kind by kind: what a value's cells read as is a word of the kind. -/
set_option linter.unusedVariables false
set_option linter.unusedSimpArgs false
namespace Go.Proofs.YtekmiepdodaidaaDoor.X
open Go.ChangeShapes Go.WideShapes Go.ChangeAt Go.RowKit Go.Proofs.YtekmiepdodaidaaDoorW.PrintWords
section
variable {H : Type} {enc : TypeId × Value → H} {P : Program} {W : World} {base : Nat} {held : Bool}
/-- Whatever is read of type t is a word of the kind, and it is good. -/
def Opens {α : Type} (enc : TypeId × Value → H) (P : Program) (W : World) (base : Nat) (held : Bool) (d : Kd α) (t : TypeId) (good : α → Prop) : Prop :=
 ∀ fuel cs x, DataW.trod enc P W base (fun _ => true) held fuel t cs = some x → ∃ a : α, d.K W a cs ∧ good a
theorem opens_int {t : TypeId} {k : IntKind} (ht : P.underlying t = some (.int k)) : Opens enc P W base held (Kd.int k) t (fun z => (Lit.int k z).wf = true) := by
 intro fuel cs x h
 obtain ⟨z, e, _, hw⟩ := DataW.trod_int ht h
 exact ⟨z, e, hw⟩
theorem opens_slice {α : Type} {d : Kd α} {t e : TypeId} {good : α → Prop} (ht : P.underlying t = some (.slice e)) (hs : P.cellsOf e = d.sz) (he : Opens enc P W base held d e good) :
  Opens enc P W base held (Kd.slice e d) t (fun l => l.length ≤ maxLen ∧ ∀ x ∈ l, good x) := by
 intro fuel cs x h
 rcases Go.Deep.open_slice ht h with ⟨rfl, _⟩ | ⟨a, len, cap, m, n, D, Pl, rfl, hb, hl, hm, hmm, hxx, hx⟩
 ·exact ⟨[], ⟨none, 0, rfl, Nat.le_refl _, Kd.C_nil _ _⟩, Nat.zero_le _, by simp⟩
 simp only [if_true] at hmm
 subst hmm
 have each : ∀ i, i < len → ∃ y : α, ∃ cs', W.cells? base (a.add (i * d.sz)) d.sz = some cs' ∧ d.K W y cs' ∧ good y := by
  intro i hi
  obtain ⟨cs', h1, h2⟩ := hx i (by omega)
  obtain ⟨y, h3, h4⟩ := he _ _ _ h2
  rw [hs] at h1
  exact ⟨y, cs', h1, h3, h4⟩
 have pick : ∃ l : List α, l.length = len ∧ ∀ i y, l[i]? = some y → ∃ cs', W.cells? base (a.add (i * d.sz)) d.sz = some cs' ∧ d.K W y cs' ∧ good y := by
  clear hl hm hx hxx h
  induction len with
  | zero => exact ⟨[], rfl, fun i y hy => by simp at hy⟩
  | succ len ih =>
   obtain ⟨l, hl, hy⟩ := ih (fun i hi => each i (by omega))
   obtain ⟨y0, hy0⟩ := each len (by omega)
   refine ⟨l ++ [y0], by simp [hl], fun i y hi => ?_⟩
   rcases Nat.lt_trichotomy i l.length with h | h | h
   ·rw [List.getElem?_append_left h] at hi
    exact hy i y hi
   ·rw [List.getElem?_append_right (by omega)] at hi
    have e0 : i - l.length = 0 := by omega
    rw [e0] at hi
    have : y0 = y := by simpa using hi
    subst this
    rw [h, hl]
    exact hy0
   ·rw [List.getElem?_eq_none (by simp; omega)] at hi
    cases hi
 obtain ⟨l, rfl, hy⟩ := pick
 refine ⟨l, ⟨some a, _, rfl, hl, rfl, ?_, fun hn => ⟨a, rfl, fun j p hj => ?_⟩⟩, Nat.le_trans hl hm, fun x hx => ?_⟩
 ·have := Nat.le_trans hl hm
  simpa [maxLen] using this
 ·obtain ⟨cs', h1, h2, _⟩ := hy j p hj
  obtain ⟨h3, h4, h5⟩ := World.cells?_some h1
  refine ⟨cs', h4, h2, fun i u hu => ?_⟩
  have hi : i < d.sz := by
   rcases Nat.lt_or_ge i d.sz with h | h
   ·exact h
   ·rw [List.getElem?_eq_none (by omega)] at hu
    cases hu
  have := h5 i hi
  rw [hu] at this
  rw [← this]
  congr 1
  simp only [Addr.add]
  by_cases h6 : i = 0
  ·subst h6; simp
  ·by_cases h7 : j * d.sz = 0
   ·simp [h6, h7]
   ·simp [h6, h7, Nat.add_assoc]
 ·obtain ⟨j, hj⟩ := List.getElem?_of_mem hx
  obtain ⟨_, _, _, h4⟩ := hy j x hj
  exact h4
theorem opens_arg {α : Type} {d : Kd α} {t : TypeId} {good : α → Prop} {v : Value} {x : DataW H} {p : List MemPlace} (ho : Opens enc P W base held d t good) (h : DataW.Trod enc P W base (fun _ => true) held t v x p) : ∃ a : α, d.K W a v.cells.toList ∧ good a := by
 obtain ⟨fuel, hf⟩ := h
 exact ho _ _ _ hf
/-- An argument that is a slice. -/
theorem open_slice {α : Type} {d : Kd α} {t e : TypeId} {good : α → Prop} {v : Value} {x : DataW H} {p : List MemPlace} (ht : P.underlying t = some (.slice e)) (hs : P.cellsOf e = d.sz) (he : Opens enc P W 0 true d e good)
  (hv : Value.okWide P W .any base t v) (h : DataW.Trod enc P W 0 (fun _ => true) true t v x p) :
  ∃ (a : Option Addr) (l : List α) (cap : Nat), v = .slice a l.length cap ∧ l.length ≤ cap ∧ Kd.C d W a l.length l ∧ l.length ≤ maxLen ∧ ∀ x ∈ l, good x := by
 obtain ⟨a, len, cap, rfl⟩ := okWide_slice ht hv
 obtain ⟨l, ⟨A, c, e1, h1, h2⟩, h3, h4⟩ := opens_arg (opens_slice ht hs he) h
 simp only [Value.cells, List.cons.injEq, Value.slice.injEq, and_true] at e1
 obtain ⟨rfl, rfl, rfl⟩ := e1
 exact ⟨_, l, _, rfl, h1, h2, h3, h4⟩
theorem okWide_struct {r : Reach} {fs : Array Field} {b0 : Nat} {t : TypeId} {v : Value} (ht : P.underlying t = some (.struct fs)) (h : Value.okWide P W r b0 t v) : ∃ cs, v = .agg cs ∧ cs.size = P.cellsOf t := by
 simp only [Value.okWide, ht] at h
 cases v <;> simp_all
/-- An argument that is a struct of three slices. -/
theorem open_three {α β γ : Type} {d0 : Kd α} {d1 : Kd β} {d2 : Kd γ} {t e0 e1 e2 : TypeId} {f0 f1 f2 : Field} {g0 : α → Prop} {g1 : β → Prop} {g2 : γ → Prop} {v : Value} {x : DataW H} {p : List MemPlace}
  (ht : P.underlying t = some (.struct #[f0, f1, f2])) (hc : P.cellsOf t = 3) (o0 : f0.offset = 0) (o1 : f1.offset = 1) (o2 : f2.offset = 2) (c0 : P.cellsOf f0.type = 1) (c1 : P.cellsOf f1.type = 1) (c2 : P.cellsOf f2.type = 1)
  (t0 : P.underlying f0.type = some (.slice e0)) (t1 : P.underlying f1.type = some (.slice e1)) (t2 : P.underlying f2.type = some (.slice e2)) (s0 : P.cellsOf e0 = d0.sz) (s1 : P.cellsOf e1 = d1.sz) (s2 : P.cellsOf e2 = d2.sz)
  (h0 : Opens enc P W 0 true d0 e0 g0) (h1 : Opens enc P W 0 true d1 e1 g1) (h2 : Opens enc P W 0 true d2 e2 g2)
  (hv : Value.okWide P W .any base t v) (h : DataW.Trod enc P W 0 (fun _ => true) true t v x p) :
  ∃ (a0 : Option Addr) (l0 : List α) (k0 : Nat) (a1 : Option Addr) (l1 : List β) (k1 : Nat) (a2 : Option Addr) (l2 : List γ) (k2 : Nat), v = .agg #[.slice a0 l0.length k0, .slice a1 l1.length k1, .slice a2 l2.length k2] ∧
   (l0.length ≤ k0 ∧ Kd.C d0 W a0 l0.length l0 ∧ l0.length ≤ maxLen ∧ ∀ x ∈ l0, g0 x) ∧ (l1.length ≤ k1 ∧ Kd.C d1 W a1 l1.length l1 ∧ l1.length ≤ maxLen ∧ ∀ x ∈ l1, g1 x) ∧ (l2.length ≤ k2 ∧ Kd.C d2 W a2 l2.length l2 ∧ l2.length ≤ maxLen ∧ ∀ x ∈ l2, g2 x) := by
 obtain ⟨cs, rfl, hsz⟩ := okWide_struct ht hv
 obtain ⟨fuel, hf⟩ := h
 obtain ⟨y0, y1, y2, n, _, hl, r0, r1, r2⟩ := Go.Deep.trod_struct3 ht hf
 rw [hc] at hl hsz
 obtain ⟨ls⟩ := cs
 match ls, hsz with
 | [u0, u1, u2], _ =>
  rw [o0, c0] at r0
  rw [o1, c1] at r1
  rw [o2, c2] at r2
  simp only [Value.cells, List.drop_zero, List.take_succ_cons, List.take_zero, List.drop_succ_cons] at r0 r1 r2
  obtain ⟨l0, ⟨a0, k0, q0, m0, n0⟩, w0⟩ := opens_slice t0 s0 h0 _ _ _ r0
  obtain ⟨l1, ⟨a1, k1, q1, m1, n1⟩, w1⟩ := opens_slice t1 s1 h1 _ _ _ r1
  obtain ⟨l2, ⟨a2, k2, q2, m2, n2⟩, w2⟩ := opens_slice t2 s2 h2 _ _ _ r2
  simp only [List.cons.injEq, and_true] at q0 q1 q2
  subst q0 q1 q2
  exact ⟨a0, l0, k0, a1, l1, k1, a2, l2, k2, rfl, ⟨m0, n0, w0⟩, ⟨m1, n1, w1⟩, ⟨m2, n2, w2⟩⟩
end
end Go.Proofs.YtekmiepdodaidaaDoor.X
end

section
/- What every row of this seat uses: what its condition gives, the door's heap, the listed tables, the arguments' kinds. -/
namespace Go.Proofs.YtekmiepdodaidaaDoor
open Go.ChangeShapes Go.WideShapes Go.ChangeAt Go.RowKit Go.Proofs.YtekmiepdodaidaaDoorW.PrintWords
theorem own : ownKnob Tryd.prog.godebug = none := by kernel_rfl
theorem laidOut : laidOutB Tryd.prog = true := by kernel_rfl
def laidTabs : List (String × DataW Unit) := [("math/bits.deBruijn32tab", Rows.laid_math_bits_deBruijn32tab), ("math/bits.deBruijn64tab", Rows.laid_math_bits_deBruijn64tab)]
theorem g64 : Tryd.prog.globalNamed "math/bits.deBruijn64tab" = some 1 := by kernel_rfl
theorem tab64 : Rows.laid_math_bits_deBruijn64tab (H := Unit) = Lib.tabData .u8 (Lib.deBruijn64tab.map fun n : Nat => (n : Int)) := rfl
set_option maxRecDepth 100000 in
theorem door_met (os : Os) (args : Array Value) : laidMetH Tryd.prog laidTabs ((World.doorLaid Tryd.prog 19 os).forCall (fun _ _ => 0) ⟨#[], args, []⟩).memory :=
 laidMetH_of_parts3 (fuel := 8) (laidMet_of_run' 8 (by kernel_rfl) (by kernel_rfl)) (by kernel_rfl) (by kernel_rfl)
set_option maxRecDepth 100000 in
theorem tab_of_laid {W : World} (h : laidMetH Tryd.prog laidTabs W) : X.Tab W := by
 rw [MakeChecks.laidMetH_plain _ _ _ (by kernel_rfl)] at h
 have h1 := laidMet.tail h
 rw [tab64] at h1
 have e : ∃ t n e, (Tryd.prog.globals[1]?).map (·.type) = some t ∧ Tryd.prog.underlying t = some (.array n e) ∧ Tryd.prog.underlying e = some (.int .u8) ∧ Tryd.prog.cellsOf e = 1 ∧ Tryd.prog.cellsOf t = n :=
  ⟨112, 64, 5, by kernel_rfl, by kernel_rfl, by kernel_rfl, by kernel_rfl, by kernel_rfl⟩
 obtain ⟨t, n, e, e1, e2, e3, e4, e5⟩ := e
 have h2 := Lib.tabIs_of_head g64 e1 e2 e3 e4 e5 h1
 have h3 : TabAt 1 Lib.deBruijn64tab W := by
  intro j hj
  have h4 := h2.cell g64 j (by simpa using hj)
  rw [h4]
  simp [List.getD, List.getElem?_map, List.getElem?_eq_getElem hj]
 refine ⟨h3, ?_⟩
 have h4 := h3 0 (by decide)
 unfold World.cell? at h4
 rcases Nat.lt_or_ge 1 W.heap.size with h | h
 ·exact h
 ·simp [Array.getElem?_eq_none h] at h4
section
variable {H : Type} {enc : TypeId × Value → H} {W : World} {base : Nat} {held : Bool}
theorem opens3 : X.Opens enc Tryd.prog W base held (Kd.int .i64) 3 (fun z => (Lit.int .i64 z).wf = true) := X.opens_int Tryd.underlying3
set_option maxRecDepth 100000 in
theorem opens22 : X.Opens enc Tryd.prog W base held (Kd.slice 3 (Kd.int .i64)) 22 (fun l => l.length ≤ maxLen ∧ ∀ z ∈ l, (Lit.int .i64 z).wf = true) := X.opens_slice Tryd.underlying22 (by kernel_rfl) opens3
set_option maxRecDepth 100000 in
theorem open_case {v : Value} {x : DataW H} {p : List MemPlace} (hv : Value.okWide Tryd.prog W .any base 25 v) (h : DataW.Trod enc Tryd.prog W 0 (fun _ => true) true 25 v x p) :
  ∃ (a0 : Option Addr) (l0 : List Int) (k0 : Nat) (a1 : Option Addr) (l1 : List (List Int)) (k1 : Nat) (a2 : Option Addr) (l2 : List Int) (k2 : Nat), v = .agg #[.slice a0 l0.length k0, .slice a1 l1.length k1, .slice a2 l2.length k2] ∧
   (l0.length ≤ k0 ∧ Kd.C (Kd.int .i64) W a0 l0.length l0 ∧ l0.length ≤ maxLen ∧ ∀ z ∈ l0, (Lit.int .i64 z).wf = true) ∧
   (l1.length ≤ k1 ∧ Kd.C (Kd.slice 3 (Kd.int .i64)) W a1 l1.length l1 ∧ l1.length ≤ maxLen ∧ ∀ l ∈ l1, l.length ≤ maxLen ∧ ∀ z ∈ l, (Lit.int .i64 z).wf = true) ∧
   (l2.length ≤ k2 ∧ Kd.C (Kd.int .i64) W a2 l2.length l2 ∧ l2.length ≤ maxLen ∧ ∀ z ∈ l2, (Lit.int .i64 z).wf = true) :=
 X.open_three Tryd.underlying25 (by kernel_rfl) rfl rfl rfl (by kernel_rfl) (by kernel_rfl) (by kernel_rfl) Tryd.underlying22 Tryd.underlying23 Tryd.underlying22 (by kernel_rfl) (by kernel_rfl) (by kernel_rfl) opens3 opens22 opens3 hv h
end
end Go.Proofs.YtekmiepdodaidaaDoor
end
